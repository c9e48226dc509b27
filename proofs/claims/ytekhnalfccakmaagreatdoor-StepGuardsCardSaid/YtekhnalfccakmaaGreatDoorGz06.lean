/-
  Lemmas of this claim, in their order (GyPV, GyU2, GyU3, GyU4, GyU5, GyU6, GyU7, GyGB, GyGC, GyGA, GyGD, GyU8, GyLI, GyGE, GyPB, GyGF, GyGG, GyGH, GyYD, GyYE, GyNB).
  Conditions: those of each theorem.
-/
import Derived.Test.YtekhnalfccakmaaGreatDoorGz05
set_option linter.unusedSimpArgs false
set_option linter.unusedVariables false
set_option maxRecDepth 20000
set_option maxHeartbeats 16000000
namespace Go.Gy
open Go Go.RowKit Go.Proofs Go.Proofs.Tryz
theorem wo {p:Prop} (h:p:=by have:(100:Nat)=2:=e;omega):p:=h
theorem gE {p:Prop} (h:p:=by
 simp only [iC,iff_false];omega):p:=h
theorem xa {p:Prop} (h:p:=by
 simpa [cfV,ren,aT,aw,aA,gmv,rnL] using h):p:=h
theorem VL:G0 2=none:=by simp [G0,G0L]
theorem OX {k:Nat} {b:Blk} (h:G0 k=some b):G1 k=some b:=by
 have h0:¬k=2:=λe=>by rw [e,VL] at h;cases h
 unfold G1;rw [aW,ab h0];exact h
theorem pM:lmB.fx:=λx hx=>by
 simp only [lmB,fz,al,aB,aC] at hx;rcases hx with h|h|h|h|h|h|h|h|h|h|h|h<;>(rw [h];rfl)
theorem afq {m:bS} {B:Nat} (ok:LOk m B):MvG G0 G1 m m (λk=>k):=by
 refine ⟨G0F,G1F,⟨B,ok⟩,⟨B,ok⟩,λk b h=>⟨OX h,rfl⟩,λp hp=>⟨p.2,LOk.at ok.one p hp,λr=>by rw [Blk.rn_id]⟩,λk _ l _ e=>e,λk hk l b hl e=>?_⟩;obtain ⟨p,hp,rfl⟩:=aI.1 hk;have:=(ok.big p hp).1;have:=(G0F l b hl).1;omega
theorem Sx {args:bV}:args.map (ren λk=>k)=args:=by
 rw [show (ren λk=>k)=id from funext λv=>zk v];simp
theorem LD {ws:bS}:rnL (λk=>k) ws=ws:=by
 unfold rnL;rw [dK (g:=id) λp _=>by rw [Blk.rn_id];rfl];simp
theorem akz {R:AI}:RR (λk=>k) R=R:=by
 funext v ns;apply propext;constructor
 ·rintro ⟨v0,uo,h,rfl,rfl⟩;rw [zk,LD];exact h
 ·intro h;exact ⟨v,ns,h,(zk v).symm,LD.symm⟩
theorem Fun.up1 {f:FuncId} {args:bV} {m ws:bS} {v:Value} {B:Nat} (h:Fun prog G0 f args (hpL G0 m) (ak m) (.ret v ws)) (ok:LOk m B):Fun prog G1 f args (hpL G1 m) (ak m) (.ret v ws):=by
 have:=h.mvG (afq ok) (λk hk=>(h.fits.2.1 k hk).1) Sx;rwa [zk,LD] at this
theorem FunS.up1 {f:FuncId} {args:bV} {m:bS} {R:AI} {B:Nat} (h:FunS prog G0 f args (hpL G0 m) (ak m) R) (ok:LOk m B):FunS prog G1 f args (hpL G1 m) (ak m) R:=by
 refine h.mvG (afq ok) Sx akz (λv ns hR k hk=>?_) (λ_ _ _ k _ l _ e=>e);have h1:=(h.fits v ns hR).2.1 k hk;rw [LOk.rst (m:=m) G0F] at h1;refine ⟨h1.1,λhd=>h1.2 ?_⟩;unfold dom at hd
 cases hb:hpL G1 m k with
 | none=>exact absurd hb hd
 | some b =>
  rcases cB hb with h2|h2
  ·exact ok.sub k (aI.2 ⟨_,h2,rfl⟩)
  ·have:=(G1F k b h2).1;omega
structure LKa (L:bS) (ka ks:Nat) (b b2:Blk):Prop where
 ok:LOk L 200
 fx:∀ p∈L,p.2.fx
 kb:(ks,b2)∈L
 k8:ks=100\/ks=108
 a8:ka=100\/ka=2
 am:ka=100->(100,b)∈L
 ag:ka=2->ks=100/\b=lmB
section
variable {L:bS} {ka ks:Nat} {b b2:Blk}
theorem LKa.mem (h:LKa L ka ks b b2) (p:Nat×Blk) (hp:p∈L):hpL G1 L p.1=some p.2:=LOk.at h.ok.one p hp
theorem LKa.a (h:LKa L ka ks b b2):hpL G1 L ka=some b:=by
 rcases h.a8 with e|e
 ·rw [e];exact h.mem _ (h.am e)
 ·obtain ⟨_,rfl⟩:=h.ag e;rw [e,h.ok.low _ zD];exact xU
theorem LKa.s (h:LKa L ka ks b b2):hpL G1 L ks=some b2:=h.mem _ h.kb
theorem LKa.k1 (h:LKa L ka ks b b2):100<=ks:=(h.ok.big _ h.kb).1
theorem LKa.k2 (h:LKa L ka ks b b2):ks<200:=(h.ok.big _ h.kb).2
theorem LKa.a2 (h:LKa L ka ks b b2):ka<200:=by rcases h.a8 with e|e<;>omega
theorem LKa.ne (h:LKa L ka ks b b2) (k:Nat) (hk:200<=k):(ks=k)=False:=by
 exact w7
theorem LKa.na (h:LKa L ka ks b b2) (k:Nat) (hk:200<=k):(ka=k)=False:=by
 have:=h.a2;exact gE
theorem LKa.low (h:LKa L ka ks b b2) (k:Nat) (hk:k<100):hpL G1 L k=G1 k:=h.ok.low k hk
theorem LKa.ia (h:LKa L ka ks b b2):dom (hpL G1 L) ka:=by unfold dom;rw [h.a];simp
theorem LKa.ib (h:LKa L ka ks b b2):dom (hpL G1 L) ks:=by unfold dom;rw [h.s];simp
theorem LKa.kbk (h:LKa L ka ks b b2):ks∈ak L:=aI.2 ⟨_,h.kb,rfl⟩
theorem LKa.aQ (h:LKa L ka ks b b2):ka∈ak L\/(ka<100/\dom G1 ka):=by
 rcases h.a8 with e|e
 ·exact .inl (aI.2 ⟨_,h.am e,e.symm⟩)
 ·refine .inr ⟨zO,?_⟩;unfold dom;rw [e,xU];simp
theorem LKa.two {x y:Blk} (hx:x.fx) (hy:y.fx):LKa [(100,x),(108,y)] 100 108 x y:=by
 have h:=LTwo.two (G:=G0) hx hy;exact ⟨h.ok,h.fx,h.kb,.inr rfl,.inl rfl,λ_=>zS,λe=>wo⟩
theorem LKa.of {L:bS} {ks:Nat} {b b2:Blk} (h:LTwo G1 L ks b b2):LKa L 100 ks b b2:=⟨h.ok,h.fx,h.kb,h.k8,.inl rfl,λ_=>h.ka,λe=>wo⟩
theorem LKa.lim {y:Blk} (hy:y.fx):LKa [(100,y)] 2 100 lmB y :=
 ⟨⟨zS,ah,by simpa using Blk.fx_ids hy _⟩,rj,zS,.inl rfl,.inr rfl,λe=>by have:2=(100:Nat):=e;omega,λ_=>⟨rfl,rfl⟩⟩
theorem LKa.tw (h:LKa L 100 ks b b2):LTwo G0 L ks b b2:=⟨h.ok,h.fx,h.am rfl,h.kb,h.k8⟩
end
def gmv (k:Nat):Nat:=if k=100 then 2 else if k=108 then 100 else k
theorem ahp {y:Blk} (hy:y.fx):MvG G0 G1 [(100,lmB),(108,y)] [(100,y)] gmv:=by
 have h:=LTwo.two (G:=G0) pM hy;have h2:=LKa.lim hy;refine ⟨G0F,G1F,⟨200,h.ok⟩,⟨200,h2.ok⟩,λk b hk=>⟨OX hk,?_⟩,?_,?_,?_⟩
 ·have:=(G0F k b hk).1;unfold gmv;exact fG
 ·intro p hp;simp only [al,aB,aC] at hp;rcases hp with rfl|rfl
  ·exact ⟨lmB,h2.a,λr=>by rw [Blk.fx_rn pM]⟩
  ·exact ⟨y,h2.s,λr=>by rw [Blk.fx_rn hy]⟩
 ·intro k hk l hl e;simp only [ak,bJ,dt,al,aB,aC] at hk hl;unfold gmv at e;rcases hk with rfl|rfl<;>rcases hl with rfl|rfl<;>simp at e |-
 ·intro k hk l b hl e;simp only [ak,bJ,dt,al,aB,aC] at hk;unfold gmv at e;rcases hk with rfl|rfl
  ·rw [ai rfl] at e;rw [<-e,VL] at hl;cases hl
  ·have:=(G0F l b hl).1;rw [ab zO,ai rfl] at e;omega
theorem LKa.lmv {L:bS} {y:Blk} (h:LKa L 2 100 lmB y):MvG G0 G1 [(100,lmB),(108,y)] L gmv:=by
 have hy:=h.fx _ h.kb;have h1:=ahp hy;refine ⟨h1.gf,h1.gf',h1.ok,⟨200,h.ok⟩,h1.sub,?_,h1.inj,h1.far⟩;intro p hp;simp only [al,aB,aC] at hp;rcases hp with rfl|rfl
 ·exact ⟨lmB,h.a,λr=>by rw [Blk.fx_rn pM]⟩
 ·exact ⟨y,h.s,λr=>by rw [Blk.fx_rn hy]⟩
theorem pL (L:bS) (ka ks:Nat) (bm bs:Blk) (hT:LKa L ka ks bm bs) (off n cap ao n2 av:Nat) (fm fs:aS) (hm:MB bm off n fm) (cf:SB bs ao n2 fs) (g bx tp nr md st:Int) (hs:i64 st) :
  Fun prog G1 29 #[cfV (.slice (some ⟨ka,off,none⟩) n cap) g bx tp nr md,.agg #[.int .i64 st,.slice (some ⟨ks,ao,none⟩) n2 av]] (hpL G1 L) (ak L) (.ret (.bool (pX n n2 (eQ n fm g bx tp nr md) (aV st fs n2))) []):=by
 rcases hT.a8 with e|e
 ·subst e;exact (RX L ks bm bs hT.tw off n cap ao n2 av fm fs hm cf g bx tp nr md st hs).up1 hT.ok
 ·obtain ⟨rfl,rfl⟩:=hT.ag e;subst e;have h:=(RX _ 108 lmB bs (LTwo.two pM cf.fx) off n cap ao n2 av fm fs hm cf g bx tp nr md st hs).mvG hT.lmv (λk hk=>by cases hk) rfl;exact xa
@[simp] theorem auP (a0 a1 a2 b0 b1 b2:Int) (K:iQ):cu prog G1 165 #[.agg #[.int .i64 a0,.int .i64 a1,.int .i64 a2],.agg #[.int .i64 b0,.int .i64 b1,.int .i64 b2]] K ↔
  K (.tuple #[.agg #[.int .i64 (eaV (eaE ik a0 a1 a2 b0 b1 b2) (ik a0 b0)),.int .i64 (eaV (eaE ik a0 a1 a2 b0 b1 b2) (ik a1 b1)),.int .i64 (eaV (eaE ik a0 a1 a2 b0 b1 b2) (ik a2 b2))],.int .i64 (eaE ik a0 a1 a2 b0 b1 b2)]):=aP G1W ae ((SK a0 a1 a2 b0 b1 b2).up Gr)
theorem Za {m:bS} {B:Nat} (hm:LOd G1 m B) (ρ:cI) (ba:∀ k,k<100->ρ k=k) {hp:Hp} (hp0:∀ k,k<100->hp k=G1 k) (m9:∀ p∈m,100<=ρ p.1/\hp (ρ p.1)=some (p.2.rn ρ)) (gu:∀ k∈ak m,∀ l∈ak m,ρ k=ρ l->k=l):Rn ρ (hpL G1 m) hp (ak m):=by
 exact FW
theorem T0 {f:FuncId} {bh sK:bV} {m:bS} {B:Nat} {xs:List (Array Value)} {hp:Hp} {rs:List Nat} (h:IterK prog G1 f bh (hpL G1 m) (ak m) xs) (hm:LOd G1 m B) (ρ:cI) (ba:∀ k,k<100->ρ k=k) (ea:bh.map (aA ρ)=sK) (er:(ak m).map ρ=rs)
  (hp0:∀ k,k<100->hp k=G1 k) (m9:∀ p∈m,100<=ρ p.1/\hp (ρ p.1)=some (p.2.rn ρ)) (gu:∀ k∈ak m,∀ l∈ak m,ρ k=ρ l->k=l):IterK prog G1 f sK hp rs xs:=by
 subst ea er;exact h.rn ρ G1F hm.low (Za hm ρ ba hp0 m9 gu)
theorem DH {p:Prop} (h:p:=by
 rcases cB h with h|h
 ·simp at h;rcases h with ⟨_,rfl⟩
  simp
 ·exact xT _ _ _ h):p:=h
def aa6 (n d g m x r:Int):Int :=
 if -2097152<=n/\n<=2097152/\1<=d/\d<=2097152/\1<=g/\g<=1048576/\1<=m/\m<=1024/\-2097152<=x/\x<=2097152/\0<=r/\r<=13194139533312 then (if r=0 then 30 else if x*x<=r then 0 else 2) else 2
def Mx (n d g m x r:Int):Hp:=hpL G1 [(100,⟨#[.int .i64 n,.int .i64 d,.int .i64 g,.int .i64 m,.int .i64 x,.int .i64 r],.ty 3⟩)]
theorem zE (n d g m x r:Int):rst (Mx n d g m x r) [100]=Mx n d g m x r:=kR G1F zS
theorem My (n d g m x r:Int) (D:gA) (k:Nat) (c:Blk) (h:Mx n d g m x r k=some c):c.ids D:=by
 exact DH
theorem JD (n d g m x r:Int) (k:Nat) (hk:200<=k):Mx n d g m x r k=none:=by
 simp [Mx,(zO:¬k=100),(zO:100<=k)]
theorem Wz (n d g m x r:Int) (h:aa6 n d g m x r=0):Fun prog G1 190 #[.slice (some ⟨100,0,none⟩) 6 6] (Mx n d g m x r) [100] (.ret (.tuple #[]) []):=by
 refine pH (B:=200) G1F (λk hk=>cD zS hk) func190 rfl call190 ?_ ?_ ⟨cb zS,ah,zS,zS⟩ (by simp [ntmps190]) zO ?_ ?_
 ·rw [zE];simp [Mx,dom]
 ·rw [zE];exact My n d g m x r _
 ·rw [zE];exact JD n d g m x r
 ·intro C hC bQ hY;rw [zE] at bQ |-;unfold aa6 at h;split at h;rotate_left
  ·cases h
  rename_i hc;obtain ⟨f0,f1,f2,f3,f4,f5,f6,f7,f8,f9,f10,f11⟩:=hc;split at h
  ·cases h
  rename_i hr;split at h;rotate_left
  ·cases h
  rename_i hx;have hr0:0<r:=zO
  have hxx:x*x<=2097152*2097152:=by
   by_cases h0:0<=x
   ·exact cU zO zO h0 zO
   ·rw [<-jt];exact cU zO zO zO zO
  have PX:0<=x*x:=by
   by_cases h0:0<=x
   ·exact cz h0 h0
   ·rw [<-jt];exact cz zO zO
  have mU:Int.bmod (x*x) 18446744073709551616=x*x:=bm zO zO
  repeat' first|refine cH ?_|refine dc ?_|refine cM ?_|((first|refine gwR [1000188] ?_|refine gwD [1000188] ?_);intro Q hQ hP;(repeat first|simp [hC,hY,Mx,lmB,f0,f1,f2,f3,f4,f5,f6,f7,f8,f9,f10,f11,hr0,hx,mU]|refine mB (Ss _) ?_|refine mB (pmust_f _) ?_);(first|refine cQ hQ ?_|refine hP _ _ ae λ_=>?_))|fail
  refine ⟨.inl rfl,by simp [results190],λk hk=>?_⟩;have yZ:k<200:=aO λh=>hk (JD n d g m x r k zO)
  first|rfl|(simp (disch:=omega) only [G8];rfl)
theorem N1 (a:Int):Ret prog G1 192 #[wd a] (wd (sz a*sz a)):=by
 refine ck G1F func192 rfl call192 zS zS (by simp [ntmps192]) ?_;intro C hC bQ hY
 repeat' first|refine cM ?_|(refine g6 ?_;intro Q hQ hP;simp [hC,hY];(first|refine cQ hQ ?_|refine hP _ _ ae λ_=>?_))|fail
 exact eR results192
@[simp] theorem apx (a:Int) (K:iQ):cu prog G1 192 #[Value.agg #[.int .u64 (wi (a) 0),.int .u64 (wi (a) 1),.int .u64 (wi (a) 2),.int .u64 (wi (a) 3)]] K↔K (wd (sz a*sz a)):=aP G1W ae (N1 a)
theorem IJ (a0 a1 a2 a3 a4:Int) (hi:i64 a0/\i64 a1/\i64 a2/\i64 a3/\i64 a4) (hw:wr (a0)/\wr (a0*a1)/\wr (a0*a1*a2)/\wr (a0*a1*a2*a3)/\wr (a0*a1*a2*a3*a4)):Fun prog G1 193 #[.slice (some ⟨100,0,none⟩) 5 5] (hpL G1 [(100,⟨#[.int .i64 a0,.int .i64 a1,.int .i64 a2,.int .i64 a3,.int .i64 a4],.ty 3⟩)]) [100] (.ret (wd (a0*a1*a2*a3*a4)) []):=by
 have TV:rst (hpL G1 [(100,⟨#[.int .i64 a0,.int .i64 a1,.int .i64 a2,.int .i64 a3,.int .i64 a4],.ty 3⟩)]) [100]=hpL G1 [(100,⟨#[.int .i64 a0,.int .i64 a1,.int .i64 a2,.int .i64 a3,.int .i64 a4],.ty 3⟩)]:=kR G1F zS;have dx:∀ k,200<=k->hpL G1 [(100,⟨#[.int .i64 a0,.int .i64 a1,.int .i64 a2,.int .i64 a3,.int .i64 a4],.ty 3⟩)] k=none:=λk hk=>by simp [(zO:¬k=100),(zO:100<=k)]
 refine pH (B:=200) G1F (λk hk=>cD zS hk) func193 rfl call193 ?_ ?_ ⟨cb zS,ah,zS,zS⟩ (by simp [ntmps193]) zO ?_ ?_
 ·rw [TV];simp [dom]
 ·rw [TV];intro k c h;exact DH
 ·rw [TV];exact dx
 ·intro C hC bQ hY;rw [TV] at bQ |-;obtain ⟨i0,i1,i2,i3,i4⟩:=hi;obtain ⟨w0,w1,w2,w3,w4⟩:=hw;have s0:=nf w0;have s1:=nf w1;have s2:=nf w2;have s3:=nf w3;have s4:=nf w4;have t1:=nf (Lf i1);have t2:=nf (Lf i2);have t3:=nf (Lf i3);have t4:=nf (Lf i4);have j1:=RT;have e1:sz 1=1:=zD
  repeat' first|refine cH ?_|refine dc ?_|refine cM ?_|(refine g6 ?_;intro Q hQ hP;simp [hC,hY,j1,e1,Int.one_mul,i0,i1,i2,i3,i4,s0,s1,s2,s3,s4,t1,t2,t3,t4];(first|refine cQ hQ ?_|refine hP _ _ ae λ_=>?_))|fail
  refine ⟨.inr rfl,by simp [results193],λk hk=>?_⟩;have yZ:k<200:=aO λh=>hk (dx k zO);exact xu
theorem oO {p:Prop} (h:p:=by simp [pg]):p:=h
def vv (x0 x1 x2:Int):Value:=.agg #[.int .i64 x0,.int .i64 x1,.int .i64 x2]
def vb (x0 x1 x2:Int):Blk:=⟨#[.int .i64 x0,.int .i64 x1,.int .i64 x2],.ty 48⟩
theorem Kj (x0 x1 x2:Int) (k:Nat) (g5:100<=k):Fun prog G1 171 #[vv x0 x1 x2] G1 [] (.new (.func (.func 189) #[] #[.pointer (some ⟨k,0,none⟩)]) [(k,vb x0 x1 x2)]):=by
 have e0:rst G1 []=G1:=vA G1F [];refine Ih (B:=200) (λj=>if j=k then 200 else j) G1F (λ_ _=>rfl) func171 rfl call171 (by simp [vv,aN,cp,aL,aR]) (by rw [e0];exact xT _) ?_ (by simp [ntmps171]) zO (by rw [e0];exact λx hx=>yN x zO) (λj hj=>?_) ?_ ?_ ?_ ?_
 ·exact xm
 ·rw [e0] at hj;have:=VM hj;rw [ab zO]
 ·simp [e0,dom]
 ·simp
 ·simp [vb,aF,aL,aR]
 ·intro C hC bQ hY;rw [e0]
  repeat' (first|apply gwS|simp only [wN,wM,Nat.reduceAdd,Nat.reduceMul]|(refine g6 ?_;intro Q hQ hP;simp [hC,hY,vv];(first|refine cQ hQ ?_|refine hP _ _ ae λ_=>?_);clear hQ hP Q)|apply gwB|apply gwT|apply gwK|apply gwE|apply gwG|apply gwL|simp only [n5]|refine gwC ?_ ?_<;>intro hb<;>try (cases hb;done))
  refine ⟨.inr trivial,?_⟩;simp [results171,ren,aT,aw,aA,vb];intro j hj;have:=VM hj;intro h;omega
def pg (x0 x1 x2:Int):List (Array Value):=[#[.int .i64 0,.int .i64 x0],#[.int .i64 1,.int .i64 x1],#[.int .i64 2,.int .i64 x2]]
def pHp (x0 x1 x2:Int):Hp:=hpL G1 [(100,vb x0 x1 x2)]
theorem NW (x0 x1 x2:Int):pD prog G1 189 #[.pointer (some ⟨100,0,none⟩)] (pHp x0 x1 x2) [100] (pg x0 x1 x2):=by
 have e0:rst (pHp x0 x1 x2) [100]=pHp x0 x1 x2:=kR G1F zS;refine G2 (B:=200) (v:=.tuple #[]) G1F (λk hk=>cD zS hk) func189 rfl call189 ?_ ?_ (by simp [ntmps189]) zO ?_ ?_
 ·rw [e0];simp [aN,cp,aL,aR,dom,pHp]
 ·rw [e0];intro k c hk;rcases cB hk with h|h
  ·simp at h;rcases h with ⟨_,rfl⟩;simp [vb,aF,aL,aR]
  ·exact Blk.flat_ids ((G1F k c h).2)
 ·rw [e0];intro x hx;have h1:¬x=100:=zO;have h3:100<=x:=zO;simp [pHp,h1,h3]
 ·intro C l stop hC bQ hY;rw [e0] at bQ |-;by_cases h3:3<=stop
  ·have q0:(0 != stop)=true:=by simp;omega
   have q1:(1 != stop)=true:=aE;have q2:(2 != stop)=true:=aE;have l1:1<=stop:=zO;have l2:2<=stop:=zO
   repeat' (first|apply gwS|refine cH ?_|refine dc ?_|simp only [wN,wM,Nat.reduceAdd,Nat.reduceMul]|(refine g6 ?_;intro Q hQ hP;simp [hC,hY,pHp,vb,pg,q0,q1,q2,l1,l2,h3];(first|refine cQ hQ ?_|refine hP _ _ ae λ_=>?_);clear hQ hP Q)|apply gwB|apply gwT|apply gwK|apply gwE|apply gwG|apply gwL|simp only [n5]|refine gwC ?_ ?_<;>intro hb<;>try (cases hb;done))
   refine ⟨zS,by simp [results189],?_⟩;simp [pg];omega
  ·have:stop=0\/stop=1\/stop=2:=zO;rcases this with rfl|rfl|rfl
   all_goals
    repeat' (first|apply gwS|refine cH ?_|refine dc ?_|simp only [wN,wM,Nat.reduceAdd,Nat.reduceMul]|(refine g6 ?_;intro Q hQ hP;simp [hC,hY,pHp,vb,pg];(first|refine cQ hQ ?_|refine hP _ _ ae λ_=>?_);clear hQ hP Q)|apply gwB|apply gwT|apply gwK|apply gwE|apply gwG|apply gwL|simp only [n5]|refine gwC ?_ ?_<;>intro hb<;>try (cases hb;done))
   all_goals
    exact ⟨zS,by simp [results189],oO⟩
def inX (x:Int):Prop:=-2097152<=x/\x<=2097152
instance (x:Int):Decidable (inX x):=by unfold inX;infer_instance
theorem Bd {x:Int} (h:inX x):0<=x*x/\x*x<=4398046511104:=by
 obtain ⟨h1,h2⟩:=h;by_cases h0:0<=x
 ·have h:x*x<=2097152*2097152:=cU zO zO h0 zO;exact ⟨cz h0 h0,zO⟩
 ·rw [<-jt];have h:-x*-x<=2097152*2097152:=cU zO zO zO zO;exact ⟨cz zO zO,zO⟩
theorem IterX.cast {pn:Option Value} {P:Program} {G:Hp} {f:FuncId} {bh sK:bV} {hp:Hp} {rs LG:List Nat} {xs:List (Array Value)} (h:IterX pn P G f bh hp rs xs) (e1:bh=sK) (e2:rs=LG):IterX pn P G f sK hp LG xs:=by subst e1 e2;exact h
def Zm (x0 x1 x2:Int) (i:Nat):Hp:=hpL G1 [(200,vb x0 x1 x2),(208,⟨#[.int .i64 (match i with|0=>0|1=>x0*x0|2=>x0*x0+x1*x1|_=>x0*x0+x1*x1+x2*x2)],.ty 3⟩)]
def adu:Nat->Value:=tsL [(1,.pointer (some ⟨200,0,none⟩)),(2,.pointer (some ⟨208,0,none⟩))]
theorem adi (x0 x1 x2:Int) (h0:inX x0) (h1:inX x1) (h2:inX x2):yP prog G1 170 #[vv x0 x1 x2] (.ret (.int .i64 (x0*x0+x1*x1+x2*x2))):=by
 refine tJ G1F func170 rfl call170 (λv h=>lU) (by simp [vv]) (by simp [ntmps170]) ?_;have z0:=Bd h0;obtain ⟨l0,u0⟩:=h0;have q0:Int.bmod (x0*x0) 18446744073709551616=x0*x0:=bm zO zO;have s0:Int.bmod (x0*x0) 18446744073709551616=x0*x0:=bm zO zO;have z1:=Bd h1;obtain ⟨l1,u1⟩:=h1;have q1:Int.bmod (x1*x1) 18446744073709551616=x1*x1:=bm zO zO;have s1:Int.bmod (x0*x0+x1*x1) 18446744073709551616=x0*x0+x1*x1:=bm zO zO;have z2:=Bd h2;obtain ⟨l2,u2⟩:=h2;have q2:Int.bmod (x2*x2) 18446744073709551616=x2*x2:=bm zO zO;have s2:Int.bmod (x0*x0+x1*x1+x2*x2) 18446744073709551616=x0*x0+x1*x1+x2*x2:=bm zO zO;intro C hC bQ hY
 repeat' first|refine cM ?_|(refine g6 ?_;intro Q hQ hP;simp [hC,hY,vv];(first|refine cQ hQ ?_|refine hP _ _ ae λ_=>?_))|fail
 refine iW [171] ae ?_;intro Q hQ hP;simp [hC,hY];refine eX (Kj x0 x1 x2 224 zO) zS (λ_ _=>rfl) oJ ?_;simp;refine hQ _ _ _ _ ?_;clear hQ hP Q
 repeat' first|refine cM ?_|(refine g6 ?_;intro Q hQ hP;simp [hC,hY];(first|refine cQ hQ ?_|refine hP _ _ ae λ_=>?_))|fail
 refine sH (f:=189) (rs:=[224]) (xs:=pg x0 x1 x2) (bh:=#[.pointer (some ⟨224,0,none⟩)]) zS ?_ oO (by simp [ntmps170]) adu (Zm x0 x1 x2) 300 3 oO ?_ ?_ ?_ ?_ ?_
 ·rw [hC];refine IterX.cast (IterX.rn (λk=>if k=100 then 224 else k) G1F (λk hk=>cD zS hk) (rs:=[100]) ?_ (NW x0 x1 x2)) ga zS;refine ⟨λk hk=>?_,?_,?_,?_⟩
  ·have h1:¬k=100:=zO;have h3:¬k=200:=zO;have h4:¬k=208:=zO;have h8:¬k=224:=zO;simp [h1,h3,h4,h8,pHp]
  ·simp
  ·simp [pHp,vb,Blk.rn,aw,aA]
  ·simp
 ·refine dv _ 300 hC G1F (m0:=[]) bQ zO ?_ ?_ ?_
  ·exact gb
  ·simp [aF,aL,aR,vb]
  ·simp
 ·simp [Zm,dom]
 ·intro i hi t;refine tO ?_ t;simp [aN,cp,aL,aR,dom,Zm]
 ·intro i x hi hx C1 l sR vl qS;have so:=hC;have je:C1.G=G1:=sR.trans hC;replace hC:=je;replace hY:=qS;have:i=0\/i=1\/i=2:=zO;rcases this with rfl|rfl|rfl
  all_goals
   simp [pg] at hx;subst hx;unfold Zm
  all_goals
   repeat' first|refine cM ?_|(refine g6 ?_;intro Q hQ hP;simp [hC,hY,bC,adu];(first|refine cQ hQ ?_|refine hP _ _ ae λ_=>?_))|fail
  all_goals
   intro C2 oY Gx oZ;replace hC:C2.G=G1:=oY.trans so;replace hY:=oZ
   repeat' first|refine cM ?_|((first|refine gwR [1000188] ?_|refine gwD [1000188] ?_);intro Q hQ hP;(repeat first|simp [hC,hY,bC,adu,lmB,l0,u0,q0,s0,l1,u1,q1,s1,l2,u2,q2,s2]|refine mB (Ss _) ?_|refine mB (pmust_f _) ?_);(first|refine cQ hQ ?_|refine hP _ _ ae λ_=>?_))|fail
  all_goals
   refine dv [] 300 je G1F vl zO ?_ ?_ ?_
   ·simp
   ·simp [aF,aL,aR,vb]
   ·simp [vb]
 ·left
  refine ⟨rfl,?_⟩;unfold Zm adu
  repeat' first|refine cM ?_|(refine g6 ?_;intro Q hQ hP;simp [hC,hY];(first|refine cQ hQ ?_|refine hP _ _ ae λ_=>?_))|fail
  exact eR results170
theorem lT {p:Prop} (h:p:=by have:=h.d0;omega):p:=h
theorem Zl {c:bV} {T:TypeId} (hc:∀ x∈c,bP x=true) (b:Nat) (hb:100<=b):Rn (λk=>if k=100 then b else k) (hpL G1 [(100,⟨c,T⟩)]) (hpL G1 [(b,⟨c,T⟩)]) [100]:=by
 refine ⟨λk hk=>?_,?_,?_,?_⟩
 ·have h1:¬k=100:=zO;have h2:¬k=b:=zO;simp [h1,h2]
 ·simp [hb]
 ·simp [Blk.rn];exact (eK (λx hx=>eU (hc x hx))).symm
 ·simp
theorem Fun.sl {f:FuncId} {c:bV} {T:TypeId} {n:Nat} {v:Value} (h:Fun prog G1 f #[.slice (some ⟨100,0,none⟩) n n] (hpL G1 [(100,⟨c,T⟩)]) [100] (.ret v [])) (hc:∀ x∈c,bP x=true) (hv:bz v=true) (b:Nat) (hb:100<=b) :
  Fun prog G1 f #[.slice (some ⟨b,0,none⟩) n n] (hpL G1 [(b,⟨c,T⟩)]) [b] (.ret v []):=by
 have h':=h.rn (λk=>if k=100 then b else k) G1F (λk hk=>cD zS hk) (Zl hc b hb);rw [bM hv] at h';simpa [ren,aT,aw,aA,rnL] using h'
theorem HS {f:FuncId} {c:bV} {T:TypeId} {n nk b:Nat} {v:Value} {hp:Hp} {K:Eff->Prop} (h:Fun prog G1 f #[.slice (some ⟨100,0,none⟩) n n] (hpL G1 [(100,⟨c,T⟩)]) [100] (.ret v [])) (hc:∀ x∈c,bP x=true) (hv:bz v=true) (hb:100<=b)
  (h1:hp b=some ⟨c,T⟩) (hK:K ((Res.ret v []).eff [b])):pI prog G1 f #[.slice (some ⟨b,0,none⟩) n n] hp nk K :=
 eX (db:=hpL G1 [(b,⟨c,T⟩)]) (h.sl hc hv b hb) (by simp [h1]) (λk hk=>cD aE hk) trivial hK
theorem AO {a b p q:Int} (h1:-p<=a) (h2:a<=p) (h3:-q<=b) (h4:b<=q):-(p*q)<=a*b/\a*b<=p*q:=by
 have e1:a.natAbs<=p.natAbs:=zO;have e2:b.natAbs<=q.natAbs:=zO;have e3:=j0 e1 e2;rw [<-u7,<-u7] at e3;have e4:0<=p*q:=cz zO zO;omega
theorem yu (a:Int):0<=a*a:=by
 by_cases h:0<=a
 ·exact cz h h
 ·rw [<-jt];exact cz zO zO
def Ao (n d g m x r:Int):Int:=(isq (2*n*g*m*x*(2*n*g*m*x) / (d*d*r*r*r))+1) / 2
def gp (n d g m x r:Int):Int:=if n<0 then (if x<0 then Ao n d g m x r else -Ao n d g m x r) else (if x<0 then -Ao n d g m x r else Ao n d g m x r)
structure PIn (n d g m x r:Int):Prop where
 n0:-2097152<=n
 n1:n<=2097152
 d0:1<=d
 d1:d<=2097152
 g0:1<=g
 g1:g<=1048576
 m0:1<=m
 m1:m<=1024
 x0:-2097152<=x
 x1:x<=2097152
 r0:1<=r
 r1:r<=13194139533312
 xr:x*x<=r
theorem afO {n d g m x r:Int}:aa6 n d g m x r=0↔PIn n d g m x r:=by
 unfold aa6;constructor
 ·intro h;split at h;rotate_left
  ·cases h
  rename_i hc;obtain ⟨f0,f1,f2,f3,f4,f5,f6,f7,f8,f9,f10,f11⟩:=hc;split at h
  ·cases h
  rename_i hr;split at h;rotate_left
  ·cases h
  rename_i hx;exact ⟨f0,f1,f2,f3,f4,f5,f6,f7,f8,f9,zO,f11,hx⟩
 ·rintro ⟨f0,f1,f2,f3,f4,f5,f6,f7,f8,f9,f10,f11,f12⟩;rw [ai ⟨f0,f1,f2,f3,f4,f5,f6,f7,f8,f9,zO,f11⟩,ab zO,ai f12]
section
variable {n d g m x r:Int} (h:PIn n d g m x r)
include h
theorem PIn.p1:-4194304<=2*n/\2*n<=4194304:=⟨by have:=h.n0;omega,by have:=h.n1;omega⟩
theorem PIn.p2:-4398046511104<=2*n*g/\2*n*g<=4398046511104:=by
 have:=AO h.p1.1 h.p1.2 (b:=g) (q:=1048576) (by have:=h.g0;omega) h.g1;exact cZ
theorem PIn.p3:-4503599627370496<=2*n*g*m/\2*n*g*m<=4503599627370496:=by
 have:=AO h.p2.1 h.p2.2 (b:=m) (q:=1024) (by have:=h.m0;omega) h.m1;exact cZ
theorem PIn.p4:-9444732965739290427392<=2*n*g*m*x/\2*n*g*m*x<=9444732965739290427392:=by
 have:=AO h.p3.1 h.p3.2 h.x0 h.x1;exact cZ
theorem PIn.q1:1<=d*d/\d*d<=4398046511104:=by
 have h1:=AO (p:=2097152) (q:=2097152) lT h.d1 lT h.d1;have h2:1*1<=d*d:=cU h.d0 h.d0 zO lT;omega
theorem PIn.q2:r<=d*d*r/\d*d*r<=4398046511104*13194139533312:=by
 refine ⟨?_,cU h.q1.2 h.r1 (by have:=h.r0;omega) zO⟩;have h2:1*r<=d*d*r:=gM h.q1.1 (by have:=h.r0;omega);omega
theorem PIn.q3:r<=d*d*r*r/\d*d*r*r<=4398046511104*13194139533312*13194139533312:=by
 have hr:=h.r0;have h1:=h.q2;refine ⟨?_,cU h1.2 h.r1 zO zO⟩;have h2:1*r<=d*d*r*r:=gM zO zO;omega
theorem PIn.q4:r<=d*d*r*r*r/\d*d*r*r*r<=4398046511104*13194139533312*13194139533312*13194139533312:=by
 have hr:=h.r0;have h1:=h.q3;refine ⟨?_,cU h1.2 h.r1 zO zO⟩;have h2:1*r<=d*d*r*r*r:=gM zO zO;omega
theorem PIn.a_le:2*n*g*m*x*(2*n*g*m*x)<=89202980794122492566142873090593446023921664:=by
 have:=(AO h.p4.1 h.p4.2 h.p4.1 h.p4.2).2;exact cZ
theorem PIn.div_le:2*n*g*m*x*(2*n*g*m*x) / (d*d*r*r*r)<=20282409603651670423947251286016:=by
 have hr:=h.r0;have hB:=h.q4.1
 have h1:(2*n*g*m)*(2*n*g*m)<=20282409603651670423947251286016:=by
  have:=(AO h.p3.1 h.p3.2 h.p3.1 h.p3.2).2;exact cZ
 have e:2*n*g*m*x*(2*n*g*m*x)=(2*n*g*m)*(2*n*g*m)*(x*x):=by
  rw [ca (2*n*g*m) x,qo x,<-ca]
 have h2:(2*n*g*m)*(2*n*g*m)*(x*x)<=20282409603651670423947251286016*r:=cU h1 h.xr (yu x) zO;have h3:20282409603651670423947251286016*r<=20282409603651670423947251286016*(d*d*r*r*r):=iG hB zO;rw [e];refine Int.le_of_lt_add_one (va zO ?_);rw [fV];omega
theorem PIn.mag:0<=Ao n d g m x r/\Ao n d g m x r<=4503599627370496:=by
 have hB:0<d*d*r*r*r:=by have:=h.q4.1;have:=h.r0;omega
 have hA:=yu (2*n*g*m*x);obtain ⟨h1,h2,h3⟩:=sU (2*n*g*m*x*(2*n*g*m*x) / (d*d*r*r*r)) (gQ hA zO);have h4:=h.div_le;have h5:=Zp 4503599627370497 h1 zD zO;unfold Ao;omega
end
theorem Qi (n d g m x r:Int) (h:PIn n d g m x r):yP prog G1 172 #[.int .i64 n,.int .i64 d,.int .i64 g,.int .i64 m,.int .i64 x,.int .i64 r] (.ret (.int .i64 (gp n d g m x r))):=by
 refine tJ G1F func172 rfl call172 (λv h=>lU) zS (by simp [ntmps172]) ?_;intro C hC bQ hY;have mW:=Wz n d g m x r (afO.2 h);have p1:=h.p1;have p2:=h.p2;have p3:=h.p3;have p4:=h.p4;have q1:=h.q1;have q2:=h.q2;have q3:=h.q3;have q4:=h.q4;have r0:=h.r0
 have t1:=IJ 2 n g m x ⟨zD,⟨by have:=h.n0;omega,by have:=h.n1;omega⟩,⟨by have:=h.g0;omega,by have:=h.g1;omega⟩,⟨by have:=h.m0;omega,by have:=h.m1;omega⟩,⟨by have:=h.x0;omega,by have:=h.x1;omega⟩⟩
  ⟨⟨zD,zD⟩,⟨zO,zO⟩,⟨zO,zO⟩,⟨zO,zO⟩,⟨zO,zO⟩⟩
 have t2:=IJ d d r r r ⟨⟨lT,by have:=h.d1;omega⟩,⟨lT,by have:=h.d1;omega⟩,⟨zO,by have:=h.r1;omega⟩,⟨zO,by have:=h.r1;omega⟩,⟨zO,by have:=h.r1;omega⟩⟩
  ⟨⟨lT,by have:=h.d1;omega⟩,⟨zO,zO⟩,⟨zO,zO⟩,⟨zO,zO⟩,⟨zO,zO⟩⟩
 have wA:wr (2*n*g*m*x):=⟨zO,zO⟩
 have sA:=nf wA;have avu:=h.a_le;have hA0:=yu (2*n*g*m*x);have wA2:wr (2*n*g*m*x*(2*n*g*m*x)):=⟨zO,zO⟩
 have wB:wr (d*d*r*r*r):=⟨zO,zO⟩
 have hB0:0<d*d*r*r*r:=zO;have hm:=h.mag;have hmw:wr (Ao n d g m x r):=⟨zO,zO⟩
 have sM:=nf hmw;have iM:i64 (Ao n d g m x r):=⟨zO,zO⟩
 have hmb:Int.bmod (-Ao n d g m x r) 18446744073709551616=-Ao n d g m x r:=bm zO zO;have hpm:(isq (2*n*g*m*x*(2*n*g*m*x) / (d*d*r*r*r))+1) / 2=Ao n d g m x r:=rfl;unfold gp;by_cases hn:n<0<;>by_cases hx:x<0
 all_goals simp only [hn,hx,aU,bY]
 all_goals
  repeat' first|refine cM ?_|((first|refine gwR [190,193] ?_|refine gwD [190,193] ?_);intro Q hQ hP;(repeat first|simp [hC,hY,sA,wA2,wB,hA0,hB0,hpm,sM,iM,hmb,hn,hx]|(refine HS mW zS zS zO ?_ ?_;focus (simp;done))|(refine HS t1 zS zS zO ?_ ?_;focus (simp;done))|(refine HS t2 zS zS zO ?_ ?_;focus (simp;done)));(first|refine cQ hQ ?_|refine hP _ _ ae λ_=>?_))|fail
 all_goals
  exact eR results172
end Go.Gy
namespace Go.Gy
open Go Go.RowKit Go.Proofs
def ib (n:Int):Blk:=⟨#[.int .i64 n],.ty 3⟩
end Go.Gy
namespace Go.Gy
open Go Go.RowKit Go.Proofs Go.Proofs.Tryz
theorem fj {p:Prop} (h:p:=by rcases hT.k8 with h8|h8<;>rcases hT.a8 with h9|h9<;>subst h8<;>subst h9<;>kernel_rfl):p:=h
theorem gU {p:Prop} (h:p:=by simp [ntmps167]):p:=h
theorem sk {p:Prop} (h:p:=by
 refine ⟨?_,?_,?_,λk hk=>?_⟩
 ·simp
 ·simp [results167]
 ·first|trivial|omega|(simp;done)|(simp;omega)
 ·have hk:=cA k hk
  first|rfl|(simp (disch:=omega) only [aj]<;>rfl)):p:=h
theorem gY {p:Prop} (h:p:=by
 simp [aN,cp,aL,aR,otM,ak]):p:=h
theorem EF {p:Prop} (h:p:=by
 simp only [Nat.reduceMul,Nat.reduceAdd,au,ar] at e1;unfold otM cfB bI ib;by_cases tc:1<=stop
 ·have q0:(0 != stop)=true:=by simp;omega
  repeat' first|refine cH ?_|refine dc ?_|refine cM ?_|(refine g6 ?_;intro Q hQ hP;simp [hC,hY,hA,hS,df,fq,Pw,b0,w0,v0,e0,b1,w1,v1,e1,q0,tc];(first|refine hQ _ _ _ _ fj ?_|refine hP _ _ fj λ_=>?_))|fail
  exact sk
 ·have:stop=0:=zO;rcases this with rfl
  all_goals
   repeat' first|refine cH ?_|refine dc ?_|refine cM ?_|(refine g6 ?_;intro Q hQ hP;simp [hC,hY,hA,hS,df,fq,Pw,b0,w0,v0,e0,b1,w1,v1,e1];(first|refine hQ _ _ _ _ fj ?_|refine hP _ _ fj λ_=>?_))|fail
  all_goals
   refine ⟨?_,?_,?_,λk hk=>?_⟩
   ·simp
   ·simp [results167]
   ·first|trivial|omega|(simp;done)|(simp;omega)
   ·have hk:=cA k hk
    first|rfl|(simp (disch:=omega) only [aj]<;>rfl)):p:=h
theorem xv {p:Prop} (h:p:=by
 simp only [Nat.reduceMul,Nat.reduceAdd,au,ar] at e2;unfold otM cfB bI ib;by_cases tc:2<=stop
 ·have q0:(0 != stop)=true:=by simp;omega
  have q1:(1 != stop)=true:=aE;have l1:1<=stop:=zO
  repeat' first|refine cH ?_|refine dc ?_|refine cM ?_|(refine g6 ?_;intro Q hQ hP;simp [hC,hY,hA,hS,df,fq,Pw,b0,w0,v0,e0,b1,w1,v1,e1,b2,w2,v2,e2,q0,q1,l1,tc];(first|refine hQ _ _ _ _ fj ?_|refine hP _ _ fj λ_=>?_))|fail
  exact sk
 ·have:stop=0\/stop=1:=zO;rcases this with rfl|rfl
  all_goals
   repeat' first|refine cH ?_|refine dc ?_|refine cM ?_|(refine g6 ?_;intro Q hQ hP;simp [hC,hY,hA,hS,df,fq,Pw,b0,w0,v0,e0,b1,w1,v1,e1,b2,w2,v2,e2];(first|refine hQ _ _ _ _ fj ?_|refine hP _ _ fj λ_=>?_))|fail
  all_goals
   refine ⟨?_,?_,?_,λk hk=>?_⟩
   ·simp
   ·simp [results167]
   ·first|trivial|omega|(simp;done)|(simp;omega)
   ·have hk:=cA k hk
    first|rfl|(simp (disch:=omega) only [aj]<;>rfl)):p:=h
theorem sf {p:Prop} (h:p:=by
 simp only [Nat.reduceMul,Nat.reduceAdd,au,ar] at e3;unfold otM cfB bI ib;by_cases tc:3<=stop
 ·have q0:(0 != stop)=true:=by simp;omega
  have q1:(1 != stop)=true:=aE;have l1:1<=stop:=zO;have q2:(2 != stop)=true:=aE;have l2:2<=stop:=zO
  repeat' first|refine cH ?_|refine dc ?_|refine cM ?_|(refine g6 ?_;intro Q hQ hP;simp [hC,hY,hA,hS,df,fq,Pw,b0,w0,v0,e0,b1,w1,v1,e1,b2,w2,v2,e2,b3,w3,v3,e3,q0,q1,l1,q2,l2,tc];(first|refine hQ _ _ _ _ fj ?_|refine hP _ _ fj λ_=>?_))|fail
  exact sk
 ·have:stop=0\/stop=1\/stop=2:=zO;rcases this with rfl|rfl|rfl
  all_goals
   repeat' first|refine cH ?_|refine dc ?_|refine cM ?_|(refine g6 ?_;intro Q hQ hP;simp [hC,hY,hA,hS,df,fq,Pw,b0,w0,v0,e0,b1,w1,v1,e1,b2,w2,v2,e2,b3,w3,v3,e3];(first|refine hQ _ _ _ _ fj ?_|refine hP _ _ fj λ_=>?_))|fail
  all_goals
   refine ⟨?_,?_,?_,λk hk=>?_⟩
   ·simp
   ·simp [results167]
   ·first|trivial|omega|(simp;done)|(simp;omega)
   ·have hk:=cA k hk
    first|rfl|(simp (disch:=omega) only [aj]<;>rfl)):p:=h
def otV (fm fs:aS) (i k:Nat):Array Value:=#[.int .i64 (fm k),.agg #[.int .i64 (fs (6*k) - fs (6*i)),.int .i64 (fs (6*k+1) - fs (6*i+1)),.int .i64 (fs (6*k+2) - fs (6*i+2))]]
def tB (n i:Nat):List Nat:=(List.range n).filter λk=>k != i
def s7 (fm fs:aS) (n i:Nat):List (Array Value):=(tB n i).map (otV fm fs i)
def otM (L:bS) (ka ks off n cap ao n2 av:Nat) (g bx tp nr md st i:Int):List (Nat×Blk):=(200,cfB (.slice (some ⟨ka,off,none⟩) n cap) g bx tp nr md)::(208,bI st ks ao n2 av)::(216,ib i)::L
theorem pP {L:bS} {ka ks:Nat} {bm bs:Blk} (hT:LKa L ka ks bm bs) (off n cap ao n2 av:Nat) (g bx tp nr md st i:Int):LOd G1 (otM L ka ks off n cap ao n2 av g bx tp nr md st i) 300:=by
 have hL:=hT.ok;refine ⟨?_,?_,?_⟩
 ·intro p hp;rcases al.1 hp with rfl|hp
  ·simp
  ·rcases al.1 hp with rfl|hp
   ·simp
   ·rcases al.1 hp with rfl|hp
    ·simp
    ·have:=hL.big p hp;omega
 ·have h2:∀ q,200<=q->q∉ak L:=λq hq h=>by
   obtain ⟨p,hp,e⟩:=aI.1 h;have:=hL.big p hp;omega
  refine gO.2 ⟨λh=>?_,gO.2 ⟨λh=>?_,gO.2 ⟨h2 216 zO,hL.one⟩⟩⟩
  ·rcases al.1 h with e|h
   ·exact absurd e zS
   ·rcases al.1 h with e|h
    ·exact absurd e zS
    ·exact h2 200 zO h
  ·rcases al.1 h with e|h
   ·exact absurd e zS
   ·exact h2 208 zO h
 ·have h1:dom (hpL G1 (otM L ka ks off n cap ao n2 av g bx tp nr md st i)) ka:=by
   have:=hT.a2;unfold dom otM;rw [aW,ab zO,aW,ab zO,aW,ab zO,hT.a];simp
  have h2:dom (hpL G1 (otM L ka ks off n cap ao n2 av g bx tp nr md st i)) ks:=by
   have:=hT.k2;unfold dom otM;rw [aW,ab zO,aW,ab zO,aW,ab zO,hT.s];simp
  intro p hp;rcases al.1 hp with rfl|hp
  ·simp [cfB,aF,aL,aR,h1]
  ·rcases al.1 hp with rfl|hp
   ·simp [bI,aF,aL,aR,h2]
   ·rcases al.1 hp with rfl|hp
    ·simp [ib,aF,aL,aR]
    ·exact Blk.fx_ids (hT.fx p hp) _
theorem fK {st:Int} {fs:aS} {n:Nat} (hr:aV st fs n=true) (i k:Nat) (hi:i<n) (hk:k<n):eaE ik (fs (6*k)) (fs (6*k+1)) (fs (6*k+2)) (fs (6*i)) (fs (6*i+1)) (fs (6*i+2))=0:=by
 have a:=(ja hr hi).1;have b:=(ja hr hk).1;unfold eaE;rw [ai ?_];unfold inW at a b;unfold fnI ik;omega
theorem fI {b:Blk} {off n:Nat} {f:aS} (h:SB b off n f) (i:Nat) (hi:i<n) (o:Nat) (e:o=off+i*6):ft prog 48 b o=some (.agg #[.int .i64 (f (6*i)),.int .i64 (f (6*i+1)),.int .i64 (f (6*i+2))]):=by rw [e];exact h.vec hi (u:=0) zO
theorem Pw (x y:Int):eaV 0 (ik x y)=x - y:=by unfold eaV ik;simp
theorem NG (L:bS) (ka ks:Nat) (bm bs:Blk) (hT:LKa L ka ks bm bs) (off cap ao av:Nat) (fm fs:aS) (hm:MB bm off 1 fm) (cf:SB bs ao 1 fs) (g bx tp nr md st:Int) (ez:aV st fs 1=true) :
  IterK prog G1 167 #[.pointer (some ⟨208,0,none⟩),.pointer (some ⟨216,0,none⟩),.pointer (some ⟨200,0,none⟩)] (hpL G1 (otM L ka ks off 1 cap ao 1 av g bx tp nr md st 0)) (ak (otM L ka ks off 1 cap ao 1 av g bx tp nr md st 0)) (s7 fm fs 1 0):=by
 have hL:=pP hT off 1 cap ao 1 av g bx tp nr md st 0;have cA:∀ k,dom (hpL G1 (otM L ka ks off 1 cap ao 1 av g bx tp nr md st 0)) k->k<300:=λk hk=>aO λh1=>hk (hL.free G1F zO k zO);refine jN (B:=300) (v:=.tuple #[]) G1F func167 rfl call167 hL ?_ gU zO ?_
 ·exact gY
 intro C l stop hC bQ hY;have hA:=hT.a;have hS:=hT.s;have df:=hT.ne;have fq:=hT.na;have mY:=hT.k1;have yy:s7 fm fs 1 0=[]:=rfl;rw [yy] at hY |-;have b0:=dV cf 0 zO (ao) zO;simp only [Nat.reduceMul,Nat.reduceAdd,au,ar] at b0;have w0:=dX hm 0 zO (off) zO;have v0:=fI cf 0 zO (ao) zO;simp only [Nat.reduceMul,Nat.reduceAdd,au,ar] at v0;have e0:=fK ez 0 0 zO zO;simp only [Nat.reduceMul,Nat.reduceAdd,au,ar] at e0;unfold otM cfB bI ib
 repeat' first|refine cH ?_|refine dc ?_|refine cM ?_|(refine g6 ?_;intro Q hQ hP;simp [hC,hY,hA,hS,df,fq,Pw,b0,w0,v0,e0];(first|refine hQ _ _ _ _ fj ?_|refine hP _ _ fj λ_=>?_))|fail
 exact sk
theorem NH (L:bS) (ka ks:Nat) (bm bs:Blk) (hT:LKa L ka ks bm bs) (off cap ao av:Nat) (fm fs:aS) (hm:MB bm off 2 fm) (cf:SB bs ao 2 fs) (g bx tp nr md st:Int) (ez:aV st fs 2=true) :
  IterK prog G1 167 #[.pointer (some ⟨208,0,none⟩),.pointer (some ⟨216,0,none⟩),.pointer (some ⟨200,0,none⟩)] (hpL G1 (otM L ka ks off 2 cap ao 2 av g bx tp nr md st 0)) (ak (otM L ka ks off 2 cap ao 2 av g bx tp nr md st 0)) (s7 fm fs 2 0):=by
 have hL:=pP hT off 2 cap ao 2 av g bx tp nr md st 0;have cA:∀ k,dom (hpL G1 (otM L ka ks off 2 cap ao 2 av g bx tp nr md st 0)) k->k<300:=λk hk=>aO λh1=>hk (hL.free G1F zO k zO);refine jN (B:=300) (v:=.tuple #[]) G1F func167 rfl call167 hL ?_ gU zO ?_
 ·exact gY
 intro C l stop hC bQ hY;have hA:=hT.a;have hS:=hT.s;have df:=hT.ne;have fq:=hT.na;have mY:=hT.k1;have yy:s7 fm fs 2 0=[#[.int .i64 (fm 1),.agg #[.int .i64 (fs 6 - fs 0),.int .i64 (fs 7 - fs 1),.int .i64 (fs 8 - fs 2)]]]:=rfl;rw [yy] at hY |-;have b0:=dV cf 0 zO (ao) zO;simp only [Nat.reduceMul,Nat.reduceAdd,au,ar] at b0;have w0:=dX hm 0 zO (off) zO;have v0:=fI cf 0 zO (ao) zO;simp only [Nat.reduceMul,Nat.reduceAdd,au,ar] at v0;have e0:=fK ez 0 0 zO zO;simp only [Nat.reduceMul,Nat.reduceAdd,au,ar] at e0;have b1:=dV cf 1 zO (ao+6) zO;simp only [Nat.reduceMul,Nat.reduceAdd,au,ar] at b1;have w1:=dX hm 1 zO (off+1) zO;have v1:=fI cf 1 zO (ao+6) zO;simp only [Nat.reduceMul,Nat.reduceAdd,au,ar] at v1;have e1:=fK ez 0 1 zO zO;exact EF
theorem NI (L:bS) (ka ks:Nat) (bm bs:Blk) (hT:LKa L ka ks bm bs) (off cap ao av:Nat) (fm fs:aS) (hm:MB bm off 2 fm) (cf:SB bs ao 2 fs) (g bx tp nr md st:Int) (ez:aV st fs 2=true) :
  IterK prog G1 167 #[.pointer (some ⟨208,0,none⟩),.pointer (some ⟨216,0,none⟩),.pointer (some ⟨200,0,none⟩)] (hpL G1 (otM L ka ks off 2 cap ao 2 av g bx tp nr md st 1)) (ak (otM L ka ks off 2 cap ao 2 av g bx tp nr md st 1)) (s7 fm fs 2 1):=by
 have hL:=pP hT off 2 cap ao 2 av g bx tp nr md st 1;have cA:∀ k,dom (hpL G1 (otM L ka ks off 2 cap ao 2 av g bx tp nr md st 1)) k->k<300:=λk hk=>aO λh1=>hk (hL.free G1F zO k zO);refine jN (B:=300) (v:=.tuple #[]) G1F func167 rfl call167 hL ?_ gU zO ?_
 ·exact gY
 intro C l stop hC bQ hY;have hA:=hT.a;have hS:=hT.s;have df:=hT.ne;have fq:=hT.na;have mY:=hT.k1;have yy:s7 fm fs 2 1=[#[.int .i64 (fm 0),.agg #[.int .i64 (fs 0 - fs 6),.int .i64 (fs 1 - fs 7),.int .i64 (fs 2 - fs 8)]]]:=rfl;rw [yy] at hY |-;have b0:=dV cf 0 zO (ao) zO;simp only [Nat.reduceMul,Nat.reduceAdd,au,ar] at b0;have w0:=dX hm 0 zO (off) zO;have v0:=fI cf 0 zO (ao) zO;simp only [Nat.reduceMul,Nat.reduceAdd,au,ar] at v0;have e0:=fK ez 1 0 zO zO;simp only [Nat.reduceMul,Nat.reduceAdd,au,ar] at e0;have b1:=dV cf 1 zO (ao+6) zO;simp only [Nat.reduceMul,Nat.reduceAdd,au,ar] at b1;have w1:=dX hm 1 zO (off+1) zO;have v1:=fI cf 1 zO (ao+6) zO;simp only [Nat.reduceMul,Nat.reduceAdd,au,ar] at v1;have e1:=fK ez 1 1 zO zO;exact EF
theorem NJ (L:bS) (ka ks:Nat) (bm bs:Blk) (hT:LKa L ka ks bm bs) (off cap ao av:Nat) (fm fs:aS) (hm:MB bm off 3 fm) (cf:SB bs ao 3 fs) (g bx tp nr md st:Int) (ez:aV st fs 3=true) :
  IterK prog G1 167 #[.pointer (some ⟨208,0,none⟩),.pointer (some ⟨216,0,none⟩),.pointer (some ⟨200,0,none⟩)] (hpL G1 (otM L ka ks off 3 cap ao 3 av g bx tp nr md st 0)) (ak (otM L ka ks off 3 cap ao 3 av g bx tp nr md st 0)) (s7 fm fs 3 0):=by
 have hL:=pP hT off 3 cap ao 3 av g bx tp nr md st 0;have cA:∀ k,dom (hpL G1 (otM L ka ks off 3 cap ao 3 av g bx tp nr md st 0)) k->k<300:=λk hk=>aO λh1=>hk (hL.free G1F zO k zO);refine jN (B:=300) (v:=.tuple #[]) G1F func167 rfl call167 hL ?_ gU zO ?_
 ·exact gY
 intro C l stop hC bQ hY;have hA:=hT.a;have hS:=hT.s;have df:=hT.ne;have fq:=hT.na;have mY:=hT.k1;have yy:s7 fm fs 3 0=[#[.int .i64 (fm 1),.agg #[.int .i64 (fs 6 - fs 0),.int .i64 (fs 7 - fs 1),.int .i64 (fs 8 - fs 2)]],#[.int .i64 (fm 2),.agg #[.int .i64 (fs 12 - fs 0),.int .i64 (fs 13 - fs 1),.int .i64 (fs 14 - fs 2)]]]:=rfl;rw [yy] at hY |-;have b0:=dV cf 0 zO (ao) zO;simp only [Nat.reduceMul,Nat.reduceAdd,au,ar] at b0;have w0:=dX hm 0 zO (off) zO;have v0:=fI cf 0 zO (ao) zO;simp only [Nat.reduceMul,Nat.reduceAdd,au,ar] at v0;have e0:=fK ez 0 0 zO zO;simp only [Nat.reduceMul,Nat.reduceAdd,au,ar] at e0;have b1:=dV cf 1 zO (ao+6) zO;simp only [Nat.reduceMul,Nat.reduceAdd,au,ar] at b1;have w1:=dX hm 1 zO (off+1) zO;have v1:=fI cf 1 zO (ao+6) zO;simp only [Nat.reduceMul,Nat.reduceAdd,au,ar] at v1;have e1:=fK ez 0 1 zO zO;simp only [Nat.reduceMul,Nat.reduceAdd,au,ar] at e1;have b2:=dV cf 2 zO (ao+12) zO;simp only [Nat.reduceMul,Nat.reduceAdd,au,ar] at b2;have w2:=dX hm 2 zO (off+2) zO;have v2:=fI cf 2 zO (ao+12) zO;simp only [Nat.reduceMul,Nat.reduceAdd,au,ar] at v2;have e2:=fK ez 0 2 zO zO;exact xv
theorem NK (L:bS) (ka ks:Nat) (bm bs:Blk) (hT:LKa L ka ks bm bs) (off cap ao av:Nat) (fm fs:aS) (hm:MB bm off 3 fm) (cf:SB bs ao 3 fs) (g bx tp nr md st:Int) (ez:aV st fs 3=true) :
  IterK prog G1 167 #[.pointer (some ⟨208,0,none⟩),.pointer (some ⟨216,0,none⟩),.pointer (some ⟨200,0,none⟩)] (hpL G1 (otM L ka ks off 3 cap ao 3 av g bx tp nr md st 1)) (ak (otM L ka ks off 3 cap ao 3 av g bx tp nr md st 1)) (s7 fm fs 3 1):=by
 have hL:=pP hT off 3 cap ao 3 av g bx tp nr md st 1;have cA:∀ k,dom (hpL G1 (otM L ka ks off 3 cap ao 3 av g bx tp nr md st 1)) k->k<300:=λk hk=>aO λh1=>hk (hL.free G1F zO k zO);refine jN (B:=300) (v:=.tuple #[]) G1F func167 rfl call167 hL ?_ gU zO ?_
 ·exact gY
 intro C l stop hC bQ hY;have hA:=hT.a;have hS:=hT.s;have df:=hT.ne;have fq:=hT.na;have mY:=hT.k1;have yy:s7 fm fs 3 1=[#[.int .i64 (fm 0),.agg #[.int .i64 (fs 0 - fs 6),.int .i64 (fs 1 - fs 7),.int .i64 (fs 2 - fs 8)]],#[.int .i64 (fm 2),.agg #[.int .i64 (fs 12 - fs 6),.int .i64 (fs 13 - fs 7),.int .i64 (fs 14 - fs 8)]]]:=rfl;rw [yy] at hY |-;have b0:=dV cf 0 zO (ao) zO;simp only [Nat.reduceMul,Nat.reduceAdd,au,ar] at b0;have w0:=dX hm 0 zO (off) zO;have v0:=fI cf 0 zO (ao) zO;simp only [Nat.reduceMul,Nat.reduceAdd,au,ar] at v0;have e0:=fK ez 1 0 zO zO;simp only [Nat.reduceMul,Nat.reduceAdd,au,ar] at e0;have b1:=dV cf 1 zO (ao+6) zO;simp only [Nat.reduceMul,Nat.reduceAdd,au,ar] at b1;have w1:=dX hm 1 zO (off+1) zO;have v1:=fI cf 1 zO (ao+6) zO;simp only [Nat.reduceMul,Nat.reduceAdd,au,ar] at v1;have e1:=fK ez 1 1 zO zO;simp only [Nat.reduceMul,Nat.reduceAdd,au,ar] at e1;have b2:=dV cf 2 zO (ao+12) zO;simp only [Nat.reduceMul,Nat.reduceAdd,au,ar] at b2;have w2:=dX hm 2 zO (off+2) zO;have v2:=fI cf 2 zO (ao+12) zO;simp only [Nat.reduceMul,Nat.reduceAdd,au,ar] at v2;have e2:=fK ez 1 2 zO zO;exact xv
theorem NL (L:bS) (ka ks:Nat) (bm bs:Blk) (hT:LKa L ka ks bm bs) (off cap ao av:Nat) (fm fs:aS) (hm:MB bm off 3 fm) (cf:SB bs ao 3 fs) (g bx tp nr md st:Int) (ez:aV st fs 3=true) :
  IterK prog G1 167 #[.pointer (some ⟨208,0,none⟩),.pointer (some ⟨216,0,none⟩),.pointer (some ⟨200,0,none⟩)] (hpL G1 (otM L ka ks off 3 cap ao 3 av g bx tp nr md st 2)) (ak (otM L ka ks off 3 cap ao 3 av g bx tp nr md st 2)) (s7 fm fs 3 2):=by
 have hL:=pP hT off 3 cap ao 3 av g bx tp nr md st 2;have cA:∀ k,dom (hpL G1 (otM L ka ks off 3 cap ao 3 av g bx tp nr md st 2)) k->k<300:=λk hk=>aO λh1=>hk (hL.free G1F zO k zO);refine jN (B:=300) (v:=.tuple #[]) G1F func167 rfl call167 hL ?_ gU zO ?_
 ·exact gY
 intro C l stop hC bQ hY;have hA:=hT.a;have hS:=hT.s;have df:=hT.ne;have fq:=hT.na;have mY:=hT.k1;have yy:s7 fm fs 3 2=[#[.int .i64 (fm 0),.agg #[.int .i64 (fs 0 - fs 12),.int .i64 (fs 1 - fs 13),.int .i64 (fs 2 - fs 14)]],#[.int .i64 (fm 1),.agg #[.int .i64 (fs 6 - fs 12),.int .i64 (fs 7 - fs 13),.int .i64 (fs 8 - fs 14)]]]:=rfl;rw [yy] at hY |-;have b0:=dV cf 0 zO (ao) zO;simp only [Nat.reduceMul,Nat.reduceAdd,au,ar] at b0;have w0:=dX hm 0 zO (off) zO;have v0:=fI cf 0 zO (ao) zO;simp only [Nat.reduceMul,Nat.reduceAdd,au,ar] at v0;have e0:=fK ez 2 0 zO zO;simp only [Nat.reduceMul,Nat.reduceAdd,au,ar] at e0;have b1:=dV cf 1 zO (ao+6) zO;simp only [Nat.reduceMul,Nat.reduceAdd,au,ar] at b1;have w1:=dX hm 1 zO (off+1) zO;have v1:=fI cf 1 zO (ao+6) zO;simp only [Nat.reduceMul,Nat.reduceAdd,au,ar] at v1;have e1:=fK ez 2 1 zO zO;simp only [Nat.reduceMul,Nat.reduceAdd,au,ar] at e1;have b2:=dV cf 2 zO (ao+12) zO;simp only [Nat.reduceMul,Nat.reduceAdd,au,ar] at b2;have w2:=dX hm 2 zO (off+2) zO;have v2:=fI cf 2 zO (ao+12) zO;simp only [Nat.reduceMul,Nat.reduceAdd,au,ar] at v2;have e2:=fK ez 2 2 zO zO;exact xv
theorem NM (L:bS) (ka ks:Nat) (bm bs:Blk) (hT:LKa L ka ks bm bs) (off cap ao av:Nat) (fm fs:aS) (hm:MB bm off 4 fm) (cf:SB bs ao 4 fs) (g bx tp nr md st:Int) (ez:aV st fs 4=true) :
  IterK prog G1 167 #[.pointer (some ⟨208,0,none⟩),.pointer (some ⟨216,0,none⟩),.pointer (some ⟨200,0,none⟩)] (hpL G1 (otM L ka ks off 4 cap ao 4 av g bx tp nr md st 0)) (ak (otM L ka ks off 4 cap ao 4 av g bx tp nr md st 0)) (s7 fm fs 4 0):=by
 have hL:=pP hT off 4 cap ao 4 av g bx tp nr md st 0;have cA:∀ k,dom (hpL G1 (otM L ka ks off 4 cap ao 4 av g bx tp nr md st 0)) k->k<300:=λk hk=>aO λh1=>hk (hL.free G1F zO k zO);refine jN (B:=300) (v:=.tuple #[]) G1F func167 rfl call167 hL ?_ gU zO ?_
 ·exact gY
 intro C l stop hC bQ hY;have hA:=hT.a;have hS:=hT.s;have df:=hT.ne;have fq:=hT.na;have mY:=hT.k1;have yy:s7 fm fs 4 0=[#[.int .i64 (fm 1),.agg #[.int .i64 (fs 6 - fs 0),.int .i64 (fs 7 - fs 1),.int .i64 (fs 8 - fs 2)]],#[.int .i64 (fm 2),.agg #[.int .i64 (fs 12 - fs 0),.int .i64 (fs 13 - fs 1),.int .i64 (fs 14 - fs 2)]],#[.int .i64 (fm 3),.agg #[.int .i64 (fs 18 - fs 0),.int .i64 (fs 19 - fs 1),.int .i64 (fs 20 - fs 2)]]]:=rfl;rw [yy] at hY |-;have b0:=dV cf 0 zO (ao) zO;simp only [Nat.reduceMul,Nat.reduceAdd,au,ar] at b0;have w0:=dX hm 0 zO (off) zO;have v0:=fI cf 0 zO (ao) zO;simp only [Nat.reduceMul,Nat.reduceAdd,au,ar] at v0;have e0:=fK ez 0 0 zO zO;simp only [Nat.reduceMul,Nat.reduceAdd,au,ar] at e0;have b1:=dV cf 1 zO (ao+6) zO;simp only [Nat.reduceMul,Nat.reduceAdd,au,ar] at b1;have w1:=dX hm 1 zO (off+1) zO;have v1:=fI cf 1 zO (ao+6) zO;simp only [Nat.reduceMul,Nat.reduceAdd,au,ar] at v1;have e1:=fK ez 0 1 zO zO;simp only [Nat.reduceMul,Nat.reduceAdd,au,ar] at e1;have b2:=dV cf 2 zO (ao+12) zO;simp only [Nat.reduceMul,Nat.reduceAdd,au,ar] at b2;have w2:=dX hm 2 zO (off+2) zO;have v2:=fI cf 2 zO (ao+12) zO;simp only [Nat.reduceMul,Nat.reduceAdd,au,ar] at v2;have e2:=fK ez 0 2 zO zO;simp only [Nat.reduceMul,Nat.reduceAdd,au,ar] at e2;have b3:=dV cf 3 zO (ao+18) zO;simp only [Nat.reduceMul,Nat.reduceAdd,au,ar] at b3;have w3:=dX hm 3 zO (off+3) zO;have v3:=fI cf 3 zO (ao+18) zO;simp only [Nat.reduceMul,Nat.reduceAdd,au,ar] at v3;have e3:=fK ez 0 3 zO zO;exact sf
theorem NN (L:bS) (ka ks:Nat) (bm bs:Blk) (hT:LKa L ka ks bm bs) (off cap ao av:Nat) (fm fs:aS) (hm:MB bm off 4 fm) (cf:SB bs ao 4 fs) (g bx tp nr md st:Int) (ez:aV st fs 4=true) :
  IterK prog G1 167 #[.pointer (some ⟨208,0,none⟩),.pointer (some ⟨216,0,none⟩),.pointer (some ⟨200,0,none⟩)] (hpL G1 (otM L ka ks off 4 cap ao 4 av g bx tp nr md st 1)) (ak (otM L ka ks off 4 cap ao 4 av g bx tp nr md st 1)) (s7 fm fs 4 1):=by
 have hL:=pP hT off 4 cap ao 4 av g bx tp nr md st 1;have cA:∀ k,dom (hpL G1 (otM L ka ks off 4 cap ao 4 av g bx tp nr md st 1)) k->k<300:=λk hk=>aO λh1=>hk (hL.free G1F zO k zO);refine jN (B:=300) (v:=.tuple #[]) G1F func167 rfl call167 hL ?_ gU zO ?_
 ·exact gY
 intro C l stop hC bQ hY;have hA:=hT.a;have hS:=hT.s;have df:=hT.ne;have fq:=hT.na;have mY:=hT.k1;have yy:s7 fm fs 4 1=[#[.int .i64 (fm 0),.agg #[.int .i64 (fs 0 - fs 6),.int .i64 (fs 1 - fs 7),.int .i64 (fs 2 - fs 8)]],#[.int .i64 (fm 2),.agg #[.int .i64 (fs 12 - fs 6),.int .i64 (fs 13 - fs 7),.int .i64 (fs 14 - fs 8)]],#[.int .i64 (fm 3),.agg #[.int .i64 (fs 18 - fs 6),.int .i64 (fs 19 - fs 7),.int .i64 (fs 20 - fs 8)]]]:=rfl;rw [yy] at hY |-;have b0:=dV cf 0 zO (ao) zO;simp only [Nat.reduceMul,Nat.reduceAdd,au,ar] at b0;have w0:=dX hm 0 zO (off) zO;have v0:=fI cf 0 zO (ao) zO;simp only [Nat.reduceMul,Nat.reduceAdd,au,ar] at v0;have e0:=fK ez 1 0 zO zO;simp only [Nat.reduceMul,Nat.reduceAdd,au,ar] at e0;have b1:=dV cf 1 zO (ao+6) zO;simp only [Nat.reduceMul,Nat.reduceAdd,au,ar] at b1;have w1:=dX hm 1 zO (off+1) zO;have v1:=fI cf 1 zO (ao+6) zO;simp only [Nat.reduceMul,Nat.reduceAdd,au,ar] at v1;have e1:=fK ez 1 1 zO zO;simp only [Nat.reduceMul,Nat.reduceAdd,au,ar] at e1;have b2:=dV cf 2 zO (ao+12) zO;simp only [Nat.reduceMul,Nat.reduceAdd,au,ar] at b2;have w2:=dX hm 2 zO (off+2) zO;have v2:=fI cf 2 zO (ao+12) zO;simp only [Nat.reduceMul,Nat.reduceAdd,au,ar] at v2;have e2:=fK ez 1 2 zO zO;simp only [Nat.reduceMul,Nat.reduceAdd,au,ar] at e2;have b3:=dV cf 3 zO (ao+18) zO;simp only [Nat.reduceMul,Nat.reduceAdd,au,ar] at b3;have w3:=dX hm 3 zO (off+3) zO;have v3:=fI cf 3 zO (ao+18) zO;simp only [Nat.reduceMul,Nat.reduceAdd,au,ar] at v3;have e3:=fK ez 1 3 zO zO;exact sf
theorem NO (L:bS) (ka ks:Nat) (bm bs:Blk) (hT:LKa L ka ks bm bs) (off cap ao av:Nat) (fm fs:aS) (hm:MB bm off 4 fm) (cf:SB bs ao 4 fs) (g bx tp nr md st:Int) (ez:aV st fs 4=true) :
  IterK prog G1 167 #[.pointer (some ⟨208,0,none⟩),.pointer (some ⟨216,0,none⟩),.pointer (some ⟨200,0,none⟩)] (hpL G1 (otM L ka ks off 4 cap ao 4 av g bx tp nr md st 2)) (ak (otM L ka ks off 4 cap ao 4 av g bx tp nr md st 2)) (s7 fm fs 4 2):=by
 have hL:=pP hT off 4 cap ao 4 av g bx tp nr md st 2;have cA:∀ k,dom (hpL G1 (otM L ka ks off 4 cap ao 4 av g bx tp nr md st 2)) k->k<300:=λk hk=>aO λh1=>hk (hL.free G1F zO k zO);refine jN (B:=300) (v:=.tuple #[]) G1F func167 rfl call167 hL ?_ gU zO ?_
 ·exact gY
 intro C l stop hC bQ hY;have hA:=hT.a;have hS:=hT.s;have df:=hT.ne;have fq:=hT.na;have mY:=hT.k1;have yy:s7 fm fs 4 2=[#[.int .i64 (fm 0),.agg #[.int .i64 (fs 0 - fs 12),.int .i64 (fs 1 - fs 13),.int .i64 (fs 2 - fs 14)]],#[.int .i64 (fm 1),.agg #[.int .i64 (fs 6 - fs 12),.int .i64 (fs 7 - fs 13),.int .i64 (fs 8 - fs 14)]],#[.int .i64 (fm 3),.agg #[.int .i64 (fs 18 - fs 12),.int .i64 (fs 19 - fs 13),.int .i64 (fs 20 - fs 14)]]]:=rfl;rw [yy] at hY |-;have b0:=dV cf 0 zO (ao) zO;simp only [Nat.reduceMul,Nat.reduceAdd,au,ar] at b0;have w0:=dX hm 0 zO (off) zO;have v0:=fI cf 0 zO (ao) zO;simp only [Nat.reduceMul,Nat.reduceAdd,au,ar] at v0;have e0:=fK ez 2 0 zO zO;simp only [Nat.reduceMul,Nat.reduceAdd,au,ar] at e0;have b1:=dV cf 1 zO (ao+6) zO;simp only [Nat.reduceMul,Nat.reduceAdd,au,ar] at b1;have w1:=dX hm 1 zO (off+1) zO;have v1:=fI cf 1 zO (ao+6) zO;simp only [Nat.reduceMul,Nat.reduceAdd,au,ar] at v1;have e1:=fK ez 2 1 zO zO;simp only [Nat.reduceMul,Nat.reduceAdd,au,ar] at e1;have b2:=dV cf 2 zO (ao+12) zO;simp only [Nat.reduceMul,Nat.reduceAdd,au,ar] at b2;have w2:=dX hm 2 zO (off+2) zO;have v2:=fI cf 2 zO (ao+12) zO;simp only [Nat.reduceMul,Nat.reduceAdd,au,ar] at v2;have e2:=fK ez 2 2 zO zO;simp only [Nat.reduceMul,Nat.reduceAdd,au,ar] at e2;have b3:=dV cf 3 zO (ao+18) zO;simp only [Nat.reduceMul,Nat.reduceAdd,au,ar] at b3;have w3:=dX hm 3 zO (off+3) zO;have v3:=fI cf 3 zO (ao+18) zO;simp only [Nat.reduceMul,Nat.reduceAdd,au,ar] at v3;have e3:=fK ez 2 3 zO zO;exact sf
theorem NP (L:bS) (ka ks:Nat) (bm bs:Blk) (hT:LKa L ka ks bm bs) (off cap ao av:Nat) (fm fs:aS) (hm:MB bm off 4 fm) (cf:SB bs ao 4 fs) (g bx tp nr md st:Int) (ez:aV st fs 4=true) :
  IterK prog G1 167 #[.pointer (some ⟨208,0,none⟩),.pointer (some ⟨216,0,none⟩),.pointer (some ⟨200,0,none⟩)] (hpL G1 (otM L ka ks off 4 cap ao 4 av g bx tp nr md st 3)) (ak (otM L ka ks off 4 cap ao 4 av g bx tp nr md st 3)) (s7 fm fs 4 3):=by
 have hL:=pP hT off 4 cap ao 4 av g bx tp nr md st 3;have cA:∀ k,dom (hpL G1 (otM L ka ks off 4 cap ao 4 av g bx tp nr md st 3)) k->k<300:=λk hk=>aO λh1=>hk (hL.free G1F zO k zO);refine jN (B:=300) (v:=.tuple #[]) G1F func167 rfl call167 hL ?_ gU zO ?_
 ·exact gY
 intro C l stop hC bQ hY;have hA:=hT.a;have hS:=hT.s;have df:=hT.ne;have fq:=hT.na;have mY:=hT.k1;have yy:s7 fm fs 4 3=[#[.int .i64 (fm 0),.agg #[.int .i64 (fs 0 - fs 18),.int .i64 (fs 1 - fs 19),.int .i64 (fs 2 - fs 20)]],#[.int .i64 (fm 1),.agg #[.int .i64 (fs 6 - fs 18),.int .i64 (fs 7 - fs 19),.int .i64 (fs 8 - fs 20)]],#[.int .i64 (fm 2),.agg #[.int .i64 (fs 12 - fs 18),.int .i64 (fs 13 - fs 19),.int .i64 (fs 14 - fs 20)]]]:=rfl;rw [yy] at hY |-;have b0:=dV cf 0 zO (ao) zO;simp only [Nat.reduceMul,Nat.reduceAdd,au,ar] at b0;have w0:=dX hm 0 zO (off) zO;have v0:=fI cf 0 zO (ao) zO;simp only [Nat.reduceMul,Nat.reduceAdd,au,ar] at v0;have e0:=fK ez 3 0 zO zO;simp only [Nat.reduceMul,Nat.reduceAdd,au,ar] at e0;have b1:=dV cf 1 zO (ao+6) zO;simp only [Nat.reduceMul,Nat.reduceAdd,au,ar] at b1;have w1:=dX hm 1 zO (off+1) zO;have v1:=fI cf 1 zO (ao+6) zO;simp only [Nat.reduceMul,Nat.reduceAdd,au,ar] at v1;have e1:=fK ez 3 1 zO zO;simp only [Nat.reduceMul,Nat.reduceAdd,au,ar] at e1;have b2:=dV cf 2 zO (ao+12) zO;simp only [Nat.reduceMul,Nat.reduceAdd,au,ar] at b2;have w2:=dX hm 2 zO (off+2) zO;have v2:=fI cf 2 zO (ao+12) zO;simp only [Nat.reduceMul,Nat.reduceAdd,au,ar] at v2;have e2:=fK ez 3 2 zO zO;simp only [Nat.reduceMul,Nat.reduceAdd,au,ar] at e2;have b3:=dV cf 3 zO (ao+18) zO;simp only [Nat.reduceMul,Nat.reduceAdd,au,ar] at b3;have w3:=dX hm 3 zO (off+3) zO;have v3:=fI cf 3 zO (ao+18) zO;simp only [Nat.reduceMul,Nat.reduceAdd,au,ar] at v3;have e3:=fK ez 3 3 zO zO;exact sf
end Go.Gy
namespace Go.Gy
open Go Go.RowKit Go.Proofs
theorem xC {p:Prop} (h:p:=by
 have:=h.mag;unfold gp
 (repeat' split)<;>omega):p:=h
theorem Ll {n d g m x r:Int} (h:PIn n d g m x r):-4503599627370496<=gp n d g m x r/\gp n d g m x r<=4503599627370496:=by
 exact xC
def kpF (n d g:Int) (fm fs:aS) (i u k:Nat):Int:=gp n d g (fm k) (fs (6*k+u) - fs (6*i+u)) (d2F fs k i)
def oS (F:aS):List Nat->Int
 | []=>0
 | k::l=>F k+oS F l
theorem Yu (F:aS):∀ l m,oS F (l++m)=oS F l+oS F m
 | [],m=>by simp [oS]
 | p::l,m=>by
  simp only [bq,oS,Yu F l m];omega
theorem Lr (F:aS) {l:List Nat} {j:Nat} (hj:j<l.length):oS F (l.take (j+1))=oS F (l.take j)+F l[j]:=by
 rw [show l.take (j+1)=l.take j++[l[j]] by simp,Yu];simp [oS]
theorem ae0 {F:aS} {B:Int}:∀ {l:List Nat},(∀ k∈l,-B<=F k/\F k<=B)->-(l.length*B)<=oS F l/\oS F l<=l.length*B
 | [],_=>by simp [oS]
 | p::l,h=>by
  have h1:=ae0 (l:=l) λq hq=>h q (br _ hq);have h2:=h p zS;simp only [oS,fA,Int.natCast_succ,fV];omega
theorem vq {n i k:Nat}:k∈tB n i↔k<n/\k≠i:=by
 unfold tB;rw [List.mem_filter,lH];simp
theorem YE {n i:Nat} (hn:n<=4):(tB n i).length<=4:=by
 unfold tB;exact fS (List.length_filter_le _ _) (by rw [List.length_range];exact hn)
def kS (n d g:Int) (fm fs:aS) (N i u:Nat):Int:=oS (kpF n d g fm fs i u) (tB N i)
def kZ (fs:aS) (N i:Nat):Bool:=(tB N i).any λk=>decide (d2F fs k i=0)
theorem acb {fs:aS} {N i:Nat}:kZ fs N i=false↔∀ k,k<N->k≠i->¬d2F fs k i=0:=by
 unfold kZ;rw [jY];exact ⟨λh k h1 h2=>by simpa using h k (vq.2 ⟨h1,h2⟩),λh k hk=>by have:=vq.1 hk;simpa using h k this.1 this.2⟩
def tZ (n d:Int):Bool:=decide (-2097152<=n/\n<=2097152/\1<=d/\d<=2097152)
theorem J9 {n d:Int}:tZ n d=true ↔ -2097152<=n/\n<=2097152/\1<=d/\d<=2097152:=by
 unfold tZ;exact decide_eq_true_iff
def Li (fs:aS) (N:Nat):Bool:=(List.range N).any λi=>kZ fs N i
theorem Lj {fs:aS} {N:Nat}:Li fs N=false↔∀ i,i<N->kZ fs N i=false:=by
 unfold Li;rw [jY];exact ⟨λh i hi=>by simpa using h i (by simpa using hi),λh i hi=>by simpa using h i (by simpa using hi)⟩
def kkF (n d g:Int) (fm fs:aS) (N:Nat) (j:Nat):Int:=kS n d g fm fs N (j / 3) (j%3)
def kcF (n d g:Int) (fm fs:aS) (N:Nat) (j:Nat):Int:=if j%6<3 then fs j else fs j+kS n d g fm fs N (j / 6) (j%6 - 3)
theorem ahj {st:Int} {fs:aS} {n:Nat} (hr:aV st fs n=true) {i k:Nat} (hi:i<n) (hk:k<n):0<=d2F fs k i/\d2F fs k i<=13194139533312/\∀ u,u<3->-2097152<=fs (6*k+u) - fs (6*i+u)/\fs (6*k+u) - fs (6*i+u)<=2097152/\(fs (6*k+u) - fs (6*i+u))*(fs (6*k+u) - fs (6*i+u))<=d2F fs k i:=by
 obtain ⟨⟨_,a0,a0'⟩,⟨_,a1,a1'⟩,⟨_,a2,a2'⟩⟩:=(ja hr hi).1;obtain ⟨⟨_,b0,b0'⟩,⟨_,b1,b1'⟩,⟨_,b2,b2'⟩⟩:=(ja hr hk).1;have s0:=IF (a:=fs (6*k) - fs (6*i)) (m:=2097152) ⟨zO,zO,zO⟩;have s1:=IF (a:=fs (6*k+1) - fs (6*i+1)) (m:=2097152) ⟨zO,zO,zO⟩;have s2:=IF (a:=fs (6*k+2) - fs (6*i+2)) (m:=2097152) ⟨zO,zO,zO⟩;unfold d2F;refine ⟨zO,zO,λu hu=>?_⟩;have:u=0\/u=1\/u=2:=zO;rcases this with rfl|rfl|rfl
 ·simp only [dZ];exact ⟨zO,zO,zO⟩
 ·exact ⟨zO,zO,zO⟩
 ·exact ⟨zO,zO,zO⟩
theorem R3 {n d g bx tp nr md st:Int} {fm fs:aS} {N i k u:Nat} (fJ:eQ N fm g bx tp nr md=true) (hr:aV st fs N=true) (hp:tZ n d=true) (hi:i<N) (hk:k<N) (hu:u<3) (hz:¬d2F fs k i=0):PIn n d g (fm k) (fs (6*k+u) - fs (6*i+u)) (d2F fs k i):=by
 obtain ⟨h1,h2,h3⟩:=ahj hr hi hk;obtain ⟨p1,p2,p3,p4⟩:=J9.1 hp;have hg:=afL fJ;have hm:=Tq fJ hk;have h4:=h3 u hu;exact ⟨p1,p2,p3,p4,hg.1,hg.2,hm.1,hm.2,h4.1,h4.2.1,zO,h2,h4.2.2⟩
theorem R2 {n d g bx tp nr md st:Int} {fm fs:aS} {N i u:Nat} (fJ:eQ N fm g bx tp nr md=true) (hr:aV st fs N=true) (hp:tZ n d=true) (hi:i<N) (hu:u<3) {l:List Nat} (hl:∀ k∈l,k<N/\¬d2F fs k i=0) (hl4:l.length<=4):-18014398509481984<=oS (kpF n d g fm fs i u) l/\oS (kpF n d g fm fs i u) l<=18014398509481984:=by
 have h:=ae0 (F:=kpF n d g fm fs i u) (B:=4503599627370496) (l:=l) λk hk=>Ll (R3 fJ hr hp hi (hl k hk).1 hu (hl k hk).2);omega
theorem aeT {n d g bx tp nr md st:Int} {fm fs:aS} {N i u:Nat} (fJ:eQ N fm g bx tp nr md=true) (hr:aV st fs N=true) (hp:tZ n d=true) (hi:i<N) (hu:u<3) (hz:kZ fs N i=false):-18014398509481984<=kS n d g fm fs N i u/\kS n d g fm fs N i u<=18014398509481984 :=
 R2 fJ hr hp hi hu (λk hk=>⟨(vq.1 hk).1,acb.1 hz k (vq.1 hk).1 (vq.1 hk).2⟩) (YE (ln hr).2.1.2)
end Go.Gy
namespace Go.Gy
open Go Go.RowKit Go.Proofs Go.Proofs.Tryz
theorem GP {T:TypeId} {M:Nat} {g:aS} {q:Nat} (h:q<M):ft prog 3 ⟨fa M .i64 g,.ty T⟩ q=some (.int .i64 (g q)):=by
 have:=Bf (P:=prog) (T:=3) (b:=⟨fa M .i64 g,.ty T⟩) (off:=0) (j:=q) (cO isAgg3) (zi M g _) h;rwa [ar] at this
theorem Y0 (f:aS) (o:Nat) (a b c:Int):upd (upd (upd f o a) (o+1) b) (o+2) c=Bl f o a b c:=by
 funext j;unfold upd Bl;by_cases h0:j=o
 ·rw [ab zO,ab zO,ai h0,ai h0]
 ·by_cases h1:j=o+1
  ·rw [ab zO,ai h1,ab h0,ai h1]
  ·by_cases h2:j=o+2
   ·rw [ai h2,ab h0,ab h1,ai h2]
   ·rw [ab h2,ab h1,ab h0,ab h0,ab h1,ab h2]
def O6 (f:aS) (o:Nat) (a b c:Int):Nat->Int:=Bl f o (f o+a) (f (o+1)+b) (f (o+2)+c)
theorem J8 (T:TypeId) (M o:Nat) (f:aS) (a b c:Int) (ho:o+3<=M) (q0:Int.bmod (f o+a) 18446744073709551616=f o+a) (q1:Int.bmod (f (o+1)+b) 18446744073709551616=f (o+1)+b) (q2:Int.bmod (f (o+2)+c) 18446744073709551616=f (o+2)+c) :
  Fun prog G1 101 #[.pointer (some ⟨100,o,none⟩),.agg #[.int .i64 a,.int .i64 b,.int .i64 c]] (hpL G1 [(100,⟨fa M .i64 f,.ty T⟩)]) (ak [(100,(⟨fa M .i64 f,.ty T⟩:Blk))]) (.ret (.tuple #[]) [(100,⟨fa M .i64 (O6 f o a b c),.ty T⟩)]):=by
 refine de (B:=200) G1F func101 rfl call101 (aH (dI _ _ _)) ?_ (cb zS) ?_ (λk b c h1 h2=>by simp at h1 h2;rw [h1.2,h2.2]) (by simp [ntmps101]) zO ?_
 ·exact bG
 ·intro p hp;simp at hp;subst hp;exact ⟨ah,Blk.fx_ids (dI _ _ _) _⟩
 intro C hC bQ hY;have l0:=GP (T:=T) (M:=M) (g:=f) (q:=o) zO;have l1:=GP (T:=T) (M:=M) (g:=upd f o (f o+a)) (q:=o+1) zO;have l2:=GP (T:=T) (M:=M) (g:=upd (upd f o (f o+a)) (o+1) (f (o+1)+b)) (q:=o+2) zO;rw [aj _ _ zO] at l1;rw [aj _ _ zO,aj _ _ zO] at l2;have m0:o+1<=M:=zO;have m1:o+1+1<=M:=zO;have m2:o+2+1<=M:=zO;have s0:=λx=>AZ M .i64 f o x;have s1:=λx=>AZ M .i64 (upd f o (f o+a)) (o+1) x;have s2:=λx=>AZ M .i64 (upd (upd f o (f o+a)) (o+1) (f (o+1)+b)) (o+2) x;refine vj (k12 l0 l1 l2 m0 m1 m2 q0 q1 q2 s0 s1 s2) ?_;refine ⟨.inl rfl,by simp [results101],λk hk=>?_⟩;have hp3:=Y0 f o (f o+a) (f (o+1)+b) (f (o+2)+c);unfold O6;rw [<-hp3];by_cases e6:k=100
 ·subst e6;simp [bW]
 ·have h2:¬k=200:=λe=>hk (by subst e;simp);simp [bW,e6,h2]
theorem Cl {p:Prop} (h:p:=by simp [rnL,cfB,bI,ib,Blk.rn,aw,aA,g5,hk,h0,h1,h2]):p:=h
theorem Ei {p:Prop} (h:p:=by
 rcases h1 with ⟨e1,rfl⟩|⟨e1,rfl⟩|⟨e1,rfl⟩<;>rcases h2 with ⟨e2,rfl⟩|⟨e2,rfl⟩|⟨e2,rfl⟩<;>first|rfl|omega):p:=h
theorem wR {p:Prop} (h:p:=by
 intro k hk l hl e;rw [iZ k hk,iZ l hl] at e;exact e):p:=h
theorem ach {w:Nat} {v0 v1 v2 a b c:Int} {hp:Hp} {nk:Nat} {K:Eff->Prop} (hw:100<=w) (hb:hp w=some (vb v0 v1 v2)) (q0:Int.bmod (v0+a) 18446744073709551616=v0+a) (q1:Int.bmod (v1+b) 18446744073709551616=v1+b) (q2:Int.bmod (v2+c) 18446744073709551616=v2+c)
  (hK:K ((Res.ret (.tuple #[]) [(w,vb (v0+a) (v1+b) (v2+c))]).eff [w])):pI prog G1 101 #[.pointer (some ⟨w,0,none⟩),.agg #[.int .i64 a,.int .i64 b,.int .i64 c]] hp nk K:=by
 have e:∀ f:Nat->Int,(⟨fa 3 .i64 f,.ty 48⟩:Blk)=vb (f 0) (f 1) (f 2):=λf=>rfl;have h:=J8 48 3 0 (λj=>if j=0 then v0 else if j=1 then v1 else v2) a b c zO q0 q1 q2;rw [e,e] at h;refine ye h G1F (B:=200) (aH (λx hx=>by simp [vb] at hx;rcases hx with rfl|rfl|rfl<;>rfl)) (λk=>if k=100 then w else k) (λk hk=>ab zO) ay ?_ ah ?_
 ·simp [vb,Blk.rn,aw,aA,hw];exact hb
 ·simpa [ren,aT,aw,aA,rnL,ak,O6,Bl,vb,Blk.rn] using hK
theorem aci {w M o:Nat} {f:aS} {T:TypeId} {a b c:Int} {hp:Hp} {nk:Nat} {K:Eff->Prop} (hw:100<=w) (hb:hp w=some ⟨fa M .i64 f,.ty T⟩) (ho:o+3<=M) (q0:Int.bmod (f o+a) 18446744073709551616=f o+a) (q1:Int.bmod (f (o+1)+b) 18446744073709551616=f (o+1)+b) (q2:Int.bmod (f (o+2)+c) 18446744073709551616=f (o+2)+c)
  (hK:K ((Res.ret (.tuple #[]) [(w,⟨fa M .i64 (O6 f o a b c),.ty T⟩)]).eff [w])):pI prog G1 101 #[.pointer (some ⟨w,o,none⟩),.agg #[.int .i64 a,.int .i64 b,.int .i64 c]] hp nk K:=by
 have h:=J8 T M o f a b c ho q0 q1 q2;refine ye h G1F (B:=200) (aH (dI _ _ _)) (λk=>if k=100 then w else k) (λk hk=>ab zO) ay ?_ ah ?_
 ·simp [ic,hw];exact hb
 ·simpa [ren,aT,aw,aA,rnL,ak,ic] using hK
def xX (nk ka ks off n cap ao n2 av:Nat) (g bx tp nr md st i:Int) (v:Value) (ns:bS):Prop :=
 v=.func (.func 167) #[] #[.pointer (some ⟨nk+1,0,none⟩),.pointer (some ⟨nk+2,0,none⟩),.pointer (some ⟨nk,0,none⟩)]/\ns=[(nk,cfB (.slice (some ⟨ka,off,none⟩) n cap) g bx tp nr md),(nk+1,bI st ks ao n2 av),(nk+2,ib i)]
theorem BW {nk ka ks off n cap ao n2 av:Nat} {g bx tp nr md st i:Int} {v:Value} {ns:bS} (h:xX nk ka ks off n cap ao n2 av g bx tp nr md st i v ns):∀ k∈ak ns,nk<=k/\k<nk+3:=by
 exact xp
theorem YF (L:bS) (ka ks:Nat) (bm bs:Blk) (hT:LKa L ka ks bm bs) (off n cap ao n2 av:Nat) (g bx tp nr md st i:Int) :
  FunS prog G1 148 #[cfV (.slice (some ⟨ka,off,none⟩) n cap) g bx tp nr md,.agg #[.int .i64 st,.slice (some ⟨ks,ao,none⟩) n2 av],.int .i64 i] (hpL G1 L) (ak L) (xX 1000 ka ks off n cap ao n2 av g bx tp nr md st i):=by
 refine iK (B:=200) G1F func148 rfl call148 hT.ok ?_ ?_ (by simp [ntmps148]) zO ?_
 ·exact dE
 ·rintro v ns ⟨rfl,rfl⟩;have ha:cJ (dom (hpL G1 L)) [(1000,cfB (.slice (some ⟨ka,off,none⟩) n cap) g bx tp nr md),(1000+1,bI st ks ao n2 av),(1000+2,ib i)] ka:=.inl hT.ia;have hb:cJ (dom (hpL G1 L)) [(1000,cfB (.slice (some ⟨ka,off,none⟩) n cap) g bx tp nr md),(1000+1,bI st ks ao n2 av),(1000+2,ib i)] ks:=.inl hT.ib;refine ⟨dD,?_,?_⟩
  ·intro p hp;simp only [al,aB,aC] at hp;rcases hp with rfl|rfl|rfl
   ·exact ⟨zO,by simp [cfB,aF,aL,aR];exact ha⟩
   ·exact ⟨zO,by simp [bI,aF,aL,aR];exact hb⟩
   ·exact ⟨zO,by simp [ib,aF,aL,aR]⟩
  ·intro k b c h1 h2;simp at h1 h2;exact Ei
 intro C hC bQ hY;have hA:=hT.a;have hS:=hT.s;have df:=hT.ne;have fq:=hT.na;have jW:=hT.low;have mY:=hT.k1;have nA:=hT.k2;unfold cfV
 repeat' first|refine cM ?_|refine K4 ?_|fail
 refine ⟨.inr trivial,I1 G1F,_,_,λk=>if k=1000 then 200 else if k=1001 then 208 else if k=1002 then 216 else k,⟨rfl,rfl⟩,λk hk=>?_,zS,zS,by simp [results148,ren,aT,aw,aA],?_⟩
 ·dsimp only;rw [ab zO,ab zO,ab zO]
 ·have h1:¬ks=1000:=zO;have h2:¬ks=1001:=zO;have h3:¬ks=1002:=zO;have ha2:=hT.a2;have g1:¬ka=1000:=zO;have g2:¬ka=1001:=zO;have g3:¬ka=1002:=zO;simp [cfB,bI,ib,Blk.rn,aw,aA,h1,h2,h3,g1,g2,g3]
def up3 (nk k:Nat):Nat:=if 1000<=k then (if k<1003 then k - 1000+nk else k) else k
theorem Ql {nk tz ka ks off n cap ao n2 av:Nat} {g bx tp nr md st i:Int} {ρ:cI} (g5:ρ ka=ka) (hk:ρ ks=ks) (h0:ρ nk=tz) (h1:ρ (nk+1)=tz+1) (h2:ρ (nk+2)=tz+2) :
  RR ρ (xX nk ka ks off n cap ao n2 av g bx tp nr md st i)=xX tz ka ks off n cap ao n2 av g bx tp nr md st i:=by
 funext v ns;apply propext;constructor
 ·rintro ⟨v0,uo,⟨rfl,rfl⟩,rfl,rfl⟩;exact ⟨by simp [ren,aT,aw,aA,h0,h1,h2],Cl⟩
 ·rintro ⟨rfl,rfl⟩;exact ⟨_,_,⟨rfl,rfl⟩,by simp [ren,aT,aw,aA,h0,h1,h2],Cl⟩
theorem Uo (nk:Nat) (mZ:200<=nk) (L:bS) (ka ks:Nat) (bm bs:Blk) (hT:LKa L ka ks bm bs) (off n cap ao n2 av:Nat) (g bx tp nr md st i:Int) :
  FunS prog G1 148 #[cfV (.slice (some ⟨ka,off,none⟩) n cap) g bx tp nr md,.agg #[.int .i64 st,.slice (some ⟨ks,ao,none⟩) n2 av],.int .i64 i] (hpL G1 L) (ak L) (xX nk ka ks off n cap ao n2 av g bx tp nr md st i):=by
 have e2:∀ j,j<3->up3 nk (1000+j)=nk+j:=λj hj=>by unfold up3;rw [ai zO,ai zO];omega
 have ba:∀ k,k<1000->up3 nk k=k:=λk hk=>by unfold up3;rw [ab zO]
 have mN:=hT.k2;have ha2:=hT.a2
 have iZ:∀ k∈ak L,up3 nk k=k:=λk hk=>by
  obtain ⟨p,hp,rfl⟩:=aI.1 hk;have:=hT.ok.big p hp;exact ba _ zO
 have TR:∀ v ns,xX 1000 ka ks off n cap ao n2 av g bx tp nr md st i v ns->∀ k∈ak ns,∃ j,j<3/\k=1000+j:=by
  intro v ns hV k hk;have:=BW hV k hk;exact ⟨k - 1000,zO,zO⟩
 refine (YF L ka ks bm bs hT off n cap ao n2 av g bx tp nr md st i).mvL (db:=hpL G1 L) (LG:=ak L) G1F hT.ok (up3 nk) (λk hk=>ba k zO) ?_ ?_ (Ql (ba _ zO) (ba _ zO) (e2 0 zO) (e2 1 zO) (e2 2 zO)) hT.ok.low ?_ ?_ (λv ns hV k hk=>?_) (λv ns hV k hk l hl e=>?_)
 ·simp [cfV,ren,aT,aw,aA,ba ka zO,ba ks zO]
 ·rw [dK iZ];simp
 ·intro p hp;have hb:=hT.ok.big p hp;rw [ba p.1 zO,Blk.fx_rn (hT.fx p hp)];exact ⟨hb.1,hT.mem p hp⟩
 ·exact wR
 ·obtain ⟨j,hj,rfl⟩:=TR v ns hV k hk;rw [e2 j hj];refine ⟨zO,λh=>?_⟩;obtain ⟨p,hp,e⟩:=aI.1 h;have:=hT.ok.big p hp;omega
 ·obtain ⟨j,hj,rfl⟩:=TR v ns hV k hk;obtain ⟨i,hi,rfl⟩:=TR v ns hV l hl;rw [e2 j hj,e2 i hi] at e;omega
theorem Up (L:bS) (ka ks:Nat) (bm bs:Blk) (hT:LKa L ka ks bm bs) (off n cap ao av:Nat) (fm fs:aS) (hm:MB bm off n fm) (cf:SB bs ao n fs) (g bx tp nr md st:Int) (ez:aV st fs n=true) (i:Nat) (hi:i<n) :
  IterK prog G1 167 #[.pointer (some ⟨208,0,none⟩),.pointer (some ⟨216,0,none⟩),.pointer (some ⟨200,0,none⟩)] (hpL G1 (otM L ka ks off n cap ao n av g bx tp nr md st i)) (ak (otM L ka ks off n cap ao n av g bx tp nr md st i)) ((tB n i).map (otV fm fs i)):=by
 have hn:=(ln ez).2.1;have:(n=1/\i=0)\/(n=2/\i=0)\/(n=2/\i=1)\/(n=3/\i=0)\/(n=3/\i=1)\/(n=3/\i=2)\/(n=4/\i=0)\/(n=4/\i=1)\/(n=4/\i=2)\/(n=4/\i=3):=zO;rcases this with ⟨rfl,rfl⟩|⟨rfl,rfl⟩|⟨rfl,rfl⟩|⟨rfl,rfl⟩|⟨rfl,rfl⟩|⟨rfl,rfl⟩|⟨rfl,rfl⟩|⟨rfl,rfl⟩|⟨rfl,rfl⟩|⟨rfl,rfl⟩
 ·exact NG L ka ks bm bs hT off cap ao av fm fs hm cf g bx tp nr md st ez
 ·exact NH L ka ks bm bs hT off cap ao av fm fs hm cf g bx tp nr md st ez
 ·exact NI L ka ks bm bs hT off cap ao av fm fs hm cf g bx tp nr md st ez
 ·exact NJ L ka ks bm bs hT off cap ao av fm fs hm cf g bx tp nr md st ez
 ·exact NK L ka ks bm bs hT off cap ao av fm fs hm cf g bx tp nr md st ez
 ·exact NL L ka ks bm bs hT off cap ao av fm fs hm cf g bx tp nr md st ez
 ·exact NM L ka ks bm bs hT off cap ao av fm fs hm cf g bx tp nr md st ez
 ·exact NN L ka ks bm bs hT off cap ao av fm fs hm cf g bx tp nr md st ez
 ·exact NO L ka ks bm bs hT off cap ao av fm fs hm cf g bx tp nr md st ez
 ·exact NP L ka ks bm bs hT off cap ao av fm fs hm cf g bx tp nr md st ez
def puL (n d g m x0 x1 x2:Int) (v:Blk):List (Nat×Blk):=[(200,ib n),(208,ib d),(216,ib g),(224,ib m),(232,vb x0 x1 x2),(256,v)]
def Bi (n d g m x0 x1 x2:Int):Hp:=hpL G1 (puL n d g m x0 x1 x2 (vb 0 0 0))
theorem Aq (n d g m x0 x1 x2:Int):rst (Bi n d g m x0 x1 x2) [200,208,216,224,232,256]=Bi n d g m x0 x1 x2:=kR G1F (by simp [puL])
theorem N3 (n d g m x0 x1 x2:Int) (D:gA) (k:Nat) (c:Blk) (h:Bi n d g m x0 x1 x2 k=some c):c.ids D:=by
 rcases cB h with h|h
 ·simp [puL] at h;rcases h with ⟨_,rfl⟩|⟨_,rfl⟩|⟨_,rfl⟩|⟨_,rfl⟩|⟨_,rfl⟩|⟨_,rfl⟩<;>simp [ib,vb]
 ·exact xT _ _ _ h
theorem Kk (n d g m x0 x1 x2:Int) (x:Nat) (hx:300<=x):Bi n d g m x0 x1 x2 x=none:=by
 simp [Bi,puL,(zO:¬x=200),(zO:¬x=208),(zO:¬x=216),(zO:¬x=224),(zO:¬x=232),(zO:¬x=256),(zO:100<=x)]
def puX (n d g m x0 x1 x2 r v0 v1 v2:Int) (i:Nat):Hp:=hpL G1 [(200,ib n),(208,ib d),(216,ib g),(224,ib m),(232,vb x0 x1 x2),(256,vb (if 0<i then v0 else 0) (if 1<i then v1 else 0) (if 2<i then v2 else 0)),(316,ib r)]
def puT:Nat->Value:=tsL [(0,.pointer (some ⟨232,0,none⟩)),(1,.pointer (some ⟨200,0,none⟩)),(2,.pointer (some ⟨208,0,none⟩)),(3,.pointer (some ⟨216,0,none⟩)),(4,.pointer (some ⟨224,0,none⟩)),(5,.pointer (some ⟨256,0,none⟩)),(6,.pointer (some ⟨316,0,none⟩))]
theorem ahY (n d g m x0 x1 x2:Int) (h0:inX x0) (h1:inX x1) (h2:inX x2) (k0:PIn n d g m x0 (x0*x0+x1*x1+x2*x2)) (k1:PIn n d g m x1 (x0*x0+x1*x1+x2*x2)) (k2:PIn n d g m x2 (x0*x0+x1*x1+x2*x2)) :
  Fun prog G1 169 [.pointer (some ⟨232,0,none⟩),.pointer (some ⟨200,0,none⟩),.pointer (some ⟨208,0,none⟩),.pointer (some ⟨216,0,none⟩),.pointer (some ⟨224,0,none⟩),.pointer (some ⟨256,0,none⟩)].toArray (Bi n d g m x0 x1 x2) [200,208,216,224,232,256]
   (.ret (.tuple #[]) [(256,vb (gp n d g m x0 (x0*x0+x1*x1+x2*x2)) (gp n d g m x1 (x0*x0+x1*x1+x2*x2)) (gp n d g m x2 (x0*x0+x1*x1+x2*x2)))]):=by
 refine pH (B:=300) G1F (λk hk=>cD (by simp [puL]) hk) func169 rfl call169 ?_ ?_ ?_ (by simp [ntmps169]) zO ?_ ?_
 ·rw [Aq];simp [Bi,puL,dom]
 ·rw [Aq];exact N3 n d g m x0 x1 x2 _
 ·refine ⟨cb zS,by simp [ak,Bi,puL,dom],λk b c e1 e2=>?_,by simp [vb]⟩;simp at e1 e2;rw [e1.2,e2.2]
 ·rw [Aq];exact Kk n d g m x0 x1 x2
 ·intro C hC bQ hY;rw [Aq] at bQ |-;generalize hr:x0*x0+x1*x1+x2*x2=r at *
  have ama:=adi x0 x1 x2 h0 h1 h2;rw [hr] at ama
  repeat' first|refine cM ?_|((first|refine gwR [1000170] ?_|refine gwD [1000170] ?_);intro Q hQ hP;(repeat first|simp [hC,hY,Bi,puL,vb,ib]|refine mB ama ?_);(first|refine cQ hQ ?_|refine hP _ _ ae λ_=>?_))|fail
  refine iW [171] ae ?_;intro Q hQ hP;simp [hC,hY];refine eX (Kj x0 x1 x2 340 zO) zS (λ_ _=>rfl) oJ ?_;simp;refine hQ _ _ _ _ ?_;clear hQ hP Q
  repeat' first|refine cM ?_|(refine g6 ?_;intro Q hQ hP;simp [hC,hY];(first|refine cQ hQ ?_|refine hP _ _ ae λ_=>?_))|fail
  refine sH (f:=189) (rs:=[340]) (xs:=pg x0 x1 x2) (bh:=#[.pointer (some ⟨340,0,none⟩)]) zS ?_ oO (by simp [ntmps169]) puT (puX n d g m x0 x1 x2 r (gp n d g m x0 r) (gp n d g m x1 r) (gp n d g m x2 r)) 400 3 oO ?_ ?_ ?_ ?_ ?_
  ·rw [hC];refine IterX.cast (IterX.rn (λk=>if k=100 then 340 else k) G1F (λk hk=>cD zS hk) (rs:=[100]) ?_ (NW x0 x1 x2)) ga zS;refine ⟨λk hk=>?_,?_,?_,?_⟩
   ·have e1:¬k=100:=zO;have e2:¬k=200:=zO;have e3:¬k=208:=zO;have e4:¬k=216:=zO;have e5:¬k=224:=zO;have e6:¬k=232:=zO;have e7:¬k=256:=zO;have e8:¬k=316:=zO;have e9:¬k=340:=zO;simp [e1,e2,e3,e4,e5,e6,e7,e8,e9,pHp]
   ·simp
   ·simp [pHp,vb,Blk.rn,aw,aA]
   ·simp
  ·refine dv _ 400 hC G1F (m0:=puL n d g m x0 x1 x2 (vb 0 0 0)) bQ zO ?_ ?_ ?_
   ·exact gb
   ·simp [aF,aL,aR,vb,ib]
   ·simp [vb,ib,puL]
  ·simp [puX,dom]
  ·intro i hi t;refine tO ?_ t;simp [aN,cp,aL,aR,dom,puX]
  ·intro i x hi hx C1 l sR vl qS;have so:=hC;have je:C1.G=G1:=sR.trans hC;replace hC:=je;replace hY:=qS;have:i=0\/i=1\/i=2:=zO;rcases this with rfl|rfl|rfl
   all_goals
    simp [pg] at hx;subst hx;unfold puX
   all_goals
    repeat' first|refine cM ?_|(refine g6 ?_;intro Q hQ hP;simp [hC,hY,bC,puT];(first|refine cQ hQ ?_|refine hP _ _ ae λ_=>?_))|fail
   all_goals
    intro C2 oY Gx oZ;replace hC:C2.G=G1:=oY.trans so;replace hY:=oZ
    repeat' first|refine cM ?_|((first|refine gwR [1000172] ?_|refine gwD [1000172] ?_);intro Q hQ hP;(repeat first|simp [hC,hY,bC,puT,vb,ib]|refine mB (Qi _ _ _ _ _ _ k0) ?_|refine mB (Qi _ _ _ _ _ _ k1) ?_|refine mB (Qi _ _ _ _ _ _ k2) ?_);(first|refine cQ hQ ?_|refine hP _ _ ae λ_=>?_))|fail
   all_goals
    refine dv [] 400 je G1F vl zO ?_ ?_ ?_
    ·simp
    ·simp [aF,aL,aR,vb,ib]
    ·simp [vb,ib]
  ·left
   refine ⟨rfl,?_⟩;unfold puX puT
   repeat' first|refine cM ?_|(refine g6 ?_;intro Q hQ hP;simp [hC,hY];(first|refine cQ hQ ?_|refine hP _ _ ae λ_=>?_))|fail
   refine ⟨.inl rfl,by simp [results169],λk hk=>?_⟩;have yZ:¬k=316:=λe=>hk (e▸Kk n d g m x0 x1 x2 316 zO);by_cases e6:k=256
   ·subst e6;simp [bW,Bi,puL]
   ·simp [bW,Bi,puL,yZ,e6]
theorem NY (n d g m x0 x1 x2:Int) (h0:inX x0) (h1:inX x1) (h2:inX x2) (k0:PIn n d g m x0 (x0*x0+x1*x1+x2*x2)) (k1:PIn n d g m x1 (x0*x0+x1*x1+x2*x2)) (k2:PIn n d g m x2 (x0*x0+x1*x1+x2*x2)):Ret prog G1 149 #[.int .i64 n,.int .i64 d,.int .i64 g,.int .i64 m,vv x0 x1 x2] (.tuple #[vv (gp n d g m x0 (x0*x0+x1*x1+x2*x2)) (gp n d g m x1 (x0*x0+x1*x1+x2*x2)) (gp n d g m x2 (x0*x0+x1*x1+x2*x2)),.int .i64 0]):=by
 refine ck G1F func149 rfl call149 (by simp [vv]) (by simp [vv]) (by simp [ntmps149]) ?_;intro C hC bQ hY
 repeat' first|refine cM ?_|((first|refine gwR [168] ?_|refine gwD [168] ?_);intro Q hQ hP;(repeat first|simp [hC,hY,vv,vb,ib]|refine eX (db:=Bi n d g m x0 x1 x2) (UE (λk hk=>cD (by simp [puL]) hk) zS rfl zS (ahY n d g m x0 x1 x2 h0 h1 h2 k0 k1 k2)) (by simp [Bi,puL,vb,ib]) (λk hk=>cD (by simp [puL]) hk) trivial ?_);(first|refine cQ hQ ?_|refine hP _ _ ae λ_=>?_))|fail
 exact eR (Gy.k2 results149 @vv.eq_1)
end Go.Gy
namespace Go.Gy
open Go Go.RowKit
section
variable {P:Program} {C:Ctx} {n:Nat} {d:List Deferred} {ro:Option Nat} {s:GS} {K:kV}
theorem GI.freeze {r:cI} {a:Act} {W:World} {k t:Nat} {cs:bV} (hk:s.hp k=some ⟨cs,.ty t⟩) (g5:100<=k) (h:GI P C n d r s a W):GI P C n d r ⟨s.ts,upd s.hp k (some ⟨cs.map (aw r),.raw t (0,0)⟩),s.B,s.yc⟩ a W:=by
 have hD:dom (upd s.hp k (some ⟨cs.map (aw r),.raw t (0,0)⟩))=dom s.hp:=by
  funext q;unfold dom;by_cases e:q=k
  ·subst e;rw [bj,hk];simp
  ·rw [aj _ _ e]
 have hkB:¬s.B<=k:=λhb=>by have:=h.free k hb;rw [hk] at this;cases this
 refine ⟨⟨h.ri.size,?_,λq b hq=>?_,?_,?_,λi hi=>?_,λq hq=>?_,λq hq hd=>?_⟩,λx hx=>?_,h.low,h.flat,h.rounds⟩
 ·show Rel r (dom (upd s.hp k _)) s.ts a;rw [hD];exact h.ri.rel
 ·show W.heap[r q]? = some (b.obj r)/\b.ids (dom (upd s.hp k _));rw [hD];by_cases e:q=k
  ·subst e;have y8:some (Blk.mk (cs.map (aw r)) (.raw t (0,0)))=some b:=(bj _ _ _).symm.trans hq;cases y8;exact ⟨(h.ri.sat q _ hk).1,eG⟩
  ·have y8:s.hp q=some b:=(aj _ _ e).symm.trans hq;exact h.ri.sat q b y8
 ·show Inj r (dom (upd s.hp k _));rw [hD];exact h.ri.inj
 ·obtain ⟨S,ms,h1,h2,h3,h4⟩:=h.ri.ext;refine ⟨S,ms,h1,h2,λi hi=>?_,h4⟩;have cv:dom (upd s.hp k (some ⟨cs.map (aw r),.raw t (0,0)⟩)) i:=hi;rw [hD] at cv;exact h3 i cv
 ·show dom (upd s.hp k _) i/\_;rw [hD];exact h.ri.keep i hi
 ·show upd s.hp k _ q=_;rw [aj _ _ zO];exact h.ri.glob q hq
 ·have tV:dom (upd s.hp k (some ⟨cs.map (aw r),.raw t (0,0)⟩)) q:=hd;rw [hD] at tV;exact h.ri.low q hq tV
 ·show upd s.hp k _ x=none;have tn:s.B<=x:=hx;rw [aj _ _ zO];exact h.free x tn
theorem SW {c:Code} (k:Nat) {t:Nat} {cs:bV} (hk:s.hp k=some ⟨cs,.ty t⟩) (g5:100<=k) (h:∀ WH:Array Value,WH.size=cs.size->(∀ (j:Nat) (v:Value),cs[j]? = some v->bP v=true->WH[j]? = some v)->GW P C n d ro c ⟨s.ts,upd s.hp k (some ⟨WH,.raw t (0,0)⟩),s.B,s.yc⟩ K):GW P C n d ro c s K:=λr a W hi =>
 h (cs.map (aw r)) zS (λj v hj hf=>by simp [hj,eU hf]) r a W (hi.freeze hk g5)
end
end Go.Gy
namespace Go.Gy
open Go Go.RowKit Go.Proofs Go.Proofs.Tryz
theorem lY {p:Prop} (h:p:=by intro q hq;obtain ⟨p,hp,rfl⟩:=aI.1 hq;have hpb:=hT.ok.big p hp;(try dsimp only);simp (disch:=omega) only [aj]):p:=h
theorem cS {p:Prop} (h:p:=by (intro k hk;first|exact jW k hk|(simp (disch:=omega) only [jW,eW,al,aB,aC,aj,aW,dm,ab,bW,bq,bw]<;>done))):p:=h
theorem Ea {p:Prop} (h:p:=by
 rw [afX (λhm=>?_)]
 ·exact yN k zO
 ·simp [GF,ak] at hm;omega):p:=h
abbrev uD := @List.getElem?_eq_getElem
abbrev tyJ := Nat -> Nat -> Int
def eb (z:Int):Blk:=⟨#[.int .i64 z],.ty 35⟩
def Kf:List (Nat×Value):=[(5,.pointer (some ⟨200,0,none⟩)),(7,.pointer (some ⟨216,0,none⟩)),(8,.pointer (some ⟨224,0,none⟩)),(10,.pointer (some ⟨232,0,none⟩)),(11,.pointer (some ⟨240,0,none⟩))]
def GF (cq:bV) (p q v0 v1 v2:Int):List (Nat×Blk):=[(200,ezB cq),(216,ib p),(224,ib q),(232,vb v0 v1 v2),(240,eb 0)]
def acM (cq:bV) (p q:Int) (F:tyJ) (l:List Nat) (j:Nat) (h:Hp):Prop:=h=hpL G1 (GF cq p q (oS (F 0) (l.take j)) (oS (F 1) (l.take j)) (oS (F 2) (l.take j)))
def tA (k:Nat):Nat:=if k=200 then 520 else if k=208 then 521 else if k=216 then 522 else k
theorem yj {k:Nat} (h:k<200):tA k=k:=by unfold tA;rw [ab zO,ab zO,ab zO]
theorem afN {D:gA} {ka off n cap:Nat} {g bx tp nr md:Int} (h:D ka):(cfB (.slice (some ⟨ka,off,none⟩) n cap) g bx tp nr md).ids D:=by simp [cfB,aF,aL,aR,h]
theorem ail {D:gA} {ks off n cap:Nat} {st:Int} (h:D ks):(bI st ks off n cap).ids D:=by simp [bI,aF,aL,aR,h]
theorem ahF {L:bS} (hL:LOk L 200):(λk=>if k∈520::521::522::ak L then none else hpL G1 L k)=hpL G1 []:=by
 funext k;simp only [dm];split
 ·rename_i hm;rcases al.1 hm with rfl|hm
  ·exact (yN _ zO).symm
  ·rcases al.1 hm with rfl|hm
   ·exact (yN _ zO).symm
   ·rcases al.1 hm with rfl|hm
    ·exact (yN _ zO).symm
    ·obtain ⟨p,hp,rfl⟩:=aI.1 hm;exact (yN _ (hL.big p hp).1).symm
 ·rename_i hm;exact afX λh=>hm (br _ (br _ (br _ h)))
theorem XZ {n d g m x0 x1 x2 r:Int} (hr:x0*x0+x1*x1+x2*x2=r) (k0:PIn n d g m x0 r) (k1:PIn n d g m x1 r) (k2:PIn n d g m x2 r) (K:iQ):cu prog G1 149 #[.int .i64 n,.int .i64 d,.int .i64 g,.int .i64 m,.agg #[.int .i64 x0,.int .i64 x1,.int .i64 x2]] K ↔
  K (.tuple #[.agg #[.int .i64 (gp n d g m x0 r),.int .i64 (gp n d g m x1 r),.int .i64 (gp n d g m x2 r)],.int .i64 0]):=by
 subst hr;exact aP G1W ae (NY n d g m x0 x1 x2 ⟨k0.x0,k0.x1⟩ ⟨k1.x0,k1.x1⟩ ⟨k2.x0,k2.x1⟩ k0 k1 k2)
theorem ahl {fs:aS} (i k:Nat):(fs (6*k) - fs (6*i))*(fs (6*k) - fs (6*i))+(fs (6*k+1) - fs (6*i+1))*(fs (6*k+1) - fs (6*i+1))+(fs (6*k+2) - fs (6*i+2))*(fs (6*k+2) - fs (6*i+2))=d2F fs k i:=rfl
theorem acg (L:bS) (ka ks:Nat) (bm bs:Blk) (hT:LKa L ka ks bm bs) (off n cap ao av:Nat) (fm fs:aS) (hm:MB bm off n fm) (cf:SB bs ao n fs) (g bx tp nr md st:Int) (hs:i64 st) (p q z:Int) (fJ:eQ n fm g bx tp nr md=true) (ez:aV st fs n=true) (hp:tZ p q=true) (i:Nat) (hi:i<n) (hiz:(i:Int)=z) (hz:kZ fs n i=false) :
  Fun prog G1 127 #[cfV (.slice (some ⟨ka,off,none⟩) n cap) g bx tp nr md,.agg #[.int .i64 st,.slice (some ⟨ks,ao,none⟩) n av],.int .i64 p,.int .i64 q,.int .i64 z] (hpL G1 L) (ak L) (.ret (.tuple #[.agg #[.int .i64 (kS p q g fm fs n i 0),.int .i64 (kS p q g fm fs n i 1),.int .i64 (kS p q g fm fs n i 2)],.int .i64 0]) []):=by
 refine qR (B:=200) G1F func127 rfl call127 hT.ok ?_ (cb zS) zS zS (by simp [ntmps127]) zO ?_
 ·exact dE
 intro C hC bQ hY;have hA:=hT.a;have hS:=hT.s;have df:=hT.ne;have fq:=hT.na;have jW:=hT.low;have mY:=hT.k1;have nA:=hT.k2;have fp:=pL L ka ks bm bs hT off n cap ao n av fm fs hm cf g bx tp nr md st hs;rw [HI.2 ⟨rfl,fJ,ez⟩] at fp;have hn4:=(ln ez).2.1;have hpr:=Uo 520 zO L ka ks bm bs hT off n cap ao n av g bx tp nr md st z;have ny:=Up L ka ks bm bs hT off n cap ao av fm fs hm cf g bx tp nr md st ez i hi;rw [hiz] at ny;obtain ⟨p1,p2,p3,p4⟩:=J9.1 hp;have c1:¬z<0:=zO;have c2:¬(n:Int)<=z:=zO;have c3:¬p < -2097152:=zO;have c4:¬2097152<p:=zO;have c5:¬q<1:=zO;have c6:¬2097152<q:=zO;unfold cfV at fp hpr |-
 repeat' first|refine cM ?_|((first|refine gwR [29] ?_|refine gwD [29] ?_);intro Q hQ _;(repeat first|simp [hC,hY,hA,hS,df,fq]|refine dG fp hT.ok ji ?_);refine cQ hQ ?_)|fail
 refine nh 0 (λ_ _=>False) rfl (λ_ _ h=>h.elim) ?_;intro _
 repeat' first|refine cM ?_|((first|refine gwR [29] ?_|refine gwD [29] ?_);intro Q hQ _;(repeat first|simp [hC,hY,hA,hS,df,fq,c1,c2,c3,c4,c5,c6]|refine dG fp hT.ok ji ?_);refine cQ hQ ?_)|fail
 refine gj ?_;refine GU (k4 hA hS df fq) ?_;refine bN (f:=.func 148) (cap:=#[]) hC hpr rfl zS rfl rfl aJ aq zS aM aq lY cS (λv ns hV k hk=>by have:=BW hV k hk;simp;omega) ?_;rintro v ns ⟨rfl,rfl⟩;refine bH ?_
 repeat' first|refine cM ?_|(refine g6 ?_;intro Q hQ _;simp [hC,hY,dk,bW,hA,hS,df,fq];refine cQ hQ ?_)|fail
 simp only [dk,bW];refine SW 200 (t:=24) (cs:=#[.slice (some ⟨ka,off,none⟩) n cap,.int .i64 g,.int .i64 bx,.int .i64 tp,.int .i64 nr,.int .i64 md]) (by simp [cfB]) zO ?_;intro cq nc RQ;have hq4:cq[1]? = some (.int .i64 g):=RQ 1 _ rfl rfl;have hq6:cq.size=6:=nc
 have are:∀ k∈ak L,tA k=k:=λk hk=>by
  obtain ⟨p,hp,rfl⟩:=aI.1 hk;exact yj (hT.ok.big p hp).2
 have alY:∀ k,200<=k->k≠520->k≠521->k≠522->(k∈520::521::522::ak L)=False:=λk h1 h2 h3 h4=>eq_false λhm=>by
  rcases al.1 hm with e|hm
  ·exact h2 e
  ·rcases al.1 hm with e|hm
   ·exact h3 e
   ·rcases al.1 hm with e|hm
    ·exact h4 e
    ·obtain ⟨p,hp,rfl⟩:=aI.1 hm;have:=(hT.ok.big p hp).2;omega
 have jK:∀ k,k∈520::521::522::ak L->k=520\/k=521\/k=522\/(100<=k/\k<200):=λk hk=>by
  rcases al.1 hk with rfl|hk
  ·exact .inl rfl
  ·rcases al.1 hk with rfl|hk
   ·exact .inr (.inl rfl)
   ·rcases al.1 hk with rfl|hk
    ·exact .inr (.inr (.inl rfl))
    ·obtain ⟨p,hp,rfl⟩:=aI.1 hk;exact .inr (.inr (.inr (hT.ok.big p hp)))
 have zU:∀ C0:Ctx,(C0.hp0=λk=>if k∈520::521::522::ak L then none else C.hp0 k)->C0.hp0=hpL G1 []:=λC0 h0=>by
  rw [h0,bQ];exact ahF hT.ok
 have hQa:ka∈520::521::522::ak L\/(ka<100/\dom C.G ka):=by
  rw [hC];exact hT.aQ.imp (λh=>br _ (br _ (br _ h))) id
 have hQs:ks∈520::521::522::ak L\/(ks<100/\dom C.G ks):=.inl (br _ (br _ (br _ hT.kbk)));refine Hg (f:=167) (rs:=520::521::522::ak L) (xs:=(tB n i).map (otV fm fs i)) (bh:=#[.pointer (some ⟨521,0,none⟩),.pointer (some ⟨522,0,none⟩),.pointer (some ⟨520,0,none⟩)]) (520::521::522::ak L) hY zS ?_ ?_ (by simp [ntmps127]) (tsL Kf) (tsL Kf) (acM cq p q (kpF p q g fm fs i) (tB n i)) (hpS:=hpL G1 (GF cq p q 0 0 0)) 1000 (tB n i).length zS (λk hk=>hk) ?_ ?_ ?_ ?_ ?_ (λ_=>.inl rfl) ?_ ?_
 ·rw [hC];refine T0 ny (pP hT off n cap ao n av g bx tp nr md st z) tA (λk hk=>yj zO) (by simp [aA,tA]) ?_ cS ?_ ?_
  ·show tA 200::tA 208::tA 216::(ak L).map tA=_;rw [dK are];simp [tA]
  ·intro p hp;rcases al.1 hp with rfl|hp
   ·have h3:tA ka=ka:=yj hT.a2;simp [cfB,Blk.rn,aw,aA,upd,h3];simp [tA,upd]
   ·rcases al.1 hp with rfl|hp
    ·have h3:tA ks=ks:=yj nA;simp [bI,Blk.rn,aw,aA,upd,h3];simp [tA,upd]
    ·rcases al.1 hp with rfl|hp
     ·simp [ib,tA,Blk.rn,aw,aA,upd]
     ·have hpb:=hT.ok.big p hp;rw [yj hpb.2,Blk.fx_rn (hT.fx p hp)];refine ⟨hpb.1,?_⟩
      (try dsimp only)
      simp (disch:=omega) only [eW,aj,aW,dm,ab,bW];exact hT.mem p hp
  ·have key:∀ k∈ak (otM L ka ks off n cap ao n av g bx tp nr md st z),(k=200/\tA k=520)\/(k=208/\tA k=521)\/(k=216/\tA k=522)\/(k<200/\tA k=k):=λk hk=>by
    rcases al.1 hk with rfl|hk
    ·exact .inl ⟨rfl,rfl⟩
    ·rcases al.1 hk with rfl|hk
     ·exact .inr (.inl ⟨rfl,rfl⟩)
     ·rcases al.1 hk with rfl|hk
      ·exact .inr (.inr (.inl ⟨rfl,rfl⟩))
      ·obtain ⟨p,hp,rfl⟩:=aI.1 hk;have:=(hT.ok.big p hp).2;exact .inr (.inr (.inr ⟨this,yj this⟩))
   intro k hk l hl e;have:=key k hk;have:=key l hl;omega
 ·intro x hx;simp only [aD] at hx;obtain ⟨p,_,rfl⟩:=hx;simp [otV]
 ·intro k hk;rcases al.1 hk with rfl|hk
  ·simp [dom,upd]
  ·rcases al.1 hk with rfl|hk
   ·simp [dom,upd]
   ·rcases al.1 hk with rfl|hk
    ·simp [dom,upd]
    ·obtain ⟨p,hp,rfl⟩:=aI.1 hk;have hpb:=hT.ok.big p hp;refine ⟨hpb.1,?_⟩;unfold dom;dsimp only;simp (disch:=omega) only [eW,aj,aW,dm,ab,bW];rw [hT.mem p hp];simp
 ·intro k hk b ju;rcases al.1 hk with rfl|hk
  ·simp [upd] at ju;subst ju;exact afN hQa
  ·rcases al.1 hk with rfl|hk
   ·simp [upd] at ju;subst ju;exact ail hQs
   ·rcases al.1 hk with rfl|hk
    ·simp [upd] at ju;subst ju;simp [ib,aF,aL,aR]
    ·obtain ⟨p,hp,rfl⟩:=aI.1 hk;have hpb:=hT.ok.big p hp;dsimp only at ju;simp (disch:=omega) only [eW,aj,aW,dm,ab,bW] at ju;rw [hT.mem p hp] at ju;simp only [bg] at ju;subst ju;exact Blk.fx_ids (hT.fx p hp) _
 ·intro C0 h1 h2;refine dv _ 1000 (h1.trans hC) G1F (m0:=[]) (zU C0 h2) zO ?_ ?_ ?_
  ·simp [Kf,GF,aN,cp,aL,aR,dom]
  ·simp [GF,Rx,vb,ib,eb,aF,aL,aR,dom,upd]
   rfl
  ·simp
 ·simp [acM,oS]
 ·intro k hk;have h3:=jK k hk;exact Ea
 ·intro j x hq0 hj0 hx hI C1 lb sR vl qS;have hj:j<(tB n i).length:=zO;unfold acM at hI;subst hI;rw [nS,uD hj] at hx;simp only [gL,bg] at hx;subst hx;have t0:=Lr (kpF p q g fm fs i 0) hj;have t1:=Lr (kpF p q g fm fs i 1) hj;have t2:=Lr (kpF p q g fm fs i 2) hj;have Bb:=uE hj;have mN:=(vq.1 Bb).1;have hz1:¬d2F fs (tB n i)[j] i=0:=acb.1 hz _ mN (vq.1 Bb).2;have abV:∀ k∈(tB n i).take j,k<n/\¬d2F fs k i=0:=λk hk=>by have:=vq.1 (lB hk);exact ⟨this.1,acb.1 hz k this.1 this.2⟩
  have hl4:((tB n i).take j).length<=4:=by rw [ql];have:=YE (i:=i) hn4.2;omega
  have u0:=R2 (u:=0) fJ ez hp hi zO abV hl4;have u1:=R2 (u:=1) fJ ez hp hi zO abV hl4;have u2:=R2 (u:=2) fJ ez hp hi zO abV hl4;unfold acM;rw [t0,t1,t2];clear t0 t1 t2 abV hl4 hj0;generalize (tB n i)[j]=k at *
  have P0:=R3 (u:=0) fJ ez hp hi mN zO hz1;have P1:=R3 (u:=1) fJ ez hp hi mN zO hz1;have P2:=R3 (u:=2) fJ ez hp hi mN zO hz1;have y0:=Ll P0;have y1:=Ll P1;have y2:=Ll P2;have P:=λK=>XZ (ahl i k) P0 P1 P2 K;have f0:kpF p q g fm fs i 0 k=gp p q g (fm k) (fs (6*k) - fs (6*i)) (d2F fs k i):=rfl;have f1:kpF p q g fm fs i 1 k=gp p q g (fm k) (fs (6*k+1) - fs (6*i+1)) (d2F fs k i):=rfl;have f2:kpF p q g fm fs i 2 k=gp p q g (fm k) (fs (6*k+2) - fs (6*i+2)) (d2F fs k i):=rfl;simp only [dZ] at y0 P;rw [f0,f1,f2];clear P0 P1 P2 f0 f1 f2;have uk:=ak3 hq4;generalize oS (kpF p q g fm fs i 0) ((tB n i).take j)=A0 at *
  generalize oS (kpF p q g fm fs i 1) ((tB n i).take j)=A1 at *
  generalize oS (kpF p q g fm fs i 2) ((tB n i).take j)=A2 at *
  generalize gp p q g (fm k) (fs (6*k) - fs (6*i)) (d2F fs k i)=a0 at *
  generalize gp p q g (fm k) (fs (6*k+1) - fs (6*i+1)) (d2F fs k i)=a1 at *
  generalize gp p q g (fm k) (fs (6*k+2) - fs (6*i+2)) (d2F fs k i)=a2 at *
  have q0:Int.bmod (A0+a0) 18446744073709551616=A0+a0:=Go.Gy.bm zO zO;have q1:Int.bmod (A1+a1) 18446744073709551616=A1+a1:=Go.Gy.bm zO zO;have q2:Int.bmod (A2+a2) 18446744073709551616=A2+a2:=Go.Gy.bm zO zO;have so:=hC;have je:C1.G=G1:=sR.trans hC;unfold otV;clear hC hY;have hC:=je;have hY:=qS;unfold GF vb ib eb ezB;refine dy (Gy.k2 @bC.eq_1 @Kf.eq_1) ?_;intro C2 oY Gx oZ;clear hC hY;have hC:C2.G=G1:=oY.trans so;have hY:=oZ
  repeat' first|refine cM ?_|((first|refine gwR [101] ?_|refine gwD [101] ?_);intro Q hQ _;(repeat first|simp [hC,hY,P,uk]|refine ach zO (by simp [vb]) q0 q1 q2 ?_);refine cQ hQ ?_)|fail
  refine ⟨λk=>k,hpL G1 (GF cq p q (A0+a0) (A1+a1) (A2+a2)),λC0 h1 h2=>pT _ _ 1000 (h1.trans so) G1F (m0:=[]) (zU C0 h2) zO ?_ ?_ ?_ ?_ ?_,rfl⟩
  ·simp [Kf,GF,dom,eY,ren,aT,aw,aA,aN,cp,aL,aR]
  ·simp [GF,af0,Rx,vb,ib,eb,Blk.rn,aw,aA,aF,aL,aR,dom]
   rfl
  ·simp [GF]
  ·intro k hk;rfl
  ·simp
 ·refine .inl ⟨zS,?_⟩;rintro hq hI
  have hI':hq=hpL G1 (GF cq p q (kS p q g fm fs n i 0) (kS p q g fm fs n i 1) (kS p q g fm fs n i 2)):=by
   rw [hI,List.take_length]
   rfl
  subst hI';refine ⟨λk hk=>?_,?_⟩
  ·have h3:=jK k hk;refine ⟨?_,zO⟩;exact Ea
  have alP:=alY 232 zO zO zO zO;have alQ:=alY 240 zO zO zO zO;unfold Kf GF vb eb;refine dy (k3 @eW.eq_1 alP alQ) ?_
  refine ⟨.inr rfl,by simp [results127,eW,alP,alQ],dH G1F (λp hp=>by
    have hpb:=hT.ok.big p hp;have hm9:p.1∈520::521::522::ak L:=br _ (br _ (br _ (aI.2 ⟨p,hp,rfl⟩)));simp (disch:=omega) only [eIn hm9,aj,aW,dm,ab,bW]) (λk hk=>by
    have hm9:k∉520::521::522::ak L:=λhm9=>by have:=jK k hm9;omega
    simp (disch:=omega) only [eNi hm9,aj,aW,dm,ab,bW,jW])⟩
end Go.Gy
namespace Go.Gy
open Go Go.RowKit Go.Proofs
theorem vn {i n:Nat} (hi:i<n) (hn:n<=4):Int.bmod ((i:Int)+1) 18446744073709551616=((i+1:Nat):Int):=by
 rw [bm zO zO]
 rfl
end Go.Gy
namespace Go.Gy
open Go Go.RowKit Go.Proofs Go.Proofs.Tryz
theorem et {p:Prop} (h:p:=by simp [Value.cells]):p:=h
theorem oG {p:Prop} (h:p:=by simp [MG]):p:=h
theorem Eo {p:Prop} (h:p:=by
 refine ⟨dD,?_,?_⟩
 ·exact xB
 ·intro k b c h1 h2;simp at h1 h2;rw [h1.2,h2.2]):p:=h
theorem xR {p:Prop} (h:p:=by
 have hf1:=λD=>Blk.fx_ids (dI (3*c1) g1 48) D;have OS:=λρ=>vi (dI (3*c1) g1 48) ρ;refine LU (s:=GS.mk _ _ _ 0) _ _ 400 hC G1F hT.ok hT.fx bQ zD ?_ ?_ ?_ ?_ ji
 ·simp [z8,dom,eY,ren,aT,aw,aA,aN,cp,aL,aR,BT,hA,hS,df,fq]
 ·simp [z8,cfB,bI,Blk.rn,aw,aA,aF,aL,aR,dom,hf1,OS,hA,hS,df,fq]
 ·simp [z8]
 ·intro x hx;(try dsimp only);rw [ab (Nat.ne_of_lt (Nat.lt_trans hx zD))]):p:=h
def KkV (i:Nat) (F:aS) (sl:Value) (nl:bS):Prop:=(i=0/\sl=.slice none 0 0/\nl=[])\/∃ (c:Nat) (g:aS),0<i/\i<=c/\(∀ j,j<3*i->g j=F j)/\sl=.slice (some ⟨224,0,none⟩) i c/\nl=[(224,⟨fa (3*c) .i64 g,.ty 48⟩)]
def z8 (ka ks off n cap ao av:Nat) (g bx tp nr md st:Int):List (Nat×Blk):=[(200,cfB (.slice (some ⟨ka,off,none⟩) n cap) g bx tp nr md),(208,bI st ks ao n av)]
def Hi (nk n:Nat) (F:aS) (v:Value) (ns:bS):Prop:=∃ (c:Nat) (g:aS),n<=c/\(∀ j,j<3*n->g j=F j)/\v=.tuple #[.slice (some ⟨nk,0,none⟩) n c,.int .i64 0]/\ns=[(nk,⟨fa (3*c) .i64 g,.ty 48⟩)]
theorem G3 {nk n:Nat} {F:aS} {v:Value} {ns:bS} (h:Hi nk n F v ns):∀ k∈ak ns,k=nk:=λk hk=>by
 obtain ⟨c,g,h1,h2,rfl,rfl⟩:=h;simpa [ak] using hk
theorem acf {D:gA} {n:Nat} {F:aS} (v:Value) (ns:bS) (h:Hi 1000 n F v ns):aN (cJ D ns) v/\(∀ p∈ns,200<=p.1/\p.2.ids (cJ D ns))/\(∀ k b c,(k,b)∈ns->(k,c)∈ns->b=c):=by
 obtain ⟨c,g,h1,h2,rfl,rfl⟩:=h;exact Eo
theorem XW {nk:Nat} {ρ:cI} (h:ρ 1000=nk) (n:Nat) (F:aS):RR ρ (Hi 1000 n F)=Hi nk n F:=by
 funext v ns;apply propext;constructor
 ·rintro ⟨v0,uo,⟨c,g,h1,h2,rfl,rfl⟩,rfl,rfl⟩;exact ⟨c,g,h1,h2,eN,lO⟩
 ·rintro ⟨c,g,h1,h2,rfl,rfl⟩;exact ⟨_,_,⟨c,g,h1,h2,rfl,rfl⟩,eN,lO⟩
theorem XU (p q g:Int) (fm fs:aS) (n i:Nat) {u:Nat} (hu:u<3):kkF p q g fm fs n (3*i+u)=kS p q g fm fs n i u:=by
 unfold kkF;rw [(zO:(3*i+u) / 3=i),(zO:(3*i+u)%3=u)]
def kkO (L:bS) (ka ks off n cap ao av:Nat) (g bx tp nr md st p q:Int) (i:Nat) (sl:Value) (nl:bS):GS :=
 ⟨tsL [(2,.int .i64 p),(3,.int .i64 q),(4,.pointer (some ⟨200,0,none⟩)),(5,.pointer (some ⟨208,0,none⟩)),(8,sl),(19,.int .i64 n),(20,.int .i64 i)],hpL G1 ((z8 ka ks off n cap ao av g bx tp nr md st++nl)++L),400,0⟩
def kkI (L:bS) (ka ks off n cap ao av:Nat) (g bx tp nr md st p q:Int) (fm fs:aS) (m:Nat) (s:GS):Prop:=∃ i sl nl,i+m=n/\KkV i (kkF p q g fm fs n) sl nl/\(∀ b,b<i->kZ fs n b=false)/\s=kkO L ka ks off n cap ao av g bx tp nr md st p q i sl nl
theorem J7 (L:bS) (ka ks:Nat) (bm bs:Blk) (hT:LKa L ka ks bm bs) (off n cap ao av:Nat) (fm fs:aS) (hm:MB bm off n fm) (cf:SB bs ao n fs) (g bx tp nr md st:Int) (hs:i64 st) (p q:Int) (fJ:eQ n fm g bx tp nr md=true) (ez:aV st fs n=true) (Jm:tZ p q=true) (tj:Li fs n=false) :
  FunS prog G1 99 #[cfV (.slice (some ⟨ka,off,none⟩) n cap) g bx tp nr md,.agg #[.int .i64 st,.slice (some ⟨ks,ao,none⟩) n av],.int .i64 p,.int .i64 q] (hpL G1 L) (ak L) (Hi 1000 n (kkF p q g fm fs n)):=by
 refine iK (B:=200) G1F func99 rfl call99 hT.ok ?_ acf (by simp [ntmps99]) zO ?_
 ·exact dE
 intro C hC bQ hY;have hA:=hT.a;have hS:=hT.s;have df:=hT.ne;have fq:=hT.na;have jW:=hT.low;have mY:=hT.k1;have nA:=hT.k2;have fp:=pL L ka ks bm bs hT off n cap ao n av fm fs hm cf g bx tp nr md st hs;have hf:pX n n (eQ n fm g bx tp nr md) (aV st fs n)=true:=HI.2 ⟨rfl,fJ,ez⟩;rw [hf] at fp;have hn4:=(ln ez).2.1;unfold cfV at fp |-
 repeat' first|refine cM ?_|((first|refine gwR [29] ?_|refine gwD [29] ?_);intro Q hQ _;(repeat first|simp [hC,hY,hA,hS,df,fq]|refine dG fp hT.ok ji ?_);refine cQ hQ ?_)|fail
 refine uw (kkI L ka ks off n cap ao av g bx tp nr md st p q fm fs) (m0:=n) (s0:=kkO L ka ks off n cap ao av g bx tp nr md st p q 0 (.slice none 0 0) []) ?_ ⟨0,_,_,zO,.inl ⟨rfl,rfl,rfl⟩,λb JT=>zO,rfl⟩ ?_
 ·refine sD _ 400 hC G1F hT.ok hT.fx bQ zO ?_ ?_ ji
  ·simp [z8,aN,cp,aL,aR,dom,hA,hS,df,fq]
  ·simp [z8,cfB,bI,aF,aL,aR,dom,hA,hS,df,fq]
 rintro m _ ⟨i,sl,nl,Vs,hV,hnz,rfl⟩;by_cases L6:m=0
 ·obtain rfl:i=n:=zO;rcases hV with ⟨h0,rfl,rfl⟩|⟨c,g0,h0,hc,hg0,rfl,rfl⟩
  ·omega
  ·unfold kkO z8 cfB bI
   repeat' first|refine cM ?_|refine K4 ?_|fail
   refine ⟨.inr trivial,I1 G1F,_,_,λk=>if k=1000 then 224 else k,⟨c,g0,hc,hg0,rfl,rfl⟩,λk hk=>ab zO,zS,zS,by simp [results99,ren,aT,aw,aA],?_⟩;simp [ic]
 ·have hi:i<n:=zO;have hi4:i<4:=zO;have cv:(i:Int)<n:=zO;have hz9:(0:Int)<=i:=Int.natCast_nonneg i;have BT:=vn hi hn4.2;have hzi:=Lj.1 tj i hi;have agT:=acg L ka ks bm bs hT off n cap ao  av fm fs hm cf g bx tp nr md st hs p q i fJ ez Jm i hi rfl hzi;unfold cfV at agT;have cm:i+1+(m - 1)=n:=zO;have agu:m - 1<m:=zO;have TU:0<i+1:=Nat.succ_pos _;have alr:(i+1)*(8*3)<=140737488355328:=zO
  have agS:∀ b,b<i+1->kZ fs n b=false:=λb JT=>by
   by_cases e:b=i
   ·rw [e];exact hzi
   ·exact hnz b zO
  rcases hV with ⟨h0,rfl,rfl⟩|⟨c,g0,h0,hc,hg0,rfl,rfl⟩
  ·subst h0;unfold kkO z8 cfB bI
   repeat' first|refine cM ?_|((first|refine gwR [127] ?_|refine gwD [127] ?_);intro Q hQ _;(repeat first|simp [hC,hY,hA,hS,df,fq,hi,cv,hz9]|refine dG agT hT.ok ji ?_);refine cQ hQ ?_)|fail
   refine gj ?_;refine GU (k4 hA hS df fq) ?_;refine Hf .i64 (m:=3) (i:=0) (j:=552) (BN:=24) (z:=.agg #[.int .i64 0,.int .i64 0,.int .i64 0]) (T2:=.ty 48) (G:=kkF p q g fm fs n) (ev:=λu=>kkF p q g fm fs n (3*0+u)) rfl zS rfl underlying58 (aZ sizeOf48) ae ae zO et et zO zO (.inl ⟨rfl,zS⟩) zS (by simp [MG,kkF]) (λu hu=>rfl) alr ?_;rintro k1 c1 g1 nz arq hc1 hg1
   obtain rfl:k1=560:=by
    rcases nz with h9|⟨c,h9⟩
    ·exact h9
    ·simp at h9
   refine n7 trivial ?_;refine bH ?_;refine dy BT ?_;refine ⟨λx=>if x=224 then 560 else x,kkO L ka ks off n cap ao av g bx tp nr md st p q (0+1) (.slice (some ⟨224,0,none⟩) (0+1) c1) [(224,⟨fa (3*c1) .i64 g1,.ty 48⟩)],m - 1,?_,⟨0+1,_,_,cm,.inr ⟨c1,g1,TU,hc1,hg1,rfl,rfl⟩,agS,rfl⟩,agu⟩;exact xR
  ·unfold kkO z8 cfB bI
   repeat' first|refine cM ?_|((first|refine gwR [127] ?_|refine gwD [127] ?_);intro Q hQ _;(repeat first|simp [hC,hY,hA,hS,df,fq,hi,cv,hz9]|refine dG agT hT.ok ji ?_);refine cQ hQ ?_)|fail
   refine gj ?_;refine GU (k4 hA hS df fq) ?_;refine Hf .i64 (m:=3) (i:=i) (j:=552) (BN:=24) (z:=.agg #[.int .i64 0,.int .i64 0,.int .i64 0]) (T2:=.ty 48) (G:=kkF p q g fm fs n) (ev:=λu=>kS p q g fm fs n i u) rfl zS rfl underlying58 (aZ sizeOf48) ae ae zO et et zO zO (.inr ⟨224,c,g0,zD,zS,zS,hc,hg0⟩) zS oG (λu hu=>(XU p q g fm fs n i hu).symm) alr ?_;rintro k1 c1 g1 nz arq hc1 hg1
   have abO:k1=560\/k1=224:=by
    rcases nz with h9|⟨c,h9⟩
    ·exact .inl h9
    ·simp at h9;exact .inr h9.1.symm
   rcases abO with rfl|rfl
   ·
    refine n7 trivial ?_;refine bH ?_;refine dy BT ?_;refine ⟨λx=>if x=224 then 560 else x,kkO L ka ks off n cap ao av g bx tp nr md st p q (i+1) (.slice (some ⟨224,0,none⟩) (i+1) c1) [(224,⟨fa (3*c1) .i64 g1,.ty 48⟩)],m - 1,?_,⟨i+1,_,_,cm,.inr ⟨c1,g1,TU,hc1,hg1,rfl,rfl⟩,agS,rfl⟩,agu⟩;exact xR
   ·
    refine n7 trivial ?_;refine bH ?_;refine dy BT ?_;refine ⟨λx=>if x=224 then 224 else x,kkO L ka ks off n cap ao av g bx tp nr md st p q (i+1) (.slice (some ⟨224,0,none⟩) (i+1) c1) [(224,⟨fa (3*c1) .i64 g1,.ty 48⟩)],m - 1,?_,⟨i+1,_,_,cm,.inr ⟨c1,g1,TU,hc1,hg1,rfl,rfl⟩,agS,rfl⟩,agu⟩;exact xR
theorem jy {p:Prop} (h:p:=by
 exact ⟨zO,zO⟩):p:=h
theorem qW {n M:Nat} {g F:aS} (hM:6*n<=M) (hg:∀ j,j<6*n->g j=F j) (hF:∀ j,j<6*n->i64 (F j)) (hn:n<=2932031007402):SB ⟨fa M .i64 g,.ty 50⟩ 0 n F :=
 ⟨λj hj=>by rw [<-hg j hj];exact zi M g _ j zO,dI _ _ _,hF,hn⟩
def gJ (f G:aS) (i:Nat) (j:Nat):Int:=if j<6*i/\3<=j%6 then f j+G (3*(j / 6)+(j%6 - 3)) else f j
theorem O7 (f G:aS):gJ f G 0=f:=by
 funext j;unfold gJ;rw [ab zO]
theorem o8 (f G:aS) (i:Nat) {u:Nat} (hu:u<3):gJ f G i (6*i+3+u)=f (6*i+3+u):=by
 unfold gJ;rw [ab zO]
theorem Wc (f G:aS) (i:Nat):O6 (gJ f G i) (6*i+3) (G (3*i)) (G (3*i+1)) (G (3*i+2))=gJ f G (i+1):=by
 funext j;have a0:gJ f G i (6*i+3)=f (6*i+3):=o8 f G i (u:=0) zO;have a1:gJ f G i (6*i+3+1)=f (6*i+3+1):=o8 f G i zO;have a2:gJ f G i (6*i+3+2)=f (6*i+3+2):=o8 f G i zO;unfold O6 Bl;rw [a0,a1,a2];by_cases h0:j=6*i+3
 ·subst h0;unfold gJ;rw [ai rfl,ai zO,show 3*((6*i+3) / 6)+((6*i+3)%6 - 3)=3*i by omega]
 ·rw [ab h0];by_cases h1:j=6*i+3+1
  ·subst h1;unfold gJ;rw [ai rfl,ai zO,show 3*((6*i+3+1) / 6)+((6*i+3+1)%6 - 3)=3*i+1 by omega]
  ·rw [ab h1];by_cases h2:j=6*i+3+2
   ·subst h2;unfold gJ;rw [ai rfl,ai zO,show 3*((6*i+3+2) / 6)+((6*i+3+2)%6 - 3)=3*i+2 by omega]
   ·rw [ab h2];unfold gJ;by_cases c:j<6*i/\3<=j%6
    ·rw [ai c,ai zO]
    ·rw [ab c,ab zO]
theorem R4 {c n:Nat} {g:aS} (hc:n<=c) {i:Nat} (hi:i<n):ft prog 48 ⟨fa (3*c) .i64 g,.ty 48⟩ (i*3)=some (.agg #[.int .i64 (g (3*i)),.int .i64 (g (3*i+1)),.int .i64 (g (3*i+2))]):=by
 have:=sY (P:=prog) (T:=48) (m:=3) (j:=3*i) (cO isAgg48) (aZ sizeOf48) zO (zi (3*c) g (.ty 48)) zO;rw [(zO:i*3=0+3*i),this,MG]
 rfl
def kpM (n c c2 M:Nat) (st:Int) (g f:aS):List (Nat×Blk):=[(100,⟨#[.slice (some ⟨102,0,none⟩) n c],.ty 58⟩),(101,bI st 103 0 n c2),(102,⟨fa (3*c) .i64 g,.ty 48⟩),(103,⟨fa M .i64 f,.ty 50⟩)]
theorem XY (n c c2 M:Nat) (st:Int) (g f:aS):LOk (kpM n c c2 M st g f) 200:=⟨by simp [kpM],by simp [kpM,ak],by
 simp only [kpM,al,aB,aC,dC,bR];exact ⟨vS,vK,Blk.fx_ids (dI _ _ _) _,Blk.fx_ids (dI _ _ _) _⟩⟩
def ahk (n c c2 M:Nat) (st:Int) (g f:aS) (i:Nat):GS :=
 ⟨tsL [(0,.pointer (some ⟨100,0,none⟩)),(1,.pointer (some ⟨101,0,none⟩)),(5,.slice (some ⟨102,0,none⟩) n c),(6,.int .i64 n),(7,.int .i64 i)],hpL G1 (kpM n c c2 M st g (gJ f g i)),400,0⟩
theorem X2 (n c c2 M:Nat) (st:Int) (hs:i64 st) (g f F:aS) (hn:1<=n/\n<=4) (hc:n<=c) (hc2:n<=c2) (hM:6*n<=M) (ju:∀ j,j<6*n->-1048576<=f j/\f j<=1048576) (mU:∀ j,j<3*n->-18014398509481984<=g j/\g j<=18014398509481984) (hF:∀ j,j<6*n->gJ f g n j=F j) :
  Fun prog G1 100 #[.pointer (some ⟨100,0,none⟩),.pointer (some ⟨101,0,none⟩)] (hpL G1 (kpM n c c2 M st g f)) (ak (kpM n c c2 M st g f)) (.ret (.bool (aV st F n)) [(103,⟨fa M .i64 (gJ f g n),.ty 50⟩)]):=by
 refine de (B:=200) G1F func100 rfl call100 (XY n c c2 M st g f) ?_ (cb zS) ?_ (λk b c h1 h2=>by simp at h1 h2;rw [h1.2,h2.2]) (by simp [ntmps100]) zO ?_
 ·simp [aN,cp,aL,aR,ak,kpM]
 ·intro p hp;simp at hp;subst hp;exact ⟨by simp [ak,kpM],Blk.fx_ids (dI _ _ _) _⟩
 intro C hC bQ hY;have iZ:=λc g D=>Blk.fx_ids (dI (3*c) g 48) D;have K9:=λf D=>Blk.fx_ids (dI M f 50) D;have abW:=λf ρ=>Blk.fx_rn (dI M f 50) ρ;unfold kpM bI at bQ |-;refine fO ?_;refine jQ n (ahk n c c2 M st g f) ?_ ?_ ?_
 ·refine dv _ 400 hC G1F (m0:=[(100,_),(101,_),(102,_),(103,_)]) bQ zO ?_ ?_ ?_
  ·simp [aN,cp,aL,aR,dom,kpM]
  ·simp [aF,aL,aR,iZ,K9,kpM,bI,O7,dom]
  ·simp [kpM,bI,O7]
 ·intro i hi;have cv:(i:Int)<n:=zO;have hi2:i<c2:=zO;have hi3:(i:Int)<c2:=zO;have hz:(0:Int)<=i:=zO;have hs:=vn hi hn.2;have uk:=R4 (g:=g) hc hi;have e0:=o8 f g i (u:=0) zO;have e1:=o8 f g i (u:=1) zO;have e2:=o8 f g i (u:=2) zO;simp only [dZ] at e0;have b0:=ju (6*i+3) zO;have b1:=ju (6*i+3+1) zO;have b2:=ju (6*i+3+2) zO;have d0:=mU (3*i) zO;have d1:=mU (3*i+1) zO;have d2:=mU (3*i+2) zO;have q0:Int.bmod (gJ f g i (6*i+3)+g (3*i)) 18446744073709551616=gJ f g i (6*i+3)+g (3*i):=by rw [e0];exact Go.Gy.bm zO zO
  have q1:Int.bmod (gJ f g i (6*i+3+1)+g (3*i+1)) 18446744073709551616=gJ f g i (6*i+3+1)+g (3*i+1):=by rw [e1];exact Go.Gy.bm zO zO
  have q2:Int.bmod (gJ f g i (6*i+3+2)+g (3*i+2)) 18446744073709551616=gJ f g i (6*i+3+2)+g (3*i+2):=by rw [e2];exact Go.Gy.bm zO zO
  have PW:=Wc f g i;have ho:i*6+3=6*i+3:=zO;have hM3:6*i+3+3<=M:=zO;unfold ahk kpM bI
  repeat' first|refine cM ?_|((first|refine gwR [101] ?_|refine gwD [101] ?_);intro Q hQ _;(repeat first|simp [hC,hY,hi,cv,hi2,hi3,hz,hs,uk]|(rw [ho];refine aci (M:=M) (f:=gJ f g i) (T:=50) zO zS hM3 q0 q1 q2 ?_));refine cQ hQ ?_)|fail
  refine dv _ 400 hC G1F (m0:=[(100,_),(101,_),(102,_),(103,_)]) bQ zO ?_ ?_ ?_
  ·exact jz
  ·simp [aF,aL,aR,iZ,K9,dom,PW]
  ·simp [PW]
 ·have I0:=(iN ⟨fa M .i64 (gJ f g n),.ty 50⟩ 0 n c2 F (qW hM hF (λj hj=>by
   rw [<-hF j hj];have b0:=ju j hj;unfold gJ;split
   ·have d0:=mU (3*(j / 6)+(j%6 - 3)) zO;exact jy
   ·exact ⟨zO,zO⟩) zO) st hs).up1 (aH (dI _ _ _))
  unfold ahk kpM bI
  repeat' first|refine cM ?_|((first|refine gwR [44] ?_|refine gwD [44] ?_);intro Q hQ _;(repeat first|simp [hC,hY]|refine az I0 G1F (B:=200) (aH (dI _ _ _)) (λk=>if k=100 then 103 else k) (λk hk=>ab zO) ay zS (by simp [abW]) ah ax ?_);refine cQ hQ ?_)|fail
  refine ⟨.inr rfl,by simp [results100],λk hk=>?_⟩;by_cases e6:k=103
  ·subst e6;simp [bW]
  ·simp [bW,e6]
theorem X1 {n c c2 M w0 w1 w2 w3:Nat} {st:Int} {g f F:aS} {hp:Hp} {nk:Nat} {K:Eff->Prop} (hs:i64 st) (hn:1<=n/\n<=4) (hc:n<=c) (hc2:n<=c2) (hM:6*n<=M) (ju:∀ j,j<6*n->-1048576<=f j/\f j<=1048576) (mU:∀ j,j<3*n->-18014398509481984<=g j/\g j<=18014398509481984) (hF:∀ j,j<6*n->gJ f g n j=F j)
  (hw:104<=w0/\104<=w1/\104<=w2/\104<=w3) (hd:w0≠w1/\w0≠w2/\w0≠w3/\w1≠w2/\w1≠w3/\w2≠w3)
  (h0:hp w0=some ⟨#[.slice (some ⟨w2,0,none⟩) n c],.ty 58⟩) (h1:hp w1=some (bI st w3 0 n c2)) (h2:hp w2=some ⟨fa (3*c) .i64 g,.ty 48⟩) (h3:hp w3=some ⟨fa M .i64 f,.ty 50⟩)
  (hK:K ((Res.ret (.bool (aV st F n)) [(w3,⟨fa M .i64 (gJ f g n),.ty 50⟩)]).eff [w0,w1,w2,w3])):pI prog G1 100 #[.pointer (some ⟨w0,0,none⟩),.pointer (some ⟨w1,0,none⟩)] hp nk K:=by
 refine ye (X2 n c c2 M st hs g f F hn hc hc2 hM ju mU hF) G1F (B:=200) (XY n c c2 M st g f) (λk=>if k=100 then w0 else if k=101 then w1 else if k=102 then w2 else if k=103 then w3 else k) (λk hk=>?_) ?_ ?_ ?_ ?_
 ·rw [ab zO,ab zO,ab zO,ab zO]
 ·exact ay
 ·intro p hp1;simp only [kpM,al,aB,aC] at hp1;rcases hp1 with rfl|rfl|rfl|rfl
  ·refine ⟨aE,?_⟩;simp [Blk.rn,aw,aA];exact h0
  ·refine ⟨aE,?_⟩;simp [bI,Blk.rn,aw,aA];exact h1
  ·refine ⟨aE,?_⟩;rw [ic];exact h2
  ·refine ⟨aE,?_⟩;rw [ic];exact h3
 ·intro k hk l hl;simp only [kpM,ak,bJ,dt,al,aB,aC] at hk hl;rcases hk with rfl|rfl|rfl|rfl<;>rcases hl with rfl|rfl|rfl|rfl<;>simp<;>omega
 ·simpa [ren,aT,aw,aA,rnL,ak,kpM,ic] using hK
theorem oC {p:Prop} (h:p:=by simp [ren,aT,aw,aA,Y4]):p:=h
theorem CI {p:Prop} (h:p:=by have hl:r1n 264 ka=ka:=ab (by have:=hT.a2;omega);have zv:r1n 264 ks=ks:=ab zO;simp [cfV,ren,aT,aw,aA,hl,zv]):p:=h
theorem kE {p:Prop} (h:p:=by simp [hS,df,bW]):p:=h
theorem Gi {p:Prop} (h:p:=by
 refine ⟨zO,λh=>?_⟩;obtain ⟨p,hp,e⟩:=aI.1 h;have:=hL.big p hp;omega):p:=h
theorem xg {p:Prop} (h:p:=by
 intro v ns hV k hk;rw [vr hV k hk];omega):p:=h
theorem Ez {p:Prop} (h:p:=by
 unfold gJ kcF;by_cases c3:j%6<3
 ·rw [ai c3,ab zO,ZV j hj]
 ·rw [ab c3,ai zO,ZV j hj,hgg _ zO,XU _ _ _ _ _ _ _ zO]):p:=h
def uy (nk:Nat) (st:Int) (n:Nat) (f:aS) (e:Int) (v:Value) (ns:bS):Prop:=∃ w,Hl nk st n f w ns/\v=.tuple #[w,.int .i64 e]
theorem vt {nk:Nat} {st:Int} {n:Nat} {f:aS} {e:Int} {v:Value} {ns:bS} (h:uy nk st n f e v ns):∀ k∈ak ns,k=nk:=by
 obtain ⟨w,h,rfl⟩:=h;exact vr h
theorem od {D:gA} {st:Int} {n:Nat} {f:aS} {e:Int} (v:Value) (ns:bS) (h:uy 1000 st n f e v ns):aN (cJ D ns) v/\(∀ p∈ns,200<=p.1/\p.2.ids (cJ D ns))/\(∀ k b c,(k,b)∈ns->(k,c)∈ns->b=c):=by
 obtain ⟨w,⟨c,M,g,h1,h2,h3,rfl,rfl⟩,rfl⟩:=h;exact Eo
theorem yk {nk:Nat} {ρ:cI} (h:ρ 1000=nk) (st:Int) (n:Nat) (f:aS) (e:Int):RR ρ (uy 1000 st n f e)=uy nk st n f e:=by
 exact FY
def r1n (nk k:Nat):Nat:=if k=1000 then nk else k
theorem FunS.nmL {fn:FuncId} {args:bV} {L:bS} {R R':AI} (h:FunS prog G1 fn args (hpL G1 L) (ak L) R) (hL:LOk L 200) (zV:∀ p∈L,p.2.fx) (nk:Nat) (mZ:200<=nk) (hR:∀ v ns,R v ns->∀ k∈ak ns,k=1000) (ea:args.map (ren (r1n nk))=args) (eR:RR (r1n nk) R=R') :
  FunS prog G1 fn args (hpL G1 L) (ak L) R':=by
 have ba:∀ k,k<1000->r1n nk k=k:=λk hk=>ab zO
 have iZ:∀ k∈ak L,r1n nk k=k:=λk hk=>by
  obtain ⟨p,hp,rfl⟩:=aI.1 hk;have:=hL.big p hp;exact ba _ zO
 have pb:r1n nk 1000=nk:=ai rfl;refine h.mvL (db:=hpL G1 L) (LG:=ak L) G1F hL (r1n nk) (λk hk=>ba k zO) ea ?_ eR hL.low ?_ ?_ (λv ns hV k hk=>?_) (λv ns hV k hk l hl e=>by rw [hR v ns hV k hk,hR v ns hV l hl])
 ·rw [dK iZ];simp
 ·intro p hp;have hb:=hL.big p hp;rw [ba p.1 zO,Blk.fx_rn (zV p hp)];exact ⟨hb.1,LOk.at hL.one p hp⟩
 ·exact wR
 ·rw [hR v ns hV k hk,pb];exact Gi
theorem tC (a nk:Nat) (ha:100<=a) (hk:100<=nk) (df:a≠nk) (b:Blk) (off n cap:Nat) (f:aS) (h:SB b off n f) (dS:n<=cap) (st:Int) :
  FunS prog G1 21 #[.agg #[.int .i64 st,.slice (some ⟨a,off,none⟩) n cap]] (hpL G1 [(a,b)]) [a] (Hl nk st n f) :=
 FunS.up1 (m:=[(a,b)]) (B:=a+1) ((Sk b off n cap f h dS st).own2 h.fx a nk ha hk df (λv ns=>vr) oC (YH BY st n f)) ⟨by simp [ha],ah,by simpa using Blk.fx_ids h.fx _⟩
theorem T4 {st:Int} {fs:aS} {n:Nat} (h:aV st fs n=true) {j:Nat} (hj:j<6*n):-1048576<=fs j/\fs j<=1048576:=by
 obtain ⟨⟨⟨_,a0,a0'⟩,⟨_,a1,a1'⟩,⟨_,a2,a2'⟩⟩,⟨_,b0,b0'⟩,⟨_,b1,b1'⟩,⟨_,b2,b2'⟩⟩:=ja h (i:=j / 6) zO;have:j%6=0\/j%6=1\/j%6=2\/j%6=3\/j%6=4\/j%6=5:=zO;rcases this with c|c|c|c|c|c
 ·rw [(zO:j=6*(j / 6))];exact ⟨zO,zO⟩
 ·rw [(zO:j=6*(j / 6)+1)];exact ⟨zO,zO⟩
 ·rw [(zO:j=6*(j / 6)+2)];exact ⟨zO,zO⟩
 ·rw [(zO:j=6*(j / 6)+3)];exact ⟨zO,zO⟩
 ·rw [(zO:j=6*(j / 6)+4)];exact ⟨zO,zO⟩
 ·rw [(zO:j=6*(j / 6)+5)];exact ⟨zO,zO⟩
theorem ace (L:bS) (ka ks:Nat) (bm bs:Blk) (hT:LKa L ka ks bm bs) (off n cap ao av:Nat) (fm fs:aS) (hm:MB bm off n fm) (cf:SB bs ao n fs) (dp:n<=av) (g bx tp nr md st:Int) (hs:i64 st) (p q:Int) (fJ:eQ n fm g bx tp nr md=true) (ez:aV st fs n=true) (Jm:tZ p q=true) (tj:Li fs n=false) (hF:aV st (kcF p q g fm fs n) n=true) :
  FunS prog G1 69 #[cfV (.slice (some ⟨ka,off,none⟩) n cap) g bx tp nr md,.agg #[.int .i64 st,.slice (some ⟨ks,ao,none⟩) n av],.int .i64 p,.int .i64 q] (hpL G1 L) (ak L) (uy 1000 st n (kcF p q g fm fs n) 0):=by
 refine iK (B:=200) G1F func69 rfl call69 hT.ok ?_ od (by simp [ntmps69]) zO ?_
 ·exact dE
 intro C hC bQ hY;have hA:=hT.a;have hS:=hT.s;have df:=hT.ne;have fq:=hT.na;have jW:=hT.low;have mY:=hT.k1;have nA:=hT.k2;have hn4:=(ln ez).2.1;have hk:=(J7 L ka ks bm bs hT off n cap ao av fm fs hm cf g bx tp nr md st hs p q fJ ez Jm tj).nmL hT.ok hT.fx 264 zO (λv ns=>G3) CI (XW (ρ:=r1n 264) (nk:=264) rfl n (kkF p q g fm fs n));unfold cfV at hk |-
 repeat' first|refine cM ?_|refine K4 ?_|fail
 refine gj ?_;refine gl4 (k4 hA hS df fq) ?_;refine bN (f:=.func 99) (cap:=#[]) hC hk rfl zS rfl rfl aJ aq zS aM aq lY cS ?_ ?_
 ·intro v ns hV k hk;rw [G3 hV k hk];omega
 rintro v ns ⟨c,gg,hc,hgg,rfl,rfl⟩;refine PI trivial ?_;refine bH ?_
 repeat' first|refine cM ?_|(refine g6 ?_;intro Q hQ _;simp [hC,hY,dk,bW,hA,hS,df,fq];refine cQ hQ ?_)|fail
 have WJ:=tC ks 328 zO zO zO bs ao n av fs cf dp st;refine gj ?_;refine n7 (k4 hA hS df fq) ?_;refine bN (f:=.func 21) (cap:=#[]) hC WJ rfl zS rfl rfl aJ aq zS aM aq kE cS ?_ ?_
 ·exact xg
 rintro v ns ⟨Tm,aaz,K2,adW,adX,ZV,rfl,rfl⟩;refine zP trivial ?_;refine bH ?_;have ju:∀ j,j<6*n->-1048576<=K2 j/\K2 j<=1048576:=λj hj=>by rw [ZV j hj];exact T4 ez hj
 have mU:∀ j,j<3*n->-18014398509481984<=gg j/\gg j<=18014398509481984:=λj hj=>by
  rw [hgg j hj];exact aeT fJ ez Jm zO zO (Lj.1 tj _ zO)
 have Z5:∀ j,j<6*n->gJ K2 gg n j=kcF p q g fm fs n j:=λj hj=>by
  exact Ez
 repeat' first|refine cM ?_|((first|refine gwR [100] ?_|refine gwD [100] ?_);intro Q hQ _;(repeat first|simp [hC,hY,hA,hS,df,fq,hF]|refine X1 (w0:=296) (w1:=336) (w2:=264) (w3:=328) (n:=n) (c:=c) (c2:=Tm) (M:=aaz) (st:=st) (g:=gg) (f:=K2) (F:=kcF p q g fm fs n) hs hn4 hc adW adX ju mU Z5 zO zO zS (by simp [bI]) zS zS ?_);refine cQ hQ ?_)|fail
 refine ⟨.inr trivial,I1 G1F,_,_,λk=>if k=1000 then 328 else k,⟨_,⟨Tm,aaz,_,adW,adX,Z5,rfl,rfl⟩,rfl⟩,λk hk=>ab zO,zS,zS,by simp [results69,ren,aT,aw,aA,bW],?_⟩;simp [ic,bW]
theorem T6 (L:bS) (ka ks:Nat) (bm bs:Blk) (hT:LKa L ka ks bm bs) (off n cap ao av:Nat) (fm fs:aS) (hm:MB bm off n fm) (cf:SB bs ao n fs) (dp:n<=av) (g bx tp nr md st:Int) (hs:i64 st) (p q:Int) (fJ:eQ n fm g bx tp nr md=true) (ez:aV st fs n=true) (Jm:tZ p q=true) (tj:Li fs n=false) (hF:aV st (kcF p q g fm fs n) n=false) :
  FunS prog G1 69 #[cfV (.slice (some ⟨ka,off,none⟩) n cap) g bx tp nr md,.agg #[.int .i64 st,.slice (some ⟨ks,ao,none⟩) n av],.int .i64 p,.int .i64 q] (hpL G1 L) (ak L) (uy 1000 st n (fs) 20):=by
 refine iK (B:=200) G1F func69 rfl call69 hT.ok ?_ od (by simp [ntmps69]) zO ?_
 ·exact dE
 intro C hC bQ hY;have hA:=hT.a;have hS:=hT.s;have df:=hT.ne;have fq:=hT.na;have jW:=hT.low;have mY:=hT.k1;have nA:=hT.k2;have hn4:=(ln ez).2.1;have hk:=(J7 L ka ks bm bs hT off n cap ao av fm fs hm cf g bx tp nr md st hs p q fJ ez Jm tj).nmL hT.ok hT.fx 264 zO (λv ns=>G3) CI (XW (ρ:=r1n 264) (nk:=264) rfl n (kkF p q g fm fs n));unfold cfV at hk |-
 repeat' first|refine cM ?_|refine K4 ?_|fail
 refine gj ?_;refine gl4 (k4 hA hS df fq) ?_;refine bN (f:=.func 99) (cap:=#[]) hC hk rfl zS rfl rfl aJ aq zS aM aq lY cS ?_ ?_
 ·intro v ns hV k hk;rw [G3 hV k hk];omega
 rintro v ns ⟨c,gg,hc,hgg,rfl,rfl⟩;refine PI trivial ?_;refine bH ?_
 repeat' first|refine cM ?_|(refine g6 ?_;intro Q hQ _;simp [hC,hY,dk,bW,hA,hS,df,fq];refine cQ hQ ?_)|fail
 have WJ:=tC ks 328 zO zO zO bs ao n av fs cf dp st;refine gj ?_;refine n7 (k4 hA hS df fq) ?_;refine bN (f:=.func 21) (cap:=#[]) hC WJ rfl zS rfl rfl aJ aq zS aM aq kE cS ?_ ?_
 ·exact xg
 rintro v ns ⟨Tm,aaz,K2,adW,adX,ZV,rfl,rfl⟩;refine zP trivial ?_;refine bH ?_;have ju:∀ j,j<6*n->-1048576<=K2 j/\K2 j<=1048576:=λj hj=>by rw [ZV j hj];exact T4 ez hj
 have mU:∀ j,j<3*n->-18014398509481984<=gg j/\gg j<=18014398509481984:=λj hj=>by
  rw [hgg j hj];exact aeT fJ ez Jm zO zO (Lj.1 tj _ zO)
 have Z5:∀ j,j<6*n->gJ K2 gg n j=kcF p q g fm fs n j:=λj hj=>by
  exact Ez
 repeat' first|refine cM ?_|((first|refine gwR [100] ?_|refine gwD [100] ?_);intro Q hQ _;(repeat first|simp [hC,hY,hA,hS,df,fq,hF]|refine X1 (w0:=296) (w1:=336) (w2:=264) (w3:=328) (n:=n) (c:=c) (c2:=Tm) (M:=aaz) (st:=st) (g:=gg) (f:=K2) (F:=kcF p q g fm fs n) hs hn4 hc adW adX ju mU Z5 zO zO zS (by simp [bI]) zS zS ?_);refine cQ hQ ?_)|fail
 have akV:=tC ks 432 zO zO zO bs ao n av fs cf dp st;refine gj ?_;refine n7 (k4 hA hS df fq) ?_;refine bN (f:=.func 21) (cap:=#[]) hC akV rfl zS rfl rfl aJ aq zS aM aq kE cS ?_ ?_
 ·exact xg
 rintro v ns ⟨aaX,apX,aqn,asP,asQ,asS,rfl,rfl⟩;refine zP trivial ?_;refine bH ?_
 repeat' first|refine cM ?_|refine K4 ?_|fail
 refine ⟨.inr trivial,I1 G1F,_,_,λk=>if k=1000 then 432 else k,⟨_,⟨aaX,apX,aqn,asP,asQ,asS,rfl,rfl⟩,rfl⟩,λk hk=>ab zO,zS,zS,by simp [results69,ren,aT,aw,aA,bW],?_⟩;simp [ic,bW]
def Eq6 (n:Nat) (f h:aS):Prop:=∀ j,j<6*n->f j=h j
theorem Eq6.rfl' {n:Nat} {f:aS}:Eq6 n f f:=λ_ _=>rfl
theorem Eq6.symm {n:Nat} {f h:aS} (e:Eq6 n f h):Eq6 n h f:=λj hj=>(e j hj).symm
theorem Eq6.trans {n:Nat} {f h l:aS} (e:Eq6 n f h) (e2:Eq6 n h l):Eq6 n f l:=λj hj=>(e j hj).trans (e2 j hj)
def opF (k p q g:Int) (fm:aS) (n:Nat) (fs:aS) (j:Nat):Int :=
 if k=1 then (if j%6<3 then fs j+eo (fs (j+3)*p) q else fs j)
 else if k=2 then kcF p q g fm fs n j
 else if j%6<3 then fs j else fs j+eo (fs (j - 3)*p) q
def dn3 (f:aS) (j:Nat):Int:=f (j - 3)
theorem AY (f:aS) (i u:Nat):dn3 f (6*i+3+u)=f (6*i+u):=by
 unfold dn3;rw [(zO:6*i+3+u - 3=6*i+u)]
theorem aea (f:aS) (i:Nat):dn3 f (6*i+3)=f (6*i):=AY f i 0
theorem aeb (f:aS) (i:Nat):dn3 f (6*i+4)=f (6*i+1):=AY f i 1
theorem aec (f:aS) (i:Nat):dn3 f (6*i+5)=f (6*i+2):=AY f i 2
theorem afU (f:aS) (i:Nat):dn3 f (6*i+3+1)=f (6*i+1):=AY f i 1
theorem afV (f:aS) (i:Nat):dn3 f (6*i+3+2)=f (6*i+2):=AY f i 2
theorem akX (f:aS):dn3 f 3=f 0/\dn3 f 4=f 1/\dn3 f 5=f 2:=⟨rfl,rfl,rfl⟩
def lfF (f:aS) (p q:Int) (j:Nat):Int:=if j%6<3 then f j else f j+eo (f (j - 3)*p) q
theorem adF {st:Int} {f:aS} {n:Nat} {p q:Int} (c0:aV st f n=true) (c1:iL p q=true) {i u:Nat} (hi:i<n) (hu:u<3):AB (dn3 f) p q (3*i+u)=eo (f (6*i+u)*p) q/\(-2251799813685248<=eo (f (6*i+u)*p) q/\eo (f (6*i+u)*p) q<=2251799813685248):=by
 obtain ⟨⟨x0,y0,z0⟩,⟨x1,y1,z1⟩,x2,y2,z2⟩:=(ja c0 hi).1
 have hd:∀ v,-1048576<=v->v<=1048576->d1E v p q=0/\d1V v p q=eo (v*p) q/\(-2251799813685248<=eo (v*p) q/\eo (v*p) q<=2251799813685248):=λv h1 h2=>by
  unfold d1E d1V;rw [ai ⟨c1,zO,zO⟩,ai ⟨c1,zO,zO⟩];exact ⟨rfl,rfl,(ad8 c1 zO zO).2⟩
 have h0:=hd _ y0 z0;have h1:=hd _ y1 z1;have h2:=hd _ y2 z2
 have e:dwE (dn3 f) p q i=0:=by
  unfold dwE;rw [show dn3 f (6*i+3)=f (6*i) from aea f i,show dn3 f (6*i+4)=f (6*i+1) from aeb f i,show dn3 f (6*i+5)=f (6*i+2) from aec f i,ZR h0.1 h1.1];exact h2.1
 unfold AB dwV;rw [(zO:(3*i+u) / 3=i),(zO:(3*i+u)%3=u),e,eaV,ai rfl,AY];obtain rfl|rfl|rfl:u=0\/u=1\/u=2:=zO
 ·exact h0.2
 ·exact h1.2
 ·exact h2.2
def opB (k p q:Int):Bool:=decide (1<=k/\k<4/\-2097152<=p/\p<=2097152/\1<=q/\q<=2097152)
theorem WG (n lo hi:Int):Ret prog G0 45 #[.int .i64 n,.int .i64 lo,.int .i64 hi] (.bool (decide (lo<=n/\n<=hi))):=by
 refine ck G0F func45 rfl call45 rfl zS (by simp [ntmps45]) ?_;intro C hC bQ hY;by_cases c0:lo<=n
 ·by_cases c1:n<=hi
  ·rw [bZ ⟨c0,c1⟩]
   (repeat' (first|refine cM ?_|(refine g6 ?_;intro Q hQ _;simp [hC,hY,c0,c1];refine cQ hQ ?_)|refine gwC ?_ ?_<;>intro hb))
   exact eR results45
  ·rw [aX zO]
   (repeat' (first|refine cM ?_|(refine g6 ?_;intro Q hQ _;simp [hC,hY,c0,c1];refine cQ hQ ?_)|refine gwC ?_ ?_<;>intro hb))
   exact eR results45
 ·rw [aX zO]
  (repeat' (first|refine cM ?_|(refine g6 ?_;intro Q hQ _;simp [hC,hY,c0];refine cQ hQ ?_)|refine gwC ?_ ?_<;>intro hb))
  exact eR results45
@[simp] theorem avc (n lo hi:Int) (K:iQ):cu prog G0 45 #[.int .i64 n,.int .i64 lo,.int .i64 hi] K↔K (.bool (decide (lo<=n/\n<=hi))):=aP G0W ae (WG n lo hi)
theorem vd (k p q:Int) (hk:0<=k/\k<256):Ret prog G0 30 #[.agg #[.int .u8 k,.int .i64 p,.int .i64 q]] (.bool (opB k p q)):=by
 refine ck G0F func30 rfl call30 zS zS (by simp [ntmps30]) ?_;intro C hC bQ hY;have hb:Int.bmod k 18446744073709551616=k:=Go.Gy.bm zO zO;unfold opB;by_cases c0:1<=k/\k<=3
 ·by_cases c1:-2097152<=p/\p<=2097152
  ·by_cases c2:1<=q/\q<=2097152
   ·rw [bZ zO];refine dy (k4 hb c0 c1 c2) ?_;exact eR results30
   ·rw [aX zO];have c2':(decide (1<=q)&&decide (q<=2097152))=false:=aE;refine dy (k5 hb c0 c1 c2 c2') ?_;exact eR results30
  ·rw [aX zO];have c1':(decide (-2097152<=p)&&decide (p<=2097152))=false:=aE;refine dy (k4 hb c0 c1 c1') ?_;exact eR results30
 ·rw [aX zO];have c0':(decide (1<=k)&&decide (k<=3))=false:=aE;refine dy (k3 hb c0 c0') ?_;exact eR results30
theorem fZ {p:Prop} (h:p:=by simp [ic]):p:=h
theorem CS {p:Prop} (h:p:=by simp [MG,dwV,dwE,aea,aeb,aec,afU,afV,akX]):p:=h
theorem vW {p:Prop} (h:p:=by simp [ren,aT,aw,aA,Nz]):p:=h
theorem vN {p:Prop} (h:p:=by simp [ak,Nz]):p:=h
theorem jA {p:Prop} (h:p:=by
 intro k hk;simp;omega):p:=h
theorem rZ {p:Prop} (h:p:=by
 rcases g8 with g8|⟨c,g8⟩
 ·exact g8
 ·simp at g8):p:=h
theorem xi {p:Prop} (h:p:=by
 refine pT (s:=GS.mk _ _ _ 0) _ _ 300 hC G0F (m0:=[(100,b)]) bQ zO ?_ ?_ ?_ ?_ ?_
 ·simp [dom,eY,ren,aT,aw,aA,aN,cp,aL,aR,hs]
 ·have IW:=λD=>Blk.fx_ids (dI (3*c') g' 48) D;have hfm:=λρ=>vi (dI (3*c') g' 48) ρ;have Vq:=λρ=>Blk.fx_rn h.fx ρ;simp [ic,qY,Vq,aF,aL,aR,dom,IW,iZ];simp [bI,aF,aL,aR,dom]
 ·simp
 ·exact jA
 ·simp [dom]):p:=h
theorem r9 {p:Prop} (h:p:=by
 rcases g8 with g8|⟨c,g8⟩
 ·exact .inl g8
 ·simp at g8;exact .inr g8.1.symm):p:=h
def LN (b:Blk) (st:Int) (off n cap:Nat) (p q:Int) (i:Nat) (sl:Value) (ns:bS):GS :=
 ⟨tsL [(1,.int .i64 p),(2,.int .i64 q),(3,.pointer (some ⟨200,0,none⟩)),(6,sl),(22,.slice (some ⟨100,off,none⟩) n cap),(23,.int .i64 n),(24,.int .i64 i)],hpL G0 ((200,bI st 100 off n cap)::(100,b)::ns),300,0⟩
def tlI (b:Blk) (st:Int) (off n cap:Nat) (p q:Int) (G:aS) (m:Nat) (s:GS):Prop:=∃ i sl ns,i+m=n/\aaG 208 i G sl ns/\s=LN b st off n cap p q i sl ns
theorem QS (b:Blk) (off n cap:Nat) (f:aS) (h:SB b off n f) (st p q:Int) (hs:i64 st) (hp:i64 p) (hq:i64 q) (c0:aV st f n=true) (c1:iL p q=true) :
  FunS prog G0 70 #[.agg #[.int .i64 st,.slice (some ⟨100,off,none⟩) n cap],.int .i64 p,.int .i64 q] (hpL G0 [(100,b)]) (ak [(100,b)]) (Mj 1000 n (AB (dn3 f) p q) true):=by
 refine dJ (B:=200) G0F func70 rfl call70 (aH h.fx) ?_ (Vb zO) (by simp [ntmps70]) zO ?_
 ·exact bG
 intro C hC bQ hY;have hr:=λρ=>Blk.fx_rn h.fx ρ;have iZ:=λD=>Blk.fx_ids h.fx D;have Vx:=h.nn
 repeat' first|refine cM ?_|((first|refine gwR [44] ?_|refine gwD [44] ?_);intro Q hQ _;(repeat first|simp [hC,hY,hp,c0,c1]|refine az (iN b off n cap f h st hs) G0F (B:=200) (aH h.fx) (λk=>k) (λk hk=>rfl) ay zS cj ah ax ?_);refine cQ hQ ?_)|fail
 refine uw (tlI b st off n cap p q (AB (dn3 f) p q)) (m0:=n) (s0:=LN b st off n cap p q 0 (.slice none 0 0) []) ?_ ⟨0,_,_,zO,.inl ⟨rfl,rfl,rfl⟩,rfl⟩ ?_
 ·refine dv _ 300 hC G0F (m0:=[(100,b)]) bQ zO ?_ ?_ ?_
  ·exact gb
  ·simp [aF,aL,aR,bI,iZ,dom]
  ·simp
 rintro m _ ⟨i,sl,ns,Vs,hV,rfl⟩;by_cases hm:m=0
 ·obtain rfl:i=n:=zO;rcases hV with ⟨rfl,rfl,rfl⟩|⟨c,g,jM,HT,hg,rfl,rfl⟩
  ·unfold LN bI;refine fO ?_;refine ⟨.inr trivial,G4 G0F,_,_,λk=>k,⟨_,.inl ⟨zS,rfl,rfl⟩,rfl⟩,λ_ _=>rfl,zS,zS,by simp [results70,ren,aT,aw,aA],zS⟩
  ·unfold LN bI;refine fO ?_;refine ⟨.inr trivial,G4 G0F,_,_,λk=>if k=1000 then 208 else k,⟨_,.inr ⟨c,g,by simpa using jM,by simpa using HT,by simpa using hg,lV,rfl⟩,rfl⟩,λk hk=>ab zO,zS,zS,by simp [results70,ren,aT,aw,aA],fZ⟩
 ·have dR:i<n:=zO;have cv:(i:Int)<n:=zO;have hz:(0:Int)<=i:=zO;have hs:Int.bmod ((i:Int)+1) 18446744073709551616=((i+1:Nat):Int):=fE;have hl:=h.body dR;have i3:=h.i dR 0 zO;have i4:=h.i dR 1 zO;have i5:=h.i dR 2 zO;simp only [dZ] at i3;rcases hV with ⟨rfl,rfl,rfl⟩|⟨c,g,jM,HT,hg,rfl,rfl⟩
  ·simp only [Nat.zero_mul,au,dZ,ar] at hl i3 i4 i5;unfold LN bI;refine dy (k10 dR cv hz hs hl i3 i4 i5 hp hq) ?_;refine gj ?_;refine GU trivial ?_;refine xV (m:=3) (i:=0) (j:=444) (BN:=24) (z:=.agg #[.int .i64 0,.int .i64 0,.int .i64 0]) (T2:=.ty 48) (G:=AB (dn3 f) p q) (ev:=λu=>dwV (dn3 f) p q 0 u) rfl zS rfl underlying58 (aZ sizeOf48) ae ae zO et et zO zO (.inl ⟨rfl,zS⟩) zS CS (λu hu=>?_) zO ?_
   ·unfold AB;rw [(zO:(3*0+u) / 3=0),(zO:(3*0+u)%3=u)]
   ·rintro k' c' g' g8 vm yz OQ
    obtain rfl:k'=452:=by
     exact rZ
    refine n7 trivial ?_;refine bH ?_;refine dy hs ?_;refine ⟨λk=>if k=208 then 452 else k,LN b st off n cap p q (0+1) (.slice (some ⟨208,0,none⟩) (0+1) c') [(208,⟨fa (3*c') .i64 g',.ty 48⟩)],n - (0+1),?_,⟨0+1,_,_,zO,.inr ⟨c',g',zO,yz,OQ,rfl,rfl⟩,rfl⟩,zO⟩;exact xi
  ·unfold LN bI;refine dy (k10 dR cv hz hs hl i3 i4 i5 hp hq) ?_;refine gj ?_;refine GU trivial ?_;refine xV (m:=3) (i:=i) (j:=444) (BN:=24) (z:=.agg #[.int .i64 0,.int .i64 0,.int .i64 0]) (T2:=.ty 48) (G:=AB (dn3 f) p q) (ev:=λu=>dwV (dn3 f) p q i u) rfl zS rfl underlying58 (aZ sizeOf48) ae ae zO et et zO zO (.inr ⟨208,c,g,zO,zS,zS,HT,hg⟩) zS CS (λu hu=>?_) zO ?_
   ·unfold AB;rw [(zO:(3*i+u) / 3=i),(zO:(3*i+u)%3=u)]
   ·rintro k' c' g' g8 vm yz OQ
    have g8:k'=452\/k'=208:=by
     exact r9
    rcases g8 with rfl|rfl
    ·
     refine n7 trivial ?_;refine bH ?_;refine dy hs ?_;refine ⟨λk=>if k=208 then 452 else k,LN b st off n cap p q (i+1) (.slice (some ⟨208,0,none⟩) (i+1) c') [(208,⟨fa (3*c') .i64 g',.ty 48⟩)],n - (i+1),?_,⟨i+1,_,_,zO,.inr ⟨c',g',zO,yz,OQ,rfl,rfl⟩,rfl⟩,zO⟩;exact xi
    ·
     refine n7 trivial ?_;refine bH ?_;refine dy hs ?_;refine ⟨λk=>if k=208 then 208 else k,LN b st off n cap p q (i+1) (.slice (some ⟨208,0,none⟩) (i+1) c') [(208,⟨fa (3*c') .i64 g',.ty 48⟩)],n - (i+1),?_,⟨i+1,_,_,zO,.inr ⟨c',g',zO,yz,OQ,rfl,rfl⟩,rfl⟩,zO⟩;exact xi


theorem aid {M:Nat} {F:aS} {o o':Nat} {v:Int} (h:o'=o) (hM:o<M):(fa M .i64 F).setIfInBounds o' (.int .i64 v)=fa M .i64 (upd F o v):=by
 subst h;apply iB;intro q;rw [fU];by_cases e:o'=q
 ·subst e;rw [ai rfl,ai (by simpa using hM),lr _ _ _ _ hM];simp [upd]
 ·rw [ab e];by_cases hq:q<M
  ·rw [lr _ _ _ _ hq,lr _ _ _ _ hq,aj _ _ (lL e)]
  ·rw [gN (by simpa using hq),gN (by simpa using hq)]
theorem ZB (F:aS) (o:Nat) (x0 x1 x2:Int):upd (upd (upd F o x0) (o+1) x1) (o+2) x2=Bl F o x0 x1 x2:=by
 funext q;unfold upd Bl;by_cases e0:q=o
 ·subst e0;simp
 ·by_cases e1:q=o+1
  ·subst e1;simp
  ·by_cases e2:q=o+2
   ·subst e2;simp
   ·simp [e0,e1,e2]
theorem ah8 {M:Nat} {F:aS} {i o u:Nat} (ho:o=6*i+3+u) (hM:6*i+3+u<M):ft prog 3 ⟨fa M .i64 F,.ty 50⟩ o=some (.int .i64 (F (6*i+3+u))):=by
 subst ho;simp [sZ,lb3,hM,lr,pj]
def aiq (b:Blk) (st:Int) (off n cap c M cl:Nat) (g gl:aS) (i:Nat):GS :=
 ⟨tsL [(3,.pointer (some ⟨200,0,none⟩)),(6,.pointer (some ⟨208,0,none⟩)),(8,.slice (some ⟨272,0,none⟩) n cl),(26,.slice (some ⟨272,0,none⟩) n cl),(27,.int .i64 n),(28,.int .i64 i)],
 hpL G0 [(100,b),(200,bI st 100 off n cap),(208,bI st 232 0 n c),(272,⟨fa (3*cl) .i64 gl,.ty 48⟩),(232,⟨fa M .i64 (gJ g gl i),.ty 50⟩)],400,0⟩
theorem U4 (b:Blk) (off n cap:Nat) (f:aS) (h:SB b off n f) (dS:n<=cap) (st p q:Int) (hs:i64 st) (hp:i64 p) (hq:i64 q) (c0:aV st f n=true) (c1:iL p q=true) :
  FunS prog G0 49 #[.agg #[.int .i64 st,.slice (some ⟨100,off,none⟩) n cap],.int .i64 p,.int .i64 q] (hpL G0 [(100,b)]) (ak [(100,b)]) (λv ns=>uy 1000 st n (if aV st (lfF f p q) n=true then lfF f p q else f) (if aV st (lfF f p q) n=true then 0 else 20) v ns):=by
 refine dJ (B:=200) G0F func49 rfl call49 (aH h.fx) ?_ od (by simp [ntmps49]) zO ?_
 ·exact bG
 intro C hC bQ hY;have hr:=λρ=>Blk.fx_rn h.fx ρ;have iZ:=λD=>Blk.fx_ids h.fx D;have Vx:=h.nn;obtain ⟨_,⟨n1,n4⟩,_⟩:=ln c0
 have dW:FunS prog G0 70 #[.agg #[.int .i64 st,.slice (some ⟨100,off,none⟩) n cap],.int .i64 p,.int .i64 q] (hpL G0 [(100,b)]) [100] (Mj 272 n (AB (dn3 f) p q) true):=by
  refine (QS b off n cap f h st p q hs hp hq c0 c1).mvL G0F (aH h.fx) (nn2 100 272) Lq vW vN (ZG Ag) (KP zO) (by simp [Nz,hr]) ah (λv ns hV k hk=>?_) (λv ns hV k hk l hl _=>?_)
  ·obtain ⟨w,hV,rfl⟩:=hV;rw [AA hV k hk,Ag];simp
  ·obtain ⟨w,hV,rfl⟩:=hV;rw [AA hV k hk,AA hV l hl]
 refine fO ?_;refine gj ?_;refine n7 trivial ?_;refine bN (f:=.func 21) (cap:=#[]) hC (Ly 232 zO b off n cap f h dS st) rfl zS rfl rfl aJ aq zS aM aq zS bn ?_ ?_
 ·rintro v ns ⟨c3,M3,g3,k1,k2,k3,rfl,rfl⟩;simp [ak]
 rintro v ns ⟨c3,M3,g3,k1,k2,k3,rfl,rfl⟩;refine n7 trivial ?_;refine bH ?_;refine fO ?_;refine gj ?_;refine GU trivial ?_;refine bN (f:=.func 70) (cap:=#[]) hC dW rfl zS rfl rfl aJ aq zS aM aq zS bn ?_ ?_
 ·rintro v ns ⟨w,hV,rfl⟩ k hk;rw [AA hV k hk];omega
 rintro v ns ⟨w,hV,rfl⟩;rcases hV with ⟨h1,_⟩|⟨cd,gd,kd0,kd1,kd2,rfl,rfl⟩
 ·simp at h1;omega
 simp only [aU] at kd0 kd1 kd2;refine Z2 trivial ?_;refine bH ?_;refine fO ?_
 have hg:∀ i u,i<n->u<3->gd (3*i+u)=eo (f (6*i+u)*p) q/\(-2251799813685248<=gd (3*i+u)/\gd (3*i+u)<=2251799813685248):=λi u hi hu=>by
  have:=adF c0 c1 hi hu;rw [kd2 _ zO,this.1];exact ⟨rfl,this.2⟩
 have ju:∀ j,j<6*n->-1048576<=g3 j/\g3 j<=1048576:=λj hj=>by rw [k3 j hj];exact T4 c0 hj
 have Z5:∀ j,j<6*n->gJ g3 gd n j=lfF f p q j:=λj hj=>by
  unfold gJ lfF;by_cases c3:j%6<3
  ·rw [ai c3,ab zO,k3 j hj]
  ·rw [ab c3,ai zO,k3 j hj,(hg (j / 6) (j%6 - 3) zO zO).1,(zO:6*(j / 6)+(j%6 - 3)=j - 3)]
 have aqy:∀ j,j<6*n->i64 (lfF f p q j):=λj hj=>by
  rw [<-Z5 j hj];have b0:=ju j hj;unfold gJ;split
  ·have d0:=(hg (j / 6) (j%6 - 3) zO zO).2;exact jy
  ·exact jy
 have K9:=λf D=>Blk.fx_ids (dI M3 f 50) D;have abW:=λf ρ=>Blk.fx_rn (dI M3 f 50) ρ;have alG:=λD=>Blk.fx_ids (dI (3*cd) gd 48) D;refine jQ n (aiq b st off n cap c3 M3 cd g3 gd) ?_ ?_ ?_
 ·refine dv _ 400 hC G0F (m0:=[(100,b)]) bQ zO ?_ ?_ ?_
  ·exact gb
  ·simp [bI,aF,aL,aR,iZ,K9,alG,dom,O7]
  ·simp
 ·intro i dR;have cv:(i:Int)<n:=zO;have hi3:i<c3:=zO;have hi4:(i:Int)<c3:=zO;have hz:(0:Int)<=i:=zO;have hs:=vn dR n4;have b0:=ju (6*i+3) zO;have b1:=ju (6*i+4) zO;have b2:=ju (6*i+5) zO;have d0:=(hg i 0 dR zO).2;have d1:=(hg i 1 dR zO).2;have d2:=(hg i 2 dR zO).2;rw [dZ] at d0;have e0:gJ g3 gd i (6*i+3)=g3 (6*i+3):=o8 g3 gd i (u:=0) zO;have e1:gJ g3 gd i (6*i+4)=g3 (6*i+4):=o8 g3 gd i (u:=1) zO;have e2:gJ g3 gd i (6*i+5)=g3 (6*i+5):=o8 g3 gd i (u:=2) zO;have PW:=Wc g3 gd i;have es:O6 (gJ g3 gd i) (6*i+3) (gd (3*i)) (gd (3*i+1)) (gd (3*i+2))=Bl (gJ g3 gd i) (6*i+3) (gJ g3 gd i (6*i+3)+gd (3*i)) (gJ g3 gd i (6*i+4)+gd (3*i+1)) (gJ g3 gd i (6*i+5)+gd (3*i+2)):=rfl;rw [es] at PW;have l0:∀ F:Nat->Int,ft prog 3 ⟨fa M3 .i64 F,.ty 50⟩ (i*6+3)=some (.int .i64 (F (6*i+3))):=λF=>ah8 (u:=0) zO zO;have l1:∀ F:Nat->Int,ft prog 3 ⟨fa M3 .i64 F,.ty 50⟩ (i*6+3+1)=some (.int .i64 (F (6*i+4))):=λF=>ah8 (u:=1) zO zO;have l2:∀ F:Nat->Int,ft prog 3 ⟨fa M3 .i64 F,.ty 50⟩ (i*6+3+2)=some (.int .i64 (F (6*i+5))):=λF=>ah8 (u:=2) zO zO;have s0:∀ (F:aS) v,(fa M3 .i64 F).setIfInBounds (i*6+3) (.int .i64 v)=fa M3 .i64 (upd F (6*i+3) v):=λF v=>aid zO zO;have s1:∀ (F:aS) v,(fa M3 .i64 F).setIfInBounds (i*6+3+1) (.int .i64 v)=fa M3 .i64 (upd F (6*i+3+1) v):=λF v=>aid zO zO;have s2:∀ (F:aS) v,(fa M3 .i64 F).setIfInBounds (i*6+3+2) (.int .i64 v)=fa M3 .i64 (upd F (6*i+3+2) v):=λF v=>aid zO zO;have u1:∀ (F:aS) v,upd F (6*i+3) v (6*i+4)=F (6*i+4):=λF v=>aj _ _ zO;have u2:∀ (F:aS) v,upd F (6*i+3) v (6*i+5)=F (6*i+5):=λF v=>aj _ _ zO;have u3:∀ (F:aS) v,upd F (6*i+3+1) v (6*i+5)=F (6*i+5):=λF v=>aj _ _ zO;have u4:=λx0 x1 x2=>ZB (gJ g3 gd i) (6*i+3) x0 x1 x2;have m0:i*6+3+1<=M3:=zO;have m1:i*6+3+1+1<=M3:=zO;have m2:i*6+3+2+1<=M3:=zO;have v0:=R4 (g:=gd) kd1 dR;have q0:Int.bmod (gJ g3 gd i (6*i+3)+gd (3*i)) 18446744073709551616=gJ g3 gd i (6*i+3)+gd (3*i):=by rw [e0];exact Go.Gy.bm zO zO
  have q1:Int.bmod (gJ g3 gd i (6*i+4)+gd (3*i+1)) 18446744073709551616=gJ g3 gd i (6*i+4)+gd (3*i+1):=by rw [e1];exact Go.Gy.bm zO zO
  have q2:Int.bmod (gJ g3 gd i (6*i+5)+gd (3*i+2)) 18446744073709551616=gJ g3 gd i (6*i+5)+gd (3*i+2):=by rw [e2];exact Go.Gy.bm zO zO
  clear e0 e1 e2 es b0 b1 b2 d0 d1 d2;unfold aiq bI;refine vj (k23 dR cv hi3 hi4 hz hs l0 l1 l2 s0 s1 s2 u1 u2 u3 u4 m0 m1 m2 v0 q0 q1 q2) ?_;refine dv _ 400 hC G0F (m0:=[(100,b)]) bQ zO ?_ ?_ ?_
  ·exact jz
  ·simp [bI,aF,aL,aR,iZ,dom,K9,alG,u4,PW]
  ·simp
 ·have I0:=iN ⟨fa M3 .i64 (gJ g3 gd n),.ty 50⟩ 0 n c3 (lfF f p q) (qW k2 Z5 aqy zO) st hs;unfold aiq bI
  cases cR:aV st (lfF f p q) n with
  | true =>
   rw [cR] at I0
   repeat' first|refine cM ?_|((first|refine gwR [44] ?_|refine gwD [44] ?_);intro Q hQ _;(repeat first|simp [hC,hY]|refine az I0 G0F (B:=200) (aH (dI _ _ _)) (λk=>if k=100 then 232 else k) (λk hk=>ab zO) ay zS (by simp [abW]) ah ax ?_);refine cQ hQ ?_)|fail
   refine ⟨.inr trivial,G4 G0F,_,_,λk=>if k=1000 then 232 else k,⟨_,⟨c3,M3,_,k1,k2,λj hj=>(Z5 j hj).trans zS,rfl,rfl⟩,rfl⟩,λk hk=>ab zO,zS,zS,?_,?_⟩
   ·simp [results49,ren,aT,aw,aA]
   ·exact fZ
  | false =>
   rw [cR] at I0
   repeat' first|refine cM ?_|((first|refine gwR [44] ?_|refine gwD [44] ?_);intro Q hQ _;(repeat first|simp [hC,hY]|refine az I0 G0F (B:=200) (aH (dI _ _ _)) (λk=>if k=100 then 232 else k) (λk hk=>ab zO) ay zS (by simp [abW]) ah ax ?_);refine cQ hQ ?_)|fail
   refine gj ?_;refine n7 trivial ?_;refine bN (f:=.func 21) (cap:=#[]) hC (Ly 440 zO b off n cap f h dS st) rfl zS rfl rfl aJ aq zS aM aq zS bn ?_ ?_
   ·rintro v ns ⟨c4,M4,g4,l1,l2,l3,rfl,rfl⟩;simp [ak]
   rintro v ns ⟨c4,M4,g4,l1,l2,l3,rfl,rfl⟩;refine zP trivial ?_;refine bH ?_;refine fO ?_;refine ⟨.inr trivial,G4 G0F,_,_,λk=>if k=1000 then 440 else k,⟨_,⟨c4,M4,g4,l1,l2,λj hj=>(l3 j hj).trans zS,rfl,rfl⟩,rfl⟩,λk hk=>ab zO,zS,zS,?_,?_⟩
   ·simp [results49,ren,aT,aw,aA]
   ·exact fZ
theorem rY {p:Prop} (h:p:=by simp [prL,ak]):p:=h
theorem oM {p:Prop} (h:p:=by simp [ntmps146]):p:=h
theorem oR {p:Prop} (h:p:=by
 simp [aN,cp,aL,aR,prL,ak]):p:=h
theorem jB {p:Prop} (h:p:=by
 refine ⟨?_,?_,?_,λk hk=>?_⟩
 ·simp
 ·simp [results146]
 ·first|trivial|omega|(simp;done)|(simp;omega)
 ·have hk:=cA k hk
  first|rfl|(simp (disch:=omega) only [aj]<;>rfl)):p:=h
abbrev Pr:=Int×Int×Int
def sqF (f:aS) (i j:Nat):Int:=f2V (f (6*i)) (f (6*i+1)) (f (6*i+2)) (f (6*j)) (f (6*j+1)) (f (6*j+2))
def Ap (f:aS) (i j:Nat):Pr:=((i:Int),(j:Int),sqF f i j)
def vx (f:aS):Nat->List Pr
 | 2=>[Ap f 0 1]
 | 3=>[Ap f 0 1,Ap f 0 2,Ap f 1 2]
 | 4=>[Ap f 0 1,Ap f 0 2,Ap f 0 3,Ap f 1 2,Ap f 1 3,Ap f 2 3]
 | _=>[]
def prs (st:Int) (f:aS) (n:Nat):List Pr:=if aV st f n=true then vx f n else []
def prV (p:Pr):Value:=.agg #[.int .i64 p.1,.int .i64 p.2.1,.int .i64 p.2.2]
def vw (l:List Pr):List (Array Value):=l.map λp=>#[prV p]
theorem NZ (l:List Pr):(vw l).length=l.length:=by simp [vw]
theorem ahV {st:Int} {f:aS} {n:Nat} (h:aV st f n=true):n=1\/n=2\/n=3\/n=4:=by
 have:=(ln h).2.1;omega
theorem SB.bodyAt {b:Blk} {off n:Nat} {f:aS} (h:SB b off n f) (i:Nat) (hi:i<n) (o:Nat) (e:o=off+i*6):ft prog 50 b o=some (.agg #[.int .i64 (f (6*i)),.int .i64 (f (6*i+1)),.int .i64 (f (6*i+2)),.int .i64 (f (6*i+3)),.int .i64 (f (6*i+4)),.int .i64 (f (6*i+5))]):=by rw [e];exact h.body hi
def Hm (nk:Nat) (st:Int) (off n cap:Nat) (v:Value) (ns:bS):Prop:=v=.func (.func 146) #[] #[.pointer (some ⟨nk,0,none⟩)]/\ns=[(nk,bI st 100 off n cap)]
theorem Ur (b:Blk) (off n cap:Nat) (hb:b.fx) (st:Int) :
  FunS prog G0 125 #[.agg #[.int .i64 st,.slice (some ⟨100,off,none⟩) n cap]] (hpL G0 [(100,b)]) (ak [(100,b)]) (Hm 1000 st off n cap):=by
 refine dJ (B:=200) G0F func125 rfl call125 (aH hb) ?_ ?_ (by simp [ntmps125]) zO ?_
 ·exact bG
 ·rintro v ns ⟨rfl,rfl⟩;refine ⟨dD,by simp [bI,aF,aL,aR,cJ,ak],?_⟩;exact mw
 intro C hC bQ hY;refine fO ?_;refine ⟨.inr trivial,G4 G0F,_,_,λk=>if k=1000 then 200 else k,⟨rfl,rfl⟩,λk hk=>ab zO,zS,zS,by simp [results125,ren,aT,aw,aA],?_⟩;simp [bI,Blk.rn,aw,aA]
def prL (b:Blk) (st:Int) (off n cap:Nat):List (Nat×Blk):=[(100,bI st 108 off n cap),(108,b)]
theorem tF {b:Blk} (hb:b.fx) (st:Int) (off n cap:Nat):LOk (prL b st off n cap) 200:=⟨by simp [prL],rY,by
 simp only [prL,al,aB,aC,dC,bR];exact ⟨vK,Blk.fx_ids hb _⟩⟩
theorem Us (b:Blk) (off n cap:Nat) (f:aS) (h:SB b off n f) (dS:n<=cap) (st:Int) (hs:i64 st) (c0:aV st f n=false) :
  IterK prog G0 146 #[.pointer (some ⟨100,0,none⟩)] (hpL G0 (prL b st off n cap)) (ak (prL b st off n cap)) (vw []):=by
 have hL:=tF h.fx st off n cap;have cA:∀ k,dom (hpL G0 (prL b st off n cap)) k->k<200:=λk hk=>aO λh1=>hk (hL.free G0F zO k zO);refine jO (B:=200) (v:=.tuple #[]) G0F func146 rfl call146 hL ?_ oM zO ?_
 ·exact oR
 intro C l stop hC bQ hY;have hr:=λρ=>Blk.fx_rn h.fx ρ;have yy:vw []=[]:=rfl;rw [yy] at hY |-;unfold prL bI
 repeat' first|refine cH ?_|refine dc ?_|refine cM ?_|((first|refine gwR [44] ?_|refine gwD [44] ?_);intro Q hQ _;(repeat first|simp [hC,hY,c0]|refine az (iN b off n cap f h st hs) G0F (B:=200) (aH h.fx) (λk=>if k=100 then 108 else k) (λk hk=>ab zO) ay zS cj ah ax ?_);refine cQ hQ ?_)|fail
 exact jB
theorem Ut (b:Blk) (off cap:Nat) (f:aS) (h:SB b off 1 f) (dS:1<=cap) (st:Int) (hs:i64 st) (c0:aV st f 1=true) :
  IterK prog G0 146 #[.pointer (some ⟨100,0,none⟩)] (hpL G0 (prL b st off 1 cap)) (ak (prL b st off 1 cap)) (vw (vx f 1)):=by
 have hL:=tF h.fx st off 1 cap;have cA:∀ k,dom (hpL G0 (prL b st off 1 cap)) k->k<200:=λk hk=>aO λh1=>hk (hL.free G0F zO k zO);refine jO (B:=200) (v:=.tuple #[]) G0F func146 rfl call146 hL ?_ oM zO ?_
 ·exact oR
 intro C l stop hC bQ hY;have hr:=λρ=>Blk.fx_rn h.fx ρ;have yy:vw (vx f 1)=[]:=rfl;rw [yy] at hY |-;have b0:=h.bodyAt 0 zO (off) zO;simp only [Nat.reduceMul,Nat.reduceAdd,au,ar] at b0;unfold prL bI
 repeat' first|refine cH ?_|refine dc ?_|refine cM ?_|((first|refine gwR [44] ?_|refine gwD [44] ?_);intro Q hQ _;(repeat first|simp [hC,hY,c0,b0]|refine az (iN b off 1 cap f h st hs) G0F (B:=200) (aH h.fx) (λk=>if k=100 then 108 else k) (λk hk=>ab zO) ay zS cj ah ax ?_);refine cQ hQ ?_)|fail
 exact jB
theorem Uu (b:Blk) (off cap:Nat) (f:aS) (h:SB b off 2 f) (dS:2<=cap) (st:Int) (hs:i64 st) (c0:aV st f 2=true) :
  IterK prog G0 146 #[.pointer (some ⟨100,0,none⟩)] (hpL G0 (prL b st off 2 cap)) (ak (prL b st off 2 cap)) (vw (vx f 2)):=by
 have hL:=tF h.fx st off 2 cap;have cA:∀ k,dom (hpL G0 (prL b st off 2 cap)) k->k<200:=λk hk=>aO λh1=>hk (hL.free G0F zO k zO);refine jO (B:=200) (v:=.tuple #[]) G0F func146 rfl call146 hL ?_ oM zO ?_
 ·exact oR
 intro C l stop hC bQ hY;have hr:=λρ=>Blk.fx_rn h.fx ρ;have yy:vw (vx f 2)=[#[.agg #[.int .i64 0,.int .i64 1,.int .i64 (f2V (f 0) (f 1) (f 2) (f 6) (f 7) (f 8))]]]:=rfl;rw [yy] at hY |-;have k1:¬cap=1:=zO;have b0:=h.bodyAt 0 zO (off) zO;simp only [Nat.reduceMul,Nat.reduceAdd,au,ar] at b0;have b1:=h.bodyAt 1 zO (off+6) zO;simp only [Nat.reduceMul,Nat.reduceAdd,au,ar] at b1;unfold prL bI;by_cases tc:1<=stop
 ·have q0:(0 != stop)=true:=by simp;omega
  repeat' first|refine cH ?_|refine dc ?_|refine cM ?_|((first|refine gwR [44] ?_|refine gwD [44] ?_);intro Q hQ _;(repeat first|simp [hC,hY,c0,k1,b0,b1,q0,tc]|refine az (iN b off 2 cap f h st hs) G0F (B:=200) (aH h.fx) (λk=>if k=100 then 108 else k) (λk hk=>ab zO) ay zS cj ah ax ?_);refine cQ hQ ?_)|fail
  exact jB
 ·have:stop=0:=zO;rcases this with rfl
  all_goals
   repeat' first|refine cH ?_|refine dc ?_|refine cM ?_|((first|refine gwR [44] ?_|refine gwD [44] ?_);intro Q hQ _;(repeat first|simp [hC,hY,c0,k1,b0,b1]|refine az (iN b off 2 cap f h st hs) G0F (B:=200) (aH h.fx) (λk=>if k=100 then 108 else k) (λk hk=>ab zO) ay zS cj ah ax ?_);refine cQ hQ ?_)|fail
  all_goals
   exact jB
theorem Uv (b:Blk) (off cap:Nat) (f:aS) (h:SB b off 3 f) (dS:3<=cap) (st:Int) (hs:i64 st) (c0:aV st f 3=true) :
  IterK prog G0 146 #[.pointer (some ⟨100,0,none⟩)] (hpL G0 (prL b st off 3 cap)) (ak (prL b st off 3 cap)) (vw (vx f 3)):=by
 have hL:=tF h.fx st off 3 cap;have cA:∀ k,dom (hpL G0 (prL b st off 3 cap)) k->k<200:=λk hk=>aO λh1=>hk (hL.free G0F zO k zO);refine jO (B:=200) (v:=.tuple #[]) G0F func146 rfl call146 hL ?_ oM zO ?_
 ·exact oR
 intro C l stop hC bQ hY;have hr:=λρ=>Blk.fx_rn h.fx ρ;have yy:vw (vx f 3)=[#[.agg #[.int .i64 0,.int .i64 1,.int .i64 (f2V (f 0) (f 1) (f 2) (f 6) (f 7) (f 8))]],#[.agg #[.int .i64 0,.int .i64 2,.int .i64 (f2V (f 0) (f 1) (f 2) (f 12) (f 13) (f 14))]],#[.agg #[.int .i64 1,.int .i64 2,.int .i64 (f2V (f 6) (f 7) (f 8) (f 12) (f 13) (f 14))]]]:=rfl;rw [yy] at hY |-;have k1:¬cap=1:=zO;have k2:¬cap=2:=zO;have b0:=h.bodyAt 0 zO (off) zO;simp only [Nat.reduceMul,Nat.reduceAdd,au,ar] at b0;have b1:=h.bodyAt 1 zO (off+6) zO;simp only [Nat.reduceMul,Nat.reduceAdd,au,ar] at b1;have b2:=h.bodyAt 2 zO (off+12) zO;simp only [Nat.reduceMul,Nat.reduceAdd,au,ar] at b2;have b3:=h.bodyAt 2 zO (off+6+6) zO;simp only [Nat.reduceMul,Nat.reduceAdd,au,ar] at b3;unfold prL bI;by_cases tc:3<=stop
 ·have q0:(0 != stop)=true:=by simp;omega
  have q1:(1 != stop)=true:=aE;have l1:1<=stop:=zO;have q2:(2 != stop)=true:=aE;have l2:2<=stop:=zO
  repeat' first|refine cH ?_|refine dc ?_|refine cM ?_|((first|refine gwR [44] ?_|refine gwD [44] ?_);intro Q hQ _;(repeat first|simp [hC,hY,c0,k1,k2,b0,b1,b2,b3,q0,q1,l1,q2,l2,tc]|refine az (iN b off 3 cap f h st hs) G0F (B:=200) (aH h.fx) (λk=>if k=100 then 108 else k) (λk hk=>ab zO) ay zS cj ah ax ?_);refine cQ hQ ?_)|fail
  exact jB
 ·have:stop=0\/stop=1\/stop=2:=zO;rcases this with rfl|rfl|rfl
  all_goals
   repeat' first|refine cH ?_|refine dc ?_|refine cM ?_|((first|refine gwR [44] ?_|refine gwD [44] ?_);intro Q hQ _;(repeat first|simp [hC,hY,c0,k1,k2,b0,b1,b2,b3]|refine az (iN b off 3 cap f h st hs) G0F (B:=200) (aH h.fx) (λk=>if k=100 then 108 else k) (λk hk=>ab zO) ay zS cj ah ax ?_);refine cQ hQ ?_)|fail
  all_goals
   exact jB
theorem Uw (b:Blk) (off cap:Nat) (f:aS) (h:SB b off 4 f) (dS:4<=cap) (st:Int) (hs:i64 st) (c0:aV st f 4=true) :
  IterK prog G0 146 #[.pointer (some ⟨100,0,none⟩)] (hpL G0 (prL b st off 4 cap)) (ak (prL b st off 4 cap)) (vw (vx f 4)):=by
 have hL:=tF h.fx st off 4 cap;have cA:∀ k,dom (hpL G0 (prL b st off 4 cap)) k->k<200:=λk hk=>aO λh1=>hk (hL.free G0F zO k zO);refine jO (B:=200) (v:=.tuple #[]) G0F func146 rfl call146 hL ?_ oM zO ?_
 ·exact oR
 intro C l stop hC bQ hY;have hr:=λρ=>Blk.fx_rn h.fx ρ;have yy:vw (vx f 4)=[#[.agg #[.int .i64 0,.int .i64 1,.int .i64 (f2V (f 0) (f 1) (f 2) (f 6) (f 7) (f 8))]],#[.agg #[.int .i64 0,.int .i64 2,.int .i64 (f2V (f 0) (f 1) (f 2) (f 12) (f 13) (f 14))]],#[.agg #[.int .i64 0,.int .i64 3,.int .i64 (f2V (f 0) (f 1) (f 2) (f 18) (f 19) (f 20))]],#[.agg #[.int .i64 1,.int .i64 2,.int .i64 (f2V (f 6) (f 7) (f 8) (f 12) (f 13) (f 14))]],#[.agg #[.int .i64 1,.int .i64 3,.int .i64 (f2V (f 6) (f 7) (f 8) (f 18) (f 19) (f 20))]],#[.agg #[.int .i64 2,.int .i64 3,.int .i64 (f2V (f 12) (f 13) (f 14) (f 18) (f 19) (f 20))]]]:=rfl;rw [yy] at hY |-;have k1:¬cap=1:=zO;have k2:¬cap=2:=zO;have k3:¬cap=3:=zO;have b0:=h.bodyAt 0 zO (off) zO;simp only [Nat.reduceMul,Nat.reduceAdd,au,ar] at b0;have b1:=h.bodyAt 1 zO (off+6) zO;simp only [Nat.reduceMul,Nat.reduceAdd,au,ar] at b1;have b2:=h.bodyAt 2 zO (off+12) zO;simp only [Nat.reduceMul,Nat.reduceAdd,au,ar] at b2;have b3:=h.bodyAt 3 zO (off+18) zO;simp only [Nat.reduceMul,Nat.reduceAdd,au,ar] at b3;have b4:=h.bodyAt 2 zO (off+6+6) zO;simp only [Nat.reduceMul,Nat.reduceAdd,au,ar] at b4;have b5:=h.bodyAt 3 zO (off+6+12) zO;simp only [Nat.reduceMul,Nat.reduceAdd,au,ar] at b5;have b6:=h.bodyAt 3 zO (off+12+6) zO;simp only [Nat.reduceMul,Nat.reduceAdd,au,ar] at b6;unfold prL bI;by_cases tc:6<=stop
 ·have q0:(0 != stop)=true:=by simp;omega
  have q1:(1 != stop)=true:=aE;have l1:1<=stop:=zO;have q2:(2 != stop)=true:=aE;have l2:2<=stop:=zO;have q3:(3 != stop)=true:=aE;have l3:3<=stop:=zO;have q4:(4 != stop)=true:=aE;have l4:4<=stop:=zO;have q5:(5 != stop)=true:=aE;have l5:5<=stop:=zO
  repeat' first|refine cH ?_|refine dc ?_|refine cM ?_|((first|refine gwR [44] ?_|refine gwD [44] ?_);intro Q hQ _;(repeat first|simp [hC,hY,c0,k1,k2,k3,b0,b1,b2,b3,b4,b5,b6,q0,q1,l1,q2,l2,q3,l3,q4,l4,q5,l5,tc]|refine az (iN b off 4 cap f h st hs) G0F (B:=200) (aH h.fx) (λk=>if k=100 then 108 else k) (λk hk=>ab zO) ay zS cj ah ax ?_);refine cQ hQ ?_)|fail
  exact jB
 ·have:stop=0\/stop=1\/stop=2\/stop=3\/stop=4\/stop=5:=zO;rcases this with rfl|rfl|rfl|rfl|rfl|rfl
  all_goals
   repeat' first|refine cH ?_|refine dc ?_|refine cM ?_|((first|refine gwR [44] ?_|refine gwD [44] ?_);intro Q hQ _;(repeat first|simp [hC,hY,c0,k1,k2,k3,b0,b1,b2,b3,b4,b5,b6]|refine az (iN b off 4 cap f h st hs) G0F (B:=200) (aH h.fx) (λk=>if k=100 then 108 else k) (λk hk=>ab zO) ay zS cj ah ax ?_);refine cQ hQ ?_)|fail
  all_goals
   exact jB
theorem YO (b:Blk) (off n cap:Nat) (f:aS) (h:SB b off n f) (dS:n<=cap) (st:Int) (hs:i64 st) :
  IterK prog G0 146 #[.pointer (some ⟨100,0,none⟩)] (hpL G0 (prL b st off n cap)) (ak (prL b st off n cap)) (vw (prs st f n)):=by
 unfold prs
 cases c0:aV st f n with
 | false =>
  rw [ab zS];exact Us b off n cap f h dS st hs c0
 | true =>
  rw [ai rfl];rcases ahV c0 with rfl|rfl|rfl|rfl
  ·exact Ut b off cap f h dS st hs c0
  ·exact Uu b off cap f h dS st hs c0
  ·exact Uv b off cap f h dS st hs c0
  ·exact Uw b off cap f h dS st hs c0
end Go.Gy
