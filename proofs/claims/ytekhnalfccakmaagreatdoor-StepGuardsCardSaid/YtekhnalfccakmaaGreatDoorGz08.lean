/-
  Lemmas of this claim, in their order (GyYU, GyYV, GyYW, GyYX, GyYY, GyYZ, GyYJ, GyYK, GyYL, GyZA, GyZB, GyZC, GyZD, GyZE, GyZF, GyZG, GyFA, GyPC, GyFJ, GyU9, GyUA, GyUG, GyUI, GyRD, GyRE, GyRG, GyUJ, GyGP, GyZH, GyGI, GyGJ, GyGK, GyGL).
  Conditions: those of each theorem.
-/
import Derived.Test.YtekhnalfccakmaaGreatDoorGz07
set_option linter.unusedSimpArgs false
set_option linter.unusedVariables false
set_option maxRecDepth 8000
set_option maxHeartbeats 32000000
namespace Go.Gy
open Go Go.RowKit Go.Proofs
section
variable (g bx tp nr:Int) (fm:aS) (n:Nat) (st:Int) (k p q:aS) (fs:aS)
def stF:Nat->Nat->Int
 | 0=>fs
 | c+1=>opN g bx tp nr fm n st (stF c) (k c) (p c) (q c)
def stE (c:Nat):Int:=opE g bx tp nr fm n st (stF g bx tp nr fm n st k p q fs c) (k c) (p c) (q c)
end
structure StM (E:aS) (m M:Nat):Prop where
 le:M<=m
 ok:∀ c,c+1<M->E c=0
 fin:M=m\/(0<M/\¬E (M - 1)=0)
theorem Um {g bx tp nr:Int} {fm:aS} {n:Nat} {st:Int} {fs:aS} {k p q:Int} (zr:bx<=1048576) (BV:tp<=65536) (h:aV st fs n=true):aV st (opN g bx tp nr fm n st fs k p q) n=true:=by
 unfold opN;split
 ·rename_i hE;refine s8 h (sJ zr BV ?_);unfold opE at hE;split at hE
  ·split at hE
   ·split at hE
    ·omega
    ·split at hE
     ·assumption
     ·omega
   ·omega
  ·omega
 ·exact h
theorem pC {g bx tp nr:Int} {fm:aS} {n:Nat} {st:Int} {fs:aS} {k p q:aS} (zr:bx<=1048576) (BV:tp<=65536) (h:aV st fs n=true):∀ c,aV st (stF g bx tp nr fm n st k p q fs c) n=true
 | 0=>h
 | c+1=>Um zr BV (pC zr BV h c)
theorem LI {n M:Nat} {g F:aS} (hM:6*n<=M) (hg:∀ j,j<6*n->g j=F j) (hF:∀ j,j<6*n->i64 (F j)) (hn:n<=2932031007402):SB ⟨fa M .i64 g,.raw 50 (0,0)⟩ 0 n F :=
 ⟨λj hj=>by rw [<-hg j hj];exact zi M g _ j zO,eG,hF,hn⟩
def StR (st:Int) (n:Nat) (F:tyJ) (E:aS) (c:Nat) (x:bV) (b:Blk):Prop :=
 ∃ (cap M:Nat) (g:aS),n<=cap/\6*n<=M/\(∀ j,j<6*n->g j=F (c+1) j)/\x=#[.agg #[.int .i64 st,.slice (some ⟨100,0,none⟩) n cap],.int .i64 (E c)]/\b=⟨fa M .i64 g,.raw 50 (0,0)⟩
def vD (ka off n cap:Nat) (g bx tp nr md st:Int) (ks ao av ko oo m oc:Nat):List (Nat×Blk) :=
 [(200,cfB (.slice (some ⟨ka,off,none⟩) n cap) g bx tp nr md),(208,bI st ks ao n av),(216,⟨#[.slice (some ⟨ko,oo,none⟩) m oc],.ty 28⟩)]
section
variable {L:bS} {ka ks:Nat} {bm bs:Blk} (hT:LKa L ka ks bm bs)
include hT
theorem SI {off n cap:Nat} {g bx tp nr md st:Int} {ao av ko oo m oc:Nat} {bo:Blk} (y6:(ko,bo)∈L):LOd G1 (vD ka off n cap g bx tp nr md st ks ao av ko oo m oc++L) 300:=by
 have hD:∀ x,x<200->dom (hpL G1 L) x->dom (hpL G1 (vD ka off n cap g bx tp nr md st ks ao av ko oo m oc++L)) x:=λx hx hd=>by
  unfold dom at *
  simp (disch:=omega) only [vD,bq,bw,aW,ab];exact hd
 have Vu:=hT.a2;have mY:=hT.k2;have hb:=hT.ok.big (ko,bo) y6;have hdo:dom (hpL G1 L) ko:=by unfold dom;rw [hT.mem _ y6];simp
 refine ⟨?_,?_,?_⟩
 ·intro p hp;rcases cN.1 hp with h|h
  ·simp only [vD,al,aB,aC] at h;rcases h with rfl|rfl|rfl<;>exact ⟨zS,zS⟩
  ·have:=hT.ok.big p h;exact ⟨this.1,zO⟩
 ·have hn:∀ x,200<=x->x∉ak L:=λx hx hm=>by
   obtain ⟨pp,mG,rfl⟩:=aI.1 hm;have:=(hT.ok.big pp mG).2;omega
  have:=hT.ok.one;simp [ak,vD] at *
  exact ⟨λb=>hn 200 zO b,λb=>hn 208 zO b,λb=>hn 216 zO b,this⟩
 ·intro p hp;rcases cN.1 hp with h|h
  ·simp only [vD,al,aB,aC] at h;rcases h with rfl|rfl|rfl
   ·simp [cfB,aF,aL,aR,hD ka Vu hT.ia]
   ·simp [bI,aF,aL,aR,hD ks mY hT.ib]
   ·simp [aF,aL,aR,hD ko hb.2 hdo]
  ·exact Blk.fx_ids (hT.fx p h) _
end
end Go.Gy
namespace Go.Gy
open Go Go.RowKit Go.Proofs Go.Proofs.Tryz
theorem xh {p:Prop} (h:p:=by
 simp (disch:=omega) only [bq,bw,aW,ab];exact hT.ok.free G1F zO x zO):p:=h
structure StH (L:bS) (ka off n cap:Nat) (g bx tp nr md st:Int) (kc oc cc:Nat) (bk:Blk) (hp:Hp):Prop where
 c200:hp 200=some (cfB (.slice (some ⟨ka,off,none⟩) n cap) g bx tp nr md)
 c208:hp 208=some (bI st kc oc n cc)
 ckc:hp kc=some bk
 cL:∀ p∈L,hp p.1=some p.2
 clow:∀ x,x<100->hp x=G1 x
 k1:100<=kc
 kcs:kc=224\/kc<200
 kne:ka≠kc
 raw:gR bk=true
 free:∀ x,300<=x->hp x=none
def LJ (l ko oo m oc i:Nat):List (Nat×Value):=[(0,.func (.yield l) #[] #[]),(2,.pointer (some ⟨200,0,none⟩)),(3,.pointer (some ⟨208,0,none⟩)),(9,.slice (some ⟨ko,oo,none⟩) m oc),(10,.int .i64 m),(11,.int .i64 i)]
theorem StM.lt {E:aS} {m M i:Nat} (h:StM E m M) (hiM:i<=M) (dR:i<m) (h0:∀ c,c<i->E c=0):i<M:=by
 rcases Nat.lt_or_ge i M with h1|h1
 ·exact h1
 ·rcases h.fin with h2|⟨h2,h3⟩
  ·omega
  ·exact absurd (h0 (M - 1) zO) h3
theorem zm {st:Int} {f:aS} {n:Nat} (h:aV st f n=true) {j:Nat} (hj:j<6*n):i64 (f j):=by
 have hb:=T4 h hj;exact jy
theorem anC {mm m i M stop:Nat} (h:mm+i=m) (h1:i<m) (h2:i<M) (h3:i<=stop) (h4:¬i=stop):m - (i+1)+(i+1)=m/\i+1<=M/\i+1<=stop/\m - (i+1)<mm:=zO
theorem anB {i M stop:Nat} (h:i<M) (h2:i=stop):i+1=min (stop+1) M:=zO
theorem StM.b {E:aS} {m M i stop:Nat} (h:StM E m M) (hi:i<M) (hs:i<=stop) (h0:¬E i=0):i+1=min (stop+1) M:=by
 have:¬i+1<M:=λh1=>h0 (h.ok i h1);omega
theorem StM.c {E:aS} {m M i stop:Nat} (h:StM E m M) (hi:i<=M) (hs:i<=stop) (hb:(m:Int)<=i):i=min (stop+1) M:=by
 have:=h.le;omega
theorem Nj {k:Nat} (h:k<200) (a:Nat) (ha:200<=a):(k=a)=False:=by
 exact gE
section
variable {L:bS} {ka ks:Nat} {bm bs:Blk} (hT:LKa L ka ks bm bs) (nB:∀ p∈L,gR p.2=true) (off n cap ao av:Nat) (fm fs:aS) (hm:MB bm off n fm) (cf:SB bs ao n fs) (dp:n<=av) (g bx tp nr md st:Int) (hs:i64 st) (fJ:eQ n fm g bx tp nr md=true) (ez:aV st fs n=true)
 (ko oo m oc:Nat) (bo:Blk) (k p q:aS) (hO:OpB bo oo m k p q) (y6:(ko,bo)∈L) (zt:∀ i,i<m->0<=k i/\k i<256) (HN:ka≠ks) (M:Nat) (hM:StM (stE g bx tp nr fm n st k p q fs) m M)
include hT nB hm cf dp hs fJ ez hO y6 zt HN hM
theorem aim:IterB prog G1 39 #[.pointer (some ⟨216,0,none⟩),.pointer (some ⟨200,0,none⟩),.pointer (some ⟨208,0,none⟩)] (hpL G1 (vD ka off n cap g bx tp nr md st ks ao av ko oo m oc++L)) (ak (vD ka off n cap g bx tp nr md st ks ao av ko oo m oc++L)) L M (StR st n (stF g bx tp nr fm n st k p q fs) (stE g bx tp nr fm n st k p q fs)):=by
 have hD:=SI hT (off:=off) (n:=n) (cap:=cap) (g:=g) (bx:=bx) (tp:=tp) (nr:=nr) (md:=md) (st:=st) (ao:=ao) (av:=av) (oo:=oo) (m:=m) (oc:=oc) y6;have er:=LOk.rst (m:=vD ka off n cap g bx tp nr md st ks ao av ko oo m oc++L) G1F;have m7:∀ p∈L,gR p.2=true/\100<=p.1:=λp hp=>⟨nB p hp,(hT.ok.big p hp).1⟩
 have mY:=hT.k1;have nA:=hT.k2;have yB:=hT.a2;have abQ:=hO.m45;have Vv:=hT.ok.big (ko,bo) y6
 have mL:∀ p∈L,hpL G1 (vD ka off n cap g bx tp nr md st ks ao av ko oo m oc++L) p.1=some p.2:=λp hp=>by
  have:=(hT.ok.big p hp).2;simp (disch:=omega) only [vD,bq,bw,aW,ab];exact hT.mem p hp
 refine XQ (B:=300) (v:=.tuple #[]) hD.low func39 rfl call39 ?_ (by rw [er];exact hD.closed G1F) (λp hp=>⟨aI.2 ⟨p,lK _ hp,rfl⟩,mL p hp,m7 p hp⟩) (by simp [ntmps39]) zO (by rw [er];exact hD.free G1F zO) ?_
 ·rw [er];intro x hx;simp at hx;rcases hx with rfl|rfl|rfl<;>exact ⟨rfl,by simp [aN,cp,aL,aR,dom,vD]⟩
 rw [er];have hOL:hpL G1 L ko=some bo:=hT.mem _ y6;have Jk:ko<200:=Vv.2;intro E l stop r hR;refine ur (Jw G1F m7 ?_);intro C hC bQ hY;unfold vD;refine fO ?_;refine ⟨λi b hi hr=>hi,?_⟩;show GB _ _ _ _ _ _ _ _ _ _;refine Q9 (Y:=none) (s':=⟨tsL (LJ l ko oo m oc 0),hpL G1 ([(200,cfB (.slice (some ⟨ka,off,none⟩) n cap) g bx tp nr md),(208,bI st ks ao n av)]++L),300,0⟩) (sD _ 300 rfl G1F hT.ok hT.fx rfl zO ?_ ?_ ?_) (λp hp=>?_) ?_
 ·simp [LJ,aN,cp,aL,aR,dom,Nj Jk,hOL]
 ·simp [cfB,bI,aF,aL,aR,dom,Nj nA,Nj yB,hT.a,hT.s]
 ·exact mL
 ·simp only [bq,bw,aW];have h2:=(hT.ok.big p hp).2;rw [ab zO,ab zO,ab zO,ab zO,ab zO]
 refine Ma ?_;refine VN (λmm s=>∃ i kc oc' cc bk hp,mm+i=m/\i<=M/\i<=stop/\(∀ c,c<i->stE g bx tp nr fm n st k p q fs c=0)/\StH L ka off n cap g bx tp nr md st kc oc' cc bk hp/\SB bk oc' n (stF g bx tp nr fm n st k p q fs i)/\n<=cc/\s=⟨tsL (LJ l ko oo m oc i),hp,300,i⟩) (m0:=m) ?_ ?_
 ·exact ⟨0,ks,ao,av,bs,_,rfl,fC _,fC _,λc hc=>absurd hc zO,⟨zS,zS,by simp (disch:=omega) only [bq,bw,aW,ab];exact hT.s,λp hp=>by have:=(hT.ok.big p hp).2;simp (disch:=omega) only [bq,bw,aW,ab];exact hT.mem p hp,λx hx=>by simp (disch:=omega) only [bq,bw,aW,ab];exact hT.low x hx,mY,.inr nA,HN,nB _ hT.kb,λx hx=>by simp (disch:=omega) only [bq,bw,aW,ab];exact hT.ok.free G1F zO x zO⟩,cf,dp,rfl⟩
 rintro mm _ ⟨i,kc,oc',cc,bk,hp,hmi,hiM,abM,Jf,hH,alk,MV,rfl⟩;obtain ⟨c200,c208,ckc,cL,clow,k1,kcs,kne,axz,cfree⟩:=hH;unfold LJ;refine ur (Jw G1F m7 ?_);intro C hC bQ hY;refine fO ?_;refine ⟨λi b hi hr=>hi,?_⟩;show GB _ _ _ _ _ _ _ _ _ _;have hcf:∀ {x:Nat} {b:Blk},hp x=some b->x<300:=λ{x b} hx=>aO λh=>by rw [cfree x zO] at hx;cases hx
 have Vu:hp ka=some bm:=by
  exact xn
 have hkO:hp ko=some bo:=cL _ y6;obtain ⟨JT,OT,_⟩:=iJ fJ;refine ur ?_;refine KE (b:=decide ((i:Int)<m)) zS (λhb=>?_) (λhb=>?_)
 ·refine Q8 ?_;show GB _ _ _ _ _ _ _ _ _ _;have cv:(i:Int)<m:=by simpa using hb
  have dR:i<m:=zO;have hz:(0:Int)<=i:=zO;have BU:Int.bmod ((i:Int)+1) 18446744073709551616=((i+1:Nat):Int):=by rw [Go.Gy.bm zO zO];rfl
  have hl:=hO.ld i dR;unfold opV at hl;have abK:i<M:=hM.lt hiM dR Jf
  have RM:=FunS.kaAt (xs:=#[.agg #[.int .u8 (k i),.int .i64 (p i),.int .i64 (q i)]]) (off:=off) (n:=n) (cap:=cap) (ao:=oc') (n2:=n) (av:=cc) (g:=g) (bx:=bx) (tp:=tp) (nr:=nr) (md:=md) (st:=st) (nk:=364) (R:=λ_ nk _=>OpZ (stE g bx tp nr fm n st k p q fs i) (stF g bx tp nr fm n st k p q fs (i+1)) st n nk) (hp:=hp)
   (λρ=>ay) (λL' ka' ks' hT'=>ae6 hT' off n cap oc' cc fm (stF g bx tp nr fm n st k p q fs i) hm alk MV g bx tp nr md st hs (k i) (p i) (q i) (zt i dR) fJ (pC JT.2 OT.2 ez i)) (λ_ v ns hV x hx=>by rw [Ak hV x hx];omega) (λρ ks0 _ h2=>YA (h2 0) _ _ _ _) (ka:=ka) (ks:=kc) (bm:=bm) (bs:=bk) ⟨hm.fx,alk.fx,Vu,ckc,k1,kne,hT.a8.imp (λe=>zO) λe=>⟨e,(hT.ag e).2⟩⟩ clow ⟨zO,zO,zO⟩
  refine ur (Ma (ur (Jw G1F m7 ?_)));intro C hC bQ hY;refine dy (k5 dR cv hz hl hkO) ?_;refine ⟨λx b hx hr=>?_,?_⟩
  ·have XJ:x<300:=hcf hx;simp (disch:=omega) only [aj];exact hx
  show GB _ _ _ _ _ _ _ _ _ _;refine ur (Jw G1F m7 ?_);intro C hC bQ hY;unfold cfB bI at *
  refine gj ?_;refine GU (k2 c200 c208) ?_;refine bN (f:=.func 13) (cap:=#[]) hC RM rfl zS rfl rfl aJ aq zS aM oq ?_ ?_ ?_ ?_
  ·intro x hx
   have XJ:x<300:=by
    unfold kaR at hx;split at hx<;>simp at hx<;>omega
   simp (disch:=omega) only [aj]
  ·intro x hx;simp (disch:=omega) only [aj]
  ·intro v ns hV x hx;rw [Ak hV x hx];simp
  rintro v ns ⟨F',⟨w,⟨c9,M9,g9,x1,x2,x3,rfl,rfl⟩,rfl⟩,h6,h7⟩;refine PI trivial ?_;refine bH ?_;refine ⟨λx b hx hr=>?_,?_⟩
  ·have XJ:x<340:=aO λh=>by simp (disch:=omega) only [aj] at hx;rw [cfree x zO] at hx;cases hx
   simp (disch:=omega) only [aj];exact hx
  show GB _ _ _ _ _ _ _ _ _ _;refine ur (Jw G1F m7 ?_);intro C hC bQ hY;refine dy (k2 c200 c208) ?_;refine ⟨λx b hx hr=>?_,?_⟩
  ·by_cases e:x=208
   ·subst e;simp (disch:=omega) only [aj,c208] at hx;cases hx;cases hr
   ·simp (disch:=omega) only [aj _ _ e];exact hx
  show GB _ _ _ _ _ _ _ _ _ _;refine Q9 (Y:=none) (s':=⟨tsL ((7,.pointer (some ⟨396,0,none⟩))::(8,.int .i64 (stE g bx tp nr fm n st k p q fs i))::LJ l ko oo m oc i),hpL G1 ([(200,cfB (.slice (some ⟨ka,off,none⟩) n cap) g bx tp nr md),(208,bI st 364 0 n c9),(364,⟨fa M9 .i64 g9,.ty 50⟩),(396,bI st 364 0 n c9)]++L),500,i⟩) (sD _ 500 rfl G1F hT.ok hT.fx rfl zO ?_ ?_ ?_) (λp hp=>?_) ?_
  ·simp [LJ,aN,cp,aL,aR,dom,Nj Jk,hOL]
  ·simp [cfB,bI,aF,aL,aR,dom,Nj yB,hT.a,c200,c208];exact Blk.fx_ids (dI _ _ _) _
  ·intro p hp;have h2:=(hT.ok.big p hp).2;simp (disch:=omega) only [aj];exact cL p hp
  ·have h2:=(hT.ok.big p hp).2;simp (disch:=omega) only [bq,bw,aW,ab,aj];rw [hT.mem p hp,cL p hp]
  refine ur (aat ?_);simp only [Array.toList];unfold LJ bI;refine He G1F m7 zS 3 [] rfl zS ae ?_;intro q hq;simp;refine hq _ _ _ _ (λ_ _ h _=>h) ?_;clear hq q;simp only [wT,wM,Nat.reduceAdd];refine SV G1F m7 (stop:=stop) (N:=M) hR (kb:=364) (b:=⟨fa M9 .i64 g9,.ty 50⟩) (x:=#[.agg #[.int .i64 st,.slice (some ⟨100,0,none⟩) n c9],.int .i64 (stE g bx tp nr fm n st k p q fs i)]) rfl zS rfl jx aq aM (by simp [gev,ren,aT,aw,aA]) abK abM zS zO (dI _ _ _) rfl ⟨c9,M9,g9,x1,x2,λj hj=>(x3 j hj).trans (h7 j hj),rfl,rfl⟩ ?_ ?_
  ·intro x b' hx g5 hr;rcases cB hx with h|h
   ·simp only [al] at h;rcases h with h|h|h|h|h
    ·cases h;cases hr
    ·cases h;cases hr
    ·cases h;cases hr
    ·cases h;cases hr
    ·exact aI.2 ⟨_,h,rfl⟩
   ·have:=(G1F x b' h).1;omega
  by_cases tc:i=stop
  ·have e1:(i != stop)=false:=by simp [tc]
   rw [e1];refine He G1F m7 zS 5 [] rfl zS ae ?_;intro q hq;simp [dk];refine hq _ _ _ _ (λ_ _ h _=>h) ?_;clear hq q;simp only [wT,wM,Nat.reduceAdd];refine Ra ?_;show GB _ _ _ _ _ _ _ _ _ _;refine KE (b:=true) zS (λ_=>?_) (λh=>ew);refine VO ?_;exact ⟨.inr rfl,rfl,anB abK tc⟩
  ·have e1:(i != stop)=true:=by simp [tc]
   rw [e1];refine He G1F m7 zS 5 [] rfl zS ae ?_;intro q hq;simp [dk];refine hq _ _ _ _ (λ_ _ h _=>h) ?_;clear hq q;simp only [wT,wM,Nat.reduceAdd];refine Ra ?_;show GB _ _ _ _ _ _ _ _ _ _;refine KE (b:=(stE g bx tp nr fm n st k p q fs i != 0)) zS (λh9=>?_) (λh9=>?_)
   ·refine VO ?_;exact ⟨.inr rfl,rfl,hM.b abK abM (by simpa using h9)⟩
   ·refine Q8 ?_;show GB _ _ _ _ _ _ _ _ _ _;have h0:stE g bx tp nr fm n st k p q fs i=0:=by simpa using h9
    obtain ⟨f1,f2,f3,f4⟩:=anC hmi dR abK abM tc
    have hE1:∀ c,c<i+1->stE g bx tp nr fm n st k p q fs c=0:=λc hc=>by
     rcases Nat.lt_succ_iff_lt_or_eq.1 hc with h|h
     ·exact Jf c h
     ·rw [h];exact h0
    refine Jw G1F m7 ?_;intro C hC bQ hY;refine dy BU ?_;refine ⟨λx b hx hr=>hx,?_⟩;refine ⟨_,m - (i+1),λx=>if x=224 then 364 else x,rwL (m:=[(200,cfB (.slice (some ⟨ka,off,none⟩) n cap) g bx tp nr md),(208,bI st 224 0 n c9),(224,⟨fa M9 .i64 g9,.raw 50 (0,0)⟩)]) (L:=L) _ (LJ l ko oo m oc (i+1)) 300 G1F zO ?_ ?_ ?_ hT.ok hT.fx ?_ (λx hx=>ab zO) ?_ (λ_ h=>h),⟨i+1,224,0,c9,_,_,f1,f2,f3,hE1,⟨zS,zS,lV,?_,?_,zO,.inl rfl,zO,rfl,?_⟩,?_,x1,rfl⟩,f4⟩
    ·simp [LJ,aN,cp,aL,aR,dom,Nj Jk,hOL,ren,aT,aw,aA,eY]
    ·simp [cfB,bI,aF,aL,aR,dom,Nj yB,hT.a,Blk.rn,aw,aA,Blk.sld];exact Blk.fx_ids (b:=⟨fa M9 .i64 g9,.raw 50 (0,0)⟩) trivial _
    ·simp
    ·intro p hp;have h2:=(hT.ok.big p hp).2;simp (disch:=omega) only [aj,bq,bw,aW,ab];exact hT.mem p hp
    ·intro x hx;simp (disch:=omega) only [aj,bq,bw,aW,ab];exact hT.low x hx
    ·intro p hp;have h2:=(hT.ok.big p hp).2;simp (disch:=omega) only [bq,bw,aW,ab];exact hT.mem p hp
    ·intro x hx;simp (disch:=omega) only [bq,bw,aW,ab];exact hT.low x hx
    ·intro x hx;exact xh
    ·exact LI x2 (λj hj=>(x3 j hj).trans (h7 j hj)) (λj hj=>zm (pC JT.2 OT.2 ez (i+1)) hj) cf.nn
 ·refine aas ?_;exact ⟨.inl rfl,rfl,hM.c hiM abM (by simpa using hb)⟩
end
end Go.Gy
namespace Go.Gy
open Go Go.RowKit Go.Proofs
theorem Qo {ρ:cI} {v:Value} (h:da v=true):da (aA ρ v)=true:=by
 cases v with
 | pointer a=>cases a<;>rfl
 | slice a n c=>cases a<;>rfl
 | map a=>cases a<;>rfl
 | _=>exact h
theorem QG (b:Blk):b.sld.c=b.c:=by
 obtain ⟨c,T⟩:=b;cases T<;>rfl
theorem tL {b:Blk} (h:b.fx):b.sld.fx:=by
 obtain ⟨c,T⟩:=b
 cases T with
 | ty t=>trivial
 | raw t fr=>trivial
 | mp=>exact h.elim
theorem adq {P:Program} {T:TypeId} {b:Blk} {off:Nat} {v:Value} (hb:b.fx) (h:ft P T b off=some v) (hf:bz v=true):ft P T b.sld off=some v:=by
 refine H6 ?_ hf (Blk.fx_rd (tL hb));rw [QG];obtain ⟨c,t⟩:=b
 cases t with
 | ty t=>exact h
 | raw t fr =>
  simp only [ft] at h;split at h
  ·rename_i w hw;split at h
   ·cases h;exact hw
   ·cases h
  ·cases h
 | mp=>exact hb.elim
theorem MB.sld {b:Blk} {off n:Nat} {f:aS} (h:MB b off n f):MB b.sld off n f:=⟨λj hj=>by rw [QG];exact h.rd j hj,tL h.fx,h.i6,h.nn⟩
theorem SB.sld {b:Blk} {off n:Nat} {f:aS} (h:SB b off n f):SB b.sld off n f:=⟨λj hj=>by rw [QG];exact h.rd j hj,tL h.fx,h.i6,h.nn⟩
theorem OpB.sld {b:Blk} {off m:Nat} {k p q:aS} (h:OpB b off m k p q):OpB b.sld off m k p q:=⟨tL h.fx,λi hi=>adq h.fx (h.ld i hi) (by simp [opV,bz,o6,bP,mD]),h.m45⟩
def vC (L:bS):List (Nat×Blk):=L.map λp=>(p.1,p.2.sld)
theorem tK (L:bS):ak (vC L)=ak L:=by simp [ak,vC]
theorem yt {L:bS} {k:Nat} {b:Blk} (h:(k,b)∈L):(k,b.sld)∈vC L:=aD.2 ⟨_,h,rfl⟩
def bmS (ka:Nat) (bm:Blk):Blk:=if 100<=ka then bm.sld else bm
theorem LKa.sld {L:bS} {ka ks:Nat} {bm bs:Blk} (h:LKa L ka ks bm bs):LKa (vC L) ka ks (bmS ka bm) bs.sld where
 ok:=by
  refine ⟨λp hp=>?_,by rw [tK];exact h.ok.one,λp hp=>?_⟩
  ·obtain ⟨q,hq,rfl⟩:=aD.1 hp;exact h.ok.big q hq
  ·obtain ⟨q,hq,rfl⟩:=aD.1 hp;exact Blk.fx_ids (tL (h.fx q hq)) _
 fx:=λp hp=>by
  obtain ⟨q,hq,rfl⟩:=aD.1 hp;exact tL (h.fx q hq)
 kb:=yt h.kb
 k8:=h.k8
 a8:=h.a8
 am:=λe=>by
  unfold bmS;rw [ai zO];exact yt (h.am e)
 ag:=λe=>by
  obtain ⟨h1,rfl⟩:=h.ag e;unfold bmS;rw [ab zO];exact ⟨h1,rfl⟩
theorem MB.bmS {ka:Nat} {b:Blk} {off n:Nat} {f:aS} (h:MB b off n f):MB (bmS ka b) off n f:=by
 unfold Gy.bmS;split
 ·exact h.sld
 ·exact h
section
variable {P:Program} {G:Hp}
theorem IterB.rn {f:FuncId} {bh:bV} {hp db:Hp} {rs:List Nat} {sh:bS} {M:Nat} {R:Nat->Array Value->Blk->Prop} (hi:IterB P G f bh hp rs sh M R) (cK:ct G) (hG:∀ k,k<100->hp k=G k) (ρ:cI) (h:Rn ρ hp db rs) (m7:∀ p∈sh,ρ p.1=p.1):IterB P G f (bh.map (ren ρ)) db (rs.map ρ) sh M R:=by
 refine ⟨hi.enter,λx hx=>?_,λk b hb=>?_,λp hp1=>?_,λE l stop r S W fM hZ gu ba hR hX hS kW=>?_⟩
 ·obtain ⟨z,hz,rfl⟩:=dA.1 hx;have h1:=hi.cids z hz;refine ⟨?_,qV (λk hk=>h.dom1 hk) h1.2⟩;rw [hU h1.1];exact Qo h1.1
 ·exact sd
 ·have h1:=hi.shd p hp1;refine ⟨aD.2 ⟨p.1,h1.1,m7 p hp1⟩,?_,h1.2.2⟩;obtain ⟨b,e1,e2⟩:=h.at' p.1 h1.1 h1.2.2.2;rw [m7 p hp1] at e2;rw [h1.2.1] at e1;cases e1;rw [e2];congr 1;obtain ⟨k,c,T⟩:=p;have h3:=h1.2.2.1
  cases T with
  | raw t fr=>rfl
  | ty t=>cases h3
  | mp=>cases h3
 ·obtain ⟨s1,s2,s3⟩:=h.sat cK hG hi.closed hZ gu ba
  have Xq:zy P G E l sh (λk=>r (ρ k)) M R stop:=by
   intro c x b S V a' h1 h2 h3 h4 h5 h6 h7 h8 h9 pb;have e:∀ p∈sh,r (ρ p.1)=r p.1:=λp hp=>by rw [m7 p hp]
   obtain ⟨fn,tmps,assign,body,hy,nD⟩:=hR c x b S V a' h1 h2 h3 h4 h5 h6 h7 (λp hp=>by rw [<-e p hp];exact h8 p hp) h9 pb;refine ⟨fn,tmps,assign,body,hy,nV nD ?_⟩;rintro e' W' ⟨a1,a2,a3,a4,a5,a6⟩;exact ⟨a1,a2,a3,a4,λp hp=>by dsimp only;rw [e p hp];exact a5 p hp,a6⟩
  have eE:=hi.run E l stop (λk=>r (ρ k)) S W fM s1 s2 s3 Xq hX hS λi b IX h1 nB hSi=>by
   have hm:i∈rs:=by
    unfold rst at IX;split at IX
    ·rename_i hc;rcases hc with hc|hc
     ·omega
     ·exact hc
    ·cases IX
   obtain ⟨b',e1,e2⟩:=h.at' i hm h1;have e3:hp i=some b:=iO IX;rw [e3] at e1;cases e1;refine kW (ρ i) (b.rn ρ) ?_ (h.big i hm h1) (by rw [Y6];exact nB) hSi;rw [LH (aD.2 ⟨i,hm,rfl⟩)];exact e2
  have ha:(bh.map (ren ρ)).map (ren r)=bh.map (ren λk=>r (ρ k)):=by
   exact my
  rw [ha];exact eE
end
end Go.Gy
namespace Go.Gy
open Go Go.RowKit Go.Proofs Go.Proofs.Tryz
theorem xP {p:Prop} (h:p:=by
 simp [aN,cp,aL,aR,cfV,dom,hOL,hT.a,hT.s]):p:=h
def akB (nk ka off n cap:Nat) (g bx tp nr md st:Int) (ks ao av ko oo m oc:Nat) (v:Value) (ns:bS):Prop :=
 v=.func (.func 39) #[] #[.pointer (some ⟨nk+2,0,none⟩),.pointer (some ⟨nk,0,none⟩),.pointer (some ⟨nk+1,0,none⟩)] /\
 ns=[(nk,cfB (.slice (some ⟨ka,off,none⟩) n cap) g bx tp nr md),(nk+1,bI st ks ao n av),(nk+2,⟨#[.slice (some ⟨ko,oo,none⟩) m oc],.ty 28⟩)]
section
variable {L:bS} {ka ks:Nat} {bm bs:Blk} (hT:LKa L ka ks bm bs) (off n cap ao av:Nat) (g bx tp nr md st:Int) (ko oo m oc:Nat) (bo:Blk) (y6:(ko,bo)∈L)
include hT y6
theorem Zu (nk:Nat) (mZ:200<=nk) (v:Value) (ns:bS) (h:akB nk ka off n cap g bx tp nr md st ks ao av ko oo m oc v ns):aN (cJ (dom (hpL G1 L)) ns) v/\(∀ p∈ns,200<=p.1/\p.2.ids (cJ (dom (hpL G1 L)) ns))/\(∀ k b c,(k,b)∈ns->(k,c)∈ns->b=c):=by
 obtain ⟨rfl,rfl⟩:=h;have hdo:dom (hpL G1 L) ko:=by unfold dom;rw [hT.mem _ y6];simp
 have e:∀ (ns:bS) x,dom (hpL G1 L) x->cJ (dom (hpL G1 L)) ns x:=λns x h=>.inl h;refine ⟨dD,?_,?_⟩
 ·intro p hp;simp only [al,aB,aC] at hp;rcases hp with rfl|rfl|rfl
  ·exact ⟨mZ,by simp [cfB,aF,aL,aR,e _ _ hT.ia]⟩
  ·exact ⟨by dsimp only;omega,by simp [bI,aF,aL,aR,e _ _ hT.ib]⟩
  ·exact ⟨by dsimp only;omega,by simp [aF,aL,aR,e _ _ hdo]⟩
 ·intro k b c h1 h2;simp only [al,aB,aC,dM] at h1 h2;rcases h1 with ⟨rfl,rfl⟩|⟨rfl,rfl⟩|⟨rfl,rfl⟩<;>rcases h2 with ⟨h,rfl⟩|⟨h,rfl⟩|⟨h,rfl⟩<;>first|rfl|omega
theorem Zv (nk:Nat) (mZ:200<=nk):FunS prog G1 22 #[cfV (.slice (some ⟨ka,off,none⟩) n cap) g bx tp nr md,.agg #[.int .i64 st,.slice (some ⟨ks,ao,none⟩) n av],.slice (some ⟨ko,oo,none⟩) m oc] (hpL G1 L) (ak L) (akB nk ka off n cap g bx tp nr md st ks ao av ko oo m oc):=by
 have mY:=hT.k1;have nA:=hT.k2;have yB:=hT.a2;have Vv:=hT.ok.big (ko,bo) y6;have Jk:ko<200:=Vv.2;have hOL:hpL G1 L ko=some bo:=hT.mem _ y6;refine iK (B:=200) G1F func22 rfl call22 hT.ok ?_ (Zu hT off n cap ao av g bx tp nr md st ko oo m oc bo y6 nk mZ) (by simp [ntmps22]) zO ?_
 ·exact xP
 have jW:=hT.low;intro C hC bQ hY;unfold cfV;refine fO ?_;let ρ:Nat->Nat:=λx=>if x=nk then 200 else if x=nk+1 then 208 else if x=nk+2 then 216 else x
 have r0:ρ nk=200:=ai rfl;have r1:ρ (nk+1)=208:=by show (if _ then _ else _)=_;rw [ab zO,ai rfl]
 have r2:ρ (nk+2)=216:=by show (if _ then _ else _)=_;rw [ab zO,ab zO,ai rfl]
 have rl:∀ x,x<200->ρ x=x:=λx hx=>by show (if _ then _ else _)=_;rw [ab zO,ab zO,ab zO]
 refine ⟨.inr trivial,I1 G1F,_,_,ρ,⟨rfl,rfl⟩,rl,?_,?_,?_,?_⟩
 ·simp [r0,r1,r2]
 ·simp [r0,r1,r2]
 ·simp [results22,ren,aT,aw,aA,r0,r1,r2]
 ·simp [cfB,bI,Blk.rn,aw,aA,r0,r1,r2,rl ka yB,rl ks nA,rl ko Jk]
end
def hpS (L:bS) (hp:Hp) (k:Nat):Option Blk:=if k∈ak L then (hp k).map Blk.sld else hp k
def stρ (nk x:Nat):Nat:=if x=200 then nk else if x=208 then nk+1 else if x=216 then nk+2 else x
section
variable {L:bS} {ka ks:Nat} {bm bs:Blk} (hT:LKa L ka ks bm bs) (off n cap ao av:Nat) (fm fs:aS) (hm:MB bm off n fm) (cf:SB bs ao n fs) (dp:n<=av) (g bx tp nr md st:Int) (hs:i64 st) (fJ:eQ n fm g bx tp nr md=true) (ez:aV st fs n=true)
 (ko oo m oc:Nat) (bo:Blk) (k p q:aS) (hO:OpB bo oo m k p q) (y6:(ko,bo)∈L) (zt:∀ i,i<m->0<=k i/\k i<256) (HN:ka≠ks) (M:Nat) (hM:StM (stE g bx tp nr fm n st k p q fs) m M)
include hT hm cf dp hs fJ ez hO y6 zt HN hM
theorem Zt (nk:Nat) (mZ:224<=nk) (hp:Hp) (h0:hp nk=some (cfB (.slice (some ⟨ka,off,none⟩) n cap) g bx tp nr md)) (h1:hp (nk+1)=some (bI st ks ao n av)) (h2:hp (nk+2)=some ⟨#[.slice (some ⟨ko,oo,none⟩) m oc],.ty 28⟩) (cL:∀ p∈L,hp p.1=some p.2) (clow:∀ x,x<100->hp x=G1 x) :
  IterB prog G1 39 #[.pointer (some ⟨nk+2,0,none⟩),.pointer (some ⟨nk,0,none⟩),.pointer (some ⟨nk+1,0,none⟩)] (hpS L hp) (nk::(nk+1)::(nk+2)::ak L) (vC L) M (StR st n (stF g bx tp nr fm n st k p q fs) (stE g bx tp nr fm n st k p q fs)):=by
 have mY:=hT.k1;have nA:=hT.k2;have yB:=hT.a2;have Jk:ko<200:=(hT.ok.big (ko,bo) y6).2
 have nB:∀ p∈vC L,gR p.2=true:=λp hp=>by
  obtain ⟨q,hq,rfl⟩:=aD.1 hp;exact ya (hT.fx q hq)
 have ny:=aim hT.sld nB off n cap ao av fm fs hm.bmS cf.sld dp g bx tp nr md st hs fJ ez ko oo m oc bo.sld k p q hO.sld (yt y6) zt HN M hM;have hD:=SI hT.sld (off:=off) (n:=n) (cap:=cap) (g:=g) (bx:=bx) (tp:=tp) (nr:=nr) (md:=md) (st:=st) (ao:=ao) (av:=av) (oo:=oo) (m:=m) (oc:=oc) (yt y6)
 have cA:∀ x,x∈ak L->100<=x/\x<200:=λx hx=>by
  obtain ⟨pp,mG,rfl⟩:=aI.1 hx;exact hT.ok.big pp mG
 have hni:∀ x,200<=x->x∉ak L:=λx hx hm=>by have:=cA x hm;omega
 have arA:∀ x,x<100->x∉ak L:=λx hx hm=>by have:=cA x hm;omega
 have rl:∀ x,x<200->stρ nk x=x:=λx hx=>by unfold stρ;rw [ab zO,ab zO,ab zO]
 have r0:stρ nk 200=nk:=ai rfl;have r1:stρ nk 208=nk+1:=by simp [stρ]
 have r2:stρ nk 216=nk+2:=by simp [stρ]
 have s0:hpS L hp nk=hp nk:=ab (hni _ zO);have s1:hpS L hp (nk+1)=hp (nk+1):=ab (hni _ zO);have s2:hpS L hp (nk+2)=hp (nk+2):=ab (hni _ zO);have:=IterB.rn ny G1F hD.low (stρ nk) (db:=hpS L hp) (Za hD (stρ nk) (λx hx=>rl x zO) (λx hx=>by unfold hpS;rw [ab (arA x hx)];exact clow x hx) (λpp mG=>?_) (λx hx y hy e=>?_)) (λpp mG=>?_)
 ·have e1:(#[.pointer (some ⟨216,0,none⟩),.pointer (some ⟨200,0,none⟩),.pointer (some ⟨208,0,none⟩)]:Array Value).map (ren (stρ nk))=#[.pointer (some ⟨nk+2,0,none⟩),.pointer (some ⟨nk,0,none⟩),.pointer (some ⟨nk+1,0,none⟩)]:=by simp [ren,aT,aw,aA,r0,r1,r2]
  have e2:(ak (vD ka off n cap g bx tp nr md st ks ao av ko oo m oc++vC L)).map (stρ nk)=nk::(nk+1)::(nk+2)::ak L:=by
   have e3:ak (vD ka off n cap g bx tp nr md st ks ao av ko oo m oc++vC L)=200::208::216::ak L:=by
    rw [<-tK L]
    rfl
   rw [e3];show stρ nk 200::stρ nk 208::stρ nk 216::(ak L).map (stρ nk)=_;rw [r0,r1,r2];congr 3;exact dK (λx hx=>rl x (cA x hx).2) |>.trans (nW _)
  rw [e1,e2] at this;exact this
 ·rcases cN.1 mG with h|h
  ·simp only [vD,al,aB,aC] at h;rcases h with rfl|rfl|rfl
   ·simp only [r0,s0];exact ⟨zO,by rw [h0];simp [cfB,Blk.rn,aw,aA,rl ka yB]⟩
   ·simp only [r1,s1];exact ⟨zO,by rw [h1];simp [bI,Blk.rn,aw,aA,rl ks nA]⟩
   ·simp only [r2,s2];exact ⟨zO,by rw [h2];simp [Blk.rn,aw,aA,rl ko Jk]⟩
  ·obtain ⟨q,hq,rfl⟩:=aD.1 h;have hb:=hT.ok.big q hq;simp only [rl _ hb.2];refine ⟨hb.1,?_⟩;unfold hpS;rw [ai (aI.2 ⟨q,hq,rfl⟩),cL q hq,Blk.fx_rn (tL (hT.fx q hq))]
   rfl
 ·have e3:ak (vD ka off n cap g bx tp nr md st ks ao av ko oo m oc++vC L)=200::208::216::ak L:=by
   rw [<-tK L]
   rfl
  rw [e3] at hx hy
  have key:∀ x,x∈200::208::216::ak L->(x=200/\stρ nk x=nk)\/(x=208/\stρ nk x=nk+1)\/(x=216/\stρ nk x=nk+2)\/(x<200/\stρ nk x=x):=λx hx=>by
   simp only [al] at hx;rcases hx with rfl|rfl|rfl|hx
   ·exact .inl ⟨rfl,r0⟩
   ·exact .inr (.inl ⟨rfl,r1⟩)
   ·exact .inr (.inr (.inl ⟨rfl,r2⟩))
   ·exact .inr (.inr (.inr ⟨(cA x hx).2,rl x (cA x hx).2⟩))
  have k1:=key x hx;have k2:=key y hy;omega
 ·obtain ⟨q,hq,rfl⟩:=aD.1 mG;exact rl _ (hT.ok.big q hq).2
end
theorem lS {p:Prop} (h:p:=by rw [<-hX];simp):p:=h
theorem wy {p:Prop} (h:p:=by simp (disch:=omega) only [aj,bj]):p:=h
theorem xe {p:Prop} (h:p:=by
 exact ⟨by subst hX;simp [dom],.inr (by simp;exact hT.ok.free G1F zO _ zO)⟩):p:=h
theorem oU {p:Prop} (h:p:=by
 simp (disch:=omega) only [aj,bj]):p:=h
theorem Gl {p:Prop} (h:p:=by
 have:=hL p hp1;simp (disch:=omega) only [aj];exact h.cL p hp1):p:=h
theorem Df {p:Prop} (h:p:=by
 simp [cfB,bI,aF,aL,aR,dom,dk,bW,hA,hS,df,fq,Nj Jk,hOL];exact Blk.fx_ids (dI _ _ _) _):p:=h
theorem CV {p:Prop} (h:p:=by
 intro pp mG;have:=tU pp mG;simp (disch:=omega) only [aj,bW,aW,ab];exact hT.mem pp mG):p:=h
theorem Gp {p:Prop} (h:p:=by
 have:=tU pp mG;rw [<-hX];simp (disch:=omega) only [bq,bw,aW,ab];exact hT.mem pp mG):p:=h
theorem E3 {p:Prop} (h:p:=by
 rw [<-hX];simp (disch:=omega) only [bq,bw,aW,ab];exact jW x hx):p:=h
theorem Dh {p:Prop} (h:p:=by
 intro x hx;by_cases hk:x∈ak L
 ·obtain ⟨pp,mG,rfl⟩:=aI.1 hk;exact .inr ⟨pp.2,mX pp mG,hT.fx pp mG,by unfold hpS;rw [ai hk,mX pp mG];rfl⟩
 ·exact .inl (ab hk)):p:=h
theorem E7 {p:Prop} (h:p:=by
 simp [cfB,bI,aF,aL,aR,dom,hA,hS,df,fq];exact Blk.fx_ids (dI _ _ _) _):p:=h
theorem DX {p:Prop} (h:p:=by
 have:=tU pp mG;simp (disch:=omega) only [bq,bw,aW,ab];exact hT.mem pp mG):p:=h
theorem Dt {p:Prop} (h:p:=by
 intro x hx;simp only [al] at hx;rw [tK];rcases hx with rfl|rfl|rfl|hx
 ·exact xe
 ·exact xe
 ·exact xe
 ·refine ⟨?_,.inl hx⟩;obtain ⟨pp,mG,rfl⟩:=aI.1 hx;show RO pp.1≠none;rw [mX pp mG];simp):p:=h
theorem Ft {p:Prop} (h:p:=by
 intro x hx;simp only [al] at hx;rcases hx with rfl|rfl|rfl|hx
 ·omega
 ·omega
 ·omega
 ·obtain ⟨pp,mG,rfl⟩:=aI.1 hx;exact (tU pp mG).1):p:=h
theorem Dx {p:Prop} (h:p:=by
 rintro c fP ⟨hc,hH⟩ pp mG;obtain ⟨q1,nc,rfl⟩:=aD.1 mG;exact ⟨q1.2,hH.cL q1 nc,hT.fx q1 nc,rfl⟩):p:=h
theorem sj {p:Prop} (h:p:=by
 have:=tU pp mG;simp (disch:=omega) only [aj];rw [cL pp mG];exact (hT.mem pp mG).symm):p:=h
theorem si {p:Prop} (h:p:=by
 simp (disch:=omega) only [aj];rw [clow x hx];exact (jW x hx).symm):p:=h
theorem Ee {p:Prop} (h:p:=by
 obtain ⟨q1,nc,rfl⟩:=aD.1 mG;have:=tU q1 nc;simp (disch:=omega) only [aj]):p:=h
def ByR (st:Int) (E:Int) (F:aS) (n nk:Nat) (v:Value) (ns:bS):Prop :=
 ∃ (cap:Nat) (b:Blk),SB b 0 n F/\n<=cap/\v=.tuple #[.agg #[.int .i64 st,.slice (some ⟨nk,0,none⟩) n cap],.int .i64 E]/\ns=[(nk,b)]
theorem nF {st E:Int} {F:aS} {n nk:Nat} {v:Value} {ns:bS} (h:ByR st E F n nk v ns):∀ k∈ak ns,k=nk:=by
 obtain ⟨cap,b,_,_,rfl,rfl⟩:=h;simp [ak]
theorem KT {D:gA} {st E:Int} {F:aS} {n:Nat} (v:Value) (ns:bS) (h:ByR st E F n 1000 v ns):aN (cJ D ns) v/\(∀ p∈ns,200<=p.1/\p.2.ids (cJ D ns))/\(∀ k b c,(k,b)∈ns->(k,c)∈ns->b=c):=by
 obtain ⟨cap,b,h1,h2,rfl,rfl⟩:=h;refine ⟨dD,?_,?_⟩
 ·simp only [bE,bR];exact ⟨zO,Blk.fx_ids h1.fx _⟩
 ·exact mw
theorem AS {nk:Nat} {ρ:cI} (h:ρ 1000=nk) (st E:Int) (F:aS) (n:Nat):RR ρ (ByR st E F n 1000)=ByR st E F n nk:=by
 funext v ns;apply propext;constructor
 ·rintro ⟨v0,uo,⟨cap,b,h1,h2,rfl,rfl⟩,rfl,rfl⟩;exact ⟨cap,b,h1,h2,eN,rM⟩
 ·rintro ⟨cap,b,h1,h2,rfl,rfl⟩;exact ⟨_,_,⟨cap,b,h1,h2,rfl,rfl⟩,eN,rM⟩
structure ByH (L:bS) (ka off n cap:Nat) (g bx tp nr md st:Int) (ks ao av:Nat) (F:aS) (c:Nat) (hp:Hp):Prop where
 c200:hp 200=some (cfB (.slice (some ⟨ka,off,none⟩) n cap) g bx tp nr md)
 c208:hp 208=some (bI st ks ao n av)
 c216:hp 216=some ⟨#[.int .i64 0,.slice none 0 0],.ty 27⟩
 c224:hp 224=some ⟨#[.int .i64 0],.ty 35⟩
 c360:∃ (kc cc:Nat) (bk:Blk),hp 360=some (bI st kc 0 n cc)/\hp kc=some bk/\SB bk 0 n F/\n<=cc/\(kc=352\/(1000<=kc/\kc<1000+c))
 cL:∀ p∈L,hp p.1=some p.2
 clow:∀ x,x<100->hp x=G1 x
 cfree:∀ x,1000+c<=x->hp x=none
 cids:∀ x b,hp x=some b->b.ids (dom hp)
theorem Wt {L:bS} {ka off n cap:Nat} {g bx tp nr md st:Int} {ks ao av:Nat} {F F':aS} {c kq nu:Nat} {b:Blk} {hp:Hp} (h:ByH L ka off n cap g bx tp nr md st ks ao av F c hp) (La:1000+c=kq) (hc:kq<=2000) (hsb:SB b 0 n F') (dS:n<=nu) (hL:∀ p∈L,100<=p.1/\p.1<200) :
  ByH L ka off n cap g bx tp nr md st ks ao av F' (c+1) (upd (upd hp kq (some b)) 360 (some (bI st kq 0 n nu))):=by
 have hdm:∀ x,dom hp x->dom (upd (upd hp kq (some b)) 360 (some (bI st kq 0 n nu))) x:=λx hx=>by
  unfold dom at *
  by_cases e:x=360
  ·subst e;rw [bj];simp
  ·rw [aj _ _ e];by_cases e2:x=kq
   ·subst e2;rw [bj];simp
   ·rw [aj _ _ e2];exact hx
 refine ⟨?_,?_,?_,?_,⟨kq,nu,b,bj _ _ _,?_,hsb,dS,.inr ⟨zO,zO⟩⟩,λp hp1=>?_,λx hx=>?_,λx hx=>?_,λx b' hx=>?_⟩
 ·simp (disch:=omega) only [aj];exact h.c200
 ·simp (disch:=omega) only [aj];exact h.c208
 ·simp (disch:=omega) only [aj];exact h.c216
 ·simp (disch:=omega) only [aj];exact h.c224
 ·exact oU
 ·exact Gl
 ·simp (disch:=omega) only [aj];exact h.clow x hx
 ·simp (disch:=omega) only [aj];exact h.cfree x zO
 ·by_cases e:x=360
  ·subst e;rw [bj] at hx;cases hx
   have HR:dom (upd (upd hp kq (some b)) 360 (some (bI st kq 0 n nu))) kq:=by
    unfold dom;rw [aj _ _ zO,bj];simp
   simp only [bI,aF,al,aB,aC,dC,bR,aL,aR,and_true,true_and];exact HR
  ·rw [aj _ _ e] at hx;by_cases e2:x=kq
   ·subst e2;rw [bj] at hx;cases hx;exact Blk.fx_ids hsb.fx _
   ·rw [aj _ _ e2] at hx;exact Blk.ids_mono hdm (h.cids x b' hx)
def Gs (at_:Int):List (Nat×Value):=[(4,.pointer (some ⟨200,0,none⟩)),(5,.pointer (some ⟨208,0,none⟩)),(8,.pointer (some ⟨216,0,none⟩)),(9,.pointer (some ⟨224,0,none⟩)),(10,.int .i64 at_),(11,.pointer (some ⟨360,0,none⟩))]
theorem Nk {k:Nat} (h:1000<=k) (a:Nat) (ha:a<1000):(k=a)=False:=by
 exact gE
theorem acj {k:Nat} (h:k<=2000) (a:Nat) (ha:2001<=a):(k=a)=False:=by
 exact gE
theorem Jo {k:Nat} (h:1000<=k) (a:Nat) (ha:a<1000):(a=k)=False:=by
 exact gE
theorem ack {k:Nat} (h:k<=2000) (a:Nat) (ha:2001<=a):(a=k)=False:=by
 exact gE
theorem Zr {E:aS} {m N:Nat} (hN:N<=m) (h0:∀ c,c<N->E c=0) (he:N=m\/¬E N=0):∃ M,StM E m M/\N<=M/\((N=m/\M=m)\/(N<m/\¬E N=0/\M=N+1)):=by
 by_cases h:N=m
 ·exact ⟨m,⟨aG _,λc hc=>h0 c zO,.inl rfl⟩,hN,.inl ⟨h,rfl⟩⟩
 ·have h1:=he.resolve_left h;exact ⟨N+1,⟨zO,λc hc=>h0 c zO,.inr ⟨zO,h1⟩⟩,zO,.inr ⟨zO,h1,rfl⟩⟩
section
variable {L:bS} {ka ks:Nat} {bm bs:Blk} (hT:LKa L ka ks bm bs) (off n cap ao av:Nat) (fm fs:aS) (hm:MB bm off n fm) (cf:SB bs ao n fs) (dp:n<=av) (g bx tp nr md st:Int) (hs:i64 st) (fJ:eQ n fm g bx tp nr md=true) (ez:aV st fs n=true)
 (ko oo m oc:Nat) (bo:Blk) (k p q:aS) (hO:OpB bo oo m k p q) (y6:(ko,bo)∈L) (zt:∀ i,i<m->0<=k i/\k i<256) (HN:ka≠ks)
 (N:Nat) (hN:N<=m) (Jf:∀ c,c<N->stE g bx tp nr fm n st k p q fs c=0) (cm:N=m\/¬stE g bx tp nr fm n st k p q fs N=0) (d:Int) (hd:d=1\/d=-1) (m9:-1073741824<=st+d/\st+d<=1073741824)
include hT hm cf dp hs fJ ez hO y6 zt HN hN Jf cm hd m9
theorem akQ:FunS prog G1 36 #[cfV (.slice (some ⟨ka,off,none⟩) n cap) g bx tp nr md,.agg #[.int .i64 st,.slice (some ⟨ks,ao,none⟩) n av],.int .i64 d,.slice (some ⟨ko,oo,none⟩) m oc] (hpL G1 L) (ak L)
  (ByR (if N=m then st+d else st) (if N=m then 0 else stE g bx tp nr fm n st k p q fs N) (if N=m then stF g bx tp nr fm n st k p q fs m else fs) n 1000):=by
 have hdd:=hd;have mY:=hT.k1;have nA:=hT.k2;have yB:=hT.a2;have hA:=hT.a;have hS:=hT.s;have df:=hT.ne;have fq:=hT.na;have jW:=hT.low;have abQ:=hO.m45;have Jk:ko<200:=(hT.ok.big (ko,bo) y6).2;have hOL:hpL G1 L ko=some bo:=hT.mem _ y6;refine iK (B:=200) G1F func36 rfl call36 hT.ok ?_ KT (by simp [ntmps36]) zO ?_
 ·exact xP
 intro C hC bQ hY;have aqI:Int.bmod (st+d) 18446744073709551616=st+d:=Go.Gy.bm zO zO;have aqJ:Int.bmod (-(st+d)) 18446744073709551616=-(st+d):=Go.Gy.bm zO zO;have fp:=pL L ka ks bm bs hT off n cap ao n av fm fs hm cf g bx tp nr md st hs;have Jb:pX n n (eQ n fm g bx tp nr md) (aV st fs n)=true:=oF;rw [Jb] at fp;have dO:=λnk h1 h2=>tC ks nk mY h1 h2 bs ao n av fs cf dp st;obtain ⟨JT,OT,_⟩:=iJ fJ;have tU:∀ p∈L,100<=p.1/\p.1<200:=λp hp=>hT.ok.big p hp;have hmx:¬(1073741824<if st+d < -(st+d) then -(st+d) else st+d):=by split<;>omega
 unfold cfV at fp |-
 repeat' first|refine cM ?_|((first|refine gwR [29] ?_|refine gwD [29] ?_);intro Q hQ _;(repeat first|simp [hC,hY,hA,hS,df,fq,aqI,aqJ,hmx]|refine dG fp hT.ok ji ?_);refine cQ hQ ?_)|fail
 refine gj ?_;refine n7 (k4 hA hS df fq) ?_;refine bN (f:=.func 21) (cap:=#[]) hC (dO 352 zO zO) rfl zS rfl rfl aJ aq zS aM aq kE cS ?_ ?_
 ·exact mz
 rintro v ns ⟨c7,M7,g7,x7,y7,z7,rfl,rfl⟩;refine zP (k4 hA hS df fq) ?_;refine bH ?_
 repeat' first|refine cM ?_|refine K4 ?_|fail
 refine gj ?_;refine GU (k4 hA hS df fq) ?_;have agY:=Zv hT off n cap ao av g bx tp nr md st ko oo m oc bo y6 400 zO;refine bN (f:=.func 22) (cap:=#[]) hC agY rfl zS rfl rfl aJ aq zS aM oq wm cS ?_ ?_
 ·rintro v ns ⟨rfl,rfl⟩ x hx;simp [ak] at hx;omega
 rintro v ns ⟨rfl,rfl⟩;refine bH ?_
 repeat' first|refine cM ?_|(refine g6 ?_;intro Q hQ _;simp [hC,hY,dk,bW];refine cQ hQ ?_)|fail
 obtain ⟨M,hM,hNM,mF⟩:=Zr (E:=stE g bx tp nr fm n st k p q fs) hN Jf cm;refine GM (s':=⟨tsL ((36,.func (.func 39) #[] #[.pointer (some ⟨400+2,0,none⟩),.pointer (some ⟨400,0,none⟩),.pointer (some ⟨400+1,0,none⟩)])::Gs (st+d)),hpL G1 ([(200,cfB (.slice (some ⟨ka,off,none⟩) n cap) g bx tp nr md),(208,bI st ks ao n av),(216,⟨#[.int .i64 0,.slice none 0 0],.ty 27⟩),(224,⟨#[.int .i64 0],.ty 35⟩),(352,⟨fa M7 .i64 g7,.ty 50⟩),(360,bI st 352 0 n c7),(400,cfB (.slice (some ⟨ka,off,none⟩) n cap) g bx tp nr md),(400+1,bI st ks ao n av),(400+2,⟨#[.slice (some ⟨ko,oo,none⟩) m oc],.ty 28⟩)]++L),3000,0⟩) (sD _ 3000 hC G1F hT.ok hT.fx bQ zO ?_ ?_ ?_) ?_
 ·simp [Gs,aN,cp,aL,aR,dom,dk,bW]
 ·exact Df
 ·exact CV
 obtain ⟨RO,hX⟩:∃ RO,hpL G1 ([(200,cfB (.slice (some ⟨ka,off,none⟩) n cap) g bx tp nr md),(208,bI st ks ao n av),(216,⟨#[.int .i64 0,.slice none 0 0],.ty 27⟩),(224,⟨#[.int .i64 0],.ty 35⟩),(352,⟨fa M7 .i64 g7,.ty 50⟩),(360,bI st 352 0 n c7),(400,cfB (.slice (some ⟨ka,off,none⟩) n cap) g bx tp nr md),(400+1,bI st ks ao n av),(400+2,⟨#[.slice (some ⟨ko,oo,none⟩) m oc],.ty 28⟩)]++L)=RO:=⟨_,rfl⟩
 rw [hX]
 have mX:∀ p∈L,RO p.1=some p.2:=λpp mG=>by
  exact Gp
 have mXl:∀ x,x<100->RO x=G1 x:=λx hx=>by
  exact E3
 have hni:∀ x,200<=x->x∉ak L:=λx hx hm=>by
  obtain ⟨pp,mG,rfl⟩:=aI.1 hm;have:=tU pp mG;omega
 have ny:=Zt hT off n cap ao av fm fs hm cf dp g bx tp nr md st hs fJ ez ko oo m oc bo k p q hO y6 zt HN M hM 400 zO RO lS lS lS mX mXl;refine Jx (f:=39) (VA:=hpS L RO) (rs:=400::(400+1)::(400+2)::ak L) (sh:=vC L) (M:=M) (bh:=#[.pointer (some ⟨400+2,0,none⟩),.pointer (some ⟨400,0,none⟩),.pointer (some ⟨400+1,0,none⟩)]) zS (by rw [hC];exact ny) ?_ ?_ (by simp [ntmps36]) (tsL (Gs (st+d))) (hpL G1 ([(200,cfB (.slice (some ⟨ka,off,none⟩) n cap) g bx tp nr md),(208,bI st ks ao n av),(216,⟨#[.int .i64 0,.slice none 0 0],.ty 27⟩),(224,⟨#[.int .i64 0],.ty 35⟩),(352,⟨fa M7 .i64 g7,.ty 50⟩),(360,bI st 352 0 n c7)]++L)) (λc fP=>c<=N/\ByH L ka off n cap g bx tp nr md st ks ao av (stF g bx tp nr fm n st k p q fs c) c fP) (λc=>1000+c) 3000 N hNM ?_ ?_ ?_ ?_ ?_ ?_ ?_ ?_ ?_
 ·exact Dh
 ·rintro c x b ⟨nu,M9,g9,w1,w2,w3,rfl,rfl⟩
  rfl
 ·subst hX;refine sD (Gs (st+d)) 3000 hC G1F hT.ok hT.fx bQ zO ?_ ?_ ?_
  ·simp [Gs,aN,cp,aL,aR,dom]
  ·exact E7
  ·exact mX
 ·refine ⟨fC _,⟨zS,zS,zS,zS,⟨352,c7,_,zS,zS,qW y7 z7 cf.i6 cf.nn,x7,.inl rfl⟩,λpp mG=>?_,λx hx=>?_,λx hx=>?_,λx b hx=>?_⟩⟩
  ·exact DX
  ·simp (disch:=omega) only [bq,bw,aW,ab];exact jW x hx
  ·exact xh
  ·rcases cB hx with h|h
   ·rcases cN.1 h with h|h
    ·simp only [al,aB,aC,dM] at h;rcases h with ⟨rfl,rfl⟩|⟨rfl,rfl⟩|⟨rfl,rfl⟩|⟨rfl,rfl⟩|⟨rfl,rfl⟩|⟨rfl,rfl⟩
     ·simp [cfB,aF,aL,aR,dom,hA,fq]
     ·simp [bI,aF,aL,aR,dom,hS,df]
     ·exact jC
     ·exact jC
     ·exact Blk.fx_ids (dI _ _ _) _
     ·simp [bI,aF,aL,aR,dom]
    ·exact Blk.fx_ids (hT.fx _ h) _
   ·exact Blk.flat_ids (G1F x b h).2
 ·exact Dt
 ·exact Ft
 ·rintro c fP ⟨hc,hH⟩ x hx;exact hH.cfree x zO
 ·rintro c fP hcN ⟨hc,hH⟩;exact ⟨hH.cfree _ (aG _),zO,zO⟩
 ·exact Dx
 ·rintro c x b fP hcN ⟨nu,M9,g9,w1,w2,w3,rfl,rfl⟩ nB ⟨agt,hH⟩ C1 l sR vl qS;have so:=hC;have je:C1.G=G1:=sR.trans hC;clear hC hY;have hC:=je;have hY:=qS;have hH':=hH;obtain ⟨c200,c208,c216,c224,⟨kc,cc,bk,c360,ckc,hsk,MV,hkc⟩,cL,clow,cfree,cids⟩:=hH;have hE:=Jf c hcN;have hfv:SB ⟨fa M9 .i64 g9,.raw 50 (0,0)⟩ 0 n (stF g bx tp nr fm n st k p q fs (c+1)):=LI w2 w3 (λj hj=>zm (pC JT.2 OT.2 ez (c+1)) hj) cf.nn;rw [hE] at *
  have su:1000<=1000+c:=zO;have sS:1000+c<=2000:=zO;dsimp only at vl |-;generalize La:1000+c=kq at *
  repeat' first|refine cM ?_|(refine g6 ?_;intro Q hQ _;simp [hC,hY,bC,Gs,ren,aT,aw,aA];refine cQ hQ ?_)|fail
  intro C2 oY Gx oZ;clear hC hY;have hC:C2.G=G1:=oY.trans so;have hY:=oZ
  repeat' first|refine cM ?_|(refine g6 ?_;intro Q hQ _;simp [hC,hY,c200,c208,c216,c224,c360,bI,cfB,Nk su,acj sS,Jo su,ack sS];refine cQ hQ ?_)|fail
  have MY:=Wt hH' (nu:=nu) (b:=⟨fa M9 .i64 g9,.raw 50 (0,0)⟩) La sS (F':=stF g bx tp nr fm n st k p q fs (c+1)) hfv w1 tU;refine ⟨_,λx=>x,⟨zO,MY⟩,wy,?_⟩
  have key:∀ x,¬x=3000->∀ z1 z2,upd (upd fP kq (some ⟨fa M9 .i64 g9,.raw 50 (0,0)⟩)) 360 (some (bI st kq 0 n nu)) x=upd (upd (upd (upd fP kq (some ⟨fa M9 .i64 g9,.raw 50 (0,0)⟩)) 3000 z1) 3000 z2) 360 (some (bI st kq 0 n nu)) x:=λx hx z1 z2=>by
   by_cases e:x=360
   ·subst e;rw [bj,bj]
   ·rw [aj _ _ e,aj _ _ e,aj _ _ hx,aj _ _ hx]
  refine ⟨λt=>.inl rfl,λx b' Jh hx=>⟨?_,hx⟩,MY.cids,λx y _ _ e=>e,λ_ _=>rfl,λx b' _ _=>Blk.rn_id b',λx hx hd=>⟨?_,rfl⟩,λx hx=>(MY.clow x hx).trans (by rw [je]),rfl,λx hx=>MY.cfree x (by have:3000<=x:=hx;omega),by show 100<=3000;omega⟩
  ·rw [Blk.rn_id,<-Jh];refine (key x (λe=>?_) _ _).symm;have h0:=MY.cfree 3000 zO;rw [e] at Jh;have mU:upd (upd fP kq (some ⟨fa M9 .i64 g9,.raw 50 (0,0)⟩)) 360 (some (bI st kq 0 n nu)) 3000=some b':=Jh;rw [h0] at mU;cases mU
  ·rw [vl] at hd;show upd (upd fP kq (some ⟨fa M9 .i64 g9,.raw 50 (0,0)⟩)) 360 (some (bI st kq 0 n nu)) x≠none;by_cases e:x=360
   ·subst e;rw [bj];simp
   ·rw [aj _ _ e];exact hd
 ·rcases mF with ⟨rfl,rfl⟩|⟨hNm,hEN,rfl⟩
  ·refine .inl ⟨rfl,λfP RD=>?_⟩;obtain ⟨_,hH⟩:=RD;obtain ⟨c200,c208,c216,c224,⟨kc,cc,bk,c360,ckc,hsk,MV,hkc⟩,cL,clow,cfree,cids⟩:=hH;unfold Gs
   have PR:∀ a,200<=a->a<352->(kc=a)=False:=λa h1 h2=>by
    exact gE
   refine dy (k7 c200 c208 c216 c224 c360 @bI.eq_1 @cfB.eq_1) ?_;simp only [aU];refine ⟨.inr trivial,dH G1F (λpp mG=>?_) (λx hx=>?_),_,_,λx=>if x=1000 then kc else x,⟨cc,bk,hsk,MV,rfl,rfl⟩,λx hx=>ab zO,aE,zS,by simp [results36,ren,aT,aw,aA,c224,c360],?_⟩
   ·exact sj
   ·exact si
   ·simp only [bE,bR,ai];simp (disch:=omega) only [aj];rw [Blk.fx_rn hsk.fx];exact ckc
  ·refine .inr ⟨zO,?_⟩;rintro x b fP ⟨nu,M9,g9,w1,w2,w3,rfl,rfl⟩ nB ⟨agt,hH⟩ C1 l sR vl qS;have so:=hC;have je:C1.G=G1:=sR.trans hC;clear hC hY;have hC:=je;have hY:=qS;obtain ⟨c200,c208,c216,c224,⟨kc,cc,bk,c360,ckc,hsk,MV,hkc⟩,cL,clow,cfree,cids⟩:=hH;have su:1000<=1000+N:=zO;have sS:1000+N<=2000:=zO;dsimp only at vl |-;generalize La:1000+N=kq at *
   repeat' first|refine cM ?_|(refine g6 ?_;intro Q hQ _;simp [hC,hY,bC,Gs,ren,aT,aw,aA];refine cQ hQ ?_)|fail
   intro C2 oY Gx oZ;clear hC hY;have hC:C2.G=G1:=oY.trans so;have hY:=oZ;have agj:(stE g bx tp nr fm n st k p q fs N != 0)=true:=by simpa using hEN
   repeat' first|refine cM ?_|(refine g6 ?_;intro Q hQ _;simp [hC,hY,c200,c208,c216,c224,c360,bI,cfB,agj,Nk su,acj sS,Jo su,ack sS];refine cQ hQ ?_)|fail
   have aru:fP ks=some bs:=cL _ hT.kb;refine xW ?_;simp only [Array.toList];refine Z3 1 ?_;intro Q hQ;simp [hC,hY,c208,bI,Nk su,acj sS,Jo su,ack sS];apply hQ;simp only [wT,wM,Nat.reduceAdd];refine bN (f:=.func 21) (cap:=#[]) hC (dO 3064 zO zO) rfl zS rfl rfl aJ aq zS aM aq ?_ ?_ ?_ ?_
   ·intro x hx;simp only [bE] at hx;subst hx;simp (disch:=omega) only [aj,aru,aW,aU]
   ·intro x hx;simp (disch:=omega) only [aj,aW,dm,ab];exact (clow x hx).symm
   ·exact mz
   rintro v ns ⟨c7',M7',g7',x7',y7',z7',rfl,rfl⟩;refine Z3 3 ?_;intro Q hQ;simp [hC,hY,dk,bW,c216,c224,Nk su,acj sS,Jo su,ack sS];apply hQ;simp only [wT,wM,Nat.reduceAdd];refine bH ?_;refine fO ?_;have hNe:¬N=m:=zO;simp only [ab hNe];refine ⟨rfl,λt=>?_,?_,λpp mG=>?_,.inr trivial,dH G1F (λpp mG=>?_) (λx hx=>?_),_,_,λx=>if x=1000 then 3064 else x,⟨c7',_,qW y7' z7' cf.i6 cf.nn,x7',rfl,rfl⟩,λx hx=>ab zO,zS,zS,by simp [results36,Gs,ren,aT,aw,aA,c216,c224],?_⟩
   ·rcases nJ (l:=Gs (st+d)) (t:=t) with h|h
    ·rw [h];simp [eY,aN,cp,aL,aR]
    ·generalize tsL (Gs (st+d)) t=w at h;simp only [Gs,al,aB,aC,dM] at h;rcases h with ⟨_,rfl⟩|⟨_,rfl⟩|⟨_,rfl⟩|⟨_,rfl⟩|⟨_,rfl⟩|⟨_,rfl⟩<;>simp [aN,cp,aL,aR,dom,c200,c208,Jo su]
   ·exact oU
   ·exact Ee
   ·exact sj
   ·exact si
   ·exact fZ
end
theorem CL {p:Prop} (h:p:=by simp [rnL,pO,rn1,aw,aA,tY,d0,d1,d2]):p:=h
theorem ahX {off np cap:Nat} {ρ:cI}:(ptB off np cap).rn ρ=⟨#[.slice (some ⟨ρ 116,off,none⟩) np cap],.ty 22⟩:=by simp [ptB,Blk.rn,aw,aA]
theorem aaN (nk:Nat) (mZ:200<=nk) (n:Int) (hn:¬n=4) (off np cap:Nat) (bp:Blk) (P:aS) (hP:MB bp off np P) (h45:np<=300) :
  FunS prog G0 79 #[.slice none 0 0,.func (.func 80) #[] #[.pointer (some ⟨100,0,none⟩),.pointer (some ⟨108,0,none⟩)]] (hpL G0 (opL n off np cap bp)) (ak (opL n off np cap bp)) (OsR nk (3*np) pk (pp P) pq):=by
 have hL:=Ai hP.fx n off np cap;have hr:=λρ=>Blk.fx_rn hP.fx ρ;refine (Wm n hn off np cap bp P hP h45).mvL G0F hL (λk=>if k=1000 then nk else k) (λk hk=>ab zO) ay ry (Qk rfl) hL.low (by simp [opL,ptB,rn1,aw,aA,tY,hr]) ry (λv ns hV k hk=>?_) (λv ns hV k hk l hl _=>by rw [nI hV k hk,nI hV l hl]);rw [nI hV k hk];simp [opL,ak];omega
theorem acV (n:Int) (hn:¬n=4) (off np cap:Nat) (bp:Blk) (P:aS) (hP:MB bp off np P) (h45:np<=300) :
  FunS prog G0 56 #[.func (.func 80) #[] #[.pointer (some ⟨100,0,none⟩),.pointer (some ⟨108,0,none⟩)]] (hpL G0 (opL n off np cap bp)) (ak (opL n off np cap bp)) (OsR 1000 (3*np) pk (pp P) pq):=by
 have hL:=Ai hP.fx n off np cap;refine dJ (B:=200) G0F func56 rfl call56 hL ?_ Lx (by simp [ntmps56]) zO ?_
 ·simp [aN,cp,aL,aR,ak,opL]
 intro C hC bQ hY;refine fO ?_;refine gj ?_;refine n7 trivial ?_;have hS:=aaN 216 zO n hn off np cap bp P hP h45;refine bN (f:=.func 79) (cap:=#[]) hC hS rfl zS rfl rfl aJ aq zS aM aq zS (by intro k hk;rfl) ?_ ?_
 ·intro v ns hV k hk;rw [nI hV k hk];omega
 ·intro v ns hV;rcases hV with ⟨h0,rfl,rfl⟩|⟨h0,c,A,hA,rfl,rfl⟩
  ·
   refine n7 trivial ?_;refine bH ?_;refine fO ?_;refine ⟨.inr trivial,zS,_,_,λk=>k,.inl ⟨h0,rfl,rfl⟩,λ_ _=>rfl,zS,zS,by simp [results56,ren,aT,aw,aA],zS⟩
  ·
   refine n7 trivial ?_;refine bH ?_;refine fO ?_;refine ⟨.inr trivial,dH G0F (λpp mG=>?_) (λk hk=>by rw [aj _ _ zO]),_,_,λk=>if k=1000 then 216 else k,.inr ⟨h0,c,A,hA,rfl,rfl⟩,λk hk=>ab zO,zS,zS,by simp [results56,ren,aT,aw,aA],by simp [Blk.fx_rn (hA.fx (T:=33))]⟩;have:=(hL.big pp mG).2;rw [aj _ _ zO]
def pO (nk kp:Nat) (n:Int) (off np cap:Nat):List (Nat×Blk):=[(nk,jb n),(nk+1,⟨#[.slice (some ⟨kp,off,none⟩) np cap],.ty 22⟩)]
def V5 (nk kp:Nat) (n:Int) (off np cap:Nat) (v:Value) (ns:bS):Prop:=v=.func (.func 80) #[] #[.pointer (some ⟨nk,0,none⟩),.pointer (some ⟨nk+1,0,none⟩)]/\ns=pO nk kp n off np cap
theorem Al {nk kp:Nat} {n:Int} {off np cap:Nat} {v:Value} {ns:bS} (h:V5 nk kp n off np cap v ns):∀ k∈ak ns,nk<=k/\k<nk+2:=by
 obtain ⟨rfl,rfl⟩:=h;intro k hk;simp [ak,pO] at hk;omega
theorem acY (n:Int) (off np cap:Nat) (bp:Blk) (hb:bp.fx) :
  FunS prog G0 57 #[.int .i64 n,.slice (some ⟨100,off,none⟩) np cap] (hpL G0 [(100,bp)]) (ak [(100,bp)]) (V5 1000 100 n off np cap):=by
 refine dJ (B:=200) G0F func57 rfl call57 (aH hb) ?_ ?_ (by simp [ntmps57]) zO ?_
 ·exact bG
 ·rintro v ns ⟨rfl,rfl⟩;refine ⟨by simp [aN,cp,aL,aR,cJ,ak,pO],by simp [pO,jb,aF,aL,aR,cJ,ak],?_⟩;intro k b c h1 h2;simp [pO] at h1 h2;rcases h1 with ⟨e1,rfl⟩|⟨e1,rfl⟩<;>rcases h2 with ⟨e2,rfl⟩|⟨e2,rfl⟩<;>first|rfl|omega
 intro C hC bQ hY;refine fO ?_;refine ⟨.inr trivial,G4 G0F,_,_,λk=>if k=1000 then 200 else if k=1001 then 208 else k,⟨rfl,rfl⟩,λk hk=>?_,by simp [pO],by simp [pO],by simp [results57,ren,aT,aw,aA],?_⟩
 ·dsimp only;exact fG
 ·simp [pO,jb,Blk.rn,aw,aA]
def onk (kp nk k:Nat):Nat:=if k=100 then kp else if k=1000 then nk else if k=1001 then nk+1 else k
theorem ahQ (kp nk:Nat) (Vw:100<=kp) (mZ:kp<nk) (n:Int) (off np cap:Nat) (bp:Blk) (hb:bp.fx) :
  FunS prog G0 57 #[.int .i64 n,.slice (some ⟨kp,off,none⟩) np cap] (hpL G0 [(kp,bp)]) [kp] (V5 nk kp n off np cap):=by
 have hr:=λρ=>Blk.fx_rn hb ρ;have d0:onk kp nk 100=kp:=by simp [onk]
 have d1:onk kp nk 1000=nk:=by simp [onk]
 have d2:onk kp nk 1001=nk+1:=by simp [onk]
 have eR:RR (onk kp nk) (V5 1000 100 n off np cap)=V5 nk kp n off np cap:=by
  funext v ns;apply propext;constructor
  ·rintro ⟨v0,uo,⟨rfl,rfl⟩,rfl,rfl⟩;exact ⟨by simp [ren,aT,aw,aA,d1,d2],CL⟩
  ·rintro ⟨rfl,rfl⟩;exact ⟨_,_,⟨rfl,rfl⟩,by simp [ren,aT,aw,aA,d1,d2],CL⟩
 refine (acY n off np cap bp hb).mvL G0F (aH hb) (onk kp nk) (λk hk=>by unfold onk;rw [ab zO,ab zO,ab zO]) rX (by simp [ak,d0]) eR (KP Vw) (by simp [d0,hr];omega) ah (λv ns hV k hk=>?_) (λv ns hV k hk l hl e=>?_)
 ·have:=Al hV k hk;obtain rfl|rfl:k=1000\/k=1001:=zO
  ·rw [d1];simp;omega
  ·rw [d2];simp;omega
 ·have h1:=Al hV k hk;have h2:=Al hV l hl;have c1:k=1000\/k=1001:=zO;have c2:l=1000\/l=1001:=zO;rcases c1 with rfl|rfl<;>rcases c2 with rfl|rfl<;>first|rfl|(rw [d1,d2] at e;omega)|(rw [d2,d1] at e;omega)
theorem CJ {p:Prop} (h:p:=by simp [mtV,ren,aT,aw,aA,d0,d1,d2,d3]):p:=h
theorem Cg {p:Prop} (h:p:=by simp [rnL,Ib,Blk.rn,aw,aA,d0,d1,d2,d3]):p:=h
theorem EG {p:Prop} (h:p:=by
 rintro v ns ⟨rfl,rfl⟩;simp [aN,cp,aL,aR,cJ,ak,aF];rintro k b c rfl rfl _ rfl
 rfl):p:=h
theorem P8:Ret prog G0 75 #[.int .i64 0] (.bool true):=by
 refine ck G0F func75 rfl call75 rfl zS (by simp [ntmps75]) ?_;intro C hC bQ hY;refine fO ?_;exact Gy.eR results75
@[simp] theorem apa (K:iQ):cu prog G0 75 #[.int .i64 0] K↔K (.bool true):=aP G0W ae P8
theorem asr {A:bV} (hA:A.size=8) (a0 a1 a2 a3 a4 a5 a6 a7:Value):(((((((A.setIfInBounds 0 a0).setIfInBounds 1 a1).setIfInBounds 2 a2).setIfInBounds 3 a3).setIfInBounds 4 a4).setIfInBounds 5 a5).setIfInBounds 6 a6).setIfInBounds 7 a7=#[a0,a1,a2,a3,a4,a5,a6,a7]:=by
 obtain ⟨l⟩:=A;have hl:l.length=8:=hA
 exact match l,hl with
 | [b0,b1,b2,b3,b4,b5,b6,b7],_=>zS
def Ib (nk:Nat):List (Nat×Blk):=[(nk,⟨#[.int .i64 1000000],.ty 3⟩),(nk+1,⟨#[.int .i64 1351207,.int .i64 (-1702414)],.ty 3⟩),(nk+2,⟨#[.int .i64 784514,.int .i64 235573,.int .i64 (-1177680),.int .i64 1315186],.ty 3⟩),(nk+3,⟨#[.int .i64 741670,.int .i64 (-409101),.int .i64 190755,.int .i64 (-573862),.int .i64 299064,.int .i64 334625,.int .i64 315293,.int .i64 (-796888)],.ty 3⟩)]
def mtV (nk:Nat) (s0 s1 s2 s3 s4:ByteArray):Value:=.agg #[.string s0,.slice (some ⟨nk,0,none⟩) 1 1,.string s1,.slice (some ⟨nk+1,0,none⟩) 2 2,.string s2,.slice (some ⟨nk+2,0,none⟩) 4 4,.string s3,.slice (some ⟨nk+3,0,none⟩) 8 8,.string s4,.slice none 0 0]
def VW (nk:Nat) (v:Value) (ns:bS):Prop:=(∃ s0 s1 s2 s3 s4,v=mtV nk s0 s1 s2 s3 s4)/\ns=Ib nk
theorem Ac {nk:Nat} {v:Value} {ns:bS} (h:VW nk v ns):∀ k∈ak ns,nk<=k/\k<nk+4:=by
 obtain ⟨_,rfl⟩:=h;intro k hk;simp [ak,Ib] at hk;omega
theorem acu:FunS prog G0 76 #[] (hpL G0 []) (ak []) (VW 1000):=by
 refine dJ (B:=200) G0F func76 rfl call76 jG zS ?_ zS zO ?_
 ·rintro v ns ⟨⟨s0,s1,s2,s3,s4,rfl⟩,rfl⟩;refine ⟨by simp [mtV,Ib,aN,cp,aL,aR,cJ,ak],by simp [Ib,aF,aL,aR],?_⟩;intro k b c h1 h2;simp [Ib] at h1 h2;exact Er
 intro C hC bQ hY;refine fO ?_;rw [asr zS];refine ⟨.inr trivial,dH (m:=[]) G0F zS bn,mtV 1000 ⟨#[108,101,97,112,102,114,111,103]⟩ ⟨#[116,104,114,101,101]⟩ ⟨#[115,101,118,101,110]⟩ ⟨#[102,105,102,116,101,101,110]⟩ ⟨#[116,117,114,110,105,110,103]⟩,Ib 1000,λk=>if k=1000 then 208 else if k=1001 then 224 else if k=1002 then 240 else if k=1003 then 256 else k,⟨⟨_,_,_,_,_,rfl⟩,rfl⟩,λk hk=>?_,by simp [Ib],by simp [Ib],?_,?_⟩
 ·dsimp only;rw [ab zO,ab zO,ab zO,ab zO]
 ·simp [results76,mtV,ren,aT,aw,aA]
 ·simp [Ib,Blk.rn,aw,aA]
def Ik (nk k:Nat):Nat:=if 1000<=k then k - 1000+nk else k
theorem ahu (nk:Nat) (mZ:200<=nk):FunS prog G0 76 #[] (hpL G0 []) [] (VW nk):=by
 have d:∀ j,j<4->Ik nk (1000+j)=nk+j:=λj hj=>by unfold Ik;rw [ai zO];omega
 have d0:Ik nk 1000=nk:=d 0 zO;have d1:Ik nk 1001=nk+1:=d 1 zO;have d2:Ik nk 1002=nk+2:=d 2 zO;have d3:Ik nk 1003=nk+3:=d 3 zO
 have eR:RR (Ik nk) (VW 1000)=VW nk:=by
  funext v ns;apply propext;constructor
  ·rintro ⟨v0,uo,⟨⟨s0,s1,s2,s3,s4,rfl⟩,rfl⟩,rfl,rfl⟩;exact ⟨⟨s0,s1,s2,s3,s4,CJ⟩,Cg⟩
  ·rintro ⟨⟨s0,s1,s2,s3,s4,rfl⟩,rfl⟩;exact ⟨_,_,⟨⟨s0,s1,s2,s3,s4,rfl⟩,rfl⟩,CJ,Cg⟩
 refine acu.mvL G0F jG (Ik nk) (λk hk=>by unfold Ik;rw [ab zO]) zS ah eR (λ_ _=>rfl) zS ah (λv ns hV k hk=>?_) (λv ns hV k hk l hl e=>?_)
 ·obtain ⟨h1,h2⟩:=Ac hV k hk;unfold Ik;rw [ai zO];simp;omega
 ·obtain ⟨h1,h2⟩:=Ac hV k hk;obtain ⟨h3,h4⟩:=Ac hV l hl;unfold Ik at e;rw [ai zO,ai zO] at e;omega
def akw (nk:Nat) (v:Value) (ns:bS):Prop:=v=.slice (some ⟨nk,0,none⟩) 0 0/\ns=[(nk,⟨#[],.ty 3⟩)]
theorem aa8 (b:Blk) (hb:b.fx) (off cap:Nat):FunS prog G0 77 #[.slice (some ⟨100,off,none⟩) 0 cap] (hpL G0 [(100,b)]) (ak [(100,b)]) (akw 1000):=by
 refine dJ (B:=200) G0F func77 rfl call77 (aH hb) ?_ ?_ (by simp [ntmps77]) zO ?_
 ·exact bG
 ·rintro v ns ⟨rfl,rfl⟩;simp [aN,cp,aL,aR,cJ,ak,Blk.ids];rintro k b c rfl rfl _ rfl
  rfl
 intro C hC bQ hY;refine fO ?_;refine xW ?_;simp only [Array.toList];refine VQ rfl zS rfl underlying22 (aZ sizeOf3) ?_;refine n7 trivial ?_;refine KF (p:=some (224,0)) (q:=some (100,off)) rfl zS rfl underlying22 (aZ sizeOf3) lV lV (aG _) ?_;refine n7 trivial ?_;refine bH ?_;refine fO ?_;refine ⟨.inr trivial,G4 G0F,_,_,λk=>if k=1000 then 224 else k,⟨rfl,rfl⟩,λk hk=>ab zO,zS,zS,by simp [results77,ren,aT,aw,aA],?_⟩;simp [Blk.rn]
theorem Y9 (b:Blk) (hb:b.fx):Fun prog G0 78 #[.slice (some ⟨100,0,none⟩) 0 0] (hpL G0 [(100,b)]) (ak [(100,b)]) (.ret (.tuple #[]) []):=by
 refine de (B:=200) G0F func78 rfl call78 (aH hb) ?_ (by simp [aN]) zS zS (by simp [ntmps78]) zO ?_
 ·exact bG
 intro C hC bQ hY
 repeat' first|refine cH ?_|refine dc ?_|refine cM ?_|refine gwW ?_|fail
 rw [ai trivial];exact ⟨.inl rfl,by simp [results78],λ_ _=>rfl⟩
def aaE (nk:Nat) (v:Value) (ns:bS):Prop:=v=.tuple #[.slice (some ⟨nk,0,none⟩) 1 1,.int .i64 0]/\ns=[(nk,⟨#[.int .i64 1000000],.ty 3⟩)]
theorem Qm:FunS prog G0 55 #[.int .i64 0] (hpL G0 []) (ak []) (aaE 1000):=by
 refine dJ (B:=200) G0F func55 rfl call55 jG ?_ ?_ (by simp [ntmps55]) zO ?_
 ·exact oQ
 ·exact EG
 intro C hC bQ hY;refine fO ?_;refine xW ?_;simp only [Array.toList];refine bN (f:=.func 76) (cap:=#[]) hC (ahu 240 zO) rfl zS rfl rfl aJ aq zS aM aq zS bn (λv ns hV k hk=>by have:=Ac hV k hk;omega) ?_;rintro v ns ⟨⟨s0,s1,s2,s3,s4,rfl⟩,rfl⟩;unfold mtV Ib;refine gl4 trivial ?_;refine bH ?_;refine fO ?_;refine gj ?_;refine PI trivial ?_
 have hb:Blk.fx ⟨#[.int .i64 1000000],.ty 3⟩:=by
  show ∀ x∈#[Value.int .i64 1000000],bP x=true;simp
 have mM:FunS prog G0 77 #[.slice (some ⟨240,0,none⟩) 0 1] (hpL G0 [(240,⟨#[.int .i64 1000000],.ty 3⟩)]) [240] (akw 328):=by
  refine (aa8 _ hb 0 1).mvL G0F (aH hb) (nn2 240 328) Lq vW vN ?_ (KP zO) (by simp [Nz,Blk.rn,aw,aA]) ah (λv ns hV k hk=>?_) (λv ns hV k hk l hl _=>?_)
  ·funext v ns;apply propext;constructor
   ·rintro ⟨v0,uo,⟨rfl,rfl⟩,rfl,rfl⟩;exact ⟨by simp [ren,aT,aw,aA,Ag],by simp [rnL,Blk.rn,Ag]⟩
   ·rintro ⟨rfl,rfl⟩;exact ⟨_,_,⟨rfl,rfl⟩,by simp [ren,aT,aw,aA,Ag],by simp [rnL,Blk.rn,Ag]⟩
  ·obtain ⟨rfl,rfl⟩:=hV;simp [ak] at hk;subst hk;rw [Ag];simp
  ·exact wX
 refine bN (f:=.func 77) (cap:=#[]) hC mM rfl zS rfl rfl aJ aq zS aM aq zS bn (λv ns hV k hk=>om) ?_;rintro v ns ⟨rfl,rfl⟩;refine n7 trivial ?_;refine bH ?_
 have A9:Blk.fx ⟨#[],.ty 3⟩:=by
  show ∀ x∈(#[]:Array Value),bP x=true;simp
 repeat' first|refine cM ?_|((first|refine gwR [78] ?_|refine gwD [78] ?_);intro Q hQ _;(repeat first|simp [hC,hY]|refine az (Y9 _ A9) G0F (B:=200) (aH A9) (λk=>if k=100 then 328 else k) (λk hk=>ab zO) ay zS (by simp [Blk.rn]) ah ax ?_);refine cQ hQ ?_)|fail
 refine gj ?_;refine zP trivial ?_;refine KF (p:=some (240,0)) (q:=some (328,0)) (sl:=1) (cap:=1) (c:=0) rfl zS rfl underlying22 (aZ sizeOf3) zS zS (aG _) ?_;refine zP trivial ?_;refine bH ?_;refine fO ?_;refine ⟨.inr trivial,dH (m:=[]) G0F zS bn,_,_,λk=>if k=1000 then 240 else k,⟨rfl,rfl⟩,λk hk=>ab zO,zS,zS,by simp [results55,ren,aT,aw,aA],?_⟩;simp [Blk.rn,aw,aA]
theorem ahW {nk:Nat} {ρ:cI} (h:ρ 1000=nk):RR ρ (aaE 1000)=aaE nk:=by
 funext v ns;apply propext;constructor
 ·rintro ⟨v0,uo,⟨rfl,rfl⟩,rfl,rfl⟩;exact ⟨eN,by simp [rnL,Blk.rn,aw,aA,h]⟩
 ·rintro ⟨rfl,rfl⟩;exact ⟨_,_,⟨rfl,rfl⟩,eN,by simp [rnL,Blk.rn,aw,aA,h]⟩
def O4 (nk m:Nat) (k p q:aS) (v:Value) (ns:bS):Prop:=∃ w,Tc nk m k p q w ns/\v=.tuple #[w,.int .i64 0]
theorem vp {nk m:Nat} {k p q:aS} {v:Value} {ns:bS} (h:O4 nk m k p q v ns):∀ x∈ak ns,x=nk:=by
 obtain ⟨w,h,rfl⟩:=h;exact NF h
theorem YC {D:gA} {m:Nat} {k p q:aS} (v:Value) (ns:bS) (h:O4 1000 m k p q v ns):aN (cJ D ns) v/\(∀ p∈ns,200<=p.1/\p.2.ids (cJ D ns))/\(∀ k b c,(k,b)∈ns->(k,c)∈ns->b=c):=by
 obtain ⟨w,h,rfl⟩:=h;obtain ⟨f1,f2,f3⟩:=ND (D:=D) w ns h;refine ⟨?_,f2,f3⟩;obtain ⟨c,A,hA,rfl,rfl⟩:=h;simp [aN,cp,aL,aR,cJ,ak]
theorem acX {nk m:Nat} {k p q:aS} {ρ:cI} (h:ρ 1000=nk):RR ρ (O4 1000 m k p q)=O4 nk m k p q:=by
 funext v ns;apply propext;constructor
 ·rintro ⟨v0,uo,⟨w,⟨c,A,hA,rfl,rfl⟩,rfl⟩,rfl,rfl⟩;exact ⟨_,⟨c,A,hA,rfl,by simp [rnL,Blk.fx_rn (hA.fx (T:=33)),h]⟩,eN⟩
 ·rintro ⟨w,⟨c,A,hA,rfl,rfl⟩,rfl⟩;exact ⟨_,_,⟨_,⟨c,A,hA,rfl,rfl⟩,rfl⟩,eN,by simp [rnL,Blk.fx_rn (hA.fx (T:=33)),h]⟩
def lfP (j:Nat):Int:=1000000
def Ul (k:Nat):Nat:=if k=100 then 304 else if k=108 then 305 else if k=116 then 224 else if k=1000 then 312 else k
theorem V6:FunS prog G0 35 #[.int .i64 0] (hpL G0 []) (ak []) (O4 1000 3 pk (pp lfP) pq):=by
 refine dJ (B:=200) G0F func35 rfl call35 jG ?_ YC (by simp [ntmps35]) zO ?_
 ·exact oQ
 intro C hC bQ hY
 have Jm:FunS prog G0 55 #[.int .i64 0] (hpL G0 []) [] (aaE 224) :=
  Qm.mvL G0F jG (λk=>if k=1000 then 224 else k) (λk hk=>ab zO) ay ah (ahW rfl) (λ_ _=>rfl) zS ah (λv ns hV k hk=>by obtain ⟨rfl,rfl⟩:=hV;simp [ak] at hk;subst hk;simp) (λv ns hV k hk l hl _=>by obtain ⟨rfl,rfl⟩:=hV;simp [ak] at hk hl;rw [hk,hl])
 refine fO ?_;refine gj ?_;refine n7 trivial ?_;refine bN (f:=.func 55) (cap:=#[]) hC Jm rfl zS rfl rfl aJ aq zS aM aq zS bn (λv ns hV k hk=>om) ?_;rintro v ns ⟨rfl,rfl⟩;refine Z2 trivial ?_;refine bH ?_;refine fO ?_;refine gj ?_;refine zP trivial ?_
 have hb:Blk.fx ⟨#[.int .i64 1000000],.ty 3⟩:=by
  show ∀ x∈#[Value.int .i64 1000000],bP x=true;simp
 have hP:MB ⟨#[.int .i64 1000000],.ty 3⟩ 0 1 lfP:=by
  refine ⟨λj hj=>?_,hb,λj hj=>?_,zO⟩
  ·obtain rfl:j=0:=zO
   rfl
  ·unfold lfP i64;omega
 refine bN (f:=.func 57) (cap:=#[]) hC (ahQ 224 304 zO zO 0 0 1 1 _ hb) rfl zS rfl rfl aJ aq zS aM aq zS bn (λv ns hV k hk=>by have:=Al hV k hk;omega) ?_;rintro v ns ⟨rfl,rfl⟩;have d0:Ul 100=304:=rfl;have d1:Ul 108=305:=rfl;have d2:Ul 116=224:=rfl;have d3:Ul 1000=312:=rfl
 have hco:FunS prog G0 56 #[.func (.func 80) #[] #[.pointer (some ⟨304,0,none⟩),.pointer (some ⟨305,0,none⟩)]] (hpL G0 ((224,⟨#[.int .i64 1000000],.ty 3⟩)::pO 304 224 0 0 1 1)) [304,305,224] (OsR 312 3 pk (pp lfP) pq):=by
  refine (acV 0 zO 0 1 1 _ lfP hP zO).mvL G0F (Ai hb 0 0 1 1) Ul (λk hk=>by unfold Ul;rw [ab zO,ab zO,ab zO,ab zO]) (by simp [ren,aT,aw,aA,d0,d1]) (by simp [opL,ak,d0,d1,d2]) (Qk d3) ?_ ?_ ?_ (λv ns hV k hk=>?_) (λv ns hV k hk l hl _=>by rw [nI hV k hk,nI hV l hl])
  ·intro k hk;simp (disch:=omega) only [pO,aW,dm,ab]
  ·simp [opL,pO,d0,d1,d2,tY,ahX];simp [Blk.rn,aw,aA]
  ·simp [opL,ak,d0,d1,d2]
  ·rw [nI hV k hk,d3];simp
 refine bN (f:=.func 56) (cap:=#[]) hC hco rfl zS rfl rfl aJ aq zS (by simp [okX,dk,eY]) (by simp [gev,dk]) ?_ ?_ (λv ns hV k hk=>by have:=nI hV k hk;omega) ?_
 ·simp [pO,bW]
 ·intro k hk;simp (disch:=omega) only [pO,bW,aj,aW,dm,ab]
 rintro v ns (⟨h0,_⟩|⟨_,c,A,hA,rfl,rfl⟩)
 ·omega
 refine zP @pO.eq_1 ?_;refine bH ?_;refine fO ?_;refine ⟨.inr trivial,dH (m:=[]) G0F zS bn,_,_,λk=>if k=1000 then 312 else k,⟨_,⟨c,A,hA,rfl,rfl⟩,rfl⟩,λk hk=>ab zO,zS,zS,by simp [results35,ren,aT,aw,aA],?_⟩;simp [Blk.fx_rn (hA.fx (T:=33))]
theorem Cs {p:Prop} (h:p:=by simp [Mq,dom,eY,ren,aT,aw,aA,aN,cp,aL,aR]):p:=h
theorem kH {p:Prop} (h:p:=by unfold bwI;omega):p:=h
theorem Ca {p:Prop} (h:p:=by simp (disch:=omega) only [eW,aj,al,aB,aC,aW,dm,ab]):p:=h
theorem EC {p:Prop} (h:p:=by
 refine n7 trivial ?_;refine bH ?_;simp only [iX,gK];refine ⟨λk=>if k=208 then 380 else k,_,λC0 h1 h2=>pT _ _ 300 (h1.trans so) G0F (m0:=[]) (zU C0 h2) zO ?_ ?_ ?_ ?_ ?_,⟨_,_,.inr ⟨zO,c',A',BQ,rfl,rfl⟩,rfl⟩⟩
 ·exact Cs
 ·exact r8
 ·simp
 ·exact jA
 ·simp):p:=h
def BwR (nk kp off m cap:Nat) (v:Value) (ns:bS):Prop:=v=.func (.func 84) #[] #[.pointer (some ⟨nk,0,none⟩)]/\ns=[(nk,⟨#[.slice (some ⟨kp,off,none⟩) m cap],.ty 28⟩)]
theorem aaV (b:Blk) (off m cap:Nat) (hb:b.fx) :
  FunS prog G0 58 #[.slice (some ⟨100,off,none⟩) m cap] (hpL G0 [(100,b)]) (ak [(100,b)]) (BwR 1000 100 off m cap):=by
 refine dJ (B:=200) G0F func58 rfl call58 (aH hb) ?_ ?_ (by simp [ntmps58]) zO ?_
 ·exact bG
 ·exact EG
 intro C hC bQ hY;refine fO ?_;refine ⟨.inr trivial,G4 G0F,_,_,λk=>if k=1000 then 200 else k,⟨rfl,rfl⟩,λk hk=>ab zO,zS,zS,by simp [results58,ren,aT,aw,aA],?_⟩;simp [Blk.rn,aw,aA]
theorem afG (nk:Nat) (mZ:200<=nk) (b:Blk) (off m cap:Nat) (hb:b.fx) :
  FunS prog G0 58 #[.slice (some ⟨100,off,none⟩) m cap] (hpL G0 [(100,b)]) [100] (BwR nk 100 off m cap):=by
 have hr:=λρ=>Blk.fx_rn hb ρ;refine (aaV b off m cap hb).mvL G0F (aH hb) (λk=>if k=1000 then nk else k) (λk hk=>ab zO) ay ah ?_ (aH hb).low cj ah (λv ns hV k hk=>?_) (λv ns hV k hk l hl _=>?_)
 ·funext v ns;apply propext;constructor
  ·rintro ⟨v0,uo,⟨rfl,rfl⟩,rfl,rfl⟩;exact ⟨ay,by simp [rnL,rn1,aw,aA]⟩
  ·rintro ⟨rfl,rfl⟩;exact ⟨_,_,⟨rfl,rfl⟩,ay,by simp [rnL,rn1,aw,aA]⟩
 ·obtain ⟨rfl,rfl⟩:=hV;simp [ak] at hk;subst hk;simp;omega
 ·exact wX
def bwI (m i:Nat):Int:=(m:Int) - 1 - i
def Pe (m:Nat) (k p q:aS):List (Array Value):=(List.range m).map λ(i:Nat)=>#[.int .i64 (bwI m i),opV (k (m - 1 - i)) (p (m - 1 - i)) (q (m - 1 - i))]
theorem Hx (m:Nat) (k p q:aS):(Pe m k p q).length=m:=by simp [Pe]
theorem KS {m i:Nat} {k p q:aS} (h:i<m):(Pe m k p q)[i]? = some #[.int .i64 (bwI m i),opV (k (m - 1 - i)) (p (m - 1 - i)) (q (m - 1 - i))]:=by simp [Pe,h]
def bwL (b:Blk) (off m cap:Nat):List (Nat×Blk):=[(100,⟨#[.slice (some ⟨108,off,none⟩) m cap],.ty 28⟩),(108,b)]
theorem Ws {b:Blk} (hb:b.fx) (off m cap:Nat):LOk (bwL b off m cap) 200:=⟨by simp [bwL],by simp [bwL,ak],by
 simp only [bwL,al,aB,aC,dC,bR];exact ⟨vS,Blk.fx_ids hb _⟩⟩
def aaU (b:Blk) (off m cap l i:Nat):GS :=
 ⟨tsL [(0,.func (.yield l) #[] #[]),(1,.pointer (some ⟨100,0,none⟩)),(3,.int .i64 (bwI m i))],hpL G0 (bwL b off m cap),300,i⟩
theorem afH (b:Blk) (off m cap:Nat) (k p q:aS) (h:OpB b off m k p q) :
  IterK prog G0 84 #[.pointer (some ⟨100,0,none⟩)] (hpL G0 (bwL b off m cap)) (ak (bwL b off m cap)) (Pe m k p q):=by
 have hL:=Ws h.fx off m cap;refine jO (B:=200) (v:=.tuple #[]) G0F func84 rfl call84 hL ?_ (by simp [ntmps84]) zO ?_
 ·simp [aN,cp,aL,aR,bwL,ak]
 intro C l stop hC bQ hY;have abQ:=h.m45;have iZ:=λD=>Blk.fx_ids h.fx D;have ju:Int.bmod ((m:Int) - 1) 18446744073709551616=bwI m 0:=by rw [Go.Gy.bm zO zO];unfold bwI;omega
 unfold bwL;refine dy ju ?_;refine jQ (min stop m) (aaU b off m cap l) ?_ ?_ ?_
 ·refine dv _ 300 hC G0F (m0:=bwL b off m cap) bQ zO ?_ ?_ ?_
  ·simp [aN,cp,aL,aR,dom,bwL]
  ·simp [bwL,aF,aL,aR,iZ,dom]
  ·simp [bwL]
 ·intro i hi;have dR:i<m:=zO;have hz:(0:Int)<=bwI m i:=kH;have hz2:bwI m i<m:=kH;have ht:(bwI m i).toNat=m - 1 - i:=kH;have hs:Int.bmod (bwI m i - 1) 18446744073709551616=bwI m (i+1):=by unfold bwI;rw [Go.Gy.bm zO zO];omega
  have tc:i<stop:=zO;have RQ:(i != stop)=true:=aE;have hle:i<=stop:=zO;have uk:=h.ld (m - 1 - i) zO;have hx:=KS (k:=k) (p:=p) (q:=q) dR;unfold opV at uk hx;unfold aaU bwL;refine dy (k10 dR hz hz2 ht hs tc RQ hle uk hx) ?_;refine dv _ 300 hC G0F (m0:=bwL b off m cap) bQ zO ?_ ?_ ?_
  ·simp [aN,cp,aL,aR,dom,bwL,hs]
  ·simp [bwL,aF,aL,aR,iZ,dom]
  ·simp [bwL]
 ·have cA:∀ k,dom (hpL G0 (bwL b off m cap)) k->k<200:=λk hk=>aO λh1=>hk (hL.free G0F zO k zO);have hlen:=Hx m k p q;by_cases h4:m<=stop
  ·rw [nN h4];have hz:¬(0:Int)<=bwI m m:=kH;unfold aaU bwL;refine dy hz ?_;refine ⟨.inl trivial,?_,?_,?_⟩
   ·simp [results84]
   ·rw [hlen];omega
   ·exact kP
  ·rw [nX zO];have dR:stop<m:=zO;have hz:(0:Int)<=bwI m stop:=kH;have hz2:bwI m stop<m:=kH;have ht:(bwI m stop).toNat=m - 1 - stop:=kH;have uk:=h.ld (m - 1 - stop) zO;have hx:=KS (k:=k) (p:=p) (q:=q) dR;unfold opV at uk hx;unfold aaU bwL;refine dy (k6 dR hz hz2 ht uk hx) ?_;refine ⟨.inr trivial,?_,?_,?_⟩
   ·simp [results84]
   ·rw [hlen];omega
   ·exact kP
def bkF (m:Nat) (f:aS) (j:Nat):Int:=f (m - 1 - j)
def bnF (m:Nat) (f:aS) (j:Nat):Int:=-f (m - 1 - j)
def boI (m:Nat) (k p q:aS) (i:Nat) (h:Hp):Prop:=∃ sl ns,OsR 208 i (bkF m k) (bnF m p) (bkF m q) sl ns/\h=hpL G0 ((200,⟨#[sl],.ty 28⟩)::ns)
def Mq:List (Nat×Value):=[(2,.pointer (some ⟨200,0,none⟩))]
theorem Wn (b:Blk) (off m cap:Nat) (k p q:aS) (h:OpB b off m k p q) (hp6:∀ j,j<m->-4611686018427387904<=p j/\p j<=4611686018427387904) :
  FunS prog G0 37 #[.slice (some ⟨100,off,none⟩) m cap] (hpL G0 [(100,b)]) (ak [(100,b)]) (OsR 1000 m (bkF m k) (bnF m p) (bkF m q)):=by
 have hL:=aH h.fx;have abQ:=h.m45;refine dJ (B:=200) G0F func37 rfl call37 hL ?_ Lx (by simp [ntmps37]) zO ?_
 ·exact bG
 intro C hC bQ hY;have iZ:=λD=>Blk.fx_ids h.fx D
 have zU:∀ C0:Ctx,(C0.hp0=λk=>if k∈[216,100] then none else C.hp0 k)->C0.hp0=hpL G0 []:=λC0 h0=>by
  rw [h0,bQ];funext q;by_cases e:q=100
  ·subst e;simp [KC]
  ·by_cases e2:q=216
   ·subst e2;simp [KC]
   ·simp [e,e2]
 refine fO ?_;refine gj ?_;refine n7 trivial ?_;refine bN (f:=.func 58) (cap:=#[]) hC (afG 216 zO b off m cap h.fx) rfl zS rfl rfl aJ aq zS aM aq zS bn (λv ns hV k hk=>om) ?_;rintro v ns ⟨rfl,rfl⟩;refine bH ?_;simp only [dk,bW];refine fO ?_;refine AN (f:=84) (rs:=[216,100]) (xs:=Pe m k p q) (bh:=#[.pointer (some ⟨216,0,none⟩)]) [216,100] hY zS ?_ ?_ (by simp [ntmps37]) (tsL Mq) (tsL Mq) (boI m k p q) (hpS:=hpL G0 [(200,⟨#[.slice none 0 0],.ty 28⟩)]) 300 m (by rw [Hx];exact aG _) (λ_ hk=>hk) ?_ ?_ ?_ ?_ ?_ (λ_=>.inl rfl) ?_ ?_
 ·rw [hC];exact pK (afH b off m cap k p q h) G0F (Ws h.fx off m cap) (λk=>if k=100 then 216 else if k=108 then 100 else k) (λk hk=>(ab zO).trans (ab zO)) ga (by simp [bwL,ak]) bn (by simp [bwL,Blk.fx_rn h.fx,rn1,aw,aA]) (by simp [bwL,ak])
 ·intro x hx;simp [Pe] at hx;obtain ⟨i,_,rfl⟩:=hx;simp [opV]
 ·intro k hk;simp at hk;rcases hk with rfl|rfl<;>simp [dom]
 ·intro q hq b' Jh;simp at hq;rcases hq with rfl|rfl
  ·simp at Jh;subst Jh;exact jC
  ·simp at Jh;subst Jh;exact iZ _
 ·intro C0 h1 h2;refine dv _ 300 (h1.trans hC) G0F (m0:=[]) (zU C0 h2) zO ?_ ?_ ?_
  ·simp [Mq,aN,cp,aL,aR,dom]
  ·exact jC
  ·simp
 ·exact xQ
 ·intro k hk;simp at hk;exact mr
 ·intro i x hq0 hi hx hI C1 l sR vl qS;obtain ⟨sl,ns,hV,rfl⟩:=hI;rw [KS hi] at hx
  have hng:Int.bmod (-p (m - 1 - i)) 18446744073709551616=-p (m - 1 - i):=by
   have:=hp6 (m - 1 - i) zO;exact Go.Gy.bm zO zO
  simp only [bg] at hx;subst hx;have so:=hC;have je:C1.G=G0:=sR.trans hC;rcases hV with ⟨rfl,rfl,rfl⟩|⟨jM,c,A,hA,rfl,rfl⟩
  ·rw [Nat.sub_zero] at hng;clear hC hY;have hC:=je;have hY:=qS;unfold opV;refine dy (Gy.k2 @bC.eq_1 @Mq.eq_1) ?_;intro C2 oY Gx oZ;clear hC hY;have hC:C2.G=G0:=oY.trans so;have hY:=oZ;refine dy hng ?_;refine gj ?_;refine GU trivial ?_;refine GK (m:=0) (c:=0) (m2:=1) (j:=372) (c2:=1) (A:=#[]) (B:=#[.int .u8 (k (m - 1 - 0)),.int .i64 (-p (m - 1 - 0)),.int .i64 (q (m - 1 - 0))]) (k:=bkF m k) (p:=bnF m p) (q:=bkF m q) (k2:=λ_=>k (m - 1 - 0)) (p2:=λ_=>-p (m - 1 - 0)) (q2:=λ_=>q (m - 1 - 0)) rfl zS rfl (.inl ⟨zS,rfl,rfl,rfl⟩) (Yv _ _ _) zS zS (Ls _ _ _) zO zO ?_
   ·rintro k' c' A' g8 vm BQ;replace BQ:OA A' c' (0+1) (bkF m k) (bnF m p) (bkF m q):=BQ.congr λj hj=>⟨jJ (f:=bkF m k) hj,jJ (f:=bnF m p) hj,jJ (f:=bkF m q) hj⟩
    obtain rfl:k'=380:=by
     exact rZ
    exact EC
  ·clear hC hY;have hC:=je;have hY:=qS;have IW:=λD=>Blk.fx_ids (hA.fx (T:=33)) D;unfold opV;refine dy (Gy.k2 @bC.eq_1 @Mq.eq_1) ?_;intro C2 oY Gx oZ;clear hC hY;have hC:C2.G=G0:=oY.trans so;have hY:=oZ;refine dy hng ?_;refine gj ?_;refine GU trivial ?_;refine GK (m:=i) (c:=c) (m2:=1) (j:=372) (c2:=1) (A:=A) (B:=#[.int .u8 (k (m - 1 - i)),.int .i64 (-p (m - 1 - i)),.int .i64 (q (m - 1 - i))]) (k:=bkF m k) (p:=bnF m p) (q:=bkF m q) (k2:=λ_=>k (m - 1 - i)) (p2:=λ_=>-p (m - 1 - i)) (q2:=λ_=>q (m - 1 - i)) rfl zS rfl (.inr ⟨208,zS,zO,zS⟩) hA zS zS (Ls _ _ _) zO zO ?_
   ·rintro k' c' A' g8 vm BQ;replace BQ:OA A' c' (i+1) (bkF m k) (bnF m p) (bkF m q):=BQ.congr λj hj=>⟨jJ (f:=bkF m k) hj,jJ (f:=bnF m p) hj,jJ (f:=bkF m q) hj⟩
    have g8:k'=380\/k'=208:=by
     exact r9
    rcases g8 with rfl|rfl
    ·
     exact EC
    ·
     refine n7 trivial ?_;refine bH ?_;simp only [iX,gK];refine ⟨λk=>if k=208 then 208 else k,_,λC0 h1 h2=>pT _ _ 300 (h1.trans so) G0F (m0:=[]) (zU C0 h2) zO ?_ ?_ ?_ ?_ ?_,⟨_,_,.inr ⟨zO,c',A',BQ,rfl,rfl⟩,rfl⟩⟩
     ·exact Cs
     ·exact r8
     ·simp
     ·exact jA
     ·simp
 ·left
  refine ⟨(Hx _ _ _ _).symm,?_⟩;rintro hq0 ⟨sl,ns,hV,rfl⟩;refine ⟨?_,?_⟩
  ·intro k hk;simp at hk;rcases hV with ⟨h0,rfl,rfl⟩|⟨jM,c,A,hA,rfl,rfl⟩
   ·exact mr
   ·exact mr
  rcases hV with ⟨h0,rfl,rfl⟩|⟨jM,c,A,hA,rfl,rfl⟩
  ·unfold Mq;refine dy @eW.eq_1 ?_;refine ⟨.inr trivial,dH (m:=[(100,b)]) G0F oH (λk hk=>Ca),_,_,λk=>k,.inl ⟨h0,rfl,rfl⟩,λ_ _=>rfl,zS,zS,by simp [results37,ren,aT,aw,aA,eW],zS⟩
  ·unfold Mq;refine dy @eW.eq_1 ?_;refine ⟨.inr trivial,dH (m:=[(100,b)]) G0F oH (λk hk=>Ca),_,_,λk=>if k=1000 then 208 else k,.inr ⟨jM,c,A,hA,rfl,rfl⟩,λk hk=>ab zO,zS,zS,by simp [results37,ren,aT,aw,aA,eW],?_⟩;simp [eW,Blk.fx_rn (hA.fx (T:=33))]
theorem kC {p:Prop} (h:p:=by simp [byN]):p:=h
theorem CC {p:Prop} (h:p:=by simp [cfV,ren,aT,aw,aA,e0,e1,e2]):p:=h
theorem amY (k p q:aS) (i:Nat):opC k p q (3*i)=.int .u8 (k i):=by
 unfold opC;rw [ai zO,(zO:3*i / 3=i)]
theorem amZ (k p q:aS) (i:Nat):opC k p q (3*i+1)=.int .i64 (p i):=by
 unfold opC;rw [ab zO,ai zO,(zO:(3*i+1) / 3=i)]
theorem am0 (k p q:aS) (i:Nat):opC k p q (3*i+2)=.int .i64 (q i):=by
 unfold opC;rw [ab zO,ab zO,(zO:(3*i+2) / 3=i)]
theorem ahB {A:bV} {c m:Nat} {k p q:aS} (h:OA A c m k p q) (hm:m<=1000):OpB ⟨A,.ty 33⟩ 0 m k p q:=by
 refine ⟨h.fl,λi hi=>?_,hm⟩;have yg:=h.sz;have hle:=h.le
 have he:A.extract (0+i*3) (0+i*3+3)=#[.int .u8 (k i),.int .i64 (p i),.int .i64 (q i)]:=by
  have r0:=h.rd (3*i) zO;have r1:=h.rd (3*i+1) zO;have r2:=h.rd (3*i+2) zO;rw [amY] at r0;rw [amZ] at r1;rw [am0] at r2;apply iB;intro j;rw [uK];by_cases hj:j<3
  ·rw [ai zO,(zO:0+i*3+j=3*i+j)];obtain rfl|rfl|rfl:j=0\/j=1\/j=2:=zO
   ·rw [dZ,r0];rfl
   ·rw [r1];rfl
   ·rw [r2];rfl
  ·rw [ab zO,gN (by simp;omega)]
 have:0+i*3+3<=A.size:=zO;simp only [sZ];simp only [ar6,ai this,he]
 rfl
theorem LKa.three {x y z:Blk} (hx:x.fx) (hy:y.fx) (hz:z.fx):LKa [(100,x),(108,y),(116,z)] 100 108 x y:=by
 refine ⟨⟨zS,ah,?_⟩,?_,zS,.inr rfl,.inl rfl,λ_=>zS,λe=>wo⟩
 ·simp only [al,aB,aC,dC,bR];exact ⟨Blk.fx_ids hx _,Blk.fx_ids hy _,Blk.fx_ids hz _⟩
 ·simp only [al,aB,aC,dC,bR];exact ⟨hx,hy,hz⟩
def byN (ka ks ko nk x:Nat):Nat:=if x=100 then ka else if x=108 then ks else if x=116 then ko else if 1000<=x then x - 1000+nk else x
section
variable (bm bs:Blk) (off n cap ao av:Nat) (fm fs:aS) (hm:MB bm off n fm) (cf:SB bs ao n fs) (dp:n<=av) (g bx tp nr md st:Int) (hs:i64 st) (fJ:eQ n fm g bx tp nr md=true) (ez:aV st fs n=true)
 (oo m oc:Nat) (bo:Blk) (k p q:aS) (hO:OpB bo oo m k p q) (zt:∀ i,i<m->0<=k i/\k i<256)
 (N:Nat) (hN:N<=m) (Jf:∀ c,c<N->stE g bx tp nr fm n st k p q fs c=0) (cm:N=m\/¬stE g bx tp nr fm n st k p q fs N=0) (d:Int) (hd:d=1\/d=-1) (m9:-1073741824<=st+d/\st+d<=1073741824)
include hm cf dp hs fJ ez hO zt hN Jf cm hd m9
theorem SJ (ka ks ko nk:Nat) (h1:100<=ka/\100<=ks/\100<=ko) (h2:ka≠ks/\ka≠ko/\ks≠ko) (h3:100<=nk/\nk≠ka/\nk≠ks/\nk≠ko) (hp:Hp) (p1:hp ka=some bm) (p2:hp ks=some bs) (p3:hp ko=some bo) (ba:∀ k,k<100->hp k=G1 k) :
  FunS prog G1 36 #[cfV (.slice (some ⟨ka,off,none⟩) n cap) g bx tp nr md,.agg #[.int .i64 st,.slice (some ⟨ks,ao,none⟩) n av],.int .i64 d,.slice (some ⟨ko,oo,none⟩) m oc] hp [ka,ks,ko]
  (ByR (if N=m then st+d else st) (if N=m then 0 else stE g bx tp nr fm n st k p q fs N) (if N=m then stF g bx tp nr fm n st k p q fs m else fs) n nk):=by
 have hT:=LKa.three hm.fx cf.fx hO.fx;have r1:=λρ=>Blk.fx_rn hm.fx ρ;have r2:=λρ=>Blk.fx_rn cf.fx ρ;have r3:=λρ=>Blk.fx_rn hO.fx ρ;have e0:byN ka ks ko nk 100=ka:=kC;have e1:byN ka ks ko nk 108=ks:=kC;have e2:byN ka ks ko nk 116=ko:=kC;have e3:byN ka ks ko nk 1000=nk:=kC;refine (akQ hT off n cap ao av fm fs hm cf dp g bx tp nr md st hs fJ ez 116 oo m oc bo k p q hO zS zt zO N hN Jf cm d hd m9).mvL G1F hT.ok (byN ka ks ko nk) (λx hx=>by unfold byN;rw [ab zO,ab zO,ab zO,ab zO]) CC (by simp [ak,e0,e1,e2]) (AS e3 _ _ _ _) ba ?_ ?_ (λv ns hV x hx=>?_) (λv ns hV x hx y hy _=>by rw [nF hV x hx,nF hV y hy])
 ·simp [e0,e1,e2,r1,r2,r3,p1,p2,p3,h1]
 ·simp [ak,e0,e1,e2];omega
 ·rw [nF hV x hx,e3];simp;omega
end
theorem l9 {p:Prop} (h:p:=by intro k hk;simp (disch:=omega) only [aj,aW,dm,ab]):p:=h
theorem Cq {p:Prop} (h:p:=by simp (disch:=omega) only [aW,dm,ab]):p:=h
theorem oP {p:Prop} (h:p:=by intro k hk;simp (disch:=omega) only [aj,bW,aW,dm,ab]):p:=h
theorem kQ {p:Prop} (h:p:=by
 intro v ns hV x hx;rw [nF hV x hx];simp):p:=h
theorem Si (nk:Nat) (mZ:100<=nk):FunS prog G1 35 #[.int .i64 0] (hpL G1 []) [] (O4 nk 3 pk (pp lfP) pq):=by
 have e:(λk=>if k=1000 then nk else k:cI) 1000=nk:=ai rfl
 have h:FunS prog G0 35 #[.int .i64 0] (hpL G0 []) (ak []) (O4 nk 3 pk (pp lfP) pq) :=
  V6.mvL G0F jG (λk=>if k=1000 then nk else k) (λk hk=>ab zO) ay ah (acX e) (λ_ _=>rfl) zS ah (λv ns hV k hk=>by rw [vp hV k hk,ai rfl];exact ⟨mZ,by simp [ak]⟩) (λv ns hV k hk l hl _=>by rw [vp hV k hk,vp hV l hl])
 exact FunS.up1 (m:=[]) (B:=200) h jG
theorem aaO (a nk:Nat) (ha:100<=a) (mZ:100<=nk) (df:a≠nk) (b:Blk) (off m cap:Nat) (k p q:aS) (h:OpB b off m k p q) (hp6:∀ j,j<m->-4611686018427387904<=p j/\p j<=4611686018427387904) :
  FunS prog G1 37 #[.slice (some ⟨a,off,none⟩) m cap] (hpL G1 [(a,b)]) [a] (OsR nk m (bkF m k) (bnF m p) (bkF m q)) :=
 FunS.up1 (m:=[(a,b)]) (B:=a+1) ((Wn b off m cap k p q h hp6).own2 (fL:=#[.slice (some ⟨a,off,none⟩) m cap]) h.fx a nk ha mZ df (λv ns=>nI) oC (Qk BY)) ⟨by simp [ha],ah,by simpa using Blk.fx_ids h.fx _⟩
theorem anc (i:Nat):0<=pk i/\pk i<256:=by
 unfold pk;split<;>omega
section
variable (bm bs:Blk) (off n cap ao av:Nat) (fm fs:aS) (hm:MB bm off n fm) (cf:SB bs ao n fs) (dp:n<=av) (g bx tp nr st:Int) (hs:i64 st) (fJ:eQ n fm g bx tp nr 0=true) (ez:aV st fs n=true)
include hm cf dp hs fJ ez
theorem A7 (N:Nat) (hN:N<=3) (Jf:∀ c,c<N->stE g bx tp nr fm n st pk (pp lfP) pq fs c=0) (cm:N=3\/¬stE g bx tp nr fm n st pk (pp lfP) pq fs N=0) (m9:-1073741824<=st+1/\st+1<=1073741824) :
  FunS prog G1 18 #[cfV (.slice (some ⟨100,off,none⟩) n cap) g bx tp nr 0,.agg #[.int .i64 st,.slice (some ⟨108,ao,none⟩) n av]] (hpL G1 [(100,bm),(108,bs)]) (ak [(100,bm),(108,bs)])
  (ByR (if N=3 then st+1 else st) (if N=3 then 0 else stE g bx tp nr fm n st pk (pp lfP) pq fs N) (if N=3 then stF g bx tp nr fm n st pk (pp lfP) pq fs 3 else fs) n 1000):=by
 have hT:=LKa.two hm.fx cf.fx;have r1:=λρ=>Blk.fx_rn hm.fx ρ;have r2:=λρ=>Blk.fx_rn cf.fx ρ;refine iK (B:=200) G1F func18 rfl call18 hT.ok ?_ KT (by simp [ntmps18]) zO ?_
 ·simp [aN,cp,aL,aR,cfV,dom]
 intro C hC bQ hY;unfold cfV;refine fO ?_;refine gj ?_;refine zP trivial ?_;refine bN (f:=.func 35) (cap:=#[]) hC (Si 248 zO) rfl zS rfl rfl aJ aq zS aM aq zS l9 ?_ ?_
 ·intro v ns hV x hx;rw [vp hV x hx];simp
 rintro v ns ⟨w,⟨oc,A,hA,rfl,rfl⟩,rfl⟩;refine Z2 trivial ?_;refine bH ?_;refine fO ?_;refine gj ?_;refine GU trivial ?_;have hO:=ahB hA zO;have L4:=SJ bm bs off n cap ao av fm fs hm cf dp g bx tp nr 0 st hs fJ ez 0 3 oc _ pk (pp lfP) pq hO (λi _=>anc i) N hN Jf cm 1 (.inl rfl) m9 100 108 248 320 zO zO zO (hpL G1 [(100,bm),(108,bs),(248,⟨A,.ty 33⟩)]) zS zS zS (λk hk=>Cq);refine bN (f:=.func 36) (cap:=#[]) hC L4 rfl zS rfl rfl aJ aq zS aM oq zS oP ?_ ?_
 ·exact kQ
 rintro v ns ⟨c9,b9,h9,pb,rfl,rfl⟩;refine gl4 trivial ?_;refine bH ?_;refine fO ?_;refine ⟨.inr trivial,dH G1F zS l9,_,_,λx=>if x=1000 then 320 else x,⟨c9,b9,h9,pb,rfl,rfl⟩,λx hx=>ab zO,zS,zS,by simp [results18,ren,aT,aw,aA],?_⟩;simp [Blk.fx_rn h9.fx]
end
theorem B8 {p:Prop} (h:p:=by unfold adp;split<;>first|rfl|exact absurd rfl hj|exact (hD zD).elim):p:=h
theorem CD {p:Prop} (h:p:=by unfold SF;split<;>first|rfl|exact absurd rfl hj|exact (hD zD).elim):p:=h
theorem ap0 (i:Nat) (_:i<3):0<=bkF 3 pk i/\bkF 3 pk i<256:=anc _
def aia:List (Nat×Nat):=[(0,14),(1,15),(2,16),(3,17),(4,18),(5,19),(6,20),(8,5)]
def QF:List (Nat×Nat):=[(3,320),(4,328),(7,216)]
def Js:List (Nat×Nat):=[(5,4),(7,4)]
def adp (L:bS) (off n cap ao av oc:Nat) (g bx tp nr st:Int) (A:bV) (uu ee:Int) (F:aS) (c5:Nat) (A5:bV) (c9:Nat) (b9:Blk):Nat->Value
 | 0=>.agg #[.slice (some ⟨100,off,none⟩) n cap,.int .i64 g,.int .i64 bx,.int .i64 tp,.int .i64 nr,.int .i64 0]
 | 1=>.agg #[.int .i64 st,.slice (some ⟨108,ao,none⟩) n av]
 | 2=>.slice (some ⟨248,0,none⟩) 3 oc
 | 3=>.slice (some ⟨320,0,none⟩) 3 c5
 | 4=>.tuple #[.agg #[.int .i64 uu,.slice (some ⟨328,0,none⟩) n c9],.int .i64 ee]
 | 5=>.agg #[.int .i64 uu,.slice (some ⟨328,0,none⟩) n c9]
 | 6=>.int .i64 ee
 | 8=>.int .i64 ee
 | _=>.bool true
def SF (L:bS) (off n cap ao av oc:Nat) (g bx tp nr st:Int) (A:bV) (uu ee:Int) (F:aS) (c5:Nat) (A5:bV) (c9:Nat) (b9:Blk):Nat->Blk
 | 3=>⟨A5,.ty 33⟩
 | 4=>b9
 | 7=>⟨#[.int .i64 uu,.slice (some ⟨328,0,none⟩) n c9],.ty 27⟩
 | _=>⟨#[],.mp⟩
structure sbkF (L:bS) (off n cap ao av oc:Nat) (g bx tp nr st:Int) (A:bV) (uu ee:Int) (F:aS) (iP:eM) (hp0:Hp):Prop where
 e2:iP 2=.pointer (some ⟨200,0,none⟩)
 e3:iP 3=.pointer (some ⟨208,0,none⟩)
 e4:iP 4=.pointer (some ⟨216,0,none⟩)
 e6:iP 6=.slice (some ⟨248,0,none⟩) 3 oc
 b200:hp0 200=some (⟨#[.slice (some ⟨100,off,none⟩) n cap,.int .i64 g,.int .i64 bx,.int .i64 tp,.int .i64 nr,.int .i64 0],.ty 24⟩)
 b208:hp0 208=some (⟨#[.int .i64 st,.slice (some ⟨108,ao,none⟩) n av],.ty 27⟩)
 b216:hp0 216=some (⟨#[.int .i64 0,.slice none 0 0],.ty 27⟩)
 b248:hp0 248=some (⟨A,.ty 33⟩)
 low:∀ k,k<100->hp0 k=G1 k
 bL:∀ p∈L,hp0 p.1=some p.2
theorem B4:(aia.map Prod.fst).Nodup:=bd
theorem B5:(aia.map Prod.snd).Nodup:=bd
theorem Zd:(QF.map Prod.fst).Nodup:=bd
theorem As:∀ k,k<200->k∉QF.map Prod.snd:=λk hk=>by simp [QF];try omega
theorem SE {L:bS} {bm bs:Blk} (hT:LKa L 100 108 bm bs) (off n cap ao av:Nat) (fm fs:aS) (hm:MB bm off n fm) (cf:SB bs ao n fs) (dp:n<=av) (g bx tp nr st:Int) (hs:i64 st) (fJ:eQ n fm g bx tp nr 0=true) (ez:aV st fs n=true)
  (N:Nat) (hN:N<=3) (Jf:∀ c,c<N->stE g bx tp nr fm n st (bkF 3 pk) (bnF 3 (pp lfP)) (bkF 3 pq) fs c=0) (cm:N=3\/¬stE g bx tp nr fm n st (bkF 3 pk) (bnF 3 (pp lfP)) (bkF 3 pq) fs N=0) (m9:-1073741824<=st+-1/\st+-1<=1073741824)
  (uu ee:Int) (F:aS) (hF6:∀ j,j<6*n->i64 (F j)) (huu:(if N=3 then st+-1 else st)=uu) (hee:(if N=3 then 0 else stE g bx tp nr fm n st (bkF 3 pk) (bnF 3 (pp lfP)) (bkF 3 pq) fs N)=ee) (Z5:(if N=3 then stF g bx tp nr fm n st (bkF 3 pk) (bnF 3 (pp lfP)) (bkF 3 pq) fs 3 else fs)=F) :
  FunS prog G1 19 #[cfV (.slice (some ⟨100,off,none⟩) n cap) g bx tp nr 0,.agg #[.int .i64 st,.slice (some ⟨108,ao,none⟩) n av]] (hpL G1 L) (ak L) (ByR uu ee F n 1000):=by
 have hA:=hT.a;have hS:=hT.s;have jW:=hT.low;refine iK (B:=200) G1F func19 rfl call19 hT.ok ?_ KT (by simp [ntmps19]) zO ?_
 ·simp [aN,cp,aL,aR,cfV,dom,hA,hS]
 intro C hC bQ hY;unfold cfV;refine dy (k2 hA hS) ?_;refine gj ?_;refine zP (k2 hA hS) ?_;refine bN (f:=.func 35) (cap:=#[]) hC (Si 248 zO) rfl zS rfl rfl aJ aq zS aM aq zS cS ?_ ?_
 ·intro v ns hV x hx;rw [vp hV x hx];simp
 rintro v ns ⟨w,⟨oc,A,Vo,rfl,rfl⟩,rfl⟩;refine Z2 (k2 hA hS) ?_;refine bH ?_;refine dy (k2 hA hS) ?_;have hO:=ahB Vo zO;have hbk:=aaO 248 320 zO zO zO _ 0 3 oc pk (pp lfP) pq hO (λj _=>by simp [pp,lfP]);obtain ⟨c0,A0,hA0⟩:∃ c0 A0,OA A0 c0 3 (bkF 3 pk) (bnF 3 (pp lfP)) (bkF 3 pq):=⟨3,fv 9 (opC (bkF 3 pk) (bnF 3 (pp lfP)) (bkF 3 pq)),zS,λx hx=>by obtain ⟨j,_,rfl⟩:=PF hx;unfold opC;split<;>(try split)<;>rfl,λj hj=>PE _ _ zO,aG _⟩
 refine yO follows ?_;simp only [Array.toList,uT,bq,bw,fA,gP,Nat.reduceAdd];refine OY (sbkF L off n cap ao av oc g bx tp nr st A uu ee F) ?_ ?_
 ·refine ⟨zS,zS,zS,zS,zS,zS,zS,zS,?_,?_⟩
  ·exact C4
  ·intro p hp;have hb:=hT.ok.big p hp;simp (disch:=omega) only [aj,bW,aW,dm,ab];exact hT.mem p hp
 intro iP hp0 hF;refine Hb (λlisted ts hp=>∃ c5 A5 c9 b9,(OA A5 c5 3 (bkF 3 pk) (bnF 3 (pp lfP)) (bkF 3 pq)/\SB b9 0 n F/\n<=c9)/\TJ aia QF Js (adp L off n cap ao av oc g bx tp nr st A uu ee F c5 A5 c9 b9) (SF L off n cap ao av oc g bx tp nr st A uu ee F c5 A5 c9 b9) iP hp0 listed ts hp) (λlisted ts hp szR rdR hI=>?_) (λfuel listed ts hp i szR hi jX h hk=>?_) _ _ _ _ zS bd ?_
 ·have MS:=zj szR ae rdR;have jK:∀ i,i<9->listed[i]? = some true:=λi hi=>MS i oN;obtain ⟨c5,A5,c9,b9,hinv,hI⟩:=hI;have k4:ts 4=.pointer (some ⟨216,0,none⟩):=(hI.t0 4 zD).trans hF.e4;have k5:ts 5=.int .i64 ee:=hI.tm (8,5) zD (jK 8 zO);have c216:hp 216=some (⟨#[.int .i64 uu,.slice (some ⟨328,0,none⟩) n c9],.ty 27⟩):=hI.bx (7,216) zD (jK 7 zO) (by simp [QF]);have Tm:hp 328=some (b9):=hI.bx (4,328) zD (jK 4 zO) (by simp [QF]);have cL:∀ p∈L,hp p.1=some p.2:=λp hp=>(hI.ext (As _ (hT.ok.big p hp).2)).trans (hF.bL p hp);have clow:∀ k,k<100->hp k=G1 k:=λk hk=>(hI.ext (As _ zO)).trans (hF.low k hk);obtain ⟨_,ju,mU⟩:=hinv;refine dy (k3 k4 k5 c216) ?_;refine ⟨.inr trivial,?_,_,_,λx=>if x=1000 then 328 else x,⟨c9,b9,ju,mU,rfl,rfl⟩,λx hx=>ab zO,zS,zS,by simp [results19,ren,aT,aw,aA,k4,k5,c216],?_⟩
  ·exact dH G1F (λpq VB=>(cL pq VB).trans (hT.mem pq VB).symm) (λx hx=>(clow x hx).trans (jW x hx).symm)
  ·simp [Blk.fx_rn ju.fx,Tm]
 ·have cA:i<9:=by
   exact wW
  obtain ⟨c5,A5,c9,b9,hinv,h⟩:=h;obtain rfl|rfl|rfl|rfl|rfl|rfl|rfl|rfl|rfl:i=0\/i=1\/i=2\/i=3\/i=4\/i=5\/i=6\/i=7\/i=8:=zO
  ·-- 0
   have vx2:ts 2=.pointer (some ⟨200,0,none⟩):=(h.t0 2 zD).trans hF.e2;have ZT:hp 200=some (⟨#[.slice (some ⟨100,off,none⟩) n cap,.int .i64 g,.int .i64 bx,.int .i64 tp,.int .i64 nr,.int .i64 0],.ty 24⟩):=(h.ext zD).trans hF.b200;refine uj (k2 vx2 ZT) ?_;exact hk _ _ ⟨c5,A5,c9,b9,hinv,(h.tmp B4 B5 hi (by simp [Js]) (i:=0) (t:=14) zD rfl zD)⟩
  ·-- 1
   have vx3:ts 3=.pointer (some ⟨208,0,none⟩):=(h.t0 3 zD).trans hF.e3;have ZU:hp 208=some (⟨#[.int .i64 st,.slice (some ⟨108,ao,none⟩) n av],.ty 27⟩):=(h.ext zD).trans hF.b208;refine uj (k2 vx3 ZU) ?_;exact hk _ _ ⟨c5,A5,c9,b9,hinv,(h.tmp B4 B5 hi (by simp [Js]) (i:=1) (t:=15) zD rfl zD)⟩
  ·-- 2
   have vx6:ts 6=.slice (some ⟨248,0,none⟩) 3 oc:=(h.t0 6 zD).trans hF.e6;refine uj vx6 ?_;exact hk _ _ ⟨c5,A5,c9,b9,hinv,(h.tmp B4 B5 hi (by simp [Js]) (i:=2) (t:=16) zD rfl zD)⟩
  ·-- 3
   have jR:=jX _ rfl;simp [Region.binds] at jR;have d2:listed[2]? = some true:=bf;have vf2:ts 16=.slice (some ⟨248,0,none⟩) 3 oc:=h.tm (2,16) zD d2;have aiG:hp 248=some (⟨A,.ty 33⟩):=(h.ext zD).trans hF.b248;have low:∀ k,k<100->hp k=G1 k:=λk hk=>(h.ext (As _ zO)).trans (hF.low k hk);refine sG (f:=.func 37) (cap:=#[]) hC hbk rfl hi lZ (by simp [ntmps19]) rfl rfl aJ aq zS (by simp [okX,eY,vf2,aiG]) (by simp [gev,vf2,aiG]) (λq hq=>by simp at hq;subst hq;rw [aiG];simp) (λq hq=>(low q hq).symm▸Cq) ?_ ?_
   ·intro v ns hV k hk;rw [nI hV k hk];omega
   intro v ns hV;rcases hV with ⟨h0,_⟩|⟨_,c5',A5',BQ,rfl,rfl⟩
   ·cases h0
   have h:=h.chg (V':=adp L off n cap ao av oc g bx tp nr st A uu ee F c5' A5' c9 b9) (VI:=SF L off n cap ao av oc g bx tp nr st A uu ee F c5' A5' c9 b9) hi (λj hj hD=>B8) (λj hj hD=>CD);exact hk _ _ ⟨c5',A5',c9,b9,⟨BQ,hinv.2⟩,h.new B4 B5 Zd hi (by simp [Js,d2]) (i:=3) (t:=17) (k:=320) zD rfl zD rfl zD⟩
  ·-- 4
   have jR:=jX _ rfl;simp [Region.binds] at jR;have d0:listed[0]? = some true:=bf;have d1:listed[1]? = some true:=bf;have d3:listed[3]? = some true:=bf;have vf0:ts 14=.agg #[.slice (some ⟨100,off,none⟩) n cap,.int .i64 g,.int .i64 bx,.int .i64 tp,.int .i64 nr,.int .i64 0]:=h.tm (0,14) zD d0;have vf1:ts 15=.agg #[.int .i64 st,.slice (some ⟨108,ao,none⟩) n av]:=h.tm (1,15) zD d1;have vf3:ts 17=.slice (some ⟨320,0,none⟩) 3 c5:=h.tm (3,17) zD d3;have aiH:hp 320=some (⟨A5,.ty 33⟩):=h.bxi hi (w:=3) zD d3 zD;have low:∀ k,k<100->hp k=G1 k:=λk hk=>(h.ext (As _ zO)).trans (hF.low k hk);have cL:∀ p∈L,hp p.1=some p.2:=λp hp=>(h.ext (As _ (hT.ok.big p hp).2)).trans (hF.bL p hp);have Vq:=SJ bm bs off n cap ao av fm fs hm cf dp g bx tp nr 0 st hs fJ ez 0 3 c5 _ (bkF 3 pk) (bnF 3 (pp lfP)) (bkF 3 pq) (ahB hinv.1 zO) ap0 N hN Jf cm (-1) (.inr rfl) m9 100 108 320 328 zO zO zO hp (cL _ (hT.am rfl)) (cL _ hT.kb) aiH low;unfold cfV at Vq;rw [huu,hee,Z5] at Vq;refine sG (f:=.func 36) (cap:=#[]) hC Vq rfl hi lZ (by simp [ntmps19]) rfl rfl aJ aq zS (by simp [okX,eY,vf0,vf1,vf3,aiH]) (by simp [gev,vf0,vf1,vf3,aiH]) (λq hq=>rfl) (λq hq=>rfl) ?_ ?_
   ·intro v ns hV k hk;rw [nF hV k hk];omega
   intro v ns hV;obtain ⟨c9',b9',ju,mU,rfl,rfl⟩:=hV;have h:=h.chg (V':=adp L off n cap ao av oc g bx tp nr st A uu ee F c5 A5 c9' b9') (VI:=SF L off n cap ao av oc g bx tp nr st A uu ee F c5 A5 c9' b9') hi (λj hj hD=>B8) (λj hj hD=>CD);exact hk _ _ ⟨c5,A5,c9',b9',⟨hinv.1,ju,mU⟩,h.new B4 B5 Zd hi (by simp [Js,d0,d1,d3]) (i:=4) (t:=18) (k:=328) zD rfl zD rfl zD⟩
  ·-- 5
   have jR:=jX _ rfl;simp [Region.binds] at jR;have d4:listed[4]? = some true:=bf;have vf4:ts 18=.tuple #[.agg #[.int .i64 uu,.slice (some ⟨328,0,none⟩) n c9],.int .i64 ee]:=h.tm (4,18) zD d4;refine uj vf4 ?_;exact hk _ _ ⟨c5,A5,c9,b9,hinv,(h.tmp B4 B5 hi (by simp [Js,d4]) (i:=5) (t:=19) zD rfl zD)⟩
  ·-- 6
   have jR:=jX _ rfl;simp [Region.binds] at jR;have d4:listed[4]? = some true:=bf;have vf4:ts 18=.tuple #[.agg #[.int .i64 uu,.slice (some ⟨328,0,none⟩) n c9],.int .i64 ee]:=h.tm (4,18) zD d4;refine uj vf4 ?_;exact hk _ _ ⟨c5,A5,c9,b9,hinv,(h.tmp B4 B5 hi (by simp [Js,d4]) (i:=6) (t:=20) zD rfl zD)⟩
  ·-- 7
   have jR:=jX _ rfl;simp [Region.binds] at jR;have d4:listed[4]? = some true:=bf;have d5:listed[5]? = some true:=bf;have vf4:ts 18=.tuple #[.agg #[.int .i64 uu,.slice (some ⟨328,0,none⟩) n c9],.int .i64 ee]:=h.tm (4,18) zD d4;have vf5:ts 19=.agg #[.int .i64 uu,.slice (some ⟨328,0,none⟩) n c9]:=h.tm (5,19) zD d5;have vx4:ts 4=.pointer (some ⟨216,0,none⟩):=(h.t0 4 zD).trans hF.e4;have Bv:hp 216=some (⟨#[.int .i64 0,.slice none 0 0],.ty 27⟩):=(h.h0 216 λq hq e hl=>by simp only [QF,al,aB,aC] at hq;rcases hq with rfl|rfl|rfl<;>first|(simp at e;done)|(rw [hi] at hl;cases hl)).trans hF.b216;refine uj (Gy.k4 vf4 vf5 vx4 Bv) ?_;exact hk _ _ ⟨c5,A5,c9,b9,hinv,(h.st Zd hi (by simp [Js,d4,d5]) (i:=7) (k:=216) zD zD rfl zD)⟩
  ·-- 8
   have jR:=jX _ rfl;simp [Region.binds] at jR;have d6:listed[6]? = some true:=bf;have vf6:ts 20=.int .i64 ee:=h.tm (6,20) zD d6;refine uj vf6 ?_;exact hk _ _ ⟨c5,A5,c9,b9,hinv,(h.tmp B4 B5 hi (by simp [Js,d6]) (i:=8) (t:=5) zD rfl zD)⟩
 ·have Vy:∀ j:Nat,(Array.replicate 9 false)[j]?≠some true:=λj=>by
   rw [jm];split<;>simp
  exact ⟨c0,A0,n,_,⟨hA0,qW (M:=6*n) (g:=F) (aG _) (λ_ _=>rfl) hF6 cf.nn,aG _⟩,TJ.start Vy⟩
section
variable {C:Ctx} {n:Nat} {d:List Deferred} {ro:Option Nat} {K:kV}
theorem VP {ops:Array Oper} {o:Oper} {post:og} {base i:Nat} {ts:eM} {hp:Hp} {yc:Nat} {tx ty:Tmp} {m c j k0:Nat} {A:bV} {x0 x1:Value} (hg:o.guard=none) (hd:∀ dd,o.dst=some dd->dd<n)
  (ho:o.op=.call { callee:=.builtin .append,args:=#[.tmp tx,.tmp ty],argTypes:=#[34,34] })
  (hx:ts tx=.slice (some ⟨k0,0,none⟩) m c) (hk0:100<=k0) (hb:hp k0=some ⟨A,.ty 27⟩) (yg:A.size=2*c) (hle:m<=c) (hs:m+1<=1000) (hy:ts ty=.slice (some ⟨j,0,none⟩) 1 1) (mU:hp j=some ⟨#[x0,x1],.ty 27⟩) (h1:∀ r,(aw r x0).oneCell'=true/\(aw r x1).oneCell'=true)
  (h:∀ (k' c':Nat) (A':bV),(k'=k0\/k'=base+8*i)->A'.size=2*c'->m+1<=c'->A'[2*m]? = some x0->A'[2*m+1]? = some x1->(∀ j,j<2*m->A'[j]? = A[j]?)->(∀ x∈A',x∈A\/x=x0\/x=x1\/bP x=true)->GL prog C n d ro ops base (i+1) post (dk ts o.dst (.slice (some ⟨k',0,none⟩) (m+1) c')) (upd hp k' (some ⟨A',.ty 27⟩)) yc K):GL prog C n d ro ops base i (o::post) ts hp yc K:=by
 intro r a W TM hf hbb hG hR;obtain ⟨ti,z,hi,hz,pV,aqL,hzs,y9⟩:=aiL;refine wpListIn_plain hg λK' JS=>?_
 refine Ku (z:=z) (nw:=[x0,x1]) (nk:=base+8*i) TM hd ho underlying34 hi hz hx (.inr ⟨k0,rfl,hk0,hb⟩) hy mU (by rw [pV];rfl) (λq u hq=>by rw [ar];simpa using hq) (λu hu r=>by
  simp only [al,aB,aC] at hu;rcases hu with rfl|rfl
  ·exact (h1 r).1
  ·exact (h1 r).2) (λc x hx=>y9 x (IT hx)) zO (by rw [pV,yg];omega) hle (by simp only [maxLen];omega) (by rw [aqL];omega) ⟨hf _ (aG _),zO⟩ (by rw [pV,hzs]) (λk' cW rest g8 g5 z4 dS abZ r' a' W' cv=>?_)
 rw [pV] at abZ cv;have hl:A.toList.length=2*c:=by simp [yg]
 have cA:(A.toList.take (m*2)).length=2*m:=by rw [ql,hl];omega
 have TR:k'=k0\/k'=base+8*i:=by
  rcases g8 with e|e
  ·simp only [bg,Addr.mk.injEq,and_true] at e;exact .inl e.symm
  ·exact .inr e
 refine JS _ _ (h k' cW _ TR ?_ dS ?_ ?_ (λj hj=>?_) (λx hx=>?_) r' a' W' cv (λx VD=>?_) hbb hG hR)
 ·simp only [qJ,List.length_append,cA,fA,gP];omega
 ·rw [iz,ix,jn zO,cA];simp
 ·rw [iz,ix,jn zO,cA,(zO:2*m+1 - 2*m=1)];simp
 ·rw [iz,ix,js zO,fT,ai zO,j4]
 ·simp only [fz,cN,al,aB,aC] at hx;rcases hx with (hx|hx|hx)|hx
  ·exact .inl (by simpa using lB hx)
  ·exact .inr (.inl hx)
  ·exact .inr (.inr (.inl hx))
  ·exact (z4 x hx).imp id λe=>.inr (.inr e)
 ·unfold upd;split
  ·rename_i e;rcases TR with e2|e2
   ·have:=hf x zO;rw [e,e2,hb] at this;cases this
   ·omega
  ·exact hf x zO
end
theorem Blk.rn_dom {D:gA} {ρ:cI} (h:∀ k,D k->ρ k=k) {b:Blk} (hb:b.ids D):b.rn ρ=b:=by
 obtain ⟨c,T⟩:=b
 have key:(∀ x∈c,aL D x)->c.map (aw ρ)=c:=λhc=>by
  have:c.map (aw ρ)=c.map id:=bK λx hx=>by
   rw [pQ (r:=λk=>k) (r':=ρ) h (hc x hx),yq]
   rfl
  rw [this];simp
 cases T with
 | raw t fr=>rfl
 | ty t=>show Blk.mk (c.map (aw ρ)) _=_;rw [key hb]
 | mp=>show Blk.mk (c.map (aw ρ)) _=_;rw [key hb]
theorem acs {bm bs:Blk} (MU:bm.fx) (hbs:bs.fx) (off n cap ao av:Nat) (g bx tp nr md st:Int) {u1 e1 u2 e2:Int} {F1 F2:aS}
  (h1:FunS prog G1 18 #[cfV (.slice (some ⟨100,off,none⟩) n cap) g bx tp nr md,.agg #[.int .i64 st,.slice (some ⟨108,ao,none⟩) n av]] (hpL G1 [(100,bm),(108,bs)]) (ak [(100,bm),(108,bs)]) (ByR u1 e1 F1 n 1000))
  (h2:FunS prog G1 19 #[cfV (.slice (some ⟨100,off,none⟩) n cap) g bx tp nr md,.agg #[.int .i64 st,.slice (some ⟨108,ao,none⟩) n av]] (hpL G1 [(100,bm),(108,bs)]) (ak [(100,bm),(108,bs)]) (ByR u2 e2 F2 n 1000)) :
  Fun prog G1 20 #[cfV (.slice (some ⟨100,off,none⟩) n cap) g bx tp nr md,.agg #[.int .i64 st,.slice (some ⟨108,ao,none⟩) n av]] (hpL G1 [(100,bm),(108,bs)]) (ak [(100,bm),(108,bs)]) (.ret (.tuple #[.bool (e1==0),.bool (e2==0)]) []):=by
 have hT:=LKa.two MU hbs;have q1:=h1.nmL hT.ok hT.fx 248 zO (λv ns=>nF) (by simp [cfV,ren,aT,aw,aA,r1n]) (AS (nk:=248) (by simp [r1n]) _ _ _ _);have q2:=h2.nmL hT.ok hT.fx 320 zO (λv ns=>nF) (by simp [cfV,ren,aT,aw,aA,r1n]) (AS (nk:=320) (by simp [r1n]) _ _ _ _);refine qR (B:=200) G1F func20 rfl call20 hT.ok ?_ iT zS zS (by simp [ntmps20]) zO ?_
 ·simp [aN,cp,aL,aR,cfV,dom]
 intro C hC bQ hY;unfold cfV at q1 q2 |-;refine fO ?_;refine gj ?_;refine zP trivial ?_;refine bN (f:=.func 18) (cap:=#[]) hC q1 rfl zS rfl rfl aJ aq zS aM aq ah l9 ?_ ?_
 ·exact kQ
 rintro v ns ⟨c9,b9,h9,pb,rfl,rfl⟩;refine PI trivial ?_;refine bH ?_;refine fO ?_;refine gj ?_;refine zP trivial ?_;refine bN (f:=.func 19) (cap:=#[]) hC q2 rfl zS rfl rfl aJ aq zS aM aq ah l9 ?_ ?_
 ·exact kQ
 rintro v ns ⟨c9',b9',h9',avn,rfl,rfl⟩;refine PI trivial ?_;refine bH ?_;refine fO ?_;refine ⟨.inr rfl,by simp [results20],dH G1F zS l9⟩
end Go.Gy
namespace Go.Gy
open Go Go.RowKit Go.Proofs
def paK (i:Nat):Nat:=if i=0 then 240 else 998+2*i
theorem YL (i:Nat):paK (i+1)=1000+2*i:=by unfold paK;rw [ab zO];omega
theorem Lz {i c:Nat} (h:i<=c):paK i=240\/(1000<=paK i/\paK i<1000+2*c/\paK i%2=0):=by
 unfold paK;split
 ·exact .inl rfl
 ·right;omega
structure PaG (κ:cI) (A:bV) (cr c:Nat) (st:Int) (n:Nat) (bh:cI):Prop where
 sz:A.size=2*cr
 le:c+1<=cr
 rd:∀ i,i<=c->A[2*i]? = some (.int .i64 st)/\A[2*i+1]? = some (.slice (some ⟨κ i,0,none⟩) n (bh i))
 el:∀ x∈A,bP x=true\/∃ i,i<=c/\x=.slice (some ⟨κ i,0,none⟩) n (bh i)
abbrev PaR:=PaG paK
structure PaH (L:bS) (ka off n cap:Nat) (g bx tp nr md st:Int) (ks ao av:Nat) (F:tyJ) (c:Nat) (hp:Hp):Prop where
 c200:hp 200=some (cfB (.slice (some ⟨ka,off,none⟩) n cap) g bx tp nr md)
 c208:hp 208=some (bI st ks ao n av)
 c216:hp 216=some ⟨#[.slice none 0 0],.ty 34⟩
 c224:hp 224=some ⟨#[.int .i64 0],.ty 35⟩
 row:∃ (kr cr:Nat) (A:bV) (bh:cI) (bl:Ju),hp 256=some ⟨#[.slice (some ⟨kr,0,none⟩) (c+1) cr],.ty 34⟩/\hp kr=some ⟨A,.ty 27⟩/\(kr=248\/(1000<=kr/\kr<1000+2*c/\kr%2=1))/\PaR A cr c st n bh/\∀ i,i<=c->hp (paK i)=some (bl i)/\SB (bl i) 0 n (F i)/\n<=bh i
 cL:∀ p∈L,hp p.1=some p.2
 clow:∀ x,x<100->hp x=G1 x
 cfree:∀ x,1000+2*c<=x->hp x=none
 cids:∀ x b,hp x=some b->b.ids (dom hp)
theorem PaR.next {A A':bV} {cr JF c:Nat} {st:Int} {n nu:Nat} {bh:cI} (h:PaR A cr c st n bh) (h1:A'.size=2*JF) (h2:c+1+1<=JF) (h3:A'[2*(c+1)]? = some (.int .i64 st)) (h4:A'[2*(c+1)+1]? = some (.slice (some ⟨1000+2*c,0,none⟩) n nu)) (h5:∀ j,j<2*(c+1)->A'[j]? = A[j]?)
  (h6:∀ x∈A',x∈A\/x=.int .i64 st\/x=.slice (some ⟨1000+2*c,0,none⟩) n nu\/bP x=true):PaR A' JF (c+1) st n (λi=>if i=c+1 then nu else bh i):=by
 refine ⟨h1,h2,λi hi=>?_,λx hx=>?_⟩
 ·by_cases e:i=c+1
  ·subst e;rw [YL,ai rfl];exact ⟨h3,h4⟩
  ·rw [ab e,h5 _ zO,h5 _ zO];exact h.rd i zO
 ·rcases h6 x hx with h7|h7|h7|h7
  ·rcases h.el x h7 with h8|⟨i,hi,h8⟩
   ·exact .inl h8
   ·exact .inr ⟨i,zO,by rw [ab zO];exact h8⟩
  ·exact .inl (by rw [h7];rfl)
  ·exact .inr ⟨c+1,zO,by rw [ai rfl,YL];exact h7⟩
  ·exact .inl h7
theorem NT {L:bS} {ka off n cap:Nat} {g bx tp nr md st:Int} {ks ao av:Nat} {F:tyJ} {c kq nu:Nat} {b:Blk} {hp:Hp} (h:PaH L ka off n cap g bx tp nr md st ks ao av F c hp) (La:1000+2*c=kq) (hc:c<=1000) (hsb:SB b 0 n (F (c+1))) (dS:n<=nu) (hL:∀ p∈L,100<=p.1/\p.1<200)
  {kr cr:Nat} {A:bV} {bh:cI} {bl:Ju} (hkr:kr=248\/(1000<=kr/\kr<1000+2*c/\kr%2=1)) (hA:PaR A cr c st n bh) (Ji:∀ i,i<=c->hp (paK i)=some (bl i)/\SB (bl i) 0 n (F i)/\n<=bh i) {sE JF:Nat} {A':bV} (awk:sE=kr\/sE=1000+2*c+1)
  (h1:A'.size=2*JF) (h2:c+1+1<=JF) (h3:A'[2*(c+1)]? = some (.int .i64 st)) (h4:A'[2*(c+1)+1]? = some (.slice (some ⟨kq,0,none⟩) n nu)) (h5:∀ j,j<2*(c+1)->A'[j]? = A[j]?)
  (h6:∀ x∈A',x∈A\/x=.int .i64 st\/x=.slice (some ⟨kq,0,none⟩) n nu\/bP x=true) :
  PaH L ka off n cap g bx tp nr md st ks ao av F (c+1) (upd (upd (upd hp kq (some b)) sE (some ⟨A',.ty 27⟩)) 256 (some ⟨#[.slice (some ⟨sE,0,none⟩) (c+2) JF],.ty 34⟩)):=by
 subst La;have mN:sE=248\/(1000<=sE/\sE<1000+2*(c+1)/\sE%2=1):=zO;have BQ:=hA.next h1 h2 h3 h4 h5 h6
 have hpk:∀ i,i<=c->paK i≠1000+2*c/\paK i≠sE/\paK i≠256:=λi hi=>by
  have:=Lz hi;omega
 have Jh:∀ i,i<=c+1->(upd (upd (upd hp (1000+2*c) (some b)) sE (some ⟨A',.ty 27⟩)) 256 (some ⟨#[.slice (some ⟨sE,0,none⟩) (c+2) JF],.ty 34⟩)) (paK i)=some (if i=c+1 then b else bl i)/\SB (if i=c+1 then b else bl i) 0 n (F i)/\n<=(if i=c+1 then nu else bh i):=λi hi=>by
  by_cases e:i=c+1
  ·subst e;simp only [aU,YL];refine ⟨?_,hsb,dS⟩;exact oU
  ·have:=hpk i zO;simp only [ab e];refine ⟨?_,(Ji i zO).2⟩;rw [aj _ _ this.2.2,aj _ _ this.2.1,aj _ _ this.1];exact (Ji i zO).1
 have hdm:∀ x,dom hp x->dom (upd (upd (upd hp (1000+2*c) (some b)) sE (some ⟨A',.ty 27⟩)) 256 (some ⟨#[.slice (some ⟨sE,0,none⟩) (c+2) JF],.ty 34⟩)) x:=λx hx=>by
  unfold dom at *
  by_cases e:x=256
  ·subst e;rw [bj];simp
  ·rw [aj _ _ e];by_cases e2:x=sE
   ·rw [e2,bj];simp
   ·rw [aj _ _ e2];by_cases e3:x=1000+2*c
    ·rw [e3,bj];simp
    ·rw [aj _ _ e3];exact hx
 refine ⟨?_,?_,?_,?_,⟨sE,JF,A',_,_,bj _ _ _,?_,mN,BQ,Jh⟩,λp hp1=>?_,λx hx=>?_,λx hx=>?_,λx b' hx=>?_⟩
 ·simp (disch:=omega) only [aj];exact h.c200
 ·simp (disch:=omega) only [aj];exact h.c208
 ·simp (disch:=omega) only [aj];exact h.c216
 ·simp (disch:=omega) only [aj];exact h.c224
 ·exact oU
 ·exact Gl
 ·simp (disch:=omega) only [aj];exact h.clow x hx
 ·simp (disch:=omega) only [aj];exact h.cfree x zO
 ·by_cases e:x=256
  ·subst e;rw [bj] at hx;cases hx
   have HR:dom (upd (upd (upd hp (1000+2*c) (some b)) sE (some ⟨A',.ty 27⟩)) 256 (some ⟨#[.slice (some ⟨sE,0,none⟩) (c+2) JF],.ty 34⟩)) sE:=by
    unfold dom;rw [aj _ _ zO,bj];simp
   simp only [aF,al,aB,aC,dC,bR,aL,aR,and_true,true_and];exact HR
  ·rw [aj _ _ e] at hx;by_cases e2:x=sE
   ·rw [e2,bj] at hx;cases hx;intro y hy;rcases BQ.el y hy with h8|⟨i,hi,rfl⟩
    ·exact jd h8
    ·simp only [aL,aR];unfold dom;rw [(Jh i hi).1];simp
   ·rw [aj _ _ e2] at hx;by_cases e3:x=1000+2*c
    ·rw [e3,bj] at hx;cases hx;exact Blk.fx_ids hsb.fx _
    ·rw [aj _ _ e3] at hx;exact Blk.ids_mono hdm (h.cids x b' hx)
theorem lQ {p:Prop} (h:p:=by simpa [Bz] using hi):p:=h
theorem Fh {p:Prop} (h:p:=by
 have cv:i<=N:=lQ;have:=pk i cv;rw [Sn,Kh cv] at e;omega):p:=h
abbrev qi := @Function.comp_apply
abbrev Bz := @Nat.lt_succ_iff
def Hn (st:Int) (n:Nat) (F:tyJ) (N:Nat) (E:Int) (nk:Nat) (v:Value) (ns:bS):Prop :=
 ∃ (cr:Nat) (A:bV) (bh:cI) (bl:Ju),PaG (λi=>nk+1+i) A cr N st n bh/\(∀ i,i<=N->SB (bl i) 0 n (F i)/\n<=bh i) /\
  v=.tuple #[.slice (some ⟨nk,0,none⟩) (N+1) cr,.int .i64 E]/\ns=(nk,⟨A,.ty 27⟩)::(List.range (N+1)).map λi=>(nk+1+i,bl i)
theorem ym {st:Int} {n:Nat} {F:tyJ} {N:Nat} {E:Int} {nk:Nat} {v:Value} {ns:bS} (h:Hn st n F N E nk v ns):∀ k∈ak ns,nk<=k/\k<nk+N+2:=by
 obtain ⟨cr,A,bh,bl,_,_,rfl,rfl⟩:=h;intro k hk;simp only [ak,bJ,lx,al,aD,lH,qi] at hk;rcases hk with rfl|⟨i,hi,rfl⟩<;>omega
theorem Uy {D:gA} {st:Int} {n:Nat} {F:tyJ} {N:Nat} {E:Int} {nk:Nat} (mZ:200<=nk) (v:Value) (ns:bS) (h:Hn st n F N E nk v ns):aN (cJ D ns) v/\(∀ p∈ns,200<=p.1/\p.2.ids (cJ D ns))/\(∀ k b c,(k,b)∈ns->(k,c)∈ns->b=c):=by
 obtain ⟨cr,A,bh,bl,hA,hb,rfl,rfl⟩:=h;refine ⟨dD,λp hp=>?_,λk b c h1 h2=>?_⟩
 ·rcases al.1 hp with rfl|hp
  ·refine ⟨mZ,λx hx=>?_⟩;rcases hA.el x hx with h8|⟨i,hi,rfl⟩
   ·exact jd h8
   ·simp only [aL,aR];exact .inr (by simp [ak];omega)
  ·obtain ⟨i,hi,rfl⟩:=aD.1 hp;have:=hb i lQ;exact ⟨by dsimp only;omega,Blk.fx_ids this.1.fx _⟩
 ·simp only [al,dM,aD,lH] at h1 h2;rcases h1 with ⟨rfl,rfl⟩|⟨i,hi,e1,rfl⟩<;>rcases h2 with ⟨e3,rfl⟩|⟨j,hj,e2,rfl⟩
  ·rfl
  ·omega
  ·omega
  ·have:i=j:=zO;rw [this]
def paS (nk x:Nat):Nat:=if x=240 then nk+1 else if 1000<=x then nk+1+(x - 998) / 2 else x
def paP (nk N kr y:Nat):Nat:=if y=nk then kr else if nk+1<=y/\y<=nk+1+N then paK (y - nk - 1) else y
theorem YM {nk i:Nat}:paS nk (paK i)=nk+1+i:=by
 unfold paS paK;split
 ·rw [ai rfl];omega
 ·rw [ab zO,ai zO];omega
theorem Sn {nk N kr:Nat}:paP nk N kr nk=kr:=ai rfl
theorem Kh {nk N kr i:Nat} (hi:i<=N):paP nk N kr (nk+1+i)=paK i:=by
 unfold paP;rw [ab zO,ai zO,(zO:nk+1+i - nk - 1=i)]
theorem ac5 {nk N kr y:Nat} (h:y<nk):paP nk N kr y=y:=by
 unfold paP;exact fG
theorem ac3 {A:bV} {cr N:Nat} {st:Int} {n:Nat} {bh:cI} (nk:Nat) (h:PaR A cr N st n bh):PaG (λi=>nk+1+i) (A.map (aw (paS nk))) cr N st n bh:=by
 refine ⟨by rw [uW];exact h.sz,h.le,λi hi=>?_,λx hx=>?_⟩
 ·have:=h.rd i hi;rw [lz,lz,this.1,this.2];exact ⟨rfl,by simp [aw,aA,YM]⟩
 ·obtain ⟨y,hy,rfl⟩:=dA.1 hx;rcases h.el y hy with h8|⟨i,hi,rfl⟩
  ·exact .inl (by rw [eU h8];exact h8)
  ·exact .inr ⟨i,hi,by simp [aw,aA,YM]⟩
theorem YK {A:bV} {cr N:Nat} {st:Int} {n:Nat} {bh:cI} {nk kr:Nat} (h:PaR A cr N st n bh):(A.map (aw (paS nk))).map (aw (paP nk N kr))=A:=by
 rw [fw]
 have:A.map (aw (paP nk N kr)∘aw (paS nk))=A.map id:=bK λx hx=>by
  rcases h.el x hx with h8|⟨i,hi,rfl⟩
  ·simp only [qi];rw [eU h8,eU h8]
   rfl
  ·simp only [qi,aw,aA,YM,Kh hi]
   rfl
 rw [this];simp
theorem NU {L:bS} {ka off n cap:Nat} {g bx tp nr md st:Int} {ks ao av:Nat} {F:tyJ} {c kq JF:Nat} {b:Blk} {hp:Hp} {A':bV} {sK:cI} {sE k':Nat} {z1 z2 z3:Option Blk} {C1:Ctx} {s2:GS} {ρ:cI}
  (La:1000+2*c=kq) (hc:c<=900) (zV:b.fx) (nB:gR b=true) (cids:∀ x b',hp x=some b'->b'.ids (dom hp)) (cfree:∀ x,kq<=x->hp x=none)
  (BQ:PaR A' JF (c+1) st n sK) (hk:248<=sE/\sE<=kq+1/\¬sE=256/\¬sE=kq) (hdr:sE=248\/sE%2=1) (hρ:(k'=sE/\ρ=λx=>x)\/(k'=4064/\sE=kq+1/\ρ=λx=>if x=kq+1 then 4064 else x)) (hG:C1.G=G1) (h0:C1.hp0=upd hp kq (some b))
  (hs:s2.hp=upd (upd (upd (upd (upd (upd hp kq (some b)) 4000 z1) 4000 z2) 4056 z3) k' (some ⟨A',.ty 27⟩)) 256 (some ⟨#[.slice (some ⟨k',0,none⟩) (c+2) JF],.ty 34⟩))
  (MY:PaH L ka off n cap g bx tp nr md st ks ao av F (c+1) (upd (upd (upd hp kq (some b)) sE (some ⟨A',.ty 27⟩)) 256 (some ⟨#[.slice (some ⟨sE,0,none⟩) (c+2) JF],.ty 34⟩))) :
  WeakR C1 ρ s2 ⟨λ_=>eY,upd (upd (upd hp kq (some b)) sE (some ⟨A',.ty 27⟩)) 256 (some ⟨#[.slice (some ⟨sE,0,none⟩) (c+2) JF],.ty 34⟩),4000,s2.yc⟩:=by
 have r1:ρ sE=k':=by
  rcases hρ with ⟨rfl,rfl⟩|⟨rfl,rfl,rfl⟩
  ·rfl
  ·exact ai rfl
 have r2:∀ x,¬x=kq+1->ρ x=x:=λx hx=>by
  rcases hρ with ⟨rfl,rfl⟩|⟨rfl,rfl,rfl⟩
  ·rfl
  ·exact ab hx
 have r3:∀ x,ρ x=x\/(x=kq+1/\ρ x=4064):=λx=>by
  by_cases e:x=kq+1
  ·rcases hρ with ⟨rfl,rfl⟩|⟨rfl,rfl,rfl⟩
   ·exact .inl rfl
   ·exact .inr ⟨e,ai e⟩
  ·exact .inl (r2 x e)
 have Vt:¬k'=256/\248<=k':=zO;have hdp:∀ x,dom hp x->x<kq:=λx hx=>aO λh=>hx (cfree x zO);have TR:k'≠4000/\k'≠4056/\¬k'=kq:=zO;refine ⟨λt=>.inl rfl,λx b' hx h1=>?_,MY.cids,λx y hx hy e=>?_,λx hx=>r2 x zO,λx b' hx hb=>Blk.rn_flat (by rw [hG] at hb;exact (G1F x b' hb).2),λx h1 hd=>?_,λx hx=>(MY.clow x hx).trans (by rw [hG]),rfl,λx hx=>MY.cfree x (by have:4000<=x:=hx;omega),by show 100<=4000;omega⟩
 ·have tn:upd (upd (upd hp kq (some b)) sE (some ⟨A',.ty 27⟩)) 256 (some ⟨#[.slice (some ⟨sE,0,none⟩) (c+2) JF],.ty 34⟩) x=some b':=hx;rw [hs];by_cases e:x=256
  ·subst e;rw [bj] at tn;cases tn;rw [r2 256 zO,bj];exact ⟨by simp [Blk.rn,aw,aA,r1],zO⟩
  ·rw [aj _ _ e] at tn;by_cases e2:x=sE
   ·subst e2;rw [bj] at tn;cases tn;rw [r1,aj _ _ Vt.1,bj];refine ⟨?_,zO⟩;rw [Blk.rn_dom (D:=λk=>¬k=kq+1) r2];intro y hy;rcases BQ.el y hy with h8|⟨i,hi,rfl⟩
    ·exact jd h8
    ·simp only [aL,aR];have:=Lz hi;omega
   ·rw [aj _ _ e2] at tn;by_cases e3:x=kq
    ·subst e3;rw [bj] at tn;cases tn;rw [r2 x zO];refine ⟨?_,h1⟩;rw [aj _ _ e,aj _ _ (λh=>TR.2.2 h.symm),aj _ _ zO,aj _ _ zO,aj _ _ zO,bj,Blk.fx_rn zV]
    ·rw [aj _ _ e3] at tn;have hd:dom hp x:=by unfold dom;rw [tn];simp
     have cA:=hdp x hd
     have hxk:¬x=k':=by
      rcases hρ with ⟨rfl,_⟩|⟨rfl,_⟩
      ·exact e2
      ·omega
     rw [r2 x zO];refine ⟨?_,h1⟩;rw [aj _ _ e,aj _ _ hxk,aj _ _ zO,aj _ _ zO,aj _ _ zO,aj _ _ e3,tn,Blk.rn_dom (D:=dom hp) (λy hy=>r2 y (by have:=hdp y hy;omega)) (cids x b' tn)]
 ·have dx:∀ x,dom (upd (upd (upd hp kq (some b)) sE (some ⟨A',.ty 27⟩)) 256 (some ⟨#[.slice (some ⟨sE,0,none⟩) (c+2) JF],.ty 34⟩)) x->x<kq+2:=λx hx=>aO λh=>hx (MY.cfree x zO);have f1:=dx x hx;have f2:=dx y hy;have g1:=r3 x;have g2:=r3 y;omega
 ·rw [h0] at hd
  have VD:x=kq\/dom hp x:=by
   by_cases e:x=kq
   ·exact .inl e
   ·refine .inr ?_;unfold dom at *
    rwa [aj _ _ e] at hd
  refine ⟨?_,r2 x ?_⟩
  ·show upd (upd (upd hp kq (some b)) sE (some ⟨A',.ty 27⟩)) 256 (some ⟨#[.slice (some ⟨sE,0,none⟩) (c+2) JF],.ty 34⟩) x≠none;by_cases e:x=256
   ·subst e;rw [bj];simp
   ·rw [aj _ _ e];by_cases e2:x=sE
    ·rw [e2,bj];simp
    ·rw [aj _ _ e2];exact hd
  ·rcases VD with h|h
   ·omega
   ·have:=hdp x h;omega
theorem ac4 {i j:Nat} (h:paK i=paK j):i=j:=by
 unfold paK at h;split at h<;>split at h<;>omega
theorem NX {st:Int} {n:Nat} {F:tyJ} {N:Nat} {E:Int} {kr cr nk:Nat} {A:bV} {bh:cI} {bl:Ju} {hp:Hp} {X:Option Value} (mZ:200<=nk) (hkr:kr=248\/(1000<=kr/\kr%2=1)) (hA:PaR A cr N st n bh) (Ji:∀ i,i<=N->SB (bl i) 0 n (F i)/\n<=bh i)
  (e1:hp kr=some ⟨A,.ty 27⟩) (e2:∀ i,i<=N->hp (paK i)=some (bl i)) (hX:X=some (.tuple #[.slice (some ⟨kr,0,none⟩) (N+1) cr,.int .i64 E])) :
  ∃ v ns ρ,Hn st n F N E nk v ns/\(∀ k,k<200->ρ k=k)/\(∀ p∈ns,200<=ρ p.1)/\(∀ p∈ns,∀ q∈ns,ρ p.1=ρ q.1->p.1=q.1)/\X=some (ren ρ v)/\∀ p∈ns,hp (ρ p.1)=some (p.2.rn ρ):=by
 have pk:∀ i,i<=N->paK i=240\/(1000<=paK i/\paK i%2=0):=λi hi=>by
  have:=Lz hi;omega
 refine ⟨_,_,paP nk N kr,⟨cr,A.map (aw (paS nk)),bh,bl,ac3 nk hA,Ji,rfl,rfl⟩,λk hk=>ac5 zO,λp hp1=>?_,λp hp1 q nc e=>?_,?_,λp hp1=>?_⟩
 ·rcases al.1 hp1 with rfl|hp1
  ·rw [Sn];omega
  ·obtain ⟨i,hi,rfl⟩:=aD.1 hp1;have cv:i<=N:=lQ;have:=pk i cv;rw [Kh cv];omega
 ·rcases al.1 hp1 with rfl|hp1<;>rcases al.1 nc with rfl|nc
  ·rfl
  ·obtain ⟨i,hi,rfl⟩:=aD.1 nc;exact Fh
  ·obtain ⟨i,hi,rfl⟩:=aD.1 hp1;exact Fh
  ·obtain ⟨i,hi,rfl⟩:=aD.1 hp1;obtain ⟨j,hj,rfl⟩:=aD.1 nc;have cv:i<=N:=lQ;have RK:j<=N:=by simpa [Bz] using hj
   rw [Kh cv,Kh RK] at e;rw [ac4 e]
 ·rw [hX];simp [ren,aT,aw,aA,Sn]
 ·rcases al.1 hp1 with rfl|hp1
  ·rw [Sn,e1];show _=some (Blk.mk ((A.map (aw (paS nk))).map (aw (paP nk N kr))) _);rw [YK hA]
  ·obtain ⟨i,hi,rfl⟩:=aD.1 hp1;have cv:i<=N:=lQ;rw [Kh cv,e2 i cv,Blk.fx_rn (Ji i cv).1.fx]
end Go.Gy
namespace Go.Gy
open Go Go.RowKit Go.Proofs Go.Proofs.Tryz
theorem xI {p:Prop} (h:p:=by
 simp (disch:=omega) only [aj];exact ckr):p:=h
theorem Fj {p:Prop} (h:p:=by
 have:=Lz hi;simp (disch:=omega) only [aj];exact (Ji i hi).1):p:=h
theorem acm {k:Nat} (h:k<=2800) (a:Nat) (ha:2801<=a):(k=a)=False:=by
 exact gE
theorem acn {k:Nat} (h:k<=2800) (a:Nat) (ha:2801<=a):(a=k)=False:=by
 exact gE
def GG:List (Nat×Value):=[(3,.pointer (some ⟨200,0,none⟩)),(4,.pointer (some ⟨208,0,none⟩)),(6,.pointer (some ⟨216,0,none⟩)),(7,.pointer (some ⟨224,0,none⟩)),(8,.pointer (some ⟨256,0,none⟩))]
section
variable {L:bS} {ka ks:Nat} {bm bs:Blk} (hT:LKa L ka ks bm bs) (off n cap ao av:Nat) (fm fs:aS) (hm:MB bm off n fm) (cf:SB bs ao n fs) (dp:n<=av) (g bx tp nr md st:Int) (hs:i64 st) (fJ:eQ n fm g bx tp nr md=true) (ez:aV st fs n=true)
 (ko oo m oc:Nat) (bo:Blk) (k p q:aS) (hO:OpB bo oo m k p q) (y6:(ko,bo)∈L) (zt:∀ i,i<m->0<=k i/\k i<256) (HN:ka≠ks)
 (N:Nat) (hN:N<=m) (Jf:∀ c,c<N->stE g bx tp nr fm n st k p q fs c=0) (cm:N=m\/¬stE g bx tp nr fm n st k p q fs N=0) (RL:m<=900)
include hT hm cf dp hs fJ ez hO y6 zt HN hN Jf cm RL
theorem ac8 (nk:Nat) (mZ:200<=nk):FunS prog G1 8 #[cfV (.slice (some ⟨ka,off,none⟩) n cap) g bx tp nr md,.agg #[.int .i64 st,.slice (some ⟨ks,ao,none⟩) n av],.slice (some ⟨ko,oo,none⟩) m oc] (hpL G1 L) (ak L)
  (Hn st n (stF g bx tp nr fm n st k p q fs) N (if N=m then 0 else stE g bx tp nr fm n st k p q fs N) nk):=by
 have mY:=hT.k1;have nA:=hT.k2;have yB:=hT.a2;have hA:=hT.a;have hS:=hT.s;have df:=hT.ne;have fq:=hT.na;have jW:=hT.low;have Jk:ko<200:=(hT.ok.big (ko,bo) y6).2;have hOL:hpL G1 L ko=some bo:=hT.mem _ y6;refine iK (B:=200) G1F func8 rfl call8 hT.ok ?_ (Uy mZ) (by simp [ntmps8]) zO ?_
 ·exact xP
 intro C hC bQ hY;have dO:=λnk h1 h2=>tC ks nk mY h1 h2 bs ao n av fs cf dp st;obtain ⟨JT,OT,_⟩:=iJ fJ;have tU:∀ p∈L,100<=p.1/\p.1<200:=λp hp=>hT.ok.big p hp;unfold cfV
 repeat' first|refine cM ?_|refine K4 ?_|fail
 refine gj ?_;refine n7 (k4 hA hS df fq) ?_;refine bN (f:=.func 21) (cap:=#[]) hC (dO 240 zO zO) rfl zS rfl rfl aJ aq zS aM aq kE cS ?_ ?_
 ·exact mz
 rintro v ns ⟨c7,M7,g7,x7,y7,z7,rfl,rfl⟩;refine GU (k4 hA hS df fq) ?_;refine bH ?_
 repeat' first|refine cM ?_|refine K4 ?_|fail
 refine gj ?_;refine GU (k4 hA hS df fq) ?_;have agY:=Zv hT off n cap ao av g bx tp nr md st ko oo m oc bo y6 296 zO;refine bN (f:=.func 22) (cap:=#[]) hC agY rfl zS rfl rfl aJ aq zS aM oq wm cS ?_ ?_
 ·rintro v ns ⟨rfl,rfl⟩ x hx;simp [ak] at hx;omega
 rintro v ns ⟨rfl,rfl⟩;refine bH ?_
 repeat' first|refine cM ?_|(refine g6 ?_;intro Q hQ _;simp [hC,hY,dk,bW];refine cQ hQ ?_)|fail
 obtain ⟨M,hM,hNM,mF⟩:=Zr (E:=stE g bx tp nr fm n st k p q fs) hN Jf cm;refine GM (s':=⟨tsL ((17,.func (.func 39) #[] #[.pointer (some ⟨296+2,0,none⟩),.pointer (some ⟨296,0,none⟩),.pointer (some ⟨296+1,0,none⟩)])::GG),hpL G1 ([(200,cfB (.slice (some ⟨ka,off,none⟩) n cap) g bx tp nr md),(208,bI st ks ao n av),(216,⟨#[.slice none 0 0],.ty 34⟩),(224,⟨#[.int .i64 0],.ty 35⟩),(240,⟨fa M7 .i64 g7,.ty 50⟩),(248,⟨#[.int .i64 st,.slice (some ⟨240,0,none⟩) n c7],.ty 27⟩),(256,⟨#[.slice (some ⟨248,0,none⟩) 1 1],.ty 34⟩),(296,cfB (.slice (some ⟨ka,off,none⟩) n cap) g bx tp nr md),(296+1,bI st ks ao n av),(296+2,⟨#[.slice (some ⟨ko,oo,none⟩) m oc],.ty 28⟩)]++L),4000,0⟩) (sD _ 4000 hC G1F hT.ok hT.fx bQ zO ?_ ?_ ?_) ?_
 ·simp [GG,aN,cp,aL,aR,dom,dk,bW]
 ·exact Df
 ·exact CV
 obtain ⟨RO,hX⟩:∃ RO,hpL G1 ([(200,cfB (.slice (some ⟨ka,off,none⟩) n cap) g bx tp nr md),(208,bI st ks ao n av),(216,⟨#[.slice none 0 0],.ty 34⟩),(224,⟨#[.int .i64 0],.ty 35⟩),(240,⟨fa M7 .i64 g7,.ty 50⟩),(248,⟨#[.int .i64 st,.slice (some ⟨240,0,none⟩) n c7],.ty 27⟩),(256,⟨#[.slice (some ⟨248,0,none⟩) 1 1],.ty 34⟩),(296,cfB (.slice (some ⟨ka,off,none⟩) n cap) g bx tp nr md),(296+1,bI st ks ao n av),(296+2,⟨#[.slice (some ⟨ko,oo,none⟩) m oc],.ty 28⟩)]++L)=RO:=⟨_,rfl⟩
 rw [hX]
 have mX:∀ p∈L,RO p.1=some p.2:=λpp mG=>by
  exact Gp
 have mXl:∀ x,x<100->RO x=G1 x:=λx hx=>by
  exact E3
 have hni:∀ x,200<=x->x∉ak L:=λx hx hm=>by
  obtain ⟨pp,mG,rfl⟩:=aI.1 hm;have:=tU pp mG;omega
 have ny:=Zt hT off n cap ao av fm fs hm cf dp g bx tp nr md st hs fJ ez ko oo m oc bo k p q hO y6 zt HN M hM 296 zO RO lS lS lS mX mXl;refine Jx (f:=39) (VA:=hpS L RO) (rs:=296::(296+1)::(296+2)::ak L) (sh:=vC L) (M:=M) (bh:=#[.pointer (some ⟨296+2,0,none⟩),.pointer (some ⟨296,0,none⟩),.pointer (some ⟨296+1,0,none⟩)]) zS (by rw [hC];exact ny) ?_ ?_ (by simp [ntmps8]) (tsL (GG)) (hpL G1 ([(200,cfB (.slice (some ⟨ka,off,none⟩) n cap) g bx tp nr md),(208,bI st ks ao n av),(216,⟨#[.slice none 0 0],.ty 34⟩),(224,⟨#[.int .i64 0],.ty 35⟩),(240,⟨fa M7 .i64 g7,.ty 50⟩),(248,⟨#[.int .i64 st,.slice (some ⟨240,0,none⟩) n c7],.ty 27⟩),(256,⟨#[.slice (some ⟨248,0,none⟩) 1 1],.ty 34⟩)]++L)) (λc fP=>c<=N/\PaH L ka off n cap g bx tp nr md st ks ao av (stF g bx tp nr fm n st k p q fs) c fP) (λc=>1000+2*c) 4000 N hNM ?_ ?_ ?_ ?_ ?_ ?_ ?_ ?_ ?_
 ·exact Dh
 ·rintro c x b ⟨nu,M9,g9,w1,w2,w3,rfl,rfl⟩
  rfl
 ·subst hX;refine sD (GG) 4000 hC G1F hT.ok hT.fx bQ zO ?_ ?_ ?_
  ·simp [GG,aN,cp,aL,aR,dom]
  ·exact E7
  ·exact mX
 ·refine ⟨fC _,⟨zS,zS,zS,zS,⟨248,1,#[.int .i64 st,.slice (some ⟨240,0,none⟩) n c7],λ_=>c7,λ_=>⟨fa M7 .i64 g7,.ty 50⟩,zS,zS,.inl rfl,⟨rfl,aG _,λi hi=>?_,?_⟩,λi hi=>?_⟩,λpp mG=>?_,λx hx=>?_,λx hx=>?_,λx b hx=>?_⟩⟩
  ·obtain rfl:i=0:=zO;exact ⟨rfl,rfl⟩
  ·intro x hx;simp only [fz,al,aB,aC] at hx;rcases hx with rfl|rfl
   ·exact .inl rfl
   ·exact .inr ⟨0,aG _,rfl⟩
  ·obtain rfl:i=0:=zO;exact ⟨by simp [paK],qW y7 z7 cf.i6 cf.nn,x7⟩
  ·exact DX
  ·simp (disch:=omega) only [bq,bw,aW,ab];exact jW x hx
  ·exact xh
  ·rcases cB hx with h|h
   ·rcases cN.1 h with h|h
    ·simp only [al,aB,aC,dM] at h;rcases h with ⟨rfl,rfl⟩|⟨rfl,rfl⟩|⟨rfl,rfl⟩|⟨rfl,rfl⟩|⟨rfl,rfl⟩|⟨rfl,rfl⟩|⟨rfl,rfl⟩
     ·simp [cfB,aF,aL,aR,dom,hA,fq]
     ·simp [bI,aF,aL,aR,dom,hS,df]
     ·exact jC
     ·exact jC
     ·exact Blk.fx_ids (dI _ _ _) _
     ·simp [aF,aL,aR,dom]
     ·simp [aF,aL,aR,dom]
    ·exact Blk.fx_ids (hT.fx _ h) _
   ·exact Blk.flat_ids (G1F x b h).2
 ·exact Dt
 ·exact Ft
 ·rintro c fP ⟨hc,hH⟩ x hx;exact hH.cfree x zO
 ·rintro c fP hcN ⟨hc,hH⟩;exact ⟨hH.cfree _ (aG _),zO,zO⟩
 ·exact Dx
 ·rintro c x b fP hcN ⟨nu,M9,g9,w1,w2,w3,rfl,rfl⟩ nB ⟨agt,hH⟩ C1 l sR vl qS;have so:=hC;have je:C1.G=G1:=sR.trans hC;clear hC hY;have hC:=je;have hY:=qS;have hH':=hH;obtain ⟨c200,c208,c216,c224,⟨kr,cr,A,bh,bl,I9,ckr,hkr,Vo,Ji⟩,cL,clow,cfree,cids⟩:=hH;have hE:=Jf c hcN;have hfv:SB ⟨fa M9 .i64 g9,.raw 50 (0,0)⟩ 0 n (stF g bx tp nr fm n st k p q fs (c+1)):=LI w2 w3 (λj hj=>zm (pC JT.2 OT.2 ez (c+1)) hj) cf.nn;rw [hE] at *
  have su:1000<=1000+2*c:=zO;have sS:1000+2*c<=2800:=zO;have awl:248<=kr/\kr<=2800/\¬kr=256:=zO;have awm:¬kr=1000+2*c:=zO;dsimp only at vl |-;generalize La:1000+2*c=kq at *
  repeat' first|refine cM ?_|(refine g6 ?_;intro Q hQ _;simp [hC,hY,bC,GG,ren,aT,aw,aA];refine cQ hQ ?_)|fail
  intro C2 oY Gx oZ;clear hC hY;have hC:C2.G=G1:=oY.trans so;have hY:=oZ
  repeat' first|refine cM ?_|(refine g6 ?_;intro Q hQ _;simp [hC,hY,c200,c208,c216,c224,I9,Nk su,acm sS,Jo su,acn sS];refine cQ hQ ?_)|fail
  refine xW ?_;simp only [Array.toList];refine Z3 3 ?_;intro Q hQ;simp [hC,hY,c200,c208,c216,c224,I9,Nk su,acm sS,Jo su,acn sS];apply hQ;simp only [wT,wM,Nat.reduceAdd];refine VP (m:=c+1) (c:=cr) (j:=4056) (k0:=kr) (A:=A) (x0:=.int .i64 st) (x1:=.slice (some ⟨kq,0,none⟩) n nu) rfl zS rfl zS zO ?_ Vo.sz Vo.le zO zS zS (λr=>⟨rfl,rfl⟩) ?_
  ·exact xI
  rintro k' JF A' g8 BU pV PW hs4 hs5 hs6;have alJ:(k'=256)=False:=by simp only [iC,iff_false];omega
  have agH:(256=k')=False:=by simp only [iC,iff_false];omega
  refine Z3 1 ?_;intro Q hQ;simp [hC,hY,dk,I9,alJ,agH,Nk su,acm sS,Jo su,acn sS];apply hQ;simp only [wT,wM,Nat.reduceAdd];refine bH ?_;refine fO ?_;rcases g8 with rfl|rfl
  ·have MY:=NT hH' (b:=⟨fa M9 .i64 g9,.raw 50 (0,0)⟩) La zO hfv w1 tU (by rw [La];exact hkr) Vo Ji (.inl rfl) BU pV PW hs4 hs5 hs6;exact ⟨_,_,⟨zO,MY⟩,wy,NU La zO trivial rfl cids (λx hx=>cfree x zO) (Vo.next BU pV PW (by rw [La];exact hs4) hs5 (by rw [La];exact hs6)) zO zO (.inl ⟨rfl,rfl⟩) je vl rfl MY⟩
  ·have MY:=NT hH' (b:=⟨fa M9 .i64 g9,.raw 50 (0,0)⟩) (sE:=1000+2*c+1) La zO hfv w1 tU (by rw [La];exact hkr) Vo Ji (.inr rfl) BU pV PW hs4 hs5 hs6;rw [La] at MY;exact ⟨_,_,⟨zO,MY⟩,wy,NU La zO trivial rfl cids (λx hx=>cfree x zO) (Vo.next BU pV PW (by rw [La];exact hs4) hs5 (by rw [La];exact hs6)) zO zO (.inr ⟨rfl,rfl,rfl⟩) je vl rfl MY⟩
 ·rcases mF with ⟨rfl,rfl⟩|⟨hNm,hEN,rfl⟩
  ·refine .inl ⟨rfl,λfP RD=>?_⟩;obtain ⟨_,hH⟩:=RD;obtain ⟨c200,c208,c216,c224,⟨kr,cr,A,bh,bl,I9,ckr,hkr,Vo,Ji⟩,cL,clow,cfree,cids⟩:=hH;unfold GG;refine dy (k5 c200 c208 c216 c224 I9) ?_;simp only [aU];refine ⟨.inr trivial,dH G1F (λpp mG=>?_) (λx hx=>?_),NX (kr:=kr) mZ (hkr.imp id λh=>⟨h.1,h.2.2⟩) Vo (λi hi=>(Ji i hi).2) ?_ (λi hi=>?_) (by simp [results8,c216,c224,I9])⟩
   ·exact sj
   ·exact si
   ·exact xI
   ·exact Fj
  ·refine .inr ⟨zO,?_⟩;rintro x b fP ⟨nu,M9,g9,w1,w2,w3,rfl,rfl⟩ nB ⟨agt,hH⟩ C1 l sR vl qS;have so:=hC;have je:C1.G=G1:=sR.trans hC;clear hC hY;have hC:=je;have hY:=qS;obtain ⟨c200,c208,c216,c224,⟨kr,cr,A,bh,bl,I9,ckr,hkr,Vo,Ji⟩,cL,clow,cfree,cids⟩:=hH;have su:1000<=1000+2*N:=zO;have sS:1000+2*N<=2800:=zO;dsimp only at vl |-;generalize La:1000+2*N=kq at *
   repeat' first|refine cM ?_|(refine g6 ?_;intro Q hQ _;simp [hC,hY,bC,GG,ren,aT,aw,aA];refine cQ hQ ?_)|fail
   intro C2 oY Gx oZ;clear hC hY;have hC:C2.G=G1:=oY.trans so;have hY:=oZ;have agj:(stE g bx tp nr fm n st k p q fs N != 0)=true:=by simpa using hEN
   repeat' first|refine cM ?_|(refine g6 ?_;intro Q hQ _;simp [hC,hY,c200,c208,c216,c224,I9,agj,Nk su,acm sS,Jo su,acn sS];refine cQ hQ ?_)|fail
   have hNe:¬N=m:=zO;simp only [ab hNe];refine ⟨rfl,λt=>?_,?_,λpp mG=>?_,.inr trivial,dH G1F (λpp mG=>?_) (λx hx=>?_),NX (kr:=kr) mZ (hkr.imp id λh=>⟨h.1,h.2.2⟩) Vo (λi hi=>(Ji i hi).2) ?_ (λi hi=>?_) (by simp [results8,GG,c216,c224,I9])⟩
   ·rcases nJ (l:=GG) (t:=t) with h|h
    ·rw [h];simp [eY,aN,cp,aL,aR]
    ·generalize tsL GG t=w at h;simp only [GG,al,aB,aC,dM] at h;rcases h with ⟨_,rfl⟩|⟨_,rfl⟩|⟨_,rfl⟩|⟨_,rfl⟩|⟨_,rfl⟩<;>simp [aN,cp,aL,aR,dom,c200,c208,I9,Jo su]
   ·exact oU
   ·exact Ee
   ·exact sj
   ·exact si
   ·exact xI
   ·exact Fj
end
theorem rf {p:Prop} (h:p:=by simp [ntmps14]):p:=h
theorem ML (L:bS) (ks:Nat) (bm bs:Blk) (hT:LTwo G0 L ks bm bs) (off n cap ao n2 av:Nat) (fm fs:aS) (hm:MB bm off n fm) (cf:SB bs ao n2 fs) (g bx tp nr md st:Int) :
  Fun prog G0 14 #[cfV (.slice (some ⟨100,off,none⟩) n cap) g bx tp nr md,.agg #[.int .i64 st,.slice (some ⟨ks,ao,none⟩) n2 av]] (hpL G0 L) (ak L) (.ret (.bool (pX n n2 (eQ n fm g bx tp nr md) (aV st fs n2))) []):=by
 refine de (B:=200) G0F func14 rfl call14 hT.ok ?_ zS zS zS rf zO ?_
 ·exact dE
 intro C hC bQ hY;have hA:=hT.a;have hS:=hT.s;have df:=hT.ne;have jW:=hT.low;have mY:=hT.k1;have nA:=hT.k2;have hrm:=λρ=>Blk.fx_rn hm.fx ρ;have Gz:=λρ=>Blk.fx_rn cf.fx ρ;have mW:=x4 bm off n cap fm hm g bx tp nr md;have I0:=Bn bs ao n2 av fs cf st;unfold pX;unfold cfV at mW |-
 cases hc:eQ n fm g bx tp nr md with
 | false =>
  rw [hc] at mW;rw [show (decide (n=n2)&&(false&&aV st fs n2))=false by simp]
  repeat' first|refine cM ?_|((first|refine gwR [32,27] ?_|refine gwD [32,27] ?_);intro Q hQ _;(repeat first|simp [hC,hY,hA,hS,df]|refine az mW G0F (B:=200) (aH hm.fx) (λk=>k) (λk hk=>rfl) cY zS iV ah ax ?_);refine cQ hQ ?_)|fail
  exact eT results14
 | true =>
  rw [hc] at mW
  cases hr:aV st fs n2 with
  | false =>
   rw [hr] at I0;rw [show (decide (n=n2)&&(true&&false))=false by simp]
   repeat' first|refine cM ?_|((first|refine gwR [32,27] ?_|refine gwD [32,27] ?_);intro Q hQ _;(repeat first|simp [hC,hY,hA,hS,df]|refine az mW G0F (B:=200) (aH hm.fx) (λk=>k) (λk hk=>rfl) cY zS iV ah ax ?_|refine az I0 G0F (B:=200) (aH cf.fx) (λk=>if k=100 then ks else k) (λk hk=>ab zO) ay zS jw ah ax ?_);refine cQ hQ ?_)|fail
   exact eT results14
  | true =>
   rw [hr] at I0;by_cases hn:n=n2
   ·have JX:(n:Int)=(n2:Int):=zO;have PT:((n:Int)==(n2:Int))=true:=q9;rw [bZ hn]
    repeat' first|refine cM ?_|((first|refine gwR [32,27] ?_|refine gwD [32,27] ?_);intro Q hQ _;(repeat first|simp [hC,hY,hA,hS,df,JX,PT]|refine az mW G0F (B:=200) (aH hm.fx) (λk=>k) (λk hk=>rfl) cY zS iV ah ax ?_|refine az I0 G0F (B:=200) (aH cf.fx) (λk=>if k=100 then ks else k) (λk hk=>ab zO) ay zS jw ah ax ?_);refine cQ hQ ?_)|fail
    exact eT results14
   ·have JX:¬(n:Int)=(n2:Int):=zO;have PT:((n:Int)==(n2:Int))=false:=q9;rw [aX hn]
    repeat' first|refine cM ?_|((first|refine gwR [32,27] ?_|refine gwD [32,27] ?_);intro Q hQ _;(repeat first|simp [hC,hY,hA,hS,df,JX,PT]|refine az mW G0F (B:=200) (aH hm.fx) (λk=>k) (λk hk=>rfl) cY zS iV ah ax ?_|refine az I0 G0F (B:=200) (aH cf.fx) (λk=>if k=100 then ks else k) (λk hk=>ab zO) ay zS jw ah ax ?_);refine cQ hQ ?_)|fail
    exact eT results14
theorem Ba {f:FuncId} {c:bV} {T:TypeId} {n nk b:Nat} {v:Value} {hp:Hp} {K:Eff->Prop} (h:Fun prog G0 f #[.slice (some ⟨100,0,none⟩) n n] (hpL G0 [(100,⟨c,.ty T⟩)]) [100] (.ret v [])) (hc:∀ x∈c,bP x=true) (hv:bz v=true) (hb:100<=b)
  (h1:hp b=some ⟨c,.ty T⟩) (hK:K ((Res.ret v []).eff [b])):pI prog G0 f #[.slice (some ⟨b,0,none⟩) n n] hp nk K :=
 az h G0F (B:=200) ⟨zS,ah,λp hp1=>by simp at hp1;subst hp1;exact λx hx=>jd (hc x hx)⟩ (λk=>if k=100 then b else k) (λk hk=>ab zO) ay hv
  (by simp [hb,h1,Blk.rn];exact (eK (λx hx=>eU (hc x hx))).symm) ah ah hK
theorem abp {a0 a1 a2:Int} (h:inV 536870912 a0 a1 a2=true):Fun prog G0 87 #[.slice (some ⟨100,0,none⟩) 1 1] (hpL G0 [(100,⟨#[.int .i64 a0,.int .i64 a1,.int .i64 a2],.ty 48⟩)]) (ak [(100,(⟨#[.int .i64 a0,.int .i64 a1,.int .i64 a2],.ty 48⟩:Blk))]) (.ret (.bool true) []):=by
 refine de (B:=200) G0F func87 rfl call87 ⟨zS,ah,kN⟩ ?_ zS zS zS (by simp [ntmps87]) zO ?_
 ·exact bG
 intro C hC bQ hY;have im:i64 536870912:=fk;refine vj (k2 h im) ?_;exact eS results87
theorem Ry {a0 a1 a2 b0 b1 b2:Int} (h:inV 536870912 a0 a1 a2=true) (k:inV 536870912 b0 b1 b2=true):Fun prog G0 87 #[.slice (some ⟨100,0,none⟩) 2 2] (hpL G0 [(100,⟨#[.int .i64 a0,.int .i64 a1,.int .i64 a2,.int .i64 b0,.int .i64 b1,.int .i64 b2],.ty 48⟩)]) (ak [(100,(⟨#[.int .i64 a0,.int .i64 a1,.int .i64 a2,.int .i64 b0,.int .i64 b1,.int .i64 b2],.ty 48⟩:Blk))]) (.ret (.bool true) []):=by
 refine de (B:=200) G0F func87 rfl call87 ⟨zS,ah,kN⟩ ?_ zS zS zS (by simp [ntmps87]) zO ?_
 ·exact bG
 intro C hC bQ hY;have im:i64 536870912:=fk;refine vj (k3 h k im) ?_;exact eS results87
theorem adC {a0 a1 a2:Int} (h:inV 536870912 a0 a1 a2=true):Ret prog G0 86 #[.agg #[.int .i64 a0,.int .i64 a1,.int .i64 a2],.bool true] (.tuple #[.agg #[.int .i64 a0,.int .i64 a1,.int .i64 a2],.int .i64 0]):=by
 refine ck G0F func86 rfl call86 zS zS (by simp [ntmps86]) ?_;intro C hC bQ hY
 repeat' first|refine cM ?_|((first|refine gwR [87] ?_|refine gwD [87] ?_);intro Q hQ _;(repeat first|simp [hC,hY]|(refine Ba (abp h) zS zS zS ?_ ?_;focus (simp;done)));refine cQ hQ ?_)|fail
 exact eR results86
theorem air {a0 a1 a2:Int} (h:inV 536870912 a0 a1 a2=true) (K:iQ):cu prog G0 86 #[.agg #[.int .i64 a0,.int .i64 a1,.int .i64 a2],.bool true] K↔K (.tuple #[.agg #[.int .i64 a0,.int .i64 a1,.int .i64 a2],.int .i64 0]):=aP G0W ae (adC h)
theorem Lg {m m' x y z:Int} (h:inW m x/\inW m y/\inW m z) (hm:m<=m'):inV m' x y z=true:=by
 refine tt.2 ?_;unfold inW at *
 omega
theorem Br {m a b:Int} (h:inW m a) (k:inW m b):inW (2*m) (a - b):=by
 unfold inW at *
 omega
theorem Zx {a0 a1 a2 b0 b1 b2:Int} (h:inW 1048576 a0/\inW 1048576 a1/\inW 1048576 a2) (k:inW 1048576 b0/\inW 1048576 b1/\inW 1048576 b2):Ret prog G0 61 #[.agg #[.int .i64 a0,.int .i64 a1,.int .i64 a2],.agg #[.int .i64 b0,.int .i64 b1,.int .i64 b2]] (.tuple #[.agg #[.int .i64 (a0 - b0),.int .i64 (a1 - b1),.int .i64 (a2 - b2)],.int .i64 0]):=by
 refine ck G0F func61 rfl call61 zS zS (by simp [ntmps61]) ?_;intro C hC bQ hY;have ha:=Lg (m':=536870912) h zO;have JT:=Lg (m':=536870912) k zO;have hd:=Lg (m':=536870912) ⟨Br h.1 k.1,Br h.2.1 k.2.1,Br h.2.2 k.2.2⟩ zO;have T:=air hd;unfold inW at h k;have q0:Int.bmod (a0 - b0) 18446744073709551616=a0 - b0:=bm zO zO;have q1:Int.bmod (a1 - b1) 18446744073709551616=a1 - b1:=bm zO zO;have q2:Int.bmod (a2 - b2) 18446744073709551616=a2 - b2:=bm zO zO
 repeat' first|refine cM ?_|((first|refine gwR [87] ?_|refine gwD [87] ?_);intro Q hQ _;(repeat first|simp [hC,hY,q0,q1,q2,T]|(refine Ba (Ry ha JT) zS zS zS ?_ ?_;focus (simp;done)));refine cQ hQ ?_)|fail
 exact eR results61
theorem anD {a0 a1 a2 b0 b1 b2:Int} (h:inW 1048576 a0/\inW 1048576 a1/\inW 1048576 a2) (k:inW 1048576 b0/\inW 1048576 b1/\inW 1048576 b2) (K:iQ):cu prog G0 61 #[.agg #[.int .i64 a0,.int .i64 a1,.int .i64 a2],.agg #[.int .i64 b0,.int .i64 b1,.int .i64 b2]] K↔K (.tuple #[.agg #[.int .i64 (a0 - b0),.int .i64 (a1 - b1),.int .i64 (a2 - b2)],.int .i64 0]):=aP G0W ae (Zx h k)
theorem WT {a0 a1 a2 b0 b1 b2:Int} (h:inW 2097152 a0/\inW 2097152 a1/\inW 2097152 a2):Ret prog G0 102 #[.agg #[.int .i64 a0,.int .i64 a1,.int .i64 a2],.agg #[.int .i64 a0,.int .i64 a1,.int .i64 a2]] (.tuple #[.int .i64 (a0*a0+a1*a1+a2*a2),.int .i64 0]):=by
 refine ck G0F func102 rfl call102 zS zS (by simp [ntmps102]) ?_;intro C hC bQ hY;have ha:=Lg (m':=536870912) h zO;have s0:=IF h.1;have s1:=IF h.2.1;have s2:=IF h.2.2;have q0:Int.bmod (a0*a0) 18446744073709551616=a0*a0:=bm zO zO;have q1:Int.bmod (a1*a1) 18446744073709551616=a1*a1:=bm zO zO;have q2:Int.bmod (a2*a2) 18446744073709551616=a2*a2:=bm zO zO;have q3:Int.bmod (a0*a0+a1*a1) 18446744073709551616=a0*a0+a1*a1:=bm zO zO;have q4:Int.bmod (a0*a0+a1*a1+a2*a2) 18446744073709551616=a0*a0+a1*a1+a2*a2:=bm zO zO
 repeat' first|refine cM ?_|((first|refine gwR [87] ?_|refine gwD [87] ?_);intro Q hQ _;(repeat first|simp [hC,hY,q0,q1,q2,q3,q4]|(refine Ba (Ry ha ha) zS zS zS ?_ ?_;focus (simp;done)));refine cQ hQ ?_)|fail
 exact eR results102
theorem akY {a0 a1 a2:Int} (h:inW 2097152 a0/\inW 2097152 a1/\inW 2097152 a2) (K:iQ):cu prog G0 102 #[.agg #[.int .i64 a0,.int .i64 a1,.int .i64 a2],.agg #[.int .i64 a0,.int .i64 a1,.int .i64 a2]] K↔K (.tuple #[.int .i64 (a0*a0+a1*a1+a2*a2),.int .i64 0]):=aP G0W ae (WT (b0:=0) (b1:=0) (b2:=0) h)
theorem W7 {a0 a1 a2 b0 b1 b2:Int} (h:inW 1048576 a0/\inW 1048576 a1/\inW 1048576 a2) (k:inW 1048576 b0/\inW 1048576 b1/\inW 1048576 b2):Ret prog G0 72 #[.agg #[.int .i64 a0,.int .i64 a1,.int .i64 a2],.agg #[.int .i64 b0,.int .i64 b1,.int .i64 b2]] (.tuple #[.int .i64 ((a0 - b0)*(a0 - b0)+(a1 - b1)*(a1 - b1)+(a2 - b2)*(a2 - b2)),.int .i64 0]):=by
 refine ck G0F func72 rfl call72 zS zS (by simp [ntmps72]) ?_;intro C hC bQ hY;have S:=anD h k;have T:=akY (a0:=a0 - b0) (a1:=a1 - b1) (a2:=a2 - b2) ⟨Br h.1 k.1,Br h.2.1 k.2.1,Br h.2.2 k.2.2⟩;refine dy (k2 S T) ?_;exact eR results72
theorem ak4 {a0 a1 a2 b0 b1 b2:Int} (h:inW 1048576 a0/\inW 1048576 a1/\inW 1048576 a2) (k:inW 1048576 b0/\inW 1048576 b1/\inW 1048576 b2) (K:iQ):cu prog G0 72 #[.agg #[.int .i64 a0,.int .i64 a1,.int .i64 a2],.agg #[.int .i64 b0,.int .i64 b1,.int .i64 b2]] K↔K (.tuple #[.int .i64 ((a0 - b0)*(a0 - b0)+(a1 - b1)*(a1 - b1)+(a2 - b2)*(a2 - b2)),.int .i64 0]):=aP G0W ae (W7 h k)
@[simp] theorem anh (n d g m x0 x1 x2:Int) (h0:inX x0) (h1:inX x1) (h2:inX x2) (k0:PIn n d g m x0 (x0*x0+x1*x1+x2*x2)) (k1:PIn n d g m x1 (x0*x0+x1*x1+x2*x2)) (k2:PIn n d g m x2 (x0*x0+x1*x1+x2*x2)) (K:iQ) :
  cu prog G1 149 #[.int .i64 n,.int .i64 d,.int .i64 g,.int .i64 m,.agg #[.int .i64 x0,.int .i64 x1,.int .i64 x2]] K↔K (.tuple #[.agg #[.int .i64 (gp n d g m x0 (x0*x0+x1*x1+x2*x2)),.int .i64 (gp n d g m x1 (x0*x0+x1*x1+x2*x2)),.int .i64 (gp n d g m x2 (x0*x0+x1*x1+x2*x2))],.int .i64 0]) :=
 aP G1W ae (NY n d g m x0 x1 x2 h0 h1 h2 k0 k1 k2)
theorem adj {n d g m x0 x1 x2 p0 p1 p2:Int} {r:Int} (hr:x0*x0+x1*x1+x2*x2=r) (h0:inX x0) (h1:inX x1) (h2:inX x2) (k0:PIn n d g m x0 r) (k1:PIn n d g m x1 r) (k2:PIn n d g m x2 r)
  (e0:gp n d g m x0 r=p0) (e1:gp n d g m x1 r=p1) (e2:gp n d g m x2 r=p2) (K:iQ) :
  cu prog G1 149 #[.int .i64 n,.int .i64 d,.int .i64 g,.int .i64 m,.agg #[.int .i64 x0,.int .i64 x1,.int .i64 x2]] K↔K (.tuple #[.agg #[.int .i64 p0,.int .i64 p1,.int .i64 p2],.int .i64 0]):=by
 subst hr e0 e1 e2;exact anh n d g m x0 x1 x2 h0 h1 h2 k0 k1 k2 K
structure MayP (n d g m x0 x1 x2:Int):Prop where
 i0:inX x0
 i1:inX x1
 i2:inX x2
 far:¬(x0=0/\x1=0/\x2=0)
 n0:-2097152<=n
 n1:n<=2097152
 d0:1<=d
 d1:d<=2097152
 g0:1<=g
 g1:g<=1048576
 m0:1<=m
 m1:m<=1024
theorem QM {x:Int} (h:x≠0):1<=x*x:=by
 by_cases h0:0<=x
 ·exact ki zO zO
 ·rw [<-jt];exact ki zO zO
theorem MayP.pin {n d g m x0 x1 x2:Int} (h:MayP n d g m x0 x1 x2):PIn n d g m x0 (x0*x0+x1*x1+x2*x2)/\PIn n d g m x1 (x0*x0+x1*x1+x2*x2)/\PIn n d g m x2 (x0*x0+x1*x1+x2*x2):=by
 have s0:=Bd h.i0;have s1:=Bd h.i1;have s2:=Bd h.i2
 have hr:1<=x0*x0+x1*x1+x2*x2:=by
  by_cases z0:x0=0
  ·by_cases z1:x1=0
   ·have:=QM (x:=x2) (λz2=>h.far ⟨z0,z1,z2⟩);omega
   ·have:=QM z1;omega
  ·have:=QM z0;omega
 refine ⟨⟨h.n0,h.n1,h.d0,h.d1,h.g0,h.g1,h.m0,h.m1,h.i0.1,h.i0.2,hr,zO,zO⟩,⟨h.n0,h.n1,h.d0,h.d1,h.g0,h.g1,h.m0,h.m1,h.i1.1,h.i1.2,hr,zO,zO⟩,⟨h.n0,h.n1,h.d0,h.d1,h.g0,h.g1,h.m0,h.m1,h.i2.1,h.i2.2,hr,zO,zO⟩⟩
theorem MayP.at {n d g m x0 x1 x2 r p0 p1 p2:Int} (h:MayP n d g m x0 x1 x2) (hr:x0*x0+x1*x1+x2*x2=r) (e0:gp n d g m x0 r=p0) (e1:gp n d g m x1 r=p1) (e2:gp n d g m x2 r=p2) (K:iQ) :
  cu prog G1 149 #[.int .i64 n,.int .i64 d,.int .i64 g,.int .i64 m,.agg #[.int .i64 x0,.int .i64 x1,.int .i64 x2]] K↔K (.tuple #[.agg #[.int .i64 p0,.int .i64 p1,.int .i64 p2],.int .i64 0]):=by
 have hp:=h.pin;rw [hr] at hp;exact adj hr h.i0 h.i1 h.i2 hp.1 hp.2.1 hp.2.2 e0 e1 e2 K
theorem PIn.val {n d g m x r:Int} (h:PIn n d g m x r):-4503599627370496<=gp n d g m x r/\gp n d g m x r<=4503599627370496:=by
 exact xC
theorem QL {q:Int} (h0:0<=q):(isq q+1) / 2=0↔q=0:=by
 obtain ⟨h1,h2,h3⟩:=sU q h0;constructor
 ·intro h;have h4:isq q=0:=zO;rw [h4] at h3;omega
 ·intro h;subst h;rw [P6 (r:=0) zD zD zD];decide
theorem PIn.zero {n d g m x r:Int} (h:PIn n d g m x r):gp n d g m x r=0↔2*n*g*m*x*(2*n*g*m*x)<d*d*r*r*r:=by
 have hB:0<d*d*r*r*r:=by have:=h.q4.1;have:=h.r0;omega
 have hA:=yu (2*n*g*m*x)
 have e1:gp n d g m x r=0↔Ao n d g m x r=0:=by
  exact xC
 rw [e1];unfold Ao;rw [QL (gQ hA zO)];generalize 2*n*g*m*x*(2*n*g*m*x)=A at *
 generalize d*d*r*r*r=B at *
 constructor
 ·intro h;have e2:=cE A hB;have e3:=qB A B;rw [h] at e3;omega
 ·intro h;exact fR hA h
end Go.Gy
namespace Go.Gy
open Go Go.RowKit Go.Proofs Go.Proofs.Tryz
def bt (z:Int):Nat->Int
 | 0=>0
 | i+1=>if wi z i=0 then bt z i else 64*i+bU (wi z i)
end Go.Gy
namespace Go.Gy
open Go Go.RowKit Go.Proofs Go.Proofs.Tryz
instance inBdec (x:Int):Decidable (inX x):=by unfold inX;infer_instance
theorem JO (L:bS) (ka ks:Nat) (bm bs:Blk) (hT:LKa L ka ks bm bs) (off n cap ao n2 av:Nat) (fm fs:aS) (hm:MB bm off n fm) (cf:SB bs ao n2 fs) (g bx tp nr md st:Int) :
  Fun prog G1 14 #[cfV (.slice (some ⟨ka,off,none⟩) n cap) g bx tp nr md,.agg #[.int .i64 st,.slice (some ⟨ks,ao,none⟩) n2 av]] (hpL G1 L) (ak L) (.ret (.bool (pX n n2 (eQ n fm g bx tp nr md) (aV st fs n2))) []):=by
 rcases hT.a8 with e|e
 ·subst e;exact (ML L ks bm bs hT.tw off n cap ao n2 av fm fs hm cf g bx tp nr md st).up1 hT.ok
 ·obtain ⟨rfl,rfl⟩:=hT.ag e;subst e;have h:=(ML _ 108 lmB bs (LTwo.two pM cf.fx) off n cap ao n2 av fm fs hm cf g bx tp nr md st).mvG hT.lmv (λk hk=>by cases hk) rfl;exact xa
theorem vZ {p:Prop} (h:p:=by simp [results33,ren,aT,aw,aA]):p:=h
theorem vF {p:Prop} (h:p:=by simp [hrm,hA,fq,Vu]):p:=h
theorem Dv {p:Prop} (h:p:=by
 simp [ic,qY,Vq,aF,aL,aR,dom,IW,iZ];simp [bI,aF,aL,aR,dom]):p:=h
theorem CZ {p:Prop} (h:p:=by
 rcases abO with e|⟨c,e⟩
 ·exact .inl e
 ·simp at e<;>exact .inr e.1.symm):p:=h
theorem FA {p:Prop} (h:p:=by
 simp [dom,eY,ren,aT,aw,aA,aN,cp,aL,aR,BT,hA,hS,df,fq]):p:=h
structure L3 (L:bS) (ka ks:Nat) (bm bs:Blk):Prop where
 ok:LOk L 200
 fx:∀ p∈L,p.2.fx
 am:(ka,bm)∈L
 kb:(ks,bs)∈L
section
variable {L:bS} {ka ks:Nat} {b b2:Blk}
theorem L3.mem (h:L3 L ka ks b b2) (p:Nat×Blk) (hp:p∈L):hpL G0 L p.1=some p.2:=LOk.at h.ok.one p hp
theorem L3.a (h:L3 L ka ks b b2):hpL G0 L ka=some b:=h.mem _ h.am
theorem L3.s (h:L3 L ka ks b b2):hpL G0 L ks=some b2:=h.mem _ h.kb
theorem L3.k1 (h:L3 L ka ks b b2):100<=ks:=(h.ok.big _ h.kb).1
theorem L3.k2 (h:L3 L ka ks b b2):ks<200:=(h.ok.big _ h.kb).2
theorem L3.a1 (h:L3 L ka ks b b2):100<=ka:=(h.ok.big _ h.am).1
theorem L3.a2 (h:L3 L ka ks b b2):ka<200:=(h.ok.big _ h.am).2
theorem L3.ne (h:L3 L ka ks b b2) (k:Nat) (hk:200<=k):(ks=k)=False:=by
 exact w7
theorem L3.na (h:L3 L ka ks b b2) (k:Nat) (hk:200<=k):(ka=k)=False:=by
 have:=h.a2;exact gE
theorem L3.low (h:L3 L ka ks b b2) (k:Nat) (hk:k<100):hpL G0 L k=G0 k:=h.ok.low k hk
theorem L3.ia (h:L3 L ka ks b b2):ka∈ak L:=aI.2 ⟨_,h.am,rfl⟩
theorem L3.ib (h:L3 L ka ks b b2):ks∈ak L:=aI.2 ⟨_,h.kb,rfl⟩
end
def shM (nk k:Nat):Nat:=if 1000<=k then k - 1000+nk else k
theorem Au {nk k:Nat} (h:k<1000):shM nk k=k:=ab zO
theorem FunS.shm {fn:FuncId} {args:bV} {L:bS} {R R':AI} (h:FunS prog G0 fn args (hpL G0 L) (ak L) R) (hL:LOk L 200) (zV:∀ p∈L,p.2.fx) (nk:Nat) (mZ:200<=nk) (hR:∀ v ns,R v ns->∀ k∈ak ns,1000<=k) (ea:args.map (ren (shM nk))=args) (eR:RR (shM nk) R=R') :
  FunS prog G0 fn args (hpL G0 L) (ak L) R':=by
 have iZ:∀ k∈ak L,shM nk k=k:=λk hk=>by
  obtain ⟨p,hp,rfl⟩:=aI.1 hk;have:=hL.big p hp;exact Au zO
 refine h.mvL (db:=hpL G0 L) (LG:=ak L) G0F hL (shM nk) (λk hk=>Au zO) ea ?_ eR hL.low ?_ ?_ (λv ns hV k hk=>?_) (λv ns hV k hk l hl e=>?_)
 ·rw [dK iZ];simp
 ·intro p hp;have hb:=hL.big p hp;rw [Au zO,Blk.fx_rn (zV p hp)];exact ⟨hb.1,LOk.at hL.one p hp⟩
 ·exact wR
 ·have:=hR v ns hV k hk;unfold shM;rw [ai this];exact Gi
 ·have:=hR v ns hV k hk;have:=hR v ns hV l hl;unfold shM at e;rw [ai zO,ai zO] at e;omega
def I5 (nk t:Nat) (p:aS) (v:Value) (ns:bS):Prop:=(t=0/\v=.slice none 0 0/\ns=[])\/∃ c,0<t/\t<=c/\v=.slice (some ⟨nk,0,none⟩) t c/\ns=[(nk,⟨fa (3*c) .i64 p,.ty 85⟩)]
theorem An {nk t:Nat} {p:aS} {v:Value} {ns:bS} (h:I5 nk t p v ns):∀ k∈ak ns,k=nk:=by
 rcases h with ⟨_,_,rfl⟩|⟨c,_,_,_,rfl⟩<;>simp [ak]
theorem NS {D:gA} {nk t:Nat} {p:aS} {v:Value} {ns:bS} (hn:200<=nk) (h:I5 nk t p v ns):aN (cJ D ns) v/\(∀ p∈ns,200<=p.1/\p.2.ids (cJ D ns))/\(∀ k b c,(k,b)∈ns->(k,c)∈ns->b=c):=by
 rcases h with ⟨_,rfl,rfl⟩|⟨c,_,_,rfl,rfl⟩
 ·simp
 ·refine ⟨by simp [cJ,ak],?_,?_⟩
  ·simp only [bE,bR];exact ⟨hn,Blk.fx_ids (dI _ _ _) _⟩
  ·exact mw
theorem Sm {nk t:Nat} {p:aS} {ρ:cI} (h:ρ 1000=nk) {v:Value} {ns:bS} (hv:I5 1000 t p v ns):I5 nk t p (ren ρ v) (rnL ρ ns):=by
 rcases hv with ⟨h0,rfl,rfl⟩|⟨c,h1,h2,rfl,rfl⟩
 ·exact .inl ⟨h0,by simp [ren,aT,aw,aA],by simp [rnL]⟩
 ·exact .inr ⟨c,h1,h2,by simp [ren,aT,aw,aA,h],by simp [rnL,ic,h]⟩
def PC (f:aS) (n i0 k0 t:Nat) (p:aS):Prop:=∀ i k,i<k->k<n->(i<i0\/(i=i0/\k<k0))->∃ m,m<t/\p (3*m+2)=d2F f i k
def PD (f:aS) (n t:Nat) (p:aS):Prop:=∀ m,m<t->∃ i k,i<k/\k<n/\p (3*m+2)=d2F f i k
def V8 (nk:Nat) (f:aS) (n:Nat) (v:Value) (ns:bS):Prop:=∃ t p,t<=20/\(PC f n n 0 t p/\PD f n t p)/\I5 nk t p v ns
def pa0 (b:Blk) (st:Int) (off n cap i:Nat) (sl:Value) (ns:bS):GS :=
 ⟨tsL [(1,.pointer (some ⟨200,0,none⟩)),(2,.slice none 0 0),(3,sl),(4,.int .i64 i)],hpL G0 ((200,bI st 100 off n cap)::(100,b)::ns),300,0⟩
def pa1 (b:Blk) (st:Int) (off n cap i k:Nat) (sl:Value) (ns:bS):GS :=
 ⟨tsL [(1,.pointer (some ⟨200,0,none⟩)),(2,.slice none 0 0),(3,sl),(4,.int .i64 i),(5,.int .i64 k)],hpL G0 ((200,bI st 100 off n cap)::(100,b)::ns),300,0⟩
def paI (b:Blk) (st:Int) (off n cap:Nat) (f:aS) (m:Nat) (s:GS):Prop:=∃ i t p sl ns,i+m=n/\t<=4*i/\(PC f n i 0 t p/\PD f n t p)/\I5 208 t p sl ns/\s=pa0 b st off n cap i sl ns
def paJ (b:Blk) (st:Int) (off n cap:Nat) (f:aS) (i m:Nat) (s:GS):Prop:=∃ k t p sl ns,k+m=n/\i<k/\t<=4*i+k/\(PC f n i k t p/\PD f n t p)/\I5 208 t p sl ns/\s=pa1 b st off n cap i k sl ns
theorem Ki {C:Ctx} {b:Blk} {st:Int} {off n cap t:Nat} {p:aS} {sl:Value} {ns:bS} {s:GS} (hC:C.G=G0) (bQ:C.hp0=hpL G0 [(100,b)]) (hb:b.fx) (hV:I5 208 t p sl ns) (l:List (Nat×Value)) (hy:s.yc=0)
  (h2:∀ q∈l,s.ts q.1=q.2) (hl:∀ q∈l,q.2=sl\/q.2=.pointer (some ⟨200,0,none⟩)\/bz q.2=true) (K6:s.hp 200=some (bI st 100 off n cap)) (g5:s.hp 100=some b) (Xm:∀ q∈ns,s.hp q.1=some q.2):Weak C s ⟨tsL l,hpL G0 ((200,bI st 100 off n cap)::(100,b)::ns),300,s.yc⟩:=by
 have iZ:=λD=>Blk.fx_ids hb D;refine dv _ 300 hC G0F (m0:=[(100,b)]) bQ zO (λq hq=>⟨h2 q hq,?_⟩) ?_ ?_
 ·rcases hl q hq with e|e|e
  ·rw [e];rcases hV with ⟨_,rfl,rfl⟩|⟨c,_,_,rfl,rfl⟩<;>simp [dom]
  ·rw [e];simp [dom]
  ·exact cb e
 ·intro q hq;simp only [al] at hq;rcases hq with rfl|rfl|hq
  ·exact ⟨K6,by simp [bI,aF,aL,aR,dom],zO,zO⟩
  ·exact ⟨g5,iZ _,zO,zO⟩
  ·refine ⟨Xm q hq,?_⟩;rcases hV with ⟨_,rfl,rfl⟩|⟨c,_,_,rfl,rfl⟩
   ·cases hq
   ·simp only [bE] at hq;subst hq;exact ⟨Blk.fx_ids (dI _ _ _) _,zO,zO⟩
 ·simp [g5]
theorem NV (b:Blk) (off n cap:Nat) (f:aS) (h:SB b off n f) (st:Int) (c0:aV st f n=true) :
  FunS prog G0 51 #[.agg #[.int .i64 st,.slice (some ⟨100,off,none⟩) n cap]] (hpL G0 [(100,b)]) (ak [(100,b)]) (V8 1000 f n):=by
 refine dJ (B:=200) G0F func51 rfl call51 (aH h.fx) ?_ (λv ns ⟨t,p,_,_,hV⟩=>NS zO hV) (by simp [ntmps51]) zO ?_
 ·exact bG
 intro C hC bQ hY;have hr:=λρ=>Blk.fx_rn h.fx ρ;have iZ:=λD=>Blk.fx_ids h.fx D;obtain ⟨_,⟨n1,n4⟩,_⟩:=ln c0
 repeat' first|refine cM ?_|((first|refine gwR [27] ?_|refine gwD [27] ?_);intro Q hQ _;(repeat first|simp [hC,hY,c0]|refine az (Bn b off n cap f h st) G0F (B:=200) (aH h.fx) (λk=>k) (λk hk=>rfl) ay zS cj ah ax ?_);refine cQ hQ ?_)|fail
 refine uw (paI b st off n cap f) (m0:=n) (s0:=pa0 b st off n cap 0 (.slice none 0 0) []) ?_ ⟨0,0,λ_=>0,_,_,zO,zO,⟨λi k h1 h2 h3=>zO,λm hm=>zO⟩,.inl ⟨rfl,rfl,rfl⟩,rfl⟩ ?_
 ·exact Ki (t:=0) (p:=λ_=>0) hC bQ h.fx (.inl ⟨rfl,rfl,rfl⟩) _ rfl zS zS (by simp [bI]) zS zS
 rintro m _ ⟨i,t,p,sl,ns,Vs,ht,hp,hV,rfl⟩;by_cases hm:m=0
 ·obtain rfl:i=n:=zO;rcases hV with ⟨h0,rfl,rfl⟩|⟨c,h0,hc,rfl,rfl⟩
  ·unfold pa0 bI;refine fO ?_;refine ⟨.inr trivial,G4 G0F,_,_,λk=>k,⟨t,p,zO,hp,.inl ⟨h0,rfl,rfl⟩⟩,λ_ _=>rfl,zS,zS,by simp [results51,ren,aT,aw,aA],zS⟩
  ·unfold pa0 bI;refine fO ?_;refine ⟨.inr trivial,G4 G0F,_,_,λk=>if k=1000 then 208 else k,⟨t,p,zO,hp,.inr ⟨c,h0,hc,rfl,rfl⟩⟩,λk hk=>ab zO,zS,zS,by simp [results51,ren,aT,aw,aA],fZ⟩
 ·have dR:i<n:=zO;have cv:(i:Int)<n:=zO;have hs:=vn dR n4;unfold pa0 bI;refine dy (k2 cv hs) ?_;refine uw (paJ b st off n cap f i) (m0:=n - (i+1)) (s0:=pa1 b st off n cap i (i+1) sl ns) ?_ ⟨i+1,t,p,_,_,zO,zO,zO,⟨λa k h1 h2 h3=>hp.1 a k h1 h2 zO,hp.2⟩,hV,rfl⟩ ?_
  ·refine Ki hC bQ h.fx hV _ rfl (by simp [hs]) zS (by simp [bI]) zS ?_;rcases hV with ⟨_,rfl,rfl⟩|⟨c,_,_,rfl,rfl⟩<;>simp
  clear hV hp ht;rintro m2 _ ⟨k,t,p,sl,ns,hkm,hik,ht,hp,hV,rfl⟩;by_cases hm2:m2=0
  ·obtain rfl:k=n:=zO;unfold pa1 bI;refine dy hs ?_;refine ⟨λx=>x,pa0 b st off k cap (i+1) sl ns,k - (i+1),?_,⟨i+1,t,p,_,_,zO,zO,⟨λa q h1 h2 h3=>hp.1 a q h1 h2 zO,hp.2⟩,hV,rfl⟩,zO⟩;have Vq:=λρ=>Blk.fx_rn h.fx ρ;have IW:=λD c=>Blk.fx_ids (dI (3*c) p 85) D;rcases hV with ⟨_,rfl,rfl⟩|⟨c,_,_,rfl,rfl⟩
   all_goals
    refine pT (s:=GS.mk _ _ _ 0) _ _ 300 hC G0F (m0:=[(100,b)]) bQ zO ?_ ?_ ?_ ?_ ?_
    ·simp [dom,eY,ren,aT,aw,aA,aN,cp,aL,aR,hs]
    ·exact Dv
    ·simp
    ·intro k hk;rfl
    ·exact fY
  ·have PR:k<n:=zO;have g8:(k:Int)<n:=zO;have hz:(0:Int)<=i:=zO;have hzk:(0:Int)<=k:=zO;have hsk:=vn PR n4;have li:=h.vec dR (u:=0) zO;have lk:=h.vec PR (u:=0) zO;simp only [dZ] at li lk;have F9:=λK=>ak4 (ja c0 dR).1 (ja c0 PR).1 K;have ed:(f (6*i) - f (6*k))*(f (6*i) - f (6*k))+(f (6*i+1) - f (6*k+1))*(f (6*i+1) - f (6*k+1))+(f (6*i+2) - f (6*k+2))*(f (6*i+2) - f (6*k+2))=d2F f i k:=rfl
   have aez:PC f n i (k+1) (t+1) (λq=>if q<3*t then p q else if q=3*t then i else if q=3*t+1 then k else d2F f i k):=λa q h1 h2 h3=>by
    by_cases e:a=i/\q=k
    ·obtain ⟨rfl,rfl⟩:=e;exact ⟨t,zO,by simp only [ab (zO:¬3*t+2<3*t),ab (zO:¬3*t+2=3*t),ab (zO:¬3*t+2=3*t+1)]⟩
    ·obtain ⟨m,OS,hm2⟩:=hp.1 a q h1 h2 zO;exact ⟨m,zO,by simp only [ai (zO:3*m+2<3*t)];exact hm2⟩
   have XC:PD f n (t+1) (λq=>if q<3*t then p q else if q=3*t then i else if q=3*t+1 then k else d2F f i k):=λm hm=>by
    by_cases e:m=t
    ·subst e;exact ⟨i,k,hik,PR,by simp only [ab (zO:¬3*m+2<3*m),ab (zO:¬3*m+2=3*m),ab (zO:¬3*m+2=3*m+1)]⟩
    ·obtain ⟨a,q,h1,h2,h3⟩:=hp.2 m zO;exact ⟨a,q,h1,h2,by simp only [ai (zO:3*m+2<3*t)];exact h3⟩
   have Vq:=λρ=>Blk.fx_rn h.fx ρ;generalize hG:(λq=>if q<3*t then p q else if q=3*t then (i:Int) else if q=3*t+1 then (k:Int) else d2F f i k)=G at aez XC
   have hGe:∀ u,u<3->(λu:Nat=>if u=0 then (i:Int) else if u=1 then (k:Int) else d2F f i k) u=G (3*t+u):=λu hu=>by
    subst hG;obtain rfl|rfl|rfl:u=0\/u=1\/u=2:=zO
    ·simp
    ·simp;intro e;omega
    ·simp;intro e;omega
   have hGp:∀ j,j<3*t->p j=G j:=λj hj=>by subst hG;exact (ai hj).symm
   rcases hV with ⟨h0,rfl,rfl⟩|⟨c,h0,hc,rfl,rfl⟩
   all_goals
    unfold pa1 bI;refine dy (k11 dR cv PR g8 hz hzk hsk li lk F9 ed) ?_;refine gj ?_;refine PI trivial ?_;refine xV (m:=3) (i:=t) (j:=524) (BN:=24) (z:=.agg #[.int .i64 0,.int .i64 0,.int .i64 0]) (T2:=.ty 85) (G:=G) (ev:=λu=>if u=0 then (i:Int) else if u=1 then (k:Int) else d2F f i k) rfl zS rfl underlying68 (aZ sizeOf85) ae ae zO et et zO zO ?_ zS oG hGe zO ?_
    ·first|(refine .inl ⟨h0,?_⟩;simp;done)|(refine .inr ⟨208,c,p,?_,?_,?_,hc,hGp⟩<;>first|omega|simp)
    rintro k' c' g' abO vm yz OQ
    have db:PC f n i (k+1) (t+1) g':=λa q h1 h2 h3=>by
     obtain ⟨m,OS,hm3⟩:=aez a q h1 h2 h3;exact ⟨m,OS,(OQ _ zO).trans hm3⟩
    have hpD:PD f n (t+1) g':=λm hm=>by
     obtain ⟨a,q,h1,h2,h3⟩:=XC m hm;exact ⟨a,q,h1,h2,(OQ _ zO).trans h3⟩
    have agG:k'=532\/k'=208:=by
     exact CZ
    obtain ⟨κ,hκ⟩:∃ κ,k'=κ:=⟨_,rfl⟩
    rcases agG with rfl|rfl
    all_goals
     refine n7 trivial ?_;refine bH ?_;refine dy hsk ?_;refine ⟨λx=>if x=208 then κ else x,pa1 b st off n cap i (k+1) (.slice (some ⟨208,0,none⟩) (t+1) c') [(208,⟨fa (3*c') .i64 g',.ty 85⟩)],n - (k+1),?_,⟨k+1,t+1,g',_,_,zO,zO,zO,⟨db,hpD⟩,.inr ⟨c',zO,yz,rfl,rfl⟩,rfl⟩,zO⟩;subst hκ;have IW:=λD=>Blk.fx_ids (dI (3*c') g' 85) D;refine pT (s:=GS.mk _ _ _ 0) _ _ 300 hC G0F (m0:=[(100,b)]) bQ zO ?_ ?_ ?_ ?_ ?_
     ·simp [dom,eY,ren,aT,aw,aA,aN,cp,aL,aR,hsk]
     ·exact Dv
     ·simp
     ·exact jA
     ·exact fY
theorem YY (ks nk:Nat) (mY:100<=ks) (hk:200<=nk) (df:ks<nk) (b:Blk) (off n cap:Nat) (f:aS) (h:SB b off n f) (st:Int) (c0:aV st f n=true) :
  FunS prog G0 51 #[.agg #[.int .i64 st,.slice (some ⟨ks,off,none⟩) n cap]] (hpL G0 [(ks,b)]) [ks] (V8 nk f n):=by
 refine (NV b off n cap f h st c0).own2 h.fx ks nk mY zO zO (λv ns ⟨t,p,_,_,hV⟩=>An hV) oC ?_;funext v ns;apply propext;constructor
 ·rintro ⟨v0,uo,⟨t,p,h1,h2,hV⟩,rfl,rfl⟩;exact ⟨t,p,h1,h2,Sm BY hV⟩
 ·rintro ⟨t,p,h1,h2,hV⟩;rcases hV with ⟨h0,rfl,rfl⟩|⟨c,h3,h4,rfl,rfl⟩
  ·exact ⟨_,_,⟨t,p,h1,h2,.inl ⟨h0,rfl,rfl⟩⟩,by simp [ren,aT,aw,aA],by simp [rnL]⟩
  ·exact ⟨_,_,⟨t,p,h1,h2,.inr ⟨c,h3,h4,rfl,rfl⟩⟩,by simp [ren,aT,aw,aA,BY],by simp [rnL,ic,BY]⟩
theorem IG {i t:Nat} (h:i<t) (ht:t<=20):Int.bmod ((i:Int)+1) 18446744073709551616=((i+1:Nat):Int):=by
 rw [bm zO zO]
 rfl
theorem amU {n:Nat} {f:aS} {g bx tp nr md:Int} (h:eQ n f g bx tp nr md=true):Int.bmod (nr*nr) 18446744073709551616=nr*nr:=by
 obtain ⟨_,_,⟨n0,n1⟩,_⟩:=iJ h;have:=IF (a:=nr) (m:=2097152) ⟨zO,zO,zO⟩;exact bm zO zO
def adZ (nk:Nat) (f:aS) (n:Nat) (nr:Int) (v:Value) (ns:bS):Prop:=∃ t p,((t=0->∀ i k,i<k->k<n->¬d2F f i k<nr*nr)/\(0<t->∃ i k,i<k/\k<n/\d2F f i k<nr*nr))/\I5 nk t p v ns
def Nx (L:bS) (ka ks off n cap ao av:Nat) (g bx tp nr md st:Int) (t:Nat) (c:Nat) (p:aS) (i:Nat) (sl:Value) (ns:bS):GS :=
 ⟨tsL [(2,.pointer (some ⟨200,0,none⟩)),(3,.pointer (some ⟨208,0,none⟩)),(4,.slice none 0 0),(5,sl),(6,.slice (some ⟨240,0,none⟩) t c),(7,.int .i64 i)],
 hpL G0 (([(200,cfB (.slice (some ⟨ka,off,none⟩) n cap) g bx tp nr md),(208,bI st ks ao n av),(240,⟨fa (3*c) .i64 p,.ty 85⟩)]++ns)++L),400,0⟩
def neI (L:bS) (ka ks off n cap ao av:Nat) (g bx tp nr md st:Int) (t:Nat) (c:Nat) (p:aS) (m:Nat) (s:GS):Prop:=∃ i t2 p2 sl ns,i+m=t/\t2<=i/\((t2=0->∀ j,j<i->¬p (3*j+2)<nr*nr)/\(0<t2->∃ j,j<i/\p (3*j+2)<nr*nr))/\I5 248 t2 p2 sl ns/\s=Nx L ka ks off n cap ao av g bx tp nr md st t c p i sl ns
theorem ac6 {c:Nat} {p:aS} {i:Nat} (hi:i<c):ft prog 85 ⟨fa (3*c) .i64 p,.ty 85⟩ (i*3)=some (.agg #[.int .i64 (p (3*i)),.int .i64 (p (3*i+1)),.int .i64 (p (3*i+2))]):=by
 have:=sY (P:=prog) (T:=85) (m:=3) (j:=3*i) (cO isAgg85) (aZ sizeOf85) zO (zi (3*c) p (.ty 85)) zO;rw [(zO:i*3=0+3*i),this,MG];simp only [dZ]
theorem Qg {L:bS} {ka ks:Nat} {bm bs:Blk} (hT:L3 L ka ks bm bs) (off n cap ao av:Nat) (fm fs:aS) (hm:MB bm off n fm) (cf:SB bs ao n fs) (g bx tp nr md st:Int) (fJ:eQ n fm g bx tp nr md=true) (ez:aV st fs n=true) :
  FunS prog G0 33 #[cfV (.slice (some ⟨ka,off,none⟩) n cap) g bx tp nr md,.agg #[.int .i64 st,.slice (some ⟨ks,ao,none⟩) n av]] (hpL G0 L) (ak L) (adZ 1000 fs n nr):=by
 refine dJ (B:=200) G0F func33 rfl call33 hT.ok ?_ (λv ns ⟨t,p,_,hV⟩=>NS zO hV) (by simp [ntmps33]) zO ?_
 ·exact dE
 intro C hC bQ hY;have hA:=hT.a;have hS:=hT.s;have df:=hT.ne;have fq:=hT.na;have jW:=hT.low;have mY:=hT.k1;have nA:=hT.k2;have Vu:=hT.a1;have yB:=hT.a2;have hrm:=λρ=>Blk.fx_rn hm.fx ρ;have mW:=x4 bm off n cap fm hm g bx tp nr md;rw [fJ] at mW;obtain ⟨_,_,⟨n0,n1⟩,_⟩:=iJ fJ;have dP:=YY ks 240 zO zO zO bs ao n av fs cf st ez;unfold cfV at mW |-
 repeat' first|refine cM ?_|refine K4 ?_|fail
 refine gj ?_;refine n7 (k4 hA hS df fq) ?_;refine bN (f:=.func 51) (cap:=#[]) hC dP rfl zS rfl rfl aJ aq zS aM aq kE cS ?_ ?_
 ·rintro v ns ⟨t,p,_,_,hV⟩ k hk;rw [An hV k hk];omega
 rintro v ns ⟨t,p,ht,hp,hV⟩;rcases hV with ⟨h0,rfl,rfl⟩|⟨c,h0,hc,rfl,rfl⟩
 ·
  refine n7 trivial ?_;refine bH ?_
  repeat' first|refine cM ?_|refine K4 ?_|fail
  refine jQ 0 (λ_=>⟨tsL [(2,.pointer (some ⟨200,0,none⟩)),(3,.pointer (some ⟨208,0,none⟩)),(4,.slice none 0 0),(5,.slice none 0 0),(6,.slice none 0 0),(7,.int .i64 0)],hpL G0 ([(200,cfB (.slice (some ⟨ka,off,none⟩) n cap) g bx tp nr md),(208,bI st ks ao n av)]++L),400,0⟩) ?_ (λi hi=>zO) ?_
  ·refine sD _ 400 hC G0F hT.ok hT.fx bQ zO ?_ ?_ ji
   ·exact xq
   ·simp [cfB,bI,aF,aL,aR,dom,hA,hS,df,fq]
  ·unfold cfB bI
   repeat' first|refine cM ?_|refine K4 ?_|fail
   refine ⟨.inr trivial,I1 G0F,_,_,λk=>k,⟨0,p,⟨λ_ i k h1 h2=>by obtain ⟨m,OS,_⟩:=hp.1 i k h1 h2 zO;omega,λh=>zO⟩,.inl ⟨rfl,rfl,rfl⟩⟩,λ_ _=>rfl,zS,zS,vZ,zS⟩
 ·have agE:=λD=>Blk.fx_ids (dI (3*c) p 85) D;refine n7 trivial ?_;refine bH ?_
  repeat' first|refine cM ?_|refine K4 ?_|fail
  refine uw (neI L ka ks off n cap ao av g bx tp nr md st t c p) (m0:=t) (s0:=Nx L ka ks off n cap ao av g bx tp nr md st t c p 0 (.slice none 0 0) []) ?_ ⟨0,0,λ_=>0,_,_,zO,zO,⟨λ_ j hj=>zO,λh=>zO⟩,.inl ⟨rfl,rfl,rfl⟩,rfl⟩ ?_
  ·refine sD _ 400 hC G0F hT.ok hT.fx bQ zO ?_ ?_ ji
   ·exact xq
   ·simp [cfB,bI,aF,aL,aR,dom,agE,hA,hS,df,fq]
  rintro m _ ⟨i,t2,p2,sl,ns,Vs,ht2,hq,hV,rfl⟩;by_cases L6:m=0
  ·obtain rfl:i=t:=zO
   have jK:(t2=0->∀ a k,a<k->k<n->¬d2F fs a k<nr*nr)/\(0<t2->∃ a k,a<k/\k<n/\d2F fs a k<nr*nr):=⟨λe a k h1 h2=>by
    obtain ⟨m,OS,hm2⟩:=hp.1 a k h1 h2 zO;rw [<-hm2];exact hq.1 e m OS,λe=>by
    obtain ⟨m,OS,hm2⟩:=hq.2 e;obtain ⟨a,k,h1,h2,h3⟩:=hp.2 m OS;exact ⟨a,k,h1,h2,by rw [<-h3];exact hm2⟩⟩
   rcases hV with ⟨JR,rfl,rfl⟩|⟨c2,JR,hc2,rfl,rfl⟩
   ·unfold Nx cfB bI
    repeat' first|refine cM ?_|refine K4 ?_|fail
    refine ⟨.inr trivial,I1 G0F,_,_,λk=>k,⟨t2,p2,jK,.inl ⟨JR,rfl,rfl⟩⟩,λ_ _=>rfl,zS,zS,vZ,zS⟩
   ·unfold Nx cfB bI
    repeat' first|refine cM ?_|refine K4 ?_|fail
    refine ⟨.inr trivial,I1 G0F,_,_,λk=>if k=1000 then 248 else k,⟨t2,p2,jK,.inr ⟨c2,JR,hc2,rfl,rfl⟩⟩,λk hk=>ab zO,zS,zS,vZ,fZ⟩
  ·have ny:i<t:=zO;have HT:i<c:=zO;have cv:(i:Int)<t:=zO;have hz:(0:Int)<=i:=zO;have lp:=ac6 (p:=p) HT;have l2:=GP (T:=85) (M:=3*c) (g:=p) (q:=3*i+2) zO;rw [(zO:3*i+2=i*3+2)] at l2;have l2':ft prog 3 ⟨fa (3*c) .i64 p,.ty 85⟩ (i*3+2)=some (.int .i64 (p (3*i+2))):=by rw [(zO:3*i+2=i*3+2)];exact l2
   clear l2;by_cases hd:p (3*i+2)<nr*nr;rotate_left
   ·have y8:(t2=0->∀ j,j<i+1->¬p (3*j+2)<nr*nr)/\(0<t2->∃ j,j<i+1/\p (3*j+2)<nr*nr):=⟨λe j hj=>by
     by_cases ej:j=i
     ·subst ej;exact hd
     ·exact hq.1 e j zO,λe=>by
     obtain ⟨j,h1,h2⟩:=hq.2 e;exact ⟨j,zO,h2⟩⟩
    have hV0:=hV;have agD:=λρ=>vi (show Blk.fx ⟨fa (3*c) .i64 p,.ty 85⟩ from dI _ _ _) ρ;have K9:=λD c2=>Blk.fx_ids (dI (3*c2) p2 85) D;have Xw:=λρ c2=>vi (show Blk.fx ⟨fa (3*c2) .i64 p2,.ty 85⟩ from dI _ _ _) ρ;rcases hV with ⟨JR,rfl,rfl⟩|⟨c2,JR,hc2,rfl,rfl⟩
    all_goals
     unfold Nx cfB bI;have qn:=amU fJ;have BT:=IG ny ht
     repeat' first|refine cM ?_|((first|refine gwR [32] ?_|refine gwD [32] ?_);intro Q hQ _;(repeat first|simp [hC,hY,cv,hz,BT,l2',qn,hd,ny,HT,hA,hS,df,fq]|refine az mW G0F (B:=200) (aH hm.fx) (λk=>if k=100 then ka else k) (λk hk=>ab zO) cY zS vF ah ax ?_);refine cQ hQ ?_)|fail
     clear qn BT;refine ⟨λx=>x,Nx L ka ks off n cap ao av g bx tp nr md st t c p (i+1) _ _,t - (i+1),?_,⟨i+1,t2,p2,_,_,zO,zO,y8,hV0,rfl⟩,zO⟩;have BT:=IG ny ht;refine LU (s:=GS.mk _ _ _ 0) _ _ 400 hC G0F hT.ok hT.fx bQ zO ?_ ?_ ?_ ?_ ji
     ·exact FA
     ·simp [cfB,bI,Blk.rn,aw,aA,aF,aL,aR,dom,agE,agD,K9,Xw,hA,hS,df,fq]
     ·simp
     ·intro x hx;rfl
   ·generalize hG:(λq=>if q<3*t2 then p2 q else p (3*i+(q - 3*t2)))=G
    have hGe:∀ u,u<3->(λu:Nat=>p (3*i+u)) u=G (3*t2+u):=λu hu=>by
     subst hG;simp only [ab (zO:¬3*t2+u<3*t2),(zO:3*t2+u - 3*t2=u)]
    have hGp:∀ j,j<3*t2->p2 j=G j:=λj hj=>by subst hG;exact (ai hj).symm
    have agD:=λρ=>vi (show Blk.fx ⟨fa (3*c) .i64 p,.ty 85⟩ from dI _ _ _) ρ;rcases hV with ⟨JR,rfl,rfl⟩|⟨c2,JR,hc2,rfl,rfl⟩
    all_goals
     unfold Nx cfB bI;have qn:=amU fJ;have BT:=IG ny ht
     repeat' first|refine cM ?_|((first|refine gwR [32] ?_|refine gwD [32] ?_);intro Q hQ _;(repeat first|simp [hC,hY,cv,hz,BT,l2',qn,hd,ny,HT,hA,hS,df,fq]|refine az mW G0F (B:=200) (aH hm.fx) (λk=>if k=100 then ka else k) (λk hk=>ab zO) cY zS vF ah ax ?_);refine cQ hQ ?_)|fail
     clear qn BT;refine gj ?_;refine PI (k9 lp HT ny cv hz hA hS df fq) ?_;refine xV (m:=3) (i:=t2) (j:=600) (BN:=24) (z:=.agg #[.int .i64 0,.int .i64 0,.int .i64 0]) (T2:=.ty 85) (G:=G) (ev:=λu=>p (3*i+u)) rfl zS rfl underlying68 (aZ sizeOf85) ae ae zO et et zO zO ?_ zS oG hGe zO ?_
     ·first|(refine .inl ⟨JR,?_⟩;simp;done)|(refine .inr ⟨248,c2,p2,?_,?_,?_,hc2,hGp⟩<;>first|omega|simp)
     rintro k' c' g' abO vm yz OQ
     have agG:k'=608\/k'=248:=by
      exact CZ
     obtain ⟨κ,hκ⟩:∃ κ,k'=κ:=⟨_,rfl⟩
     rcases agG with rfl|rfl
     all_goals
      refine n7 trivial ?_;refine bH ?_;have BT:=IG ny ht;refine dy (k5 BT hA hS df fq) ?_;clear BT;refine ⟨λx=>if x=248 then κ else x,Nx L ka ks off n cap ao av g bx tp nr md st t c p (i+1) (.slice (some ⟨248,0,none⟩) (t2+1) c') [(248,⟨fa (3*c') .i64 g',.ty 85⟩)],t - (i+1),?_,⟨i+1,t2+1,g',_,_,zO,zO,⟨λe=>zO,λ_=>⟨i,zO,hd⟩⟩,.inr ⟨c',zO,yz,rfl,rfl⟩,rfl⟩,zO⟩;subst hκ;have K9:=λD=>Blk.fx_ids (dI (3*c') g' 85) D;have Xw:=λρ=>vi (show Blk.fx ⟨fa (3*c') .i64 g',.ty 85⟩ from dI _ _ _) ρ;have BT:=IG ny ht;refine LU (s:=GS.mk _ _ _ 0) _ _ 400 hC G0F hT.ok hT.fx bQ zO ?_ ?_ ?_ ?_ ji
      ·exact FA
      ·simp [cfB,bI,Blk.rn,aw,aA,aF,aL,aR,dom,agE,agD,K9,Xw,hA,hS,df,fq]
       try (refine ⟨?_,?_⟩<;>intro e<;>omega)
      ·simp
      ·intro x hx;exact ab zO
def NB (f:aS) (n:Nat) (nr:Int):Prop:=∃ i k,i<k/\k<n/\d2F f i k<nr*nr
def VJ (f:aS) (n:Nat) (nr:Int) (v:Value) (ns:bS):Prop:=∃ e:Int,v=.int .i64 e/\ns=[]/\((e=0/\¬NB f n nr)\/(e=130/\NB f n nr))
theorem BP {L:bS} {ka ks:Nat} {bm bs:Blk} (hT:L3 L ka ks bm bs) (off n cap ao av:Nat) (fm fs:aS) (hm:MB bm off n fm) (cf:SB bs ao n fs) (g bx tp nr md st:Int) (fJ:eQ n fm g bx tp nr md=true) (ez:aV st fs n=true) :
  FunS prog G0 16 #[cfV (.slice (some ⟨ka,off,none⟩) n cap) g bx tp nr md,.agg #[.int .i64 st,.slice (some ⟨ks,ao,none⟩) n av]] (hpL G0 L) (ak L) (VJ fs n nr):=by
 refine dJ (B:=200) G0F func16 rfl call16 hT.ok ?_ (λv ns ⟨e,h1,h2,_⟩=>by subst h1 h2;simp) (by simp [ntmps16]) zO ?_
 ·exact dE
 intro C hC bQ hY;have hA:=hT.a;have hS:=hT.s;have df:=hT.ne;have fq:=hT.na;have jW:=hT.low;have mY:=hT.k1;have nA:=hT.k2;have Vu:=hT.a1;have yB:=hT.a2;have hrm:=λρ=>Blk.fx_rn hm.fx ρ;have Gz:=λρ=>Blk.fx_rn cf.fx ρ;have mW:=x4 bm off n cap fm hm g bx tp nr md;have I0:=Bn bs ao n av fs cf st;rw [fJ] at mW;rw [ez] at I0;obtain ⟨_,_,⟨n0,n1⟩,_⟩:=iJ fJ
 have dN:FunS prog G0 33 #[cfV (.slice (some ⟨ka,off,none⟩) n cap) g bx tp nr md,.agg #[.int .i64 st,.slice (some ⟨ks,ao,none⟩) n av]] (hpL G0 L) (ak L) (adZ 304 fs n nr):=by
  refine (Qg hT off n cap ao av fm fs hm cf g bx tp nr md st fJ ez).shm hT.ok hT.fx 304 zO (λv ns ⟨t,p,_,hV⟩ k hk=>by rw [An hV k hk];omega) (by simp [cfV,ren,aT,aw,aA,Au (zO:ka<1000),Au (zO:ks<1000)]) ?_;funext v ns;apply propext;constructor
  ·rintro ⟨v0,uo,⟨t,p,h1,hV⟩,rfl,rfl⟩;exact ⟨t,p,h1,Sm zD hV⟩
  ·rintro ⟨t,p,h1,hV⟩;rcases hV with ⟨h0,rfl,rfl⟩|⟨c,h3,h4,rfl,rfl⟩
   ·exact ⟨_,_,⟨t,p,h1,.inl ⟨h0,rfl,rfl⟩⟩,by simp [ren,aT,aw,aA],by simp [rnL]⟩
   ·exact ⟨_,_,⟨t,p,h1,.inr ⟨c,h3,h4,rfl,rfl⟩⟩,by simp [ren,aT,aw,aA,shM],by simp [rnL,ic,shM]⟩
 unfold cfV at mW dN |-
 repeat' first|refine cM ?_|((first|refine gwR [32,27] ?_|refine gwD [32,27] ?_);intro Q hQ _;(repeat first|simp [hC,hY,hA,hS,df,fq]|refine az mW G0F (B:=200) (aH hm.fx) (λk=>if k=100 then ka else k) (λk hk=>ab zO) cY zS vF ah ax ?_|refine az I0 G0F (B:=200) (aH cf.fx) (λk=>if k=100 then ks else k) (λk hk=>ab zO) ay zS jw ah ax ?_);refine cQ hQ ?_)|fail
 refine gj ?_;refine zP (k4 hA hS df fq) ?_;refine bN (f:=.func 33) (cap:=#[]) hC dN rfl zS rfl rfl aJ aq zS aM aq lY cS ?_ ?_
 ·rintro v ns ⟨t,p,_,hV⟩ k hk;rw [An hV k hk];omega
 rintro v ns ⟨t,p,hp,hV⟩;rcases hV with ⟨h0,rfl,rfl⟩|⟨c,h0,hc,rfl,rfl⟩
 ·
  refine zP trivial ?_;refine bH ?_;refine fO ?_;refine ⟨.inr trivial,I1 G0F,_,_,λk=>k,⟨0,rfl,rfl,.inl ⟨rfl,λ⟨i,k,h1,h2,h3⟩=>hp.1 h0 i k h1 h2 h3⟩⟩,λ_ _=>rfl,zS,zS,by simp [results16,ren,aT,aw,aA],zS⟩
 ·have Z4:(0:Int)<t:=zO;refine zP (k2 Z4 h0) ?_;refine bH ?_;refine dy Z4 ?_;refine ⟨.inr trivial,I1 G0F,_,_,λk=>k,⟨130,rfl,rfl,.inr ⟨rfl,hp.2 h0⟩⟩,λ_ _=>rfl,zS,zS,by simp [results16,ren,aT,aw,aA],zS⟩
end Go.Gy
namespace Go.Gy
open Go Go.RowKit Go.Proofs
end Go.Gy
namespace Go.Gy
open Go Go.RowKit Go.Proofs Go.Proofs.Tryz
end Go.Gy
namespace Go.Gy
open Go Go.RowKit Go.Proofs Go.Proofs.Tryz
theorem G7 {st:Int} {n:Nat} {f g:aS} (h:∀ j,j<6*n->f j=g j):yL st st n n f g=true:=by
 exact UT.2 ⟨rfl,rfl,h⟩
end Go.Gy
