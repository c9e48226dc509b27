/-
  Lemmas of this claim, in their order (Gy1Q, Gy1R, GyH, GyHS, GyHP, GyHT, GyHC, GyHX, GyHL, GyHV).
  Conditions: those of each theorem.
-/
import Derived.Test.YtamodcpmplmaoaaGreatDoorGz10
import Derived.Stop.LaidErr
import Derived.Test.YtamodcpmplmaoaaGreatDoorCards
import Derived.Test.YtamodcpmplmaoaaGreatDoorTie
import Derived.WalkKit
import Derived.ProofKit
import Derived.OpenShut
import Derived.Below
import Derived.ChangeSame
import Derived.Deep.DeepHandedRow
import Derived.Lib.LaidTab
import Derived.Deep.Slices
import Derived.ReadAgain
import Derived.Carry
import Derived.Deep.Strs
import Derived.ChangeSlices
set_option linter.unusedSimpArgs false
set_option linter.unusedVariables false
set_option maxRecDepth 8000
set_option maxHeartbeats 16000000
namespace Go.Gy
open Go Go.RowKit Go.Proofs Go.Proofs.Tryz
theorem Dq {p:Prop} (h:p:=by simp [cfV,ren,aW,aw,aF,qp (zO:ka<1000),qp (zO:zF<1000)]):p:=h
theorem tn {p:Prop} (h:p:=by
 exact ⟨.inr rfl,by simp [results7],akE fS cF⟩):p:=h
theorem D3 {p:Prop} (h:p:=by
 intro p hp;simp only [hsT,aj,az,ay] at hp;rcases hp with rfl|rfl|rfl|rfl|rfl|rfl|rfl<;>simp [cJ]):p:=h
theorem Hr {p:Prop} (h:p:=by
 intro p hp;simp only [hsB,aj,az,ay] at hp;rcases hp with rfl|rfl|rfl|rfl<;>simp [cfB,cE,et,fV,bH]):p:=h
structure HsI (L0:cf) (n:Nat) (fm:aJ) (g:Int) (fs:aJ) (md st:Int) (kk i:Nat) (LL:cf) (zF oE c9:Nat) (b9:Blk) (ur N:Int) (v:aJ):Prop where
 ll:∀ x∈LL,x.1=148/\x.2.fx
 nd:(ak LL).Nodup
 sb:(zF,b9)∈LL++L0
 k9:0<i->zF=148
 hS:SB b9 oE n (trF md g fm n fs (ixK kk i))
 cp:n<=c9
 rt:aY ur (trF md g fm n fs (ixK kk i)) n=true
 se:ur=st+(ixK kk i:Nat)
 hk:HOk N v
 hr:mr ⟨N,v⟩=true
 hN:N=i
 he:0<i->JO fs n=0/\v 0<=eLo 0 g fm (trF md g fm n fs (ixK kk i)) n - eHi 0 g fm fs n/\eHi 0 g fm (trF md g fm n fs (ixK kk i)) n - eLo 0 g fm fs n<=v 1
theorem alM {L0 LL:cf} (h0:LAny L0) (h1:∀ x∈L0,x.1<148) (ll:∀ x∈LL,x.1=148/\x.2.fx) (nd:(ak LL).Nodup):LAny (LL++L0):=by
 have vq:∀ x∈LL++L0,x.2.fx:=λx hx=>(bh.1 hx).elim (λh=>(ll x h).2) (h0.fx x);exact GZ
theorem agj {L:cf} {b:Blk} (h:LAny L) (h1:∀ x∈L,x.1<149) (hb:b.fx):LAny ((149,b)::L):=by
 have vq:∀ x∈(149,b)::L,x.2.fx:=λx hx=>by
  rcases aj.1 hx with rfl|hx
  ·exact hb
  ·exact h.fx x hx
 refine ⟨⟨λx hx=>?_,?_,λx hx=>Blk.fx_ids (vq x hx) _⟩,vq⟩
 ·rcases aj.1 hx with rfl|hx
  ·simp
  ·exact h.ok.big x hx
 ·show (149::ak L).Nodup;refine fu.2 ⟨λhh=>?_,h.ok.one⟩;obtain ⟨x,hx,e⟩:=aC.1 hh;have:=h1 x hx;omega
theorem anc {L:cf} (hT:LAny L) {k1 k2:Nat} {b1 b2:Blk} (h1:(k1,b1)∈L) (h2:(k2,b2)∈L) (cW:k1≠k2) {ag7 au n c1 c2:Nat} {f:aJ} (xR:SB b1 ag7 n f) (ND:SB b2 au n f) (st:Int) :
  Fun prog G0 32 #[.agg #[.int .i64 st,.slice (some ⟨k1,ag7,none⟩) n c1],.agg #[.int .i64 st,.slice (some ⟨k2,au,none⟩) n c2]] (hpL G0 L) (ak L) (.ret (.bool true) []):=by
 have h:=(adA b1 b2 ag7 au n n c1 c2 f f xR ND st st).mvG (gz:=#[.agg #[.int .i64 st,.slice (some ⟨k1,ag7,none⟩) n c1],.agg #[.int .i64 st,.slice (some ⟨k2,au,none⟩) n c2]]) (hT.mv2 h1 h2 cW) (by simp [ak,smL]) (by simp [ren,aW,aw,aF,Gy.mv2]);rw [Yy.2 ⟨rfl,rfl,λ_ _=>rfl⟩] at h;exact h
theorem arp {kk:Nat} (h:kk<=4):Int.bmod (2*(kk:Int)) 18446744073709551616=2*(kk:Int):=bm zO zO
theorem agk {kk i:Nat} (h:kk<=4) (hi:i<2*kk):Int.bmod ((i:Int)+1) 18446744073709551616=((i+1:Nat):Int):=by
 rw [bm zO zO]
 rfl
theorem anb {st:Int} {f:aJ} {n:Nat} (h:aY st f n=true):i64 st:=by
 unfold aY stB at h;simp only [bn,db] at h;unfold i64;omega
section
variable {kk i n M':Nat} {st ur n9 g md:Int} {fm fs F' g':aJ}
theorem aiZ {F:aJ} (hn:n<=4) (x2:6*n<=M') (x3:∀ j,j<6*n->g' j=F' j) (h6:∀ j,j<6*n->i64 (F' j)) (e:Eq6 n F' F):SB ⟨fa M' .i64 g',.ty 72⟩ 0 n F :=
 A6 x2 (λj hj=>(x3 j hj).trans (e j hj)) (λj hj=>by rw [<-e j hj];exact h6 j hj) zO
theorem ars (hi:i<kk) (RH:ur=st+(ixK kk i:Nat)) (hn:n<=4) (x2:6*n<=M') (x3:∀ j,j<6*n->g' j=F' j) (h6:∀ j,j<6*n->i64 (F' j)) (h:Mh n (oN md) g fm (oK md) (oP md) (oD md) ur 1 (trF md g fm n fs (ixK kk i)) n9 F') :
  n9=st+(ixK kk (i+1):Nat)/\SB ⟨fa M' .i64 g',.ty 72⟩ 0 n (trF md g fm n fs (ixK kk (i+1)))/\aY n9 (trF md g fm n fs (ixK kk (i+1))) n=true:=by
 obtain ⟨a,b,c⟩:=atg h;rw [al4 hi];exact ⟨zO,aiZ hn x2 x3 h6 b,c⟩
theorem arq (hi:kk<=i) (Ze:i<2*kk) (RH:ur=st+(ixK kk i:Nat)) (hn:n<=4) (x2:6*n<=M') (x3:∀ j,j<6*n->g' j=F' j) (h6:∀ j,j<6*n->i64 (F' j)) (h:Mh n (oN md) g fm (λi=>oK md (oN md - 1 - i)) (λi=>-oP md (oN md - 1 - i)) (λi=>oD md (oN md - 1 - i)) ur (-1) (trF md g fm n fs (ixK kk i)) n9 F') :
  n9=st+(ixK kk (i+1):Nat)/\SB ⟨fa M' .i64 g',.ty 72⟩ 0 n (trF md g fm n fs (ixK kk (i+1)))/\aY n9 (trF md g fm n fs (ixK kk (i+1))) n=true:=by
 have e:=al3 hi Ze;rw [e] at h RH;obtain ⟨a,b,c⟩:=atf h;exact ⟨zO,aiZ hn x2 x3 h6 b,c⟩
end
def HsM (L:cf) (ka off n cap:Nat) (g bx tp nr md st:Int) (ks au av:Nat) (fm fs:aJ) (N:Int) (v:aJ) (ur:Int) (zF oE c9 kk i:Nat) (s:GS):Prop :=
 ∃ n9 c' M' g' E',i64 n9/\n<=c'/\(E'=0->n9=st+(ixK kk (i+1):Nat)/\SB ⟨fa M' .i64 g',.ty 72⟩ 0 n (trF md g fm n fs (ixK kk (i+1)))/\aY n9 (trF md g fm n fs (ixK kk (i+1))) n=true) /\
  s=aby ((149,⟨fa M' .i64 g',.ty 72⟩)::L) ka off n cap g bx tp nr md st ks au av N v ur zF oE c9 kk i n9 c' E'
section
variable {C:Ctx} {s:GS} {L L0 LX:cf} {own:Blk} {ka off n cap ks au av zF oE c9 i nm c':Nat} {g bx tp nr md st N ur k n9 E:Int} {v:aJ}
theorem OI (Y7:L=LX++L0) (jI:LAny L0) (qN:∀ x∈L0,x.1<148) (hC:C.G=G0) (h0:C.hp0=hpL G0 L0) (vq:own.fx) (hX:∀ x∈LX,x.1=148/\x.2.fx) (hnm:nm=648\/nm=744)
  (hka:ka∈ak L0) (pV:ks∈ak L0) (DP:zF∈ak L)
  (t:∀ p∈hsT k i,s.ts p.1=p.2) (t10:s.ts 10=.pointer (some ⟨680,0,none⟩)) (t11:s.ts 11=.int .i64 E)
  (b:∀ p∈hsB ka off n cap g bx tp nr md st ks au av N v ur zF oE c9,s.hp p.1=some p.2) (b6:s.hp 680=some (cE n9 nm 0 n c')) (ho:s.hp nm=some own) (hL:∀ x∈L,s.hp x.1=some x.2) (hy:s.yc=0) :
  WeakR C (own1 149 nm) s (aby ((149,own)::L) ka off n cap g bx tp nr md st ks au av N v ur zF oE c9 k i n9 c' E):=by
 subst Y7;exact aga jI qN hC h0 vq hX hnm hka pV DP t t10 t11 b b6 ho hL hy
theorem abK (jI:LAny L0) (qN:∀ x∈L0,x.1<148) (hC:C.G=G0) (h0:C.hp0=hpL G0 L0) (vq:own.fx)
  (hka:ka∈ak L0) (pV:ks∈ak L0)
  (agL:(149,own)∈L) (Q6:∀ x∈L0,x∈L) (t:∀ p∈hsT k i,s.ts p.1=p.2)
  (b:∀ p∈hsB ka off n cap g bx tp nr md st ks au av N v ur 149 0 c9,s.hp p.1=some p.2) (hL:∀ x∈L,s.hp x.1=some x.2) (hy:s.yc=0) :
  WeakR C (own1 148 149) s (OM ((148,own)::([]++L0)) ka off n cap g bx tp nr md st ks au av N v ur 148 0 c9 k i) :=
 agl jI qN hC h0 vq hka pV t b (hL _ agL) (λx hx=>hL x (Q6 x hx)) hy
end
theorem Mc {L0:cf} {ka ks:Nat} {bm bs:Blk} (jI:L3 L0 ka ks bm bs) (qN:∀ x∈L0,x.1<148) (off n cap au av:Nat) (fm fs:aJ) (hm:MB bm off n fm) (fO:SB bs au n fs) (eK:n<=cap) (fL:n<=av) (g bx tp nr md st:Int) (hs:i64 st) (eM:fk n fm g bx tp nr md=true) (jh:aY st fs n=true) (kk:Nat) (hk:kk<=4) :
  Fun prog G0 7 #[cfV (.slice (some ⟨ka,off,none⟩) n cap) g bx tp nr md,.agg #[.int .i64 st,.slice (some ⟨ks,au,none⟩) n av],.int .i64 kk] (hpL G0 L0) (ak L0) (.ret (.bool true) []):=by
 have Lj:=AB eM;have Rt:=AJ jI (n2:=n) (cap:=cap) (av:=av) hm fO g bx tp nr md st;have eI:oB n n (fk n fm g bx tp nr md) (aY st fs n)=true:=kC.2 ⟨rfl,eM,jh⟩;rw [eI] at Rt;have hG:=I5 (n:=n) (cap:=cap) (g:=g) (bx:=bx) (tp:=tp) (nr:=nr) (md:=md) (je:=st) (na:=n) (dj:=av) jI.any (SlI.at (off:=off) jI.am) (SlI.at (off:=au) jI.kb);have Ru:=ME (je:=st) (na:=n) (dj:=av) jI.any (SlI.at (off:=au) jI.kb);rw [show (decide (9<n)||decide (9<n))=false by rw [aR zO];rfl] at hG;refine cg (B:=200) G0F func7 rfl call7 jI.ok (ZO (SlI.at jI.am) (SlI.at jI.kb)) (bw zS) zS zS (by simp [ntmps7]) zO ?_;intro C hC bA hY;have hT:=jI;have jj:=jI.low;have wk:=LZ;have Vu:¬(kk:Int)<0:=zO;have hk4:¬(4:Int)<kk:=zO;unfold cfV at hG Rt |-
 repeat' first|refine cT ?_|((first|refine gwR [8,22] ?_|refine gwD [8,22] ?_);intro Q hQ _;(repeat first|simp [hC,hY,wk,Vu,hk4]|refine qP hG Ru (jI.any.gq jD fS) ?_|refine cV Rt jI.ok fS ?_);refine dq hQ ?_)|fail
 have af6:ka∈ak L0:=jI.ia;have abv:ks∈ak L0:=jI.ib;refine jL (λmm s=>∃ i LL zF oE c9 b9 ur N v,HsI L0 n fm g fs md st kk i LL zF oE c9 b9 ur N v/\i+mm=2*kk/\s=OM (LL++L0) ka off n cap g bx tp nr md st ks au av N v ur zF oE c9 kk i) (m0:=2*kk) (abJ (N:=0) (v:=λ_=>0) (ur:=st) (zF:=ks) (oE:=au) (c9:=av) (k:=kk) (i:=0) jI.any hC bA af6 abv abv ?_ ?_ ?_ rfl) ⟨0,[],ks,au,av,bs,st,0,λ_=>0,?_,zO,rfl⟩ ?_
 ·intro p hp;simp only [hsT,aj,az,ay] at hp;rcases hp with rfl|rfl|rfl|rfl|rfl|rfl|rfl<;>simp
 ·intro p hp;simp only [hsB,aj,az,ay] at hp;rcases hp with rfl|rfl|rfl|rfl<;>simp [cfB,cE,et,fV,ct]
 ·(intro p hp;have HR:=hT.ok.big p hp;(try dsimp only);simp (disch:=omega) only [gT,ao,bV,eH,ae,bH,bj,bq];first|exact hT.mem p hp|exact cL p hp)
 ·exact
  {ll:=zS
   nd:=ai
   sb:=jI.kb
   k9:=λh=>zO
   hS:=by rw [show ixK kk 0=0 by unfold ixK;simp];exact fO
   cp:=fL
   rt:=by rw [show ixK kk 0=0 by unfold ixK;simp];exact jh
   se:=by rw [show ixK kk 0=0 by unfold ixK;simp];simp
   hk:=⟨nI,λ_ _ _=>nI,jC,jC⟩
   hr:=(adr rfl).2 λ_ _=>rfl
   hN:=rfl
   he:=λh=>by omega }
 clear jj hT hG Ru Rt;rintro mm _ ⟨i,LL,zF,oE,c9,b9,ur,N,v,hJ,aqU,rfl⟩;have RW:LAny (LL++L0):=alM jI.any qN hJ.ll hJ.nd
 have vo:∀ x∈LL++L0,x.1<149:=λx hx=>by
  rcases bh.1 hx with h|h
  ·have:=hJ.ll x h;omega
  ·have:=qN x h;omega
 have Sn:L3 (LL++L0) ka zF bm b9:=⟨RW,fh _ jI.am,hJ.sb⟩
 have DP:zF∈ak (LL++L0):=Sn.ib;have alx:(ks,bs)∈LL++L0:=fh _ jI.kb;have aq5:(ka,bm)∈LL++L0:=fh _ jI.am;have Q6:∀ x∈L0,x∈LL++L0:=λx hx=>fh _ hx;obtain ⟨L,Y7⟩:∃ L,L=LL++L0:=⟨_,rfl⟩
 rw [<-Y7] at RW vo Sn DP alx aq5 Q6;rw [<-Y7];have hT:=Sn;have hA:=hT.a;have hS:=hT.s;have cW:=hT.ne;have gu:=hT.na;have jj:=hT.low;have h2k:Int.bmod (2*(kk:Int)) 18446744073709551616=2*(kk:Int):=arp hk;have akE:∀ {hp:Hp},(∀ x∈L,hp x.1=some x.2)->(∀ k,k<100->hp k=G0 k)->∀ k,dom (hpL G0 L0) k->hp k=hpL G0 L0 k:=λh h2=>fU G0F (λx hx=>(h x (Q6 x hx)).trans (jI.mem x hx).symm) (λk hk=>(h2 k hk).trans (jI.low k hk).symm);by_cases Ty:mm=0
 ·obtain rfl:i=2*kk:=zO;have R6:ixK kk (2*kk)=0:=agw kk;have hNe:=hJ.hN;unfold OM hsT hsB cfB cE et fV;by_cases R3:kk=0
  ·subst R3;simp only [bj,bq];refine cA (Gy.k3 wk h2k hNe) ?_;exact tn
  ·have fN:0<kk:=zO;have RH:=hJ.se;have Xq:=hJ.hS;obtain ⟨hz,l1,l2⟩:=hJ.he zO;rw [R6] at RH Xq l1 l2;have e9:=hJ.k9 zO;have agn:ur=st:=by rw [RH];simp
   have alw:=qN _ jI.kb;simp only at alw;have dSa:=anc (n:=n) (c1:=c9) (c2:=av) RW hT.kb alx zO Xq fO st;obtain ⟨x0,x1,x2,x3⟩:=aar eM jh hz;have l1':v 0<=eLo 0 g fm fs n - eHi 0 g fm fs n:=l1;have l2':eHi 0 g fm fs n - eLo 0 g fm fs n<=v 1:=l2;have r1:=λ(K:fQ)=>ar (K:=K) G0W ah (Ul (v 0) (v 1) 0);rw [alI hJ.hk.w0 hJ.hk.w1 zO zO] at r1;unfold spV wd at r1;simp only [ct] at r1;have aq6:¬(kk:Int)=0:=zO;have axD:((kk:Int)==0)=false:=by simpa using aq6
   rw [agn];simp only [bj,bq]
   repeat' first|refine cT ?_|((first|refine gwR [32] ?_|refine gwD [32] ?_);intro Q hQ _;(repeat first|simp [hC,hY,wk,h2k,hNe,R3,aq6,axD,r1]|refine cV dSa hT.ok fS ?_);refine dq hQ ?_)|fail
   exact tn
 have ew:i<2*kk:=zO;have RZ:(i:Int)<2*(kk:Int):=zO;have hsi:=agk hk ew;have agn:=anb hJ.rt;have Je:=hT.a2;have aDg:=hT.k2;have dF:=(Ol hT vo off n cap oE c9 fm _ hm hJ.hS eK hJ.cp g bx tp nr md ur agn eM hJ.rt).sh hT.any 648 zO (λv ns h k hk=>by rw [zl h k hk];omega) Dq (UC (show shK 648 1000=648 from rfl) n _);have dB:=(SM hT vo off n cap oE c9 fm _ hm hJ.hS eK hJ.cp g bx tp nr md ur agn eM hJ.rt).sh hT.any 744 zO (λv ns h k hk=>by rw [zl h k hk];omega) Dq (UC (show shK 744 1000=744 from rfl) n _);unfold cfV at dF dB;unfold OM hsT hsB cfB cE et fV;simp only [bj,bq];refine cA (Gy.k2 RZ h2k) ?_;refine gj ?_;refine By trivial ?_
 refine cv (f:=.func 29) (cap:=#[]) hC dF rfl zS rfl rfl aS aq zS aZ aq (λq hq=>by
  obtain ⟨p,hp,rfl⟩:=aC.1 hq;have HR:=hT.ok.big p hp;simp (disch:=omega) only [ao,bV,ae]) (λk hk=>xJ) ?_ ?_
 ·exact s8
 rintro v' ns ⟨R9,i1,F1,E1,⟨w,⟨c1,M1,g1,x1,x2,x3,rfl,rfl⟩,rfl⟩,Tl,hE⟩;refine Rl trivial ?_;refine cu ?_;refine gwS (aeN (HsM L ka off n cap g bx tp nr md st ks au av fm fs N v ur zF oE c9 kk i) ?_ ?_)
 ·by_cases hge:kk<=i
  ·have ald:(kk:Int)<=(i:Int):=zO;refine cA (Gy.k2 hge ald) ?_;refine gj ?_;refine By trivial ?_
   refine cv (f:=.func 30) (cap:=#[]) hC dB rfl zS rfl rfl aS aq zS aZ aq (λq hq=>by
    obtain ⟨p,hp,rfl⟩:=aC.1 hq;have HR:=hT.ok.big p hp;simp (disch:=omega) only [ao,bV,ae]) (λk hk=>xJ) ?_ ?_
   ·exact s8
   rintro v' ns ⟨st2,i2,F2,E2,⟨w,⟨c2,M2,g2,y1,y2,y3,rfl,rfl⟩,rfl⟩,awN,hE2⟩;refine Y6 trivial ?_;refine cu ?_;refine ⟨own1 149 744,_,OI Y7 jI.any qN hC bA (fy M2 g2 72) hJ.ll (.inr rfl) af6 abv DP ?_ ?_ ?_ ?_ ?_ ?_ ?_ rfl,st2,c2,M2,g2,E2,i2,y1,λe=>arq hge ew hJ.se Lj.2 y2 y3 awN (hE2 e),rfl⟩
   ·exact D3
   ·exact kr
   ·exact kr
   ·exact Hr
   ·simp [cE,bH]
   ·simp [bH]
   ·(intro p hp;have HR:=hT.ok.big p hp;(try dsimp only);simp (disch:=omega) only [gT,ao,bV,eH,ae,bH,bj,bq];first|exact hT.mem p hp|exact cL p hp)
  ·have ald:¬(kk:Int)<=(i:Int):=zO;refine cA (Gy.k2 hge ald) ?_;refine ⟨own1 149 648,_,OI Y7 jI.any qN hC bA (fy M1 g1 72) hJ.ll (.inl rfl) af6 abv DP ?_ ?_ ?_ ?_ ?_ ?_ ?_ rfl,R9,c1,M1,g1,E1,i1,x1,λe=>ars zO hJ.se Lj.2 x2 x3 Tl (hE e),rfl⟩
   ·exact D3
   ·exact kr
   ·exact kr
   ·exact Hr
   ·simp [cE,bH]
   ·simp [bH]
   ·(intro p hp;have HR:=hT.ok.big p hp;(try dsimp only);simp (disch:=omega) only [gT,ao,bV,eH,ae,bH,bj,bq];first|exact hT.mem p hp|exact cL p hp)
 clear dF dB hE Tl x1 x2 x3;rintro _ ⟨n9,c',M',g',E',Tl,qX,hE,rfl⟩;have Dz:Blk.fx ⟨fa M' .i64 g',.ty 72⟩:=fy _ _ _;have akX:LAny ((149,⟨fa M' .i64 g',.ty 72⟩)::L):=agj RW vo Dz;obtain ⟨own,c8⟩:∃ own:Blk,own=⟨fa M' .i64 g',.ty 72⟩:=⟨_,rfl⟩
 rw [<-c8] at akX Dz;rw [<-c8] at hE;rw [<-c8];obtain ⟨L2,hL2⟩:∃ L2,L2=(149,own)::L:=⟨_,rfl⟩
 have agL:(149,own)∈L2:=by rw [hL2];exact jW ..
 have agq:∀ x∈L,x∈L2:=λx hx=>by rw [hL2];exact aD _ hx
 rw [<-hL2] at akX;rw [<-hL2];clear hL2 c8 hT hA hS cW gu jj Sn;have hT:=akX;have jj:=hT.low;have mka:=agq _ aq5;have mks:=agq _ alx;have akE:∀ {hp:Hp},(∀ x∈L2,hp x.1=some x.2)->(∀ k,k<100->hp k=G0 k)->∀ k,dom (hpL G0 L0) k->hp k=hpL G0 L0 k:=λh h2=>akE (λx hx=>h x (agq x hx)) h2;unfold aby hsT hsB cfB cE et fV;simp only [bj,bq];by_cases e0:E'=0;rotate_left
 ·have pO:(E' != 0)=true:=by simpa using e0
  refine cA (Gy.k3 wk e0 pO) ?_;exact tn
 subst e0;obtain ⟨RH,Xq,Q2⟩:=hE rfl;have Xx:=Vw hT mka mks agL hm fO Xq eK fL qX (g:=g) (bx:=bx) (tp:=tp) (nr:=nr) (md:=md) hs Tl;unfold lsW lsE at Xx;have aqL:oB n n (fk n fm g bx tp nr md) (aY n9 (trF md g fm n fs (ixK kk (i+1))) n)=true:=kC.2 ⟨rfl,eM,Q2⟩;by_cases hef:enE n n fm fs g bx tp nr md st=0/\enE n n fm (trF md g fm n fs (ixK kk (i+1))) g bx tp nr md n9=0;rotate_left
 ·have k30:(if enE n n fm fs g bx tp nr md st=0 then enE n n fm (trF md g fm n fs (ixK kk (i+1))) g bx tp nr md n9 else enE n n fm fs g bx tp nr md st)=30:=by
   by_cases he:enE n n fm fs g bx tp nr md st=0
   ·rw [ag he];exact aaq aqL λh=>hef ⟨he,h⟩
   ·rw [ae he];exact aaq eI he
  rw [ae hef,k30] at Xx;unfold gA cfV at Xx
  repeat' first|refine cT ?_|((first|refine gwR [10] ?_|refine gwD [10] ?_);intro Q hQ _;(repeat first|simp [hC,hY,wk]|refine cV Xx hT.ok fS ?_);refine dq hQ ?_)|fail
  exact tn
 obtain ⟨hea,RD⟩:=hef;rw [ag ⟨hea,RD⟩,hea,RD,ag rfl] at Xx;obtain ⟨_,_,_,hza⟩:=Vh hea;obtain ⟨_,_,_,hzb⟩:=Vh RD;obtain ⟨x0,x1,x2,x3⟩:=aar eM jh hza;obtain ⟨y0,y1,y2,y3⟩:=aar eM Q2 hzb;obtain ⟨p0,p1,p2,p3⟩:=amT Lj;have mo:=amz hT mka (cap:=cap) (g:=g) (bx:=bx) (tp:=tp) (nr:=nr) (md:=md) hm;rw [eM] at mo;have al:=ae1 hT mka (cap:=cap) hm eM;have qa:=λu=>CU eM (z:=zP fs) (λu i hi=>by have:=Sl jh u i hi;omega) u;have qb:=λu=>CU eM (z:=zP (trF md g fm n fs (ixK kk (i+1)))) (λu i hi=>by have:=Sl Q2 u i hi;omega) u;have ra:=λu=>CU eM (z:=zL fs) (λu i hi=>Sk jh u i hi) u;have rb:=λu=>CU eM (z:=zL (trF md g fm n fs (ixK kk (i+1)))) (λu i hi=>Sk Q2 u i hi) u;have dP:∀ u,i64 (sP fm (trF md g fm n fs (ixK kk (i+1))) n u - sP fm fs n u):=λu=>Du;have dL:∀ u,i64 (sL fm (trF md g fm n fs (ixK kk (i+1))) n u - sL fm fs n u):=λu=>DL;clear qa qb ra rb;have hw:eHi 0 g fm (trF md g fm n fs (ixK kk (i+1))) n - eLo 0 g fm fs n - (eLo 0 g fm (trF md g fm n fs (ixK kk (i+1))) n - eHi 0 g fm fs n)<=2*prC true n:=zO;have hle:eLo 0 g fm (trF md g fm n fs (ixK kk (i+1))) n - eHi 0 g fm fs n<=eHi 0 g fm (trF md g fm n fs (ixK kk (i+1))) n - eLo 0 g fm fs n:=zO;have wlo:wr (eLo 0 g fm (trF md g fm n fs (ixK kk (i+1))) n - eHi 0 g fm fs n):=jC;have whi:wr (eHi 0 g fm (trF md g fm n fs (ixK kk (i+1))) n - eLo 0 g fm fs n):=jC
 have hP:alB fm n=true->¬md=4->∀ u,u<3->sP fm (trF md g fm n fs (ixK kk (i+1))) n u - sP fm fs n u=0:=λha h4 u hu=>by
  rw [ath hu Lj.2 (gF ha) h4,Int.sub_self]
 clear x0 x1 x2 x3 y0 y1 y2 y3 p0 p1 p2;have d0:=dP 0;have d1:=dP 1;have d2:=dP 2;have d3:=dL 0;have d4:=dL 1;have d5:=dL 2;have P0:=λa b=>hP a b 0 zO;have P1:=λa b=>hP a b 1 zO;have P2:=λa b=>hP a b 2 zO;clear dP dL hP;generalize sP fm (trF md g fm n fs (ixK kk (i+1))) n 0 - sP fm fs n 0=q0 at *
 generalize sP fm (trF md g fm n fs (ixK kk (i+1))) n 1 - sP fm fs n 1=q1 at *
 generalize sP fm (trF md g fm n fs (ixK kk (i+1))) n 2 - sP fm fs n 2=q2 at *
 generalize sL fm (trF md g fm n fs (ixK kk (i+1))) n 0 - sL fm fs n 0=q3 at *
 generalize sL fm (trF md g fm n fs (ixK kk (i+1))) n 1 - sL fm fs n 1=q4 at *
 generalize sL fm (trF md g fm n fs (ixK kk (i+1))) n 2 - sL fm fs n 2=q5 at *
 generalize DV:eLo 0 g fm (trF md g fm n fs (ixK kk (i+1))) n - eHi 0 g fm fs n=lo at *
 generalize QU:eHi 0 g fm (trF md g fm n fs (ixK kk (i+1))) n - eLo 0 g fm fs n=hi at *
 have hN:=hJ.hN;have hwO:=amq wlo whi d0 d1 d2 d3 d4 d5;obtain ⟨k0,k1,k2,k3,k4,k5,k6⟩:=agp (h:=⟨N,v⟩) hJ.hk hJ.hr ki hwO hle;have OE:=af9 hwO;have dT:=Ld _ 0 1 1 _ OE N v hJ.hk;rw [k0] at dT;generalize HS.tk ⟨N,v⟩ (λ_=>lsN lo hi q0 q1 q2 q3 q4 q5) 1=H at *
 have hH:=λ(K:fQ)=>ar (K:=K) G0W ah (Aa H.N H.v _ k1 hwO);rw [show tT ⟨H.N,H.v⟩ (lsN lo hi q0 q1 q2 q3 q4 q5)=true from k4] at hH;have hwd:=λ(K:fQ)=>ar (K:=K) G0W ah (Np lo hi wlo whi hle ⟨zO,zO⟩);have gk:¬2*prC true n<hi - lo:=zO;have hBr:=λρ=>Blk.fx_rn OE.fx ρ;have axZ:∀ x∈L0,x∈L2:=λx hx=>agq x (Q6 x hx)
 have hI1:HsI L0 n fm g fs md st kk (i+1) [(148,own)] 148 0 c' own n9 H.N H.v :=
  {ll:=λx hx=>by
    rw [br.1 hx];exact ⟨rfl,Dz⟩
   nd:=ai
   sb:=zS
   k9:=λ_=>rfl
   hS:=Xq
   cp:=qX
   rt:=Q2
   se:=RH
   hk:=k1
   hr:=k2
   hN:=by
    rw [k3];show N+1=_;rw [hN]
    rfl
   he:=λ_=>⟨hza,by rw [DV];exact k5,by rw [QU];exact k6⟩ }
 have key:(alB fm n=false/\True)\/(alB fm n=true/\md=4/\True)\/(alB fm n=true/\(md != 4)=true/\q0=0/\q1=0/\q2=0):=by
  cases ha:alB fm n with
  | false=>exact .inl ⟨rfl,eX⟩
  | true =>
   by_cases h4:md=4
   ·exact .inr (.inl ⟨rfl,h4,eX⟩)
   ·exact .inr (.inr ⟨rfl,by simpa using h4,P0 ha h4,P1 ha h4,P2 ha h4⟩)
 clear P0 P1 P2;generalize alB fm n=ab at *
 generalize prC true n=pc at *
 unfold hlB at dT OE hBr;unfold CR at dT;unfold gA cfV at Xx;unfold gA at hH;unfold oA fV at dT hH;unfold spV at hwd;unfold cfV at mo al;simp only [lsN] at Xx dT hH hBr OE;rcases key with ⟨rfl,hm4⟩|⟨rfl,rfl,hm4⟩|⟨rfl,hm4,rfl,rfl,rfl⟩
 all_goals
  repeat' first|refine cT ?_|((first|refine gwR [10,20,31,16] ?_|refine gwD [10,20,31,16] ?_);intro Q hQ _;(repeat first|simp [hC,hY,wk,hwd,gk,hH,hsi,hm4]|refine cV Xx hT.ok fS ?_|refine cV mo hT.ok fS ?_|refine cV al hT.ok fS ?_|refine aE dT G0F (B:=200) (aT OE.fx) (λk=>if k=100 then 1192 else k) (λk hk=>ae zO) aN zS (by simp [hBr];kernel_rfl) ai ax ?_);refine dq hQ ?_)|fail
  refine ⟨own1 148 149,_,mm - 1,abK jI.any qN hC bA Dz af6 abv agL axZ ?_ ?_ ?_ rfl,⟨i+1,[(148,own)],148,0,c',own,n9,H.N,H.v,hI1,zO,rfl⟩,zO⟩
  ·intro p hp;simp only [hsT,aj,az,ay] at hp;rcases hp with rfl|rfl|rfl|rfl|rfl|rfl|rfl<;>simp [hsi]
  ·intro p hp;simp only [hsB,aj,az,ay] at hp;rcases hp with rfl|rfl|rfl|rfl<;>simp [cfB,cE,et,fV]
  ·(intro p hp;have HR:=hT.ok.big p hp;(try dsimp only);simp (disch:=omega) only [gT,ao,bV,eH,ae,bH,bj,bq];first|exact hT.mem p hp|exact cL p hp)
theorem ahw {ρ:dR} {z:Int}:ren ρ (.int .i64 z)=.int .i64 z:=aN
theorem Mb {L:cf} (hT:LAny L) (qN:∀ x∈L,x.1<148) {p pa:qE} {n cap na dj:Nat} {g bx tp nr md je k:Int} (_:i64 g) (_:i64 bx) (_:i64 tp) (_:i64 nr) (_:i64 md) (hsa:i64 je) (hp:NS p n cap\/MS L p n cap) (ha:NS pa na dj\/SS L pa na dj) :
  Fun prog G0 7 #[cfV (.slice p n cap) g bx tp nr md,.agg #[.int .i64 je,.slice pa na dj],.int .i64 k] (hpL G0 L) (ak L) (.ret (.bool true) []):=by
 have s1:SlI L p:=hp.elim NS.sl MS.sl;have s2:SlI L pa:=ha.elim NS.sl SS.sl;by_cases hn:NS p n cap\/NS pa na dj
 ·exact tv hT s1 s2 (Xk hT hp ha hn) (.inr (.inl rfl))
 rcases hp with h|⟨ka,off,b,fm,rfl,hk,hm,hc⟩
 ·exact absurd (.inl h) hn
 rcases ha with h|⟨ks,au,b2,fs,rfl,qx,NG,RB⟩
 ·exact absurd (.inr h) hn
 have hT3:L3 L ka ks b b2:=⟨hT,hk,qx⟩
 have hF:=AJ hT3 (cap:=cap) (av:=dj) hm NG g bx tp nr md je
 cases hf:oB n na (fk n fm g bx tp nr md) (aY je fs na) with
 | false =>
  rw [hf] at hF;exact tv hT s1 s2 hF (.inr (.inl rfl))
 | true =>
  by_cases Vu:k<0\/4<k
  ·exact tv hT s1 s2 hF (.inr (.inr Vu))
  obtain ⟨kk,rfl⟩:∃ kk:Nat,k=kk:=⟨k.toNat,zO⟩
  obtain ⟨rfl,eM,jh⟩:=kC.1 hf;exact Mc hT3 qN off n cap au dj fm fs hm NG hc RB g bx tp nr md je hsa eM jh kk zO
end Go.Gy
namespace Go.Gy
set_option maxRecDepth 100000
open Go Go.RowKit Go.Proofs Go.ChangeShapes Go.WideShapes Go.ChangeAt

section
variable {H:Type} {enc:TypeId×Value->H} {P:Program}
theorem KN {f:Func} {s:ChangeSpec} {apart fresh handsOn again:Bool} {W W':World} {args:ca} {v:Value} {ds gs:List (DataW H)} {before pa pv:List MemPlace}
  (hW:DataW.Whole enc P f.params.toList s.vars apart W args.toList ds gs before)
  (Ae:∀ (b:Nat) (sp:Nat->Bool) (hd:Bool),DataW.TrodAll enc P W' b sp hd f.resultTypes.toList (v.resultList f.resultTypes.size) (s.fn H (ds++gs)).results [])
  (n5:∀ sp:Nat->Bool,(∀ p∈before,sp p.block=true)->DataW.TrodAll enc P W' 0 sp true f.params.toList args.toList (s.fn H (ds++gs)).args pa)
  (ai4:∀ sp:Nat->Bool,(∀ p∈before,sp p.block=true)->DataW.TrodVars enc P W' sp s.vars (s.fn H (ds++gs)).vars pv)
  (H7:before=pa++pv) (hb:Below W.heap.size W W')
  (eM:∀ (j:Nat) (t:TypeId) (r:Value),f.resultTypes[j]? = some t->(v.resultList f.resultTypes.size)[j]? = some r->Value.okWide P W' .any 0 t r) :
  s.post enc P f apart fresh handsOn again W args v W':=by
 have dp:∀ p∈before,p.block<W.heap.size:=λp hp=>hW.lt p hp;have hold:∀ p∈before,(λb=>decide (b<W.heap.size)) p.block=true:=λp hp=>by simpa using dp p hp
 refine ⟨ds,gs,before,[],pa,pv,hW,Ae _ _ _,n5 _ hold,ai4 _ hold,World.keptBut_mono (λp hp=>⟨hp,?_⟩) (hb.frame (·∈before)),λ_=>?_⟩
 ·rw [H7,bh] at hp;exact Or.inr hp
 ·obtain ⟨_,_,_,_,_,hz,hn⟩:=hW;refine ⟨eM,_,_,([]++pa)++pv,⟨[]++pa,pv,trodAll_append (n5 _ (λ_ _=>rfl)) (Ae _ _ _),ai4 _ (λ_ _=>rfl),rfl,?_,?_⟩,?_⟩
  ·intro b off hp;have ew:MemPlace.cell b off∈before:=by rw [H7];simpa using hp
   rw [hb.frozen (dp _ ew)];exact hz b off ew
  ·intro ha;have:=hn ha;rw [H7] at this;exact Rh
  ·intro p hp _;rw [H7];simpa using hp
end

theorem W7:Tryz.prog.cellsOf 28=1:=ah
theorem SY:Tryz.prog.cellsOf 30=4:=ah
theorem acm:IntKind.i64.min=-9223372036854775808/\IntKind.i64.max=9223372036854775807:=zD
theorem wV {z:Int} (h:(Lit.int .i64 z).wf=true):i64 z:=by
 simp only [Lit.wf,bn,db,acm.1,acm.2] at h;unfold i64;omega
section
variable {H:Type} {enc:TypeId×Value->H} {w:World}
end

theorem own:ownKnob Tryz.prog.godebug=none:=ah
theorem CO {P:Program} {W:World} {name:String} {g:Nat} {cs:ca} {z:ca} {T:TypeId} (hg:P.globalNamed name=some g) (dp:g<P.globals.size) (axU:((begin P (λ_ _=>0) default).world.heap[g]?).bind Obj.row? = some (z,T))
  (hS:W.ShapedOpen P) (hv:W.var? P name=some cs):W.heap[g]? = some (.cells cs T (0,0)):=by
 obtain ⟨c,h1,_⟩:=hS.1 g z T dp axU;unfold World.var? at hv;rw [hg] at hv;simp only [o4,h1,bf] at hv;rw [h1,hv]
theorem aaX : Tryz.prog.globalNamed "gyre/quot.least" = some 1 := ah
theorem Ti:(Tryz.prog.globals[1]?).map (·.type)=some 30:=ah
theorem Xm:((begin Tryz.prog (λ_ _=>0) default).world.heap[1]?).bind Obj.row? = some (#[.int .u64 0,.int .u64 0,.int .u64 0,.int .u64 0],30):=ah
theorem ab8 {W : World} {rest : List (String × DataW Unit)} (h : laidMet Tryz.prog (("gyre/quot.least", Proofs.YtamodcpmplmaoaaGreatDoor.Rows.laid_gyre_quot_least) :: rest) W) : W.var? Tryz.prog "gyre/quot.least" = some lsB.c :=
 Lib.tabIs_of_head (zs:=[0,0,0,9223372036854775808]) aaX Ti Tryz.underlying30 Tryz.underlying28 W7 SY h
theorem KC {H:Type} {enc:TypeId×Value->H} {P:Program} {w:World} {base:Nat} {sp:Nat->Bool} {held:Bool} {fuel:Nat} {t e:TypeId} {n:Nat} {cs:List Value} {ss:List (List UInt8)} {p:List MemPlace}
  (ht:P.underlying t=some (.array n e)) (he:P.underlying e=some .string) (hce:P.cellsOf e=1) (hct:P.cellsOf t=n)
  (h:DataW.trod enc P w base sp held fuel t cs=some (.agg (ss.map λs=>.lit (.string s)),p)):cs=ss.map λs=>Value.string ⟨s.toArray⟩:=by
 cases fuel with
 | zero=>simp [DataW.trod] at h
 | succ fuel =>
  simp only [DataW.trod,ht,hce,hct,ry] at h;split at h
  ·rename_i hl;obtain ⟨xs,hm,hx⟩:=o7.1 h
   have zE:xs.map (·.1)=ss.map λs=>(DataW.lit (.string s):DataW H):=by
    have:=congrArg Prod.fst hx;exact Rh
   have hxl:xs.length=n:=by simpa using Lib.mapM_length hm
   have hzl:ss.length=n:=by
    have:=congrArg List.length zE;simp at this;omega
   apply List.ext_getElem?
   intro i;by_cases hi:i<n
   ·obtain ⟨b,hb,hf⟩:=Lib.mapM_at hm i i (by simp [hi]);obtain ⟨s,hc,rfl,_⟩:=DataW.trod_string he hf
    have h1:cs[i]? = some (.string s):=by
     have:=congrArg (·[0]?) hc;simpa [fI,j5] using this
    have h2:(xs.map (·.1))[i]? = some (DataW.lit (.string s.data.toList):DataW H):=by simp [hb]
    rw [zE] at h2;simp only [gG,o7,DataW.lit.injEq,Lit.string.injEq] at h2;obtain ⟨z',hz',rfl⟩:=h2;simp [h1,hz']
   ·rw [rC zO,rC (by simp;omega)]
  ·cases h
theorem aaY : Tryz.prog.globalNamed "gyre/conf.names" = some 0 := ah
theorem Tj:(Tryz.prog.globals[0]?).map (·.type)=some 171:=ah
theorem W6:Tryz.prog.cellsOf 9=1:=ah
theorem N1:Tryz.prog.cellsOf 171=7:=ah
theorem Xn:((begin Tryz.prog (λ_ _=>0) default).world.heap[0]?).bind Obj.row? = some (#[.string ⟨#[]⟩,.string ⟨#[]⟩,.string ⟨#[]⟩,.string ⟨#[]⟩,.string ⟨#[]⟩,.string ⟨#[]⟩,.string ⟨#[]⟩],171):=ah
theorem acw {W : World} {rest : List (String × DataW Unit)} (h : laidMet Tryz.prog (("gyre/conf.names", Proofs.YtamodcpmplmaoaaGreatDoor.Rows.laid_gyre_conf_names) :: rest) W) : W.var? Tryz.prog "gyre/conf.names" = some cnB.c := by
 obtain ⟨ps,⟨g',t',cs,fuel,p,q,Oy,ht',ax0,hd,_,_⟩,_⟩:=h;obtain rfl:=lj (aaY.symm.trans Oy);obtain rfl:=lj (Tj.symm.trans ht');have h9:=KC (ss:=[[98,111,100,105,101,115],[109,97,115,115],[99,111,110,115,116,97,110,116],[98,111,120],[116,111,112],[110,101,97,114],[109,101,116,104,111,100]]) Tryz.underlying171 Tryz.underlying9 W6 N1 hd;rw [ax0];congr 1;exact rh h9
theorem aa0 {W : World} (hS : W.ShapedOpen Tryz.prog) (h : laidMet Tryz.prog [("gyre/conf.names", Proofs.YtamodcpmplmaoaaGreatDoor.Rows.laid_gyre_conf_names), ("gyre/quot.least", Proofs.YtamodcpmplmaoaaGreatDoor.Rows.laid_gyre_quot_least)] W) : GOK G0 W := λk b hk => by
 have h9:=Ip hk;simp [G0L] at h9;rcases h9 with ⟨rfl,rfl⟩|⟨rfl,rfl⟩
 ·exact CO aaX (gF (by kernel_rfl)) Xm hS (ab8 (laidMet.tail h))
 ·exact CO aaY (gF (by kernel_rfl)) Xn hS (acw h)
theorem xO {p:Prop} (h:p:=by
 obtain ⟨row,q,XB,hl⟩:=h.lies;rw [e] at XB;unfold World.shape? at XB;rw [h1] at XB;obtain ⟨cc,T⟩:=c;simp only at ht;subst ht;simp only [Blk.obj0,bf,ij] at XB;obtain ⟨rfl,rfl⟩:=XB;rw [KI] at hl;cases hl):p:=h
abbrev ld := @Go.DataW.trod_int
abbrev hU := @Go.Proofs.Tryz.underlying3
abbrev vT := @Go.Proofs.Tryz.underlying72
abbrev vK := @Go.Deep.open_slice
abbrev rJ := @Go.Proofs.Tryz.underlying25
abbrev rW := @Go.Proofs.Tryz.underlying27
theorem yZ:Tryz.prog.cellsOf 3=1:=ah
theorem K1:Tryz.prog.cellsOf 70=3:=ah
theorem IQ:Tryz.prog.cellsOf 72=6:=ah
theorem AA:Tryz.prog.cellsOf 25=1:=ah
theorem N2:Tryz.prog.cellsOf 27=2:=ah
theorem Mu:Tryz.prog.cellTypes Tryz.prog.depth 27=some [3,25]:=ah
section
variable {H:Type} {enc:TypeId×Value->H} {w:World} {base:Nat} {spare:Nat->Bool} {held:Bool}
theorem LY {fuel:Nat} {cs:List Value} {x:DataW H×List MemPlace} (h:DataW.trod enc Tryz.prog w base spare held fuel 70 cs=some x):cs.length=3/\∀ j,j<3->∃ z,cs[j]? = some (.int .i64 z)/\i64 z:=by
 obtain ⟨xs,m,_,rfl,hl,zE,hi⟩:=DataW.trod_array Tryz.underlying70 h;rw [K1] at hl;refine ⟨hl,λj hj=>?_⟩;have h1:=hi j hj;rw [yZ,ry,gZ zO] at h1;obtain ⟨z,e,_,hw⟩:=ld hU h1;refine ⟨z,?_,wV hw⟩;have:=congrArg (·[0]?) e;simpa [fI,j5] using this
theorem SQ {fuel:Nat} {cs:List Value} {x:DataW H×List MemPlace} (h:DataW.trod enc Tryz.prog w base spare held fuel 72 cs=some x):cs.length=6/\∀ j,j<6->∃ z,cs[j]? = some (.int .i64 z)/\i64 z:=by
 obtain ⟨y0,y1,n,rfl,hl,h0,h1⟩:=trod_struct2 vT h;rw [IQ] at hl;simp only [K1] at h0 h1;refine ⟨hl,λj hj=>?_⟩;by_cases c:j<3
 ·obtain ⟨z,e,hz⟩:=(LY h0).2 j c;refine ⟨z,?_,hz⟩;simpa [fI,j5,c] using e
 ·obtain ⟨z,e,hz⟩:=(LY h1).2 (j - 3) zO;refine ⟨z,?_,hz⟩;rw [fI,ag zO,j5,(zO:3+(j - 3)=j)] at e;exact e
theorem Ps {fuel:Nat} {cs:List Value} {x:DataW H×List MemPlace} (h:DataW.trod enc Tryz.prog w 0 (λ_=>true) held fuel 25 cs=some x) :
  cs=[.slice none 0 0]\/∃ (a:Addr) (len cap:Nat) (f:aJ),cs=[.slice (some a) len cap]/\len<=cap/\∀ j,j<6*cap->w.cell? (a.add j)=some (.int .i64 (f j))/\i64 (f j):=by
 rcases vK rJ h with ⟨h0,_⟩|⟨a,len,cap,m,n,D,Pl,rfl,_,hlc,RC,hm,_,hel⟩
 ·exact .inl h0
 right
 rw [ag rfl] at hm;subst hm;refine ⟨a,len,m,λj=>match w.cell? (a.add j) with|some (.int _ z)=>z|_=>0,rfl,hlc,λj hj=>?_⟩;obtain ⟨Z7,h1,h2⟩:=hel (j / 6) zO;rw [IQ] at h1;obtain ⟨z,e,hz⟩:=(SQ h2).2 (j%6) zO;unfold World.cells? at h1;rw [ag (fX _)] at h1;have h3:=mapM_some_get h1 (j%6) (j%6) (List.getElem?_range zO);rw [e,Deep.add_add,(zO:j / 6*6+j%6=j)] at h3;dsimp only;rw [h3];exact ⟨rfl,hz⟩
theorem Un {fits:TypeId->Bool} (h:fits 28=false) (d c o n:Nat):rowAt Tryz.prog fits d 28 c o n=false:=by
 cases d with
 | zero=>rfl
 | succ d=>simp [rowAt,h,Tryz.underlying28]
theorem Aq {fits:TypeId->Bool} (h:fits 28=false) (h2:fits 30=false) (d c o n:Nat):rowAt Tryz.prog fits d 30 c o n=false:=by
 cases d with
 | zero=>rfl
 | succ d=>simp [rowAt,h2,Tryz.underlying30,Un h]
theorem XJ (d c o n:Nat):liesAt Tryz.prog d 30 c o 72 n=false:=by
 cases d with
 | zero=>rfl
 | succ d =>
  unfold liesAt;rw [Aq ah ah,vT]
  rfl
theorem Yt {fits:TypeId->Bool} (h:fits 9=false) (d c o n:Nat):rowAt Tryz.prog fits d 9 c o n=false:=by
 cases d with
 | zero=>rfl
 | succ d=>simp [rowAt,h,Tryz.underlying9]
theorem wS {fits:TypeId->Bool} (h:fits 9=false) (h2:fits 171=false) (d c o n:Nat):rowAt Tryz.prog fits d 171 c o n=false:=by
 cases d with
 | zero=>rfl
 | succ d=>simp [rowAt,h2,Tryz.underlying171,Yt h]
theorem TM (d c o n:Nat):liesAt Tryz.prog d 171 c o 72 n=false:=by
 cases d with
 | zero=>rfl
 | succ d =>
  unfold liesAt;rw [wS ah ah,vT]
  rfl
theorem aeI:∀ p∈G0L,∃ t,p.2.T=.ty t/\∀ d c o n,liesAt Tryz.prog d t c o 72 n=false:=by
 intro p hp;unfold G0L at hp;rcases aj.1 hp with rfl|hp
 ·exact ⟨_,rfl,XJ⟩
 rcases aj.1 hp with rfl|hp
 ·exact ⟨_,rfl,TM⟩
 cases hp
structure StAt (W:World) (k off n cap:Nat) (b:Blk) (f:aJ):Prop where
 le:n<=cap
 heap:W.heap[k]? = some b.obj0
 fx:b.fx
 raw:∃ c T fr,b=⟨c,.raw T fr⟩
 rd:rdI b off (6*cap) f
 i6:∀ j,j<6*cap->i64 (f j)
 lies:∃ row c,W.shape? k=some (row,c)/\liesAt Tryz.prog Tryz.prog.depth row (c / Tryz.prog.cellsOf row) off 72 cap=true
theorem StAt.sb {W:World} {k off n cap:Nat} {b:Blk} {f:aJ} (h:StAt W k off n cap b f) (hn:n<=2932031007402):SB b off n f:=⟨h.rd.le (by have:=h.le;omega),h.fx,λj hj=>h.i6 j (by have:=h.le;omega),hn⟩
theorem T3 {r:Reach} {b0:Nat} {v:Value} {d:DataW H} {p:List MemPlace} (hv:Value.okWide Tryz.prog w r b0 27 v) (h:DataW.Trod enc Tryz.prog w 0 (λ_=>true) held 27 v d p) :
  ∃ st,i64 st/\(v=.agg #[.int .i64 st,.slice none 0 0]\/∃ (k off n cap:Nat) (b:Blk) (f:aJ),v=.agg #[.int .i64 st,.slice (some ⟨k,off,none⟩) n cap]/\StAt w k off n cap b f):=by
 simp only [Value.okWide,rW] at hv;obtain ⟨cs,rfl,Ag,ts,Ah,_,iJ⟩:=hv;rw [Mu] at Ah;simp only [bf] at Ah;subst Ah;obtain ⟨fuel,hf⟩:=h;obtain ⟨y0,y1,n,_,hl,h0,h1⟩:=trod_struct2 rW hf;rw [yZ] at h0;rw [AA] at h1;simp only [Value.cells] at h0 h1;obtain ⟨st,e0,_,hw⟩:=ld hU h0;rw [N2] at Ag
 obtain ⟨c0,c1,rfl⟩:∃ c0 c1,cs=#[c0,c1]:=by
  obtain ⟨l⟩:=cs
  match l,Ag with
  | [c0,c1],_=>exact ⟨c0,c1,rfl⟩
 simp at e0;subst e0;refine ⟨st,wV hw,?_⟩;rcases Ps h1 with e1|⟨a,len,cap,f,e1,hle,hc⟩
 ·simp at e1;subst e1;exact .inl rfl
 ·simp at e1;subst e1
  right
  obtain ⟨u,hu,eM⟩:=iJ 1 _ rfl;simp at hu;subst hu;simp only [Cell.okWide,Cell.ok,rJ] at eM;obtain ⟨_,_,_,RJ,row,cells,XB,Jf⟩:=eM;obtain ⟨k,off,sp⟩:=a;simp only at RJ XB Jf;subst RJ;have Jk:=XB;unfold World.shape? at Jk;split at Jk
  ·rename_i c T fr hh;simp only [bf,ij] at Jk;obtain ⟨rfl,rfl⟩:=Jk;refine ⟨k,off,len,cap,⟨c,.raw T fr⟩,f,rfl,hle,hh,eX,⟨c,T,fr,rfl⟩,λj hj=>?_,λj hj=>(hc j hj).2,T,_,XB,Jf⟩;have h2:=(hc j hj).1;rw [mL] at h2;simpa [World.cell?,hh] using h2
  ·cases Jk
end
theorem zZ {H:Type} {enc:TypeId×Value->H} {P:Program} {base:Nat} (hl:laidOutB P=true) {W W':World} {sp':Nat->Bool}:∀ (ts:List TypeId) (vs:List Value) (ds:List (DataW H)) (ps:List MemPlace),(∀ t∈ts,P.readableRec t=true/\t<P.types.size) ->
  DataW.TrodAll enc P W base (λ_=>true) true ts vs ds ps->(∀ p∈ps,W.sameAt W' p)->(∀ p∈ps,sp' p.block=true)->DataW.TrodAll enc P W' base sp' true ts vs ds ps
 | [],[],[],_,_,h,_,_=>h
 | t::_,_::_,_::_,_,hT,⟨p,q,h1,h2,e⟩,hm,hs=>⟨p,q,WideElems.Trod_stays hl (hT t zS).1 (hT t zS).2 h1 (λx hx=>hm x (by rw [e];exact eE _ hx)) (λx hx=>hs x (by rw [e];exact eE _ hx)),
   zZ hl _ _ _ _ (λt ht=>hT t (aD _ ht)) h2 (λx hx=>hm x (by rw [e];exact fh _ hx)) (λx hx=>hs x (by rw [e];exact fh _ hx)),e⟩
theorem ab6:laidOutB Tryz.prog=true:=ah
theorem SR:Tryz.prog.bytesOf 72=48:=ah
theorem akd {H:Type} {enc:TypeId×Value->H} {w:World} {held:Bool} {st:Int} {a:Addr} {n cap:Nat} {d:DataW H} {p:List MemPlace} (h:DataW.Trod enc Tryz.prog w 0 (λ_=>true) held 27 (.agg #[.int .i64 st,.slice (some a) n cap]) d p) (hw:∀ x∈d.weights Tryz.prog 27,x<=reachBytes):cap<=2932031007402:=by
 obtain ⟨fuel,hf⟩:=h;obtain ⟨y0,y1,m,hx,hl,h0,h1⟩:=trod_struct2 rW hf;rw [AA] at h1;simp only [Value.cells] at h1;rcases vK rJ h1 with ⟨e1,_⟩|⟨a',len,cM,m',n',D,Pl,e1,_,hlc,RC,hm,hy1,_⟩
 ·simp at e1
 ·simp at e1;obtain ⟨rfl,rfl,rfl⟩:=e1;rw [ag rfl] at hm;subst hm;simp only [ij] at hx;have hd:=hx.1;rw [hd,hy1] at hw
  have:=hw ((n+(m' - n))*48) (by
   simp only [DataW.weights,rW];simp [DataW.weightsEach,DataW.weights,rJ,SR])
  unfold reachBytes at this;omega
theorem StAt.ne {W:World} {k off n cap:Nat} {b:Blk} {f:aJ} (h:StAt W k off n cap b f) (hg:GOK G0 W):∀ g c,G0 g=some c->k≠g:=λg c hc e=>by
 have h1:=hg g c hc;obtain ⟨t,ht,KI⟩:=aeI _ (Ip hc);exact xO
section
variable {H:Type} {enc:TypeId×Value->H} {w:World} {base:Nat} {spare:Nat->Bool} {held:Bool}
end
theorem adn {W:World} {k:Nat} {b b':Blk} (h:W.heap[k]? = some b.obj0) (h':W.heap[k]? = some b'.obj0) (r:∃ c T fr,b=⟨c,.raw T fr⟩) (r':∃ c T fr,b'=⟨c,.raw T fr⟩):b=b':=by
 obtain ⟨c,T,fr,rfl⟩:=r;obtain ⟨c',T',fr',rfl⟩:=r';rw [h] at h';simp only [Blk.obj0,bf,vO] at h';obtain ⟨rfl,rfl,rfl⟩:=h'
 rfl
theorem aqe {P:Program} {G:Hp} {fn:FuncId} {args:ca} {L:cf} {v:Value} {W:World} (r:dR) (eg:c7 G) (hF:Fun P G fn args (hpL G L) (ak L) (.ret v [])) (hv:bp v=true) (kE:GOK G W) (hL:LOk L 200) (vq:∀ p∈L,p.2.fx)
  (hr:∀ p∈L,W.heap[r p.1]? = some p.2.obj0) (cW:∀ p∈L,∀ g c,G g=some c->r p.1≠g) (jk:∀ p∈L,∀ q∈L,r p.1=r q.1->p.1=q.1) (bC:∀ q,q<100->r q=q) :
  l7 P fn (args.map (ren r)) W λe W'=>e=.returned v/\Below W.heap.size W W':=by
 have er:rst (hpL G L) (ak L)=hpL G L:=LOk.rst eg
 have agc:∀ (b:Blk),b.fx->∀ r,b.obj r=b.obj0:=λb hb r=>by
  obtain ⟨c,T⟩:=b
  cases T with
  | ty t=>exact Blk.obj_flat hb
  | raw t fr=>rfl
  | mp=>exact hb.elim
 have MN:∀ q c,hpL G L q=some c->(q,c)∈L\/(q<100/\G q=some c):=λq c hq=>by
  rcases dE hq with h|h
  ·exact Qn
  ·exact .inr ⟨(eg q c h).1,h⟩
 have gU:=hF.run r W kE ?_ ?_ ?_
 ·refine gU.mono λe W' h=>?_;obtain ⟨he,ht⟩:=h;rw [bS hv] at he;exact ⟨he,ht.os,ht.tape,ht.output,ht.size,λq hq=>ht.same q hq zS⟩
 ·rw [er];intro q c hq;rcases MN q c hq with h|⟨dp,hG⟩
  ·exact ⟨by rw [agc c (vq _ h)];exact hr _ h,Blk.fx_ids (vq _ h) _⟩
  ·refine ⟨?_,Blk.flat_ids (eg q c hG).2⟩;rw [bC q dp,kE q c hG];congr 1;obtain ⟨cc,T⟩:=c
   cases T with
   | ty t=>exact (Blk.obj_flat (eg q _ hG).2).symm
   | raw t fr=>rfl
   | mp=>exact (Blk.obj_flat (eg q _ hG).2).symm
 ·rw [er];intro q q' hq wE e;unfold dom at hq wE
  cases h1:hpL G L q with
  | none=>exact absurd h1 hq
  | some c =>
   cases h2:hpL G L q' with
   | none=>exact absurd h2 wE
   | some c' =>
    rcases MN q c h1 with h|⟨dp,hG⟩<;>rcases MN q' c' h2 with h'|⟨arb,hG'⟩
    ·exact jk _ h _ h' e
    ·rw [bC q' arb] at e;exact absurd e (cW _ h _ _ hG')
    ·rw [bC q dp] at e;exact absurd e.symm (cW _ h' _ _ hG)
    ·rw [bC q dp,bC q' arb] at e;exact e
 ·intro q hq _;exact bC q hq
def nmL (k k2 q:Nat):Nat:=if q=100 then k else if q=108 then k2 else q
abbrev wc := @Go.Proofs.Tryz.underlying24
abbrev rj := @Go.Proofs.Tryz.underlying22
theorem SX:Tryz.prog.cellsOf 22=1:=ah
theorem SV:Tryz.prog.cellsOf 24=6:=ah
theorem N5:Tryz.prog.cellTypes Tryz.prog.depth 24=some [22,3,3,3,3,3]:=ah
theorem W5:Tryz.prog.bytesOf 3=8:=ah
theorem O5 (d c o n:Nat):liesAt Tryz.prog d 171 c o 3 n=false:=by
 cases d with
 | zero=>rfl
 | succ d =>
  unfold liesAt;rw [wS ah ah,hU]
  rfl
theorem TN (d c o n:Nat):liesAt Tryz.prog d 30 c o 3 n=false:=by
 cases d with
 | zero=>rfl
 | succ d =>
  unfold liesAt;rw [Aq ah ah,hU]
  rfl
theorem Zp:∀ p∈G0L,∃ t,p.2.T=.ty t/\∀ d c o n,liesAt Tryz.prog d t c o 3 n=false:=by
 intro p hp;unfold G0L at hp;rcases aj.1 hp with rfl|hp
 ·exact ⟨_,rfl,TN⟩
 rcases aj.1 hp with rfl|hp
 ·exact ⟨_,rfl,O5⟩
 cases hp
structure CfAt (W:World) (k off n cap:Nat) (b:Blk) (f:aJ):Prop where
 le:n<=cap
 heap:W.heap[k]? = some b.obj0
 fx:b.fx
 raw:∃ c T fr,b=⟨c,.raw T fr⟩
 rd:rdI b off cap f
 i6:∀ j,j<cap->i64 (f j)
 lies:∃ row c,W.shape? k=some (row,c)/\liesAt Tryz.prog Tryz.prog.depth row (c / Tryz.prog.cellsOf row) off 3 cap=true
theorem CfAt.mb {W:World} {k off n cap:Nat} {b:Blk} {f:aJ} (h:CfAt W k off n cap b f) (hn:n<=17592186044416):MB b off n f:=⟨h.rd.le h.le,h.fx,λj hj=>h.i6 j (iQ hj h.le),hn⟩
theorem CfAt.ne {W:World} {k off n cap:Nat} {b:Blk} {f:aJ} (h:CfAt W k off n cap b f) (hg:GOK G0 W):∀ g c,G0 g=some c->k≠g:=λg c hc e=>by
 have h1:=hg g c hc;obtain ⟨t,ht,KI⟩:=Zp _ (Ip hc);exact xO
section
variable {H:Type} {enc:TypeId×Value->H} {w:World} {held:Bool}
theorem Nt {P:Program} {base:Nat} {spare:Nat->Bool} {t:TypeId} {f0 f1 f2 f3 f4 f5:Field} {fuel:Nat} {cs:List Value} {x:DataW H×List MemPlace} (ht:P.underlying t=some (.struct #[f0,f1,f2,f3,f4,f5])) (h:DataW.trod enc P w base spare held fuel t cs=some x) :
  ∃ y0 y1 y2 y3 y4 y5 n,x.1=.agg [y0.1,y1.1,y2.1,y3.1,y4.1,y5.1]/\DataW.trod enc P w base spare held n f0.type ((cs.drop f0.offset).take (P.cellsOf f0.type))=some y0/\DataW.trod enc P w base spare held n f1.type ((cs.drop f1.offset).take (P.cellsOf f1.type))=some y1 /\
   DataW.trod enc P w base spare held n f2.type ((cs.drop f2.offset).take (P.cellsOf f2.type))=some y2/\DataW.trod enc P w base spare held n f3.type ((cs.drop f3.offset).take (P.cellsOf f3.type))=some y3/\DataW.trod enc P w base spare held n f4.type ((cs.drop f4.offset).take (P.cellsOf f4.type))=some y4/\DataW.trod enc P w base spare held n f5.type ((cs.drop f5.offset).take (P.cellsOf f5.type))=some y5:=by
 obtain ⟨xs,n,_,hx,hl,hlen,hf⟩:=DataW.trod_struct ht h
 match xs,hlen with
 | [y0,y1,y2,y3,y4,y5],_=>exact ⟨y0,y1,y2,y3,y4,y5,n,by rw [hx];rfl,by simpa using hf 0 f0 rfl,by simpa using hf 1 f1 rfl,by simpa using hf 2 f2 rfl,by simpa using hf 3 f3 rfl,by simpa using hf 4 f4 rfl,by simpa using hf 5 f5 rfl⟩
theorem LQ {fuel:Nat} {cs:List Value} {x:DataW H×List MemPlace} (h:DataW.trod enc Tryz.prog w 0 (λ_=>true) held fuel 24 cs=some x) :
  ∃ y0 y1 y2 y3 y4 y5 n,x.1=.agg [y0.1,y1.1,y2.1,y3.1,y4.1,y5.1]/\DataW.trod enc Tryz.prog w 0 (λ_=>true) held n 22 ((cs.drop 0).take 1)=some y0/\DataW.trod enc Tryz.prog w 0 (λ_=>true) held n 3 ((cs.drop 1).take 1)=some y1/\DataW.trod enc Tryz.prog w 0 (λ_=>true) held n 3 ((cs.drop 2).take 1)=some y2 /\
   DataW.trod enc Tryz.prog w 0 (λ_=>true) held n 3 ((cs.drop 3).take 1)=some y3/\DataW.trod enc Tryz.prog w 0 (λ_=>true) held n 3 ((cs.drop 4).take 1)=some y4/\DataW.trod enc Tryz.prog w 0 (λ_=>true) held n 3 ((cs.drop 5).take 1)=some y5:=by
 obtain ⟨y0,y1,y2,y3,y4,y5,n,hx,f0,f1,f2,f3,f4,f5⟩:=Nt wc h;rw [SX] at f0;rw [yZ] at f1 f2 f3 f4 f5;exact ⟨y0,y1,y2,y3,y4,y5,n,hx,f0,f1,f2,f3,f4,f5⟩
theorem XU {r:Reach} {b0:Nat} {v:Value} {d:DataW H} {p:List MemPlace} (hv:Value.okWide Tryz.prog w r b0 24 v) (h:DataW.Trod enc Tryz.prog w 0 (λ_=>true) held 24 v d p) :
  ∃ g bx tp nr md,i64 g/\i64 bx/\i64 tp/\i64 nr/\i64 md/\(v=cfV (.slice none 0 0) g bx tp nr md\/∃ (k off n cap:Nat) (b:Blk) (f:aJ),v=cfV (.slice (some ⟨k,off,none⟩) n cap) g bx tp nr md/\CfAt w k off n cap b f):=by
 simp only [Value.okWide,wc] at hv;obtain ⟨cs,rfl,Ag,ts,Ah,_,iJ⟩:=hv;rw [N5] at Ah;simp only [bf] at Ah;subst Ah;obtain ⟨fuel,hf⟩:=h;obtain ⟨y0,y1,y2,y3,y4,y5,n,_,h0,h1,h2,h3,h4,h5⟩:=LQ hf;simp only [Value.cells] at h0 h1 h2 h3 h4 h5;obtain ⟨g,e1,_,w1⟩:=ld hU h1;obtain ⟨bx,e2,_,w2⟩:=ld hU h2;obtain ⟨tp,e3,_,w3⟩:=ld hU h3;obtain ⟨nr,e4,_,w4⟩:=ld hU h4;obtain ⟨md,e5,_,w5⟩:=ld hU h5;rw [SV] at Ag
 obtain ⟨c0,c1,c2,c3,c4,c5,rfl⟩:∃ c0 c1 c2 c3 c4 c5,cs=#[c0,c1,c2,c3,c4,c5]:=by
  obtain ⟨l⟩:=cs
  match l,Ag with
  | [c0,c1,c2,c3,c4,c5],_=>exact ⟨c0,c1,c2,c3,c4,c5,rfl⟩
 simp at e1 e2 e3 e4 e5;subst e1 e2 e3 e4 e5;refine ⟨g,bx,tp,nr,md,wV w1,wV w2,wV w3,wV w4,wV w5,?_⟩;rcases open_ints rj hU yZ h0 with ⟨e0,_⟩|⟨a,len,cap,zs,e0,_,hle,_,hzl,_,hc,hw⟩
 ·simp at e0;subst e0;exact .inl rfl
 ·simp at e0;subst e0
  right
  rw [ag rfl] at hzl;obtain ⟨u,hu,eM⟩:=iJ 0 _ rfl;simp at hu;subst hu;simp only [Cell.okWide,Cell.ok,rj] at eM;obtain ⟨_,_,_,RJ,row,cells,XB,Jf⟩:=eM;obtain ⟨k,off,sp⟩:=a;simp only at RJ XB Jf;subst RJ;have Jk:=XB;unfold World.shape? at Jk;split at Jk
  ·rename_i c T fr hh;simp only [bf,ij] at Jk;obtain ⟨rfl,rfl⟩:=Jk;refine ⟨k,off,len,cap,⟨c,.raw T fr⟩,λj=>zs.getD j 0,rfl,hle,hh,eX,⟨c,T,fr,rfl⟩,λj hj=>?_,λj hj=>?_,T,_,XB,Jf⟩
   ·have h2:=hc j zO;rw [mL] at h2;simpa [World.cell?,hh] using h2
   ·have hjz:j<zs.length:=zO;exact wV (hw _ (by simp [List.getD,gZ hjz]))
  ·cases Jk
theorem afi {g bx tp nr md:Int} {a:Addr} {n cap:Nat} {d:DataW H} {p:List MemPlace} (h:DataW.Trod enc Tryz.prog w 0 (λ_=>true) held 24 (cfV (.slice (some a) n cap) g bx tp nr md) d p) (hw:∀ x∈d.weights Tryz.prog 24,x<=reachBytes):cap<=17592186044416:=by
 obtain ⟨fuel,hf⟩:=h;obtain ⟨y0,y1,y2,y3,y4,y5,m,hx,h0,_⟩:=LQ hf;simp only [cfV,Value.cells] at h0;rcases vK rj h0 with ⟨e1,_⟩|⟨a',len,cM,m',n',D,Pl,e1,_,hlc,RC,hm,hy1,_⟩
 ·simp at e1
 ·simp at e1;obtain ⟨rfl,rfl,rfl⟩:=e1;rw [ag rfl] at hm;subst hm;rw [show d=_ from hx,hy1] at hw
  have:=hw ((n+(m' - n))*8) (by
   simp only [DataW.weights,wc];simp [DataW.weightsEach,DataW.weights,rj,W5])
  unfold reachBytes at this;omega
end
section
variable {H:Type} {enc:TypeId×Value->H} {w:World} {base:Nat} {spare:Nat->Bool} {held:Bool}
end
theorem O6 (d c o n:Nat):liesAt Tryz.prog d 171 c o 38 n=false:=by
 cases d with
 | zero=>rfl
 | succ d =>
  unfold liesAt;rw [wS ah ah,Tryz.underlying38]
  rfl
theorem TO (d c o n:Nat):liesAt Tryz.prog d 30 c o 38 n=false:=by
 cases d with
 | zero=>rfl
 | succ d =>
  unfold liesAt;rw [Aq ah ah,Tryz.underlying38]
  rfl
theorem Zq:∀ p∈G0L,∃ t,p.2.T=.ty t/\∀ d c o n,liesAt Tryz.prog d t c o 38 n=false:=by
 intro p hp;unfold G0L at hp;rcases aj.1 hp with rfl|hp
 ·exact ⟨_,rfl,TO⟩
 rcases aj.1 hp with rfl|hp
 ·exact ⟨_,rfl,O6⟩
 cases hp
section
variable {H:Type} {enc:TypeId×Value->H} {w:World} {base:Nat} {spare:Nat->Bool} {held:Bool}
structure LsAt (W:World) (k off n cap:Nat) (b:Blk) (f:lX):Prop where
 le:n<=cap
 heap:W.heap[k]? = some b.obj0
 fx:b.fx
 raw:∃ c T fr,b=⟨c,.raw T fr⟩
 rd:rdV b off (14*cap) (pj f)
 ok:∀ i,i<cap->LsOk (f i)
 row:vh f
 lies:∃ row c,W.shape? k=some (row,c)/\liesAt Tryz.prog Tryz.prog.depth row (c / Tryz.prog.cellsOf row) off 38 cap=true
theorem LsAt.lb {W:World} {k off n cap:Nat} {b:Blk} {f:lX} (h:LsAt W k off n cap b f) (hn:n<=1256598820000):LB b off n f :=
 ⟨h.rd.le (by have:=h.le;omega),h.fx,h.row,λi hi=>(h.ok i (iQ hi h.le)).i,λi hi=>⟨(h.ok i (iQ hi h.le)).w0,(h.ok i (iQ hi h.le)).w1⟩,hn⟩
theorem LsAt.ne {W:World} {k off n cap:Nat} {b:Blk} {f:lX} (h:LsAt W k off n cap b f) (hg:GOK G0 W):∀ g c,G0 g=some c->k≠g:=λg c hc e=>by
 have h1:=hg g c hc;obtain ⟨t,ht,KI⟩:=Zq _ (Ip hc);exact xO
end
theorem xm {p:Prop} (h:p:=by simp only [br,bN];exact ⟨h.heap,h.fx,h.raw,h.ne hg⟩):p:=h
theorem wY {p:Prop} (h:p:=by simp only at e;subst e;simp [ren,aW,aw,aF]):p:=h
structure Mine (W:World) (k:Nat) (b:Blk):Prop where
 heap:W.heap[k]? = some b.obj0
 fx:b.fx
 raw:∃ c T fr,b=⟨c,.raw T fr⟩
 ne:∀ g c,G0 g=some c->k≠g
structure Laid (W:World) (L:cf) (nm:dR):Prop where
 ok:LOk L (100+8*L.length)
 fx:∀ p∈L,p.2.fx
 mine:∀ p∈L,Mine W (nm p.1) p.2
 inj:∀ p∈L,∀ q∈L,nm p.1=nm q.1->p.1=q.1
 low:∀ k,k<100->nm k=k
def nmX (a x:Nat) (nm:dR) (k:Nat):Nat:=if k=a then x else nm k
theorem ag0 (a x:Nat) (nm:dR):nmX a x nm a=x:=ag rfl
theorem VW {a x k:Nat} {nm:dR} (h:k≠a):nmX a x nm k=nm k:=ae h
theorem lay {W:World}:∀ (xs:cf),(∀ x∈xs,Mine W x.1 x.2)->∃ L nm,Laid W L nm/\L.length<=xs.length/\∀ x∈xs,∃ m,(m,x.2)∈L/\nm m=x.1
 | [],_=>⟨[],λk=>k,⟨⟨(λp hp=>nB),jX,(λp hp=>nB)⟩,(λp hp=>nB),(λp hp=>nB),(λp hp=>nB),λk _=>rfl⟩,aA _,λx hx=>by cases hx⟩
 | x::xs,h=>by
  obtain ⟨L,nm,hL,hl,hx⟩:=lay xs λy hy=>h y (aD _ hy);have hm:=h x (jW ..);by_cases ew:∃ p∈L,nm p.1=x.1
  ·obtain ⟨p,hp,e⟩:=ew;have hp2:=hL.mine p hp;rw [e] at hp2;have e2:p.2=x.2:=adn hp2.heap hm.heap hp2.raw hm.raw;refine ⟨L,nm,hL,by simp only [fH];omega,λy hy=>?_⟩;rcases aj.1 hy with rfl|hy
   ·exact ⟨p.1,by rw [<-e2];exact hp,e⟩
   ·exact hx y hy
  ·have CP:∀ p∈L,p.1≠100+8*L.length:=λp hp=>by have:=hL.ok.big p hp;omega
   have rY:100+8*L.length∉ak L:=λhk=>by
    obtain ⟨p,hp,e⟩:=aC.1 hk;exact CP p hp e
   have old:∀ p∈L,nmX (100+8*L.length) x.1 nm p.1=nm p.1:=λp hp=>VW (CP p hp);have new:nmX (100+8*L.length) x.1 nm (100+8*L.length)=x.1:=ag0 _ _ _;refine ⟨(100+8*L.length,x.2)::L,nmX (100+8*L.length) x.1 nm,⟨⟨?_,?_,?_⟩,?_,?_,?_,?_⟩,by simp only [fH];omega,?_⟩
   ·intro p hp;simp only [fH];rcases aj.1 hp with rfl|hp
    ·exact ki
    ·have:=hL.ok.big p hp;omega
   ·show ((100+8*L.length)::ak L).Nodup;exact fu.2 ⟨rY,hL.ok.one⟩
   ·intro p hp;rcases aj.1 hp with rfl|hp
    ·exact Blk.fx_ids hm.fx _
    ·exact Blk.fx_ids (hL.fx p hp) _
   ·intro p hp;rcases aj.1 hp with rfl|hp
    ·exact hm.fx
    ·exact hL.fx p hp
   ·intro p hp;rcases aj.1 hp with rfl|hp
    ·rw [show ((100+8*L.length,x.2):Nat×Blk).1=100+8*L.length from rfl,new];exact hm
    ·rw [old p hp];exact hL.mine p hp
   ·intro p hp q hq e;rcases aj.1 hp with rfl|hp<;>rcases aj.1 hq with rfl|hq
    ·rfl
    ·rw [old q hq,show ((100+8*L.length,x.2):Nat×Blk).1=100+8*L.length from rfl,new] at e;exact absurd ⟨q,hq,e.symm⟩ ew
    ·rw [old p hp,show ((100+8*L.length,x.2):Nat×Blk).1=100+8*L.length from rfl,new] at e;exact absurd ⟨p,hp,e⟩ ew
    ·rw [old p hp,old q hq] at e;exact hL.inj p hp q hq e
   ·intro k hk;rw [VW zO];exact hL.low k hk
   ·intro y hy;rcases aj.1 hy with rfl|hy
    ·exact ⟨100+8*L.length,jW ..,new⟩
    ·obtain ⟨m,AP,NG⟩:=hx y hy;exact ⟨m,aD _ AP,by rw [old _ AP];exact NG⟩
theorem Laid.any {W:World} {L:cf} {nm:dR} (h:Laid W L nm) (hl:L.length<=12):LAny L:=⟨⟨λp hp=>by have:=h.ok.big p hp;omega,h.ok.one,h.ok.ids⟩,h.fx⟩
theorem aaW {fn:FuncId} {args:ca} {W:World} {L:cf} {nm:dR} {v:Value} (h:Laid W L nm) (hl:L.length<=12) (hF:Fun Tryz.prog G0 fn args (hpL G0 L) (ak L) (.ret v [])) (hv:bp v=true) (kE:GOK G0 W) :
  l7 Tryz.prog fn (args.map (ren nm)) W λe W'=>e=.returned v/\Below W.heap.size W W' :=
 aqe nm G0F hF hv kE (h.any hl).ok h.fx (λp hp=>(h.mine p hp).heap) (λp hp=>(h.mine p hp).ne) h.inj h.low
def LS (L:cf) (p:qE) (n cap:Nat):Prop:=∃ k off b w,p=some ⟨k,off,none⟩/\(k,b)∈L/\LB b off n w/\n<=cap
def Op1 (W:World) (Good:List (Nat×Blk)->Option Addr->Nat->Nat->Prop) (p:qE) (n cap:Nat):Prop :=
 ∃ xs:List (Nat×Blk),xs.length<=1/\(∀ x∈xs,Mine W x.1 x.2)/\∀ L nm,(∀ x∈xs,∃ m,(m,x.2)∈L/\nm m=x.1)->∃ q,(NS q n cap\/Good L q n cap)/\ren nm (.slice q n cap)=.slice p n cap
theorem Op1.nil {W:World} {Good:List (Nat×Blk)->Option Addr->Nat->Nat->Prop}:Op1 W Good none 0 0:=⟨[],zS,zS,λL nm h=>⟨none,.inl ⟨rfl,rfl,rfl⟩,rfl⟩⟩
theorem Op1.conf {W:World} {k off n cap:Nat} {b:Blk} {f:aJ} (h:CfAt W k off n cap b f) (hg:GOK G0 W) (hn:n<=17592186044416):Op1 W MS (some ⟨k,off,none⟩) n cap :=
 ⟨[(k,b)],zS,xm,λL nm hx=>by
  obtain ⟨m,hm,e⟩:=hx (k,b) zS;exact ⟨some ⟨m,off,none⟩,.inr ⟨m,off,b,f,rfl,hm,h.mb hn,h.le⟩,wY⟩⟩
theorem Op1.state {W:World} {k off n cap:Nat} {b:Blk} {f:aJ} (h:StAt W k off n cap b f) (hg:GOK G0 W) (hn:n<=2932031007402):Op1 W SS (some ⟨k,off,none⟩) n cap :=
 ⟨[(k,b)],zS,xm,λL nm hx=>by
  obtain ⟨m,hm,e⟩:=hx (k,b) zS;exact ⟨some ⟨m,off,none⟩,.inr ⟨m,off,b,f,rfl,hm,h.sb hn,h.le⟩,wY⟩⟩
theorem Op1.losses {W:World} {k off n cap:Nat} {b:Blk} {f:lX} (h:LsAt W k off n cap b f) (hg:GOK G0 W) (hn:n<=1256598820000):Op1 W LS (some ⟨k,off,none⟩) n cap :=
 ⟨[(k,b)],zS,xm,λL nm hx=>by
  obtain ⟨m,hm,e⟩:=hx (k,b) zS;exact ⟨some ⟨m,off,none⟩,.inr ⟨m,off,b,f,rfl,hm,h.lb hn,h.le⟩,wY⟩⟩
theorem am2 {ρ:dR} {q p:qE} {n cap:Nat} {g bx tp nr md:Int} (h:ren ρ (.slice q n cap)=.slice p n cap):ren ρ (cfV (.slice q n cap) g bx tp nr md)=cfV (.slice p n cap) g bx tp nr md:=by
 cases q with
 | none=>cases h;simp [cfV,ren,aW,aw,aF]
 | some a=>simp [ren,aW,aw,aF] at h;simp [cfV,ren,aW,aw,aF,h]
theorem am3 {ρ:dR} {q p:qE} {n cap:Nat} {st:Int} (h:ren ρ (.slice q n cap)=.slice p n cap):ren ρ (.agg #[.int .i64 st,.slice q n cap])=.agg #[.int .i64 st,.slice p n cap]:=by
 cases q with
 | none=>cases h;simp [ren,aW,aw,aF]
 | some a=>simp [ren,aW,aw,aF] at h;simp [ren,aW,aw,aF,h]
section
variable {H:Type} {enc:TypeId×Value->H} {w:World} {held:Bool}
theorem ahf {r:Reach} {b0:Nat} {v:Value} {d:DataW H} {p:List MemPlace} (hv:Value.okWide Tryz.prog w r b0 24 v) (h:DataW.Trod enc Tryz.prog w 0 (λ_=>true) held 24 v d p) (hw:∀ x∈d.weights Tryz.prog 24,x<=reachBytes) (hg:GOK G0 w) :
  ∃ g bx tp nr md q n cap,i64 g/\i64 bx/\i64 tp/\i64 nr/\i64 md/\v=cfV (.slice q n cap) g bx tp nr md/\Op1 w MS q n cap:=by
 obtain ⟨g,bx,tp,nr,md,w1,w2,w3,w4,w5,h0⟩:=XU hv h;rcases h0 with rfl|⟨k,off,n,cap,b,f,rfl,Sc⟩
 ·exact ⟨g,bx,tp,nr,md,none,0,0,w1,w2,w3,w4,w5,rfl,Op1.nil⟩
 ·exact ⟨g,bx,tp,nr,md,_,n,cap,w1,w2,w3,w4,w5,rfl,Op1.conf Sc hg (ju Sc.le (afi h hw))⟩
theorem acV {r:Reach} {b0:Nat} {v:Value} {d:DataW H} {p:List MemPlace} (hv:Value.okWide Tryz.prog w r b0 27 v) (h:DataW.Trod enc Tryz.prog w 0 (λ_=>true) held 27 v d p) (hw:∀ x∈d.weights Tryz.prog 27,x<=reachBytes) (hg:GOK G0 w) :
  ∃ st q n cap,i64 st/\v=.agg #[.int .i64 st,.slice q n cap]/\Op1 w SS q n cap:=by
 obtain ⟨st,ws,h0⟩:=T3 hv h;rcases h0 with rfl|⟨k,off,n,cap,b,f,rfl,Sc⟩
 ·exact ⟨st,none,0,0,ws,rfl,Op1.nil⟩
 ·exact ⟨st,_,n,cap,ws,rfl,Op1.state Sc hg (ju Sc.le (akd h hw))⟩
end
end Go.Gy
