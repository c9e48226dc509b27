/-
  Lemmas of this claim, in their order (GyNC, GyND, GyNE, GyNF, GyYM, GyYN, GyYO, GyYP, GyYQ, GyYR, GyYS, GyYT, GyYF, GyYG, GyYH, GyYI).
  Conditions: those of each theorem.
-/
import Derived.Test.YtekhnalfccakmaaGreatDoorGz06
set_option linter.unusedSimpArgs false
set_option linter.unusedVariables false
set_option maxRecDepth 8000
set_option maxHeartbeats 32000000
namespace Go.Gy
open Go Go.RowKit Go.Proofs Go.Proofs.Tryz
theorem CK {p:Prop} (h:p:=by simp [N0,dom,eY,ren,aT,aw,aA,aN,cp,aL,aR]):p:=h
theorem CF {p:Prop} (h:p:=by dsimp only;rw [aj _ _ zO];exact hL.low k hk):p:=h
theorem Co {p:Prop} (h:p:=by exact .inl ⟨h1,ay,by simp [rnL]⟩):p:=h
theorem vT {p:Prop} (h:p:=by rw [ph hV k hk,ph hV l hl]):p:=h
theorem rX {p:Prop} (h:p:=by simp [ren,aT,aw,aA,d0]):p:=h
theorem EP {p:Prop} (h:p:=by
 have IW:=λD=>Blk.fx_ids (dI (3*c') g' 85) D;have hfm:=λρ=>vi (dI (3*c') g' 85) ρ;simp [hfm,Blk.rn,aw,aA,aF,aL,aR,dom,IW]):p:=h
theorem jC {p:Prop} (h:p:=by
 simp [aF,aL,aR]):p:=h
theorem xQ {p:Prop} (h:p:=by
 exact ⟨_,_,.inl ⟨rfl,rfl,rfl⟩,rfl⟩):p:=h
theorem mr {p:Prop} (h:p:=by
 rcases hk with rfl|rfl<;>simp):p:=h
theorem DG {p:Prop} (h:p:=by
 refine n7 trivial ?_;refine bH ?_;simp only [iX,gK];refine ⟨λk=>if k=208 then 340 else k,_,λC0 h1 h2=>pT _ _ 300 (h1.trans so) G0F (m0:=[]) (zU C0 h2) zO ?_ ?_ ?_ ?_ ?_,⟨_,_,.inr ⟨c',g',zO,yz,OQ,rfl,rfl⟩,rfl⟩⟩
 ·exact CK
 ·exact EP
 ·simp
 ·exact jA
 ·simp):p:=h
theorem Gg {p:Prop} (h:p:=by
 rw [ai h1,aj _ _ ?_];obtain ⟨pp,mG,rfl⟩:=aI.1 h1;have:=(hL.big pp mG).2;omega):p:=h
theorem EL {p:Prop} (h:p:=by
 rcases cB hb with h4|h4
 ·exact aI.2 ⟨_,h4,rfl⟩
 ·exact absurd (G0F k b' h4).1 h3):p:=h
theorem r7 {p:Prop} (h:p:=by
 rw [hL.low k h2];simp (disch:=omega) only [aW,dm,ab]):p:=h
theorem FD {p:Prop} (h:p:=by
 exact ⟨_,_,.inl ⟨h1,rfl,rfl⟩,ay,by simp [rnL]⟩):p:=h
def pF (l:List Pr) (j:Nat):Int:=match l[j / 3]? with
 | some p=>match j%3 with
  | 0=>p.1
  | 1=>p.2.1
  | _=>p.2.2
 | none=>0
theorem YJ {l:List Pr} {i:Nat} {p:Pr} (h:l[i]? = some p):pF l (3*i)=p.1/\pF l (3*i+1)=p.2.1/\pF l (3*i+2)=p.2.2:=by
 unfold pF;rw [(zO:(3*i) / 3=i),(zO:(3*i+1) / 3=i),(zO:(3*i+2) / 3=i),(zO:(3*i)%3=0),(zO:(3*i+1)%3=1),(zO:(3*i+2)%3=2),h];exact ⟨rfl,rfl,rfl⟩
theorem adg (l:List Pr) (i:Nat) (hi:i<l.length):(vw l)[i]? = some #[.agg #[.int .i64 (pF l (3*i)),.int .i64 (pF l (3*i+1)),.int .i64 (pF l (3*i+2))]]:=by
 have h:l[i]? = some l[i]:=by simp [hi]
 obtain ⟨e0,e1,e2⟩:=YJ h;rw [e0,e1,e2];simp [vw,hi,prV]
theorem Su (st:Int) (f:aS) (n:Nat):(prs st f n).length<=6:=by
 unfold prs;split
 ·unfold vx;split<;>simp
 ·simp
def PrR (nk n:Nat) (G:aS) (v:Value) (ns:bS):Prop:=(n=0/\v=.slice none 0 0/\ns=[])\/∃ (c:Nat) (g:aS),0<n/\n<=c/\(∀ j,j<3*n->g j=G j)/\v=.slice (some ⟨nk,0,none⟩) n c/\ns=[(nk,⟨fa (3*c) .i64 g,.ty 85⟩)]
theorem LB {D:gA} {nk n B:Nat} {G:aS} (hB:B<=nk) (v:Value) (ns:bS) (h:PrR nk n G v ns):aN (cJ D ns) v/\(∀ p∈ns,B<=p.1/\p.2.ids (cJ D ns))/\(∀ k b c,(k,b)∈ns->(k,c)∈ns->b=c):=by
 exact DB
def psI (G:aS) (i:Nat) (h:Hp):Prop:=∃ sl ns,PrR 208 i G sl ns/\h=hpL G0 ((200,⟨#[sl],.ty 68⟩)::ns)
def N0:List (Nat×Value):=[(2,.pointer (some ⟨200,0,none⟩)),(4,.slice none 0 0)]
theorem YZ (b:Blk) (off n cap:Nat) (f:aS) (h:SB b off n f) (dS:n<=cap) (st:Int) (hs:i64 st) :
  FunS prog G0 145 #[.slice none 0 0,.func (.func 146) #[] #[.pointer (some ⟨100,0,none⟩)]] (hpL G0 (prL b st off n cap)) (ak (prL b st off n cap)) (PrR 1000 (prs st f n).length (pF (prs st f n))):=by
 have hL:=tF h.fx st off n cap;refine dJ (B:=200) G0F func145 rfl call145 hL ?_ (LB zO) (by simp [ntmps145]) zO ?_
 ·simp [aN,cp,aL,aR,ak,prL]
 intro C hC bQ hY;have Vx:=h.nn;have hln:=Su st f n;have iZ:=λD=>Blk.fx_ids h.fx D;have zU:∀ C0:Ctx,(C0.hp0=λk=>if k∈ak (prL b st off n cap) then none else C.hp0 k)->C0.hp0=hpL G0 []:=λC0 h0=>by rw [h0,bQ];exact hL.aside G0F
 refine fO ?_;refine AN (f:=146) (rs:=ak (prL b st off n cap)) (xs:=vw (prs st f n)) (bh:=#[.pointer (some ⟨100,0,none⟩)]) (ak (prL b st off n cap)) hY zS ?_ ?_ (by simp [ntmps145]) (tsL N0) (tsL N0) (psI (pF (prs st f n))) (hpS:=hpL G0 [(200,⟨#[.slice none 0 0],.ty 68⟩)]) 300 (prs st f n).length (by rw [NZ];exact aG _) (λ_ hk=>hk) ?_ ?_ ?_ ?_ ?_ (λ_=>.inl rfl) ?_ ?_
 ·rw [hC];exact pK (YO b off n cap f h dS st hs) G0F hL (λk=>k) (λ_ _=>rfl) ga zS (λk hk=>CF) (by simp [prL,Blk.rn_id]) zS
 ·intro x hx;simp [vw] at hx;obtain ⟨i,j,q,_,rfl⟩:=hx;simp [prV]
 ·intro k hk;simp [prL,ak] at hk;rcases hk with rfl|rfl<;>simp [dom,prL]
 ·exact hL.clz (by simp [prL])
 ·intro C0 h1 h2;refine dv _ 300 (h1.trans hC) G0F (m0:=[]) (zU C0 h2) zO ?_ ?_ ?_
  ·simp [N0,aN,cp,aL,aR,dom]
  ·exact jC
  ·simp
 ·exact xQ
 ·intro k hk;simp [prL,ak] at hk;exact mr
 ·intro i x hq0 hi hx hI C1 l sR vl qS;obtain ⟨sl,ns,hV,rfl⟩:=hI;rw [adg _ _ hi] at hx;simp only [bg] at hx;subst hx;have so:=hC;have je:C1.G=G0:=sR.trans hC;rcases hV with ⟨rfl,rfl,rfl⟩|⟨c,g,jM,HT,hg,rfl,rfl⟩
  ·clear hC hY;have hC:=je;have hY:=qS;refine dy (k2 @bC.eq_1 @N0.eq_1) ?_;intro C2 oY Gx oZ;clear hC hY;have hC:C2.G=G0:=oY.trans so;have hY:=oZ;refine uv ?_;refine gj ?_;refine GU trivial ?_;refine xV (m:=3) (i:=0) (j:=332) (BN:=24) (z:=.agg #[.int .i64 0,.int .i64 0,.int .i64 0]) (T2:=.ty 85) (G:=pF (prs st f n)) (ev:=λu=>pF (prs st f n) (3*0+u)) rfl zS rfl underlying68 (aZ sizeOf85) ae ae zO et et zO zO (.inl ⟨rfl,zS⟩) zS oG (λu hu=>?_) zO ?_
   ·rfl
   ·rintro k' c' g' g8 vm yz OQ
    obtain rfl:k'=340:=by
     exact rZ
    exact DG
  ·clear hC hY;have hC:=je;have hY:=qS;have IW:=λD=>Blk.fx_ids (dI (3*c) g 85) D;refine dy (k2 @bC.eq_1 @N0.eq_1) ?_;intro C2 oY Gx oZ;clear hC hY;have hC:C2.G=G0:=oY.trans so;have hY:=oZ;refine uv ?_;refine gj ?_;refine GU trivial ?_;refine xV (m:=3) (i:=i) (j:=332) (BN:=24) (z:=.agg #[.int .i64 0,.int .i64 0,.int .i64 0]) (T2:=.ty 85) (G:=pF (prs st f n)) (ev:=λu=>pF (prs st f n) (3*i+u)) rfl zS rfl underlying68 (aZ sizeOf85) ae ae zO et et zO zO (.inr ⟨208,c,g,zO,zS,zS,HT,hg⟩) zS oG (λu hu=>?_) zO ?_
   ·rfl
   ·rintro k' c' g' g8 vm yz OQ
    have g8:k'=340\/k'=208:=by
     exact r9
    rcases g8 with rfl|rfl
    ·
     exact DG
    ·
     refine n7 trivial ?_;refine bH ?_;simp only [iX,gK];refine ⟨λk=>if k=208 then 208 else k,_,λC0 h1 h2=>pT _ _ 300 (h1.trans so) G0F (m0:=[]) (zU C0 h2) zO ?_ ?_ ?_ ?_ ?_,⟨_,_,.inr ⟨c',g',zO,yz,OQ,rfl,rfl⟩,rfl⟩⟩
     ·exact CK
     ·exact EP
     ·simp
     ·exact jA
     ·simp
 ·left
  refine ⟨(NZ _).symm,?_⟩;rintro hq0 ⟨sl,ns,hV,rfl⟩;refine ⟨?_,?_⟩
  ·intro k hk;simp [prL,ak] at hk;rcases hV with ⟨Xx,rfl,rfl⟩|⟨c,g,jM,HT,hg,rfl,rfl⟩
   ·exact mr
   ·exact mr
  have ig:∀ (h2:Hp),(∀ k,k∉ak (prL b st off n cap)->k<100->h2 k=hpL G0 (prL b st off n cap) k)->∀ k,dom (hpL G0 (prL b st off n cap)) k->eW (ak (prL b st off n cap)) (upd (hpL G0 (prL b st off n cap)) 200 (some ⟨#[.slice none 0 0],.ty 68⟩)) h2 k=hpL G0 (prL b st off n cap) k:=λh2 hh k hk=>by
   unfold eW;by_cases h1:k∈ak (prL b st off n cap)
   ·exact Gg
   ·rw [ab h1];refine hh k h1 (aO λh3=>h1 ?_);unfold dom at hk
    cases hb:hpL G0 (prL b st off n cap) k with
    | none=>exact absurd hb hk
    | some b' =>
     exact EL
  rcases hV with ⟨Xx,rfl,rfl⟩|⟨c,g,jM,HT,hg,rfl,rfl⟩
  ·have K6:¬200∈ak (prL b st off n cap):=by simp [prL,ak]
   unfold N0;refine dy (k2 @eW.eq_1 K6) ?_;refine ⟨.inr trivial,ig _ (λk h1 h2=>?_),_,_,λk=>k,.inl ⟨Xx,rfl,rfl⟩,λ_ _=>rfl,zS,zS,by simp [results145,ren,aT,aw,aA],zS⟩;exact r7
  ·have K6:¬200∈ak (prL b st off n cap):=by simp [prL,ak]
   have Xm:¬208∈ak (prL b st off n cap):=rY;unfold N0;refine dy (k2 @eW.eq_1 K6) ?_;refine ⟨.inr trivial,ig _ (λk h1 h2=>?_),_,_,λk=>if k=1000 then 208 else k,.inr ⟨c,g,jM,HT,hg,rfl,rfl⟩,λk hk=>ab zO,zS,zS,by simp [results145,ren,aT,aw,aA],?_⟩
   ·exact r7
   ·simp [eW,Xm,ic]
theorem Qq {nk tz n:Nat} {G:aS} {ρ:cI} (h:ρ nk=tz):RR ρ (PrR nk n G)=PrR tz n G:=by
 funext v ns;apply propext;constructor
 ·rintro ⟨v0,uo,hV,rfl,rfl⟩;rcases hV with ⟨h1,rfl,rfl⟩|⟨c,g,h1,h2,h3,rfl,rfl⟩
  ·exact Co
  ·exact .inr ⟨c,g,h1,h2,h3,by simp [ren,aT,aw,aA,h],by simp [rnL,ic,h]⟩
 ·rintro (⟨h1,rfl,rfl⟩|⟨c,g,h1,h2,h3,rfl,rfl⟩)
  ·exact FD
  ·exact ⟨_,_,.inr ⟨c,g,h1,h2,h3,rfl,rfl⟩,by simp [ren,aT,aw,aA,h],by simp [rnL,ic,h]⟩
theorem ph {nk n:Nat} {G:aS} {v:Value} {ns:bS} (h:PrR nk n G v ns):∀ k∈ak ns,k=nk:=by
 exact DU
theorem adh (nk:Nat) (mZ:200<=nk) (b:Blk) (off n cap:Nat) (f:aS) (h:SB b off n f) (dS:n<=cap) (st:Int) (hs:i64 st) :
  FunS prog G0 145 #[.slice none 0 0,.func (.func 146) #[] #[.pointer (some ⟨100,0,none⟩)]] (hpL G0 (prL b st off n cap)) (ak (prL b st off n cap)) (PrR nk (prs st f n).length (pF (prs st f n))):=by
 have hL:=tF h.fx st off n cap;have hr:=λρ=>Blk.fx_rn h.fx ρ;refine (YZ b off n cap f h dS st hs).mvL G0F hL (λk=>if k=1000 then nk else k) (λk hk=>ab zO) ay rY (Qq rfl) hL.low (by simp [prL,qY,hr]) rY (λv ns hV k hk=>?_) (λv ns hV k hk l hl _=>vT);rw [ph hV k hk];simp [prL,ak];omega
theorem YT (b:Blk) (off n cap:Nat) (f:aS) (h:SB b off n f) (dS:n<=cap) (st:Int) (hs:i64 st) :
  FunS prog G0 124 #[.func (.func 146) #[] #[.pointer (some ⟨100,0,none⟩)]] (hpL G0 (prL b st off n cap)) (ak (prL b st off n cap)) (PrR 1000 (prs st f n).length (pF (prs st f n))):=by
 have hL:=tF h.fx st off n cap;refine dJ (B:=200) G0F func124 rfl call124 hL ?_ (LB zO) (by simp [ntmps124]) zO ?_
 ·simp [aN,cp,aL,aR,ak,prL]
 intro C hC bQ hY;refine fO ?_;refine gj ?_;refine n7 trivial ?_;have hS:=adh 216 zO b off n cap f h dS st hs;refine bN (f:=.func 145) (cap:=#[]) hC hS rfl zS rfl rfl aJ aq zS aM aq zS (by intro k hk;rfl) ?_ ?_
 ·intro v ns hV k hk;rw [ph hV k hk];omega
 ·intro v ns hV;rcases hV with ⟨Xx,rfl,rfl⟩|⟨c,g,jM,HT,hg,rfl,rfl⟩
  ·
   refine n7 trivial ?_;refine bH ?_;refine fO ?_;refine ⟨.inr trivial,zS,_,_,λk=>k,.inl ⟨Xx,rfl,rfl⟩,λ_ _=>rfl,zS,zS,by simp [results124,ren,aT,aw,aA],zS⟩
  ·
   refine n7 trivial ?_;refine bH ?_;refine fO ?_;refine ⟨.inr trivial,dH G0F (λpp mG=>?_) (λk hk=>by rw [aj _ _ zO]),_,_,λk=>if k=1000 then 216 else k,.inr ⟨c,g,jM,HT,hg,rfl,rfl⟩,λk hk=>ab zO,zS,zS,by simp [results124,ren,aT,aw,aA],fZ⟩;have:=(hL.big pp mG).2;rw [aj _ _ zO]
theorem Uq {nk tz off n cap:Nat} {st:Int} {ρ:cI} (g5:ρ 100=100) (h0:ρ nk=tz):RR ρ (Hm nk st off n cap)=Hm tz st off n cap:=by
 funext v ns;apply propext;constructor
 ·rintro ⟨v0,uo,⟨rfl,rfl⟩,rfl,rfl⟩;exact ⟨by simp [ren,aT,aw,aA,h0],by simp [rnL,qY,g5,h0]⟩
 ·rintro ⟨rfl,rfl⟩;exact ⟨_,_,⟨rfl,rfl⟩,by simp [ren,aT,aw,aA,h0],by simp [rnL,qY,g5,h0]⟩
theorem tD {nk off n cap:Nat} {st:Int} {v:Value} {ns:bS} (h:Hm nk st off n cap v ns):∀ k∈ak ns,k=nk:=by
 obtain ⟨rfl,rfl⟩:=h;simp [ak]
theorem YN (nk:Nat) (mZ:200<=nk) (b:Blk) (off n cap:Nat) (hb:b.fx) (st:Int) :
  FunS prog G0 125 #[.agg #[.int .i64 st,.slice (some ⟨100,off,none⟩) n cap]] (hpL G0 [(100,b)]) [100] (Hm nk st off n cap):=by
 have hr:=λρ=>Blk.fx_rn hb ρ;refine (Ur b off n cap hb st).mvL G0F (aH hb) (λk=>if k=1000 then nk else k) (λk hk=>ab zO) ay ah (Uq rfl rfl) (aH hb).low cj ah (λv ns hV k hk=>?_) (λv ns hV k hk l hl e=>by rw [tD hV k hk,tD hV l hl]);rw [tD hV k hk];simp;omega
def pnk (nk nb nv k:Nat):Nat:=if k=100 then nk else if k=108 then nb else if k=1000 then nv else k
theorem adf {nk nb nv:Nat} (k:Nat) (hk:k<100):pnk nk nb nv k=k:=by
 unfold pnk;rw [ab zO,ab zO,ab zO]
theorem ada (nk nv:Nat) (mZ:200<=nk) (hnv:nk+1<=nv) (b:Blk) (off n cap:Nat) (f:aS) (h:SB b off n f) (dS:n<=cap) (st:Int) (hs:i64 st) :
  FunS prog G0 124 #[.func (.func 146) #[] #[.pointer (some ⟨nk,0,none⟩)]] (hpL G0 [(100,b),(nk,bI st 100 off n cap)]) [nk,100] (PrR nv (prs st f n).length (pF (prs st f n))):=by
 have hr:=λρ=>Blk.fx_rn h.fx ρ;have d0:pnk nk 100 nv 100=nk:=by simp [pnk]
 have d1:pnk nk 100 nv 108=100:=by simp [pnk]
 have d5:pnk nk 100 nv 1000=nv:=by simp [pnk]
 have n0:¬nk=100:=zO;refine (YT b off n cap f h dS st hs).mvL G0F (tF h.fx st off n cap) (pnk nk 100 nv) adf rX (by simp [prL,ak,d0,d1]) (Qq d5) ?_ ?_ ?_ (λv ns hV k hk=>?_) (λv ns hV k hk l hl _=>vT)
 ·intro k hk;simp (disch:=omega) only [aW,dm,ab]
 ·simp [prL,d0,d1,qY,hr,n0];omega
 ·simp [prL,ak,d0,d1];omega
 ·rw [ph hV k hk,d5];simp;omega
theorem Qf (b:Blk) (off n cap:Nat) (f:aS) (h:SB b off n f) (dS:n<=cap) (st:Int) (hs:i64 st) :
  FunS prog G0 97 #[.agg #[.int .i64 st,.slice (some ⟨100,off,none⟩) n cap]] (hpL G0 [(100,b)]) (ak [(100,b)]) (PrR 1000 (prs st f n).length (pF (prs st f n))):=by
 refine dJ (B:=200) G0F func97 rfl call97 (aH h.fx) ?_ (LB zO) (by simp [ntmps97]) zO ?_
 ·exact bG
 intro C hC bQ hY;refine fO ?_;refine gj ?_;refine n7 trivial ?_;refine bN (f:=.func 125) (cap:=#[]) hC (YN 224 zO b off n cap h.fx st) rfl zS rfl rfl aJ aq zS aM aq zS bn (λv ns hV k hk=>by rw [tD hV k hk];omega) ?_;rintro v ns ⟨rfl,rfl⟩;refine bN (f:=.func 124) (cap:=#[]) hC (ada 224 232 zO zO b off n cap f h dS st hs) rfl zS rfl rfl aJ aq zS (by simp [okX,dk,eY]) (by simp [gev,dk]) ?_ ?_ (λv ns hV k hk=>by rw [ph hV k hk];omega) ?_
 ·simp [bW]
 ·intro k hk;simp (disch:=omega) only [bW,aj,aW,dm,ab]
 intro v ns hV;rcases hV with ⟨hl,rfl,rfl⟩|⟨c,g,jM,HT,hg,rfl,rfl⟩
 ·
  refine n7 trivial ?_;refine bH ?_;refine fO ?_;refine ⟨.inr trivial,G4 G0F,_,_,λk=>k,.inl ⟨hl,rfl,rfl⟩,λ_ _=>rfl,zS,zS,by simp [results97,ren,aT,aw,aA],zS⟩
 ·
  refine n7 trivial ?_;refine bH ?_;refine fO ?_;refine ⟨.inr trivial,G4 G0F,_,_,λk=>if k=1000 then 232 else k,.inr ⟨c,g,jM,HT,hg,rfl,rfl⟩,λk hk=>ab zO,zS,zS,by simp [results97,ren,aT,aw,aA],fZ⟩
theorem Ui (nb nk:Nat) (ju:100<=nb) (nz:100<=nk) (hbk:nb≠nk) (b:Blk) (off n cap:Nat) (f:aS) (h:SB b off n f) (dS:n<=cap) (st:Int) (hs:i64 st) :
  FunS prog G0 97 #[.agg #[.int .i64 st,.slice (some ⟨nb,off,none⟩) n cap]] (hpL G0 [(nb,b)]) [nb] (PrR nk (prs st f n).length (pF (prs st f n))):=by
 have hr:=λρ=>Blk.fx_rn h.fx ρ;refine (Qf b off n cap f h dS st hs).mvL G0F (aH h.fx) (nn2 nb nk) Lq vW vN (Qq Ag) (KP ju) (by simp [Nz,hr,ju]) ah (λv ns hV k hk=>?_) (λv ns hV k hk l hl _=>vT);rw [ph hV k hk,Ag];simp;exact ⟨nz,λe=>hbk e.symm⟩
theorem vQ {p:Prop} (h:p:=by simp [aN,cp,aL,aR,ak,clL]):p:=h
theorem rG {p:Prop} (h:p:=by simp [ak,clL];rfl):p:=h
theorem wj {p:Prop} (h:p:=by simp [ak,ipL];rfl):p:=h
theorem Eb {p:Prop} (h:p:=by
 unfold cfV
 repeat' first|refine cM ?_|((first|refine gwR [43] ?_|refine gwD [43] ?_);intro Q hQ _;(repeat first|simp [hC,hY]|refine az mW G0F (B:=200) (aH h.fx) (λk=>k) (λk hk=>rfl) cY zS cj ah ax ?_);refine cQ hQ ?_)|fail
 refine ⟨.inr trivial,G4 G0F,_,_,λk=>if k=1000 then 200 else if k=1001 then 240 else k,⟨rfl,rfl⟩,λk hk=>?_,zS,zS,by simp [results98,ren,aT,aw,aA],?_⟩
 ·dsimp only;rw [ab zO,ab zO]
 ·simp [yU,Hu];simp [cfB,bB]):p:=h
def bB (x:Bool):Blk:=⟨#[.bool x],.ty 4⟩
theorem Hu {x:Bool} {ρ:cI}:(bB x).rn ρ=bB x:=by simp [bB,Blk.rn,aw,aA]
theorem yU {k off n cap:Nat} {g bx tp nr md:Int} {ρ:cI}:(cfB (.slice (some ⟨k,off,none⟩) n cap) g bx tp nr md).rn ρ=cfB (.slice (some ⟨ρ k,off,none⟩) n cap) g bx tp nr md:=by simp [cfB,Blk.rn,aw,aA]
def vo (ok:Bool) (nr sq:Int):Bool:=ok&&decide (sq<Int.bmod (nr*nr) 18446744073709551616)
def clL (bm:Blk) (off n cap:Nat) (g bx tp nr md:Int) (ok:Bool):List (Nat×Blk):=[(100,bm),(108,cfB (.slice (some ⟨100,off,none⟩) n cap) g bx tp nr md),(116,bB ok)]
theorem yV {bm:Blk} (hB:bm.fx) (off n cap:Nat) (g bx tp nr md:Int) (ok:Bool):LOk (clL bm off n cap g bx tp nr md ok) 200:=⟨by simp [clL],by simp [clL,ak],by
 simp only [clL,al,aB,aC,dC,bR];exact ⟨Blk.fx_ids hB _,we,by simp [bB,aF,aL,aR]⟩⟩
theorem Rq (bm:Blk) (off n cap:Nat) (hB:bm.fx) (g bx tp nr md:Int) (ok:Bool) (i j sq:Int) :
  Fun prog G0 126 #[.agg #[.int .i64 i,.int .i64 j,.int .i64 sq],.pointer (some ⟨116,0,none⟩),.pointer (some ⟨108,0,none⟩)] (hpL G0 (clL bm off n cap g bx tp nr md ok)) (ak (clL bm off n cap g bx tp nr md ok)) (.ret (.bool (vo ok nr sq)) []):=by
 refine de (B:=200) G0F func126 rfl call126 (yV hB off n cap g bx tp nr md ok) ?_ zS zS zS (by simp [ntmps126]) zO ?_
 ·exact vQ
 intro C hC bQ hY;unfold clL cfB bB vo
 cases ok with
 | false =>
  refine fO ?_;exact eS results126
 | true =>
  by_cases c:sq<Int.bmod (nr*nr) 18446744073709551616
  ·have e:decide (sq<Int.bmod (nr*nr) 18446744073709551616)=true:=bZ c;rw [e];refine dy (k2 c e) ?_;exact eS results126
  ·have e:decide (sq<Int.bmod (nr*nr) 18446744073709551616)=false:=aX c;rw [e];refine dy (k2 c e) ?_;exact eS results126
def AJ (nk off n cap:Nat) (g bx tp nr md:Int) (ok:Bool) (v:Value) (ns:bS):Prop:=v=.func (.func 126) #[] #[.pointer (some ⟨nk+1,0,none⟩),.pointer (some ⟨nk,0,none⟩)]/\ns=[(nk,cfB (.slice (some ⟨100,off,none⟩) n cap) g bx tp nr md),(nk+1,bB ok)]
theorem Tv (b:Blk) (off n cap:Nat) (f:aS) (h:MB b off n f) (g bx tp nr md:Int) :
  FunS prog G0 98 #[cfV (.slice (some ⟨100,off,none⟩) n cap) g bx tp nr md] (hpL G0 [(100,b)]) (ak [(100,b)]) (AJ 1000 off n cap g bx tp nr md (eQ n f g bx tp nr md)):=by
 refine dJ (B:=200) G0F func98 rfl call98 (aH h.fx) ?_ ?_ (by simp [ntmps98]) zO ?_
 ·exact mu
 ·rintro v ns ⟨rfl,rfl⟩;refine ⟨dD,by simp [cfB,bB,aF,aL,aR,cJ,ak],?_⟩;exact Gf
 intro C hC bQ hY;have hr:=λρ=>Blk.fx_rn h.fx ρ;have mW:=AV b off n cap f h g bx tp nr md
 cases hc:eQ n f g bx tp nr md with
 | true =>
  rw [hc] at mW;simp only [aU] at mW;exact Eb
 | false =>
  rw [hc] at mW;simp only [gB,bY] at mW;exact Eb
theorem Tu {nk tz off n cap:Nat} {g bx tp nr md:Int} {ok:Bool} {ρ:cI} (g5:ρ 100=100) (h0:ρ nk=tz) (h1:ρ (nk+1)=tz+1):RR ρ (AJ nk off n cap g bx tp nr md ok)=AJ tz off n cap g bx tp nr md ok:=by
 funext v ns;apply propext;constructor
 ·rintro ⟨v0,uo,⟨rfl,rfl⟩,rfl,rfl⟩;exact ⟨rb,by simp [rnL,yU,Hu,g5,h0,h1]⟩
 ·rintro ⟨rfl,rfl⟩;exact ⟨_,_,⟨rfl,rfl⟩,rb,by simp [rnL,yU,Hu,g5,h0,h1]⟩
theorem yW {nk off n cap:Nat} {g bx tp nr md:Int} {ok:Bool} {v:Value} {ns:bS} (h:AJ nk off n cap g bx tp nr md ok v ns):∀ k∈ak ns,nk<=k/\k<nk+2:=by
 exact xp
theorem WB (nk:Nat) (mZ:200<=nk) (b:Blk) (off n cap:Nat) (f:aS) (h:MB b off n f) (g bx tp nr md:Int) :
  FunS prog G0 98 #[cfV (.slice (some ⟨100,off,none⟩) n cap) g bx tp nr md] (hpL G0 [(100,b)]) [100] (AJ nk off n cap g bx tp nr md (eQ n f g bx tp nr md)):=by
 have hr:=λρ=>Blk.fx_rn h.fx ρ;have e2:∀ j,j<2->up2 nk (1000+j)=nk+j:=λj hj=>by unfold up2;rw [ai zO,ai zO];omega
 have KX:up2 nk 100=100:=by simp [up2]
 have mN:∀ v ns,AJ 1000 off n cap g bx tp nr md (eQ n f g bx tp nr md) v ns->∀ k∈ak ns,∃ j,j<2/\k=1000+j:=by
  intro v ns hV k hk;have:=yW hV k hk;exact ⟨k - 1000,zO,zO⟩
 refine (Tv b off n cap f h g bx tp nr md).mvL G0F (aH h.fx) (up2 nk) (λk hk=>by unfold up2;rw [ab zO]) (by simp [cfV,ren,aT,aw,aA,KX]) (by simp [ak,KX]) (Tu KX (e2 0 zO) (e2 1 zO)) (aH h.fx).low (by simp [KX,hr]) ah (λv ns hV k hk=>?_) (λv ns hV k hk l hl e=>?_)
 ·obtain ⟨j,hj,rfl⟩:=mN v ns hV k hk;rw [e2 j hj];simp;omega
 ·obtain ⟨j,hj,rfl⟩:=mN v ns hV k hk;obtain ⟨i,hi,rfl⟩:=mN v ns hV l hl;rw [e2 j hj,e2 i hi] at e;omega
theorem afb {c m:Nat} {a:aS} {T:BTy} {i:Nat} (hi:i<m) (hc:m<=c) (hT:T.rd=true):ft prog 85 ⟨fa (3*c) .i64 a,T⟩ (i*3)=some (.agg #[.int .i64 (a (3*i)),.int .i64 (a (3*i+1)),.int .i64 (a (3*i+2))]):=by
 have:=sY (P:=prog) (T:=85) (m:=3) (j:=3*i) (cO isAgg85) (aZ sizeOf85) zO (zi (3*c) a T) zO;rw [(zO:i*3=0+3*i),this,MG]
 rfl
def Hs (ok:Bool) (nr:Int) (l:List Pr):Bool:=l.any λp=>vo ok nr p.2.2
theorem Wh {ok:Bool} {nr:Int} {l:List Pr} (h:∀ i,i<l.length->vo ok nr (pF l (3*i+2))=false):Hs ok nr l=false:=by
 unfold Hs;rw [jY];intro p hp;obtain ⟨i,hi,e⟩:=List.mem_iff_getElem.1 hp;have:=h i hi;rw [(YJ (p:=p) (by simp [hi,e])).2.2] at this;simp [this]
theorem Wi {ok:Bool} {nr:Int} {l:List Pr} {N:Nat} (hN:N<l.length) (h:vo ok nr (pF l (3*N+2))=true):Hs ok nr l=true:=by
 unfold Hs;rw [List.any_eq_true];exact ⟨l[N],uE hN,by rwa [(YJ (p:=l[N]) (by simp [hN])).2.2] at h⟩
def ipL (bm:Blk) (off n cap:Nat) (g bx tp nr md:Int) (ok:Bool) (c:Nat) (a:aS):List (Nat×Blk):=[(100,bm),(108,cfB (.slice (some ⟨100,off,none⟩) n cap) g bx tp nr md),(116,bB ok),(124,⟨fa (3*c) .i64 a,.ty 85⟩)]
theorem H0 {bm:Blk} (hB:bm.fx) (off n cap:Nat) (g bx tp nr md:Int) (ok:Bool) (c:Nat) (a:aS):LOk (ipL bm off n cap g bx tp nr md ok c a) 200:=⟨by simp [ipL],by simp [ipL,ak],by
 simp only [ipL,al,aB,aC,dC,bR];exact ⟨Blk.fx_ids hB _,we,by simp [bB,aF,aL,aR],Blk.fx_ids (dI _ _ _) _⟩⟩
def ab7 (bm:Blk) (off n cap:Nat) (g bx tp nr md:Int) (ok:Bool) (m c:Nat) (a:aS) (i:Nat):GS :=
 ⟨tsL [(0,.slice (some ⟨124,0,none⟩) m c),(1,.func (.func 126) #[] #[.pointer (some ⟨116,0,none⟩),.pointer (some ⟨108,0,none⟩)]),(7,.int .i64 m),(8,.int .i64 i)],hpL G0 (ipL bm off n cap g bx tp nr md ok c a),300,0⟩
theorem adb (bm:Blk) (off n cap:Nat) (hB:bm.fx) (g bx tp nr md:Int) (ok:Bool) (l:List Pr) (c:Nat) (a:aS) (hl6:l.length<=6) (hlc:l.length<=c) (ha:∀ j,j<3*l.length->a j=pF l j) (N:Nat) (hN:N<=l.length) (cA:∀ i,i<N->vo ok nr (pF l (3*i+2))=false) (cm:N=l.length\/vo ok nr (pF l (3*N+2))=true) :
  Fun prog G0 123 #[.slice (some ⟨124,0,none⟩) l.length c,.func (.func 126) #[] #[.pointer (some ⟨116,0,none⟩),.pointer (some ⟨108,0,none⟩)]] (hpL G0 (ipL bm off n cap g bx tp nr md ok c a)) (ak (ipL bm off n cap g bx tp nr md ok c a)) (.ret (.int .i64 (if N=l.length then -1 else N)) []):=by
 refine de (B:=200) G0F func123 rfl call123 (H0 hB off n cap g bx tp nr md ok c a) ?_ zS zS zS (by simp [ntmps123]) zO ?_
 ·simp [aN,cp,aL,aR,ak,ipL]
 intro C hC bQ hY;have iZ:=λD=>Blk.fx_ids hB D;have IW:=λD=>Blk.fx_ids (dI (3*c) a 85) D;have hr:=λρ=>Blk.fx_rn hB ρ;obtain ⟨m,hm⟩:∃ m,l.length=m:=⟨_,rfl⟩
 rw [hm] at hl6 hlc ha hN cm |-;refine fO ?_;refine jQ N (ab7 bm off n cap g bx tp nr md ok m c a) ?_ ?_ ?_
 ·refine dv _ 300 hC G0F (m0:=ipL bm off n cap g bx tp nr md ok c a) bQ zO ?_ ?_ ?_
  ·simp [aN,cp,aL,aR,dom,ipL]
  ·simp [ipL,cfB,bB,aF,aL,aR,dom,iZ,IW]
  ·simp [ipL]
 ·intro i hi;have dR:i<m:=zO;have cv:(i:Int)<m:=zO;have hz:(0:Int)<=i:=zO;have hs:Int.bmod ((i:Int)+1) 18446744073709551616=((i+1:Nat):Int):=by rw [Go.Gy.bm zO zO];rfl
  have uk:=afb (T:=.ty 85) (a:=a) dR hlc rfl;rw [ha (3*i+2) zO] at uk;have hq:=cA i hi;unfold ab7 ipL
  repeat' first|refine cM ?_|((first|refine gwR [126] ?_|refine gwD [126] ?_);intro Q hQ _;(repeat first|simp [hC,hY,hi,dR,cv,hz,hs,uk,hq]|refine az (Rq bm off n cap hB g bx tp nr md ok (a (3*i)) (a (3*i+1)) (pF l (3*i+2))) G0F (B:=200) (yV hB off n cap g bx tp nr md ok) (λk=>k) (λk hk=>rfl) ay zS (by simp [clL,hr,yU,Hu]) (by simp [ak,clL]) rG ?_);refine cQ hQ ?_)|fail
  refine dv _ 300 hC G0F (m0:=ipL bm off n cap g bx tp nr md ok c a) bQ zO ?_ ?_ ?_
  ·simp [aN,cp,aL,aR,dom,hs,ipL]
  ·simp [ipL,cfB,bB,aF,aL,aR,dom,iZ,IW]
  ·simp [ipL]
 ·by_cases pY:N=m
  ·subst pY;simp only [aU];unfold ab7;refine fO ?_;refine ⟨.inr rfl,by simp [results123],dH G0F (by simp [ipL]) bn⟩
  ·have dR:N<m:=zO;have cv:(N:Int)<m:=zO;have hz:(0:Int)<=N:=zO;have uk:=afb (T:=.ty 85) (a:=a) dR hlc rfl;rw [ha (3*N+2) zO] at uk;have hq:=cm.resolve_left pY;rw [ab pY];unfold ab7 ipL
   repeat' first|refine cM ?_|((first|refine gwR [126] ?_|refine gwD [126] ?_);intro Q hQ _;(repeat first|simp [hC,hY,dR,cv,hz,uk,hq]|refine az (Rq bm off n cap hB g bx tp nr md ok (a (3*N)) (a (3*N+1)) (pF l (3*N+2))) G0F (B:=200) (yV hB off n cap g bx tp nr md ok) (λk=>k) (λk hk=>rfl) ay zS (by simp [clL,hr,yU,Hu]) (by simp [ak,clL]) rG ?_);refine cQ hQ ?_)|fail
   exact eS results123
theorem ac9 (bm:Blk) (off n cap:Nat) (hB:bm.fx) (g bx tp nr md:Int) (ok:Bool) (l:List Pr) (c:Nat) (a:aS) (hl6:l.length<=6) (hlc:l.length<=c) (ha:∀ j,j<3*l.length->a j=pF l j) :
  Fun prog G0 96 #[.slice (some ⟨124,0,none⟩) l.length c,.func (.func 126) #[] #[.pointer (some ⟨116,0,none⟩),.pointer (some ⟨108,0,none⟩)]] (hpL G0 (ipL bm off n cap g bx tp nr md ok c a)) (ak (ipL bm off n cap g bx tp nr md ok c a)) (.ret (.bool (Hs ok nr l)) []):=by
 refine de (B:=200) G0F func96 rfl call96 (H0 hB off n cap g bx tp nr md ok c a) ?_ zS zS zS (by simp [ntmps96]) zO ?_
 ·simp [aN,cp,aL,aR,ak,ipL]
 intro C hC bQ hY;obtain ⟨N,hN,cA,cm⟩:=H4 (λi=>!(vo ok nr (pF l (3*i+2)))) l.length;simp only [nP,Bool.not_eq_false'] at cA cm;have hr:=λρ=>Blk.fx_rn hB ρ;have hix:=adb bm off n cap hB g bx tp nr md ok l c a hl6 hlc ha N hN cA cm;unfold ipL;by_cases pY:N=l.length
 ·rw [Wh (λi hi=>cA i zO)];rw [ai pY] at hix
  repeat' first|refine cM ?_|((first|refine gwR [123] ?_|refine gwD [123] ?_);intro Q hQ _;(repeat first|simp [hC,hY]|refine az hix G0F (B:=200) (H0 hB off n cap g bx tp nr md ok c a) (λk=>k) (λk hk=>rfl) ay zS (by simp [ipL,Blk.rn_id]) ah wj ?_);refine cQ hQ ?_)|fail
  exact eS results96
 ·rw [Wi zO (cm.resolve_left pY)];rw [ab pY] at hix;have hz:(0:Int)<=N:=zO
  repeat' first|refine cM ?_|((first|refine gwR [123] ?_|refine gwD [123] ?_);intro Q hQ _;(repeat first|simp [hC,hY,hz]|refine az hix G0F (B:=200) (H0 hB off n cap g bx tp nr md ok c a) (λk=>k) (λk hk=>rfl) ay zS (by simp [ipL,Blk.rn_id]) ah wj ?_);refine cQ hQ ?_)|fail
  exact eS results96
theorem YU (bm:Blk) (off n cap:Nat) (hB:bm.fx) (g bx tp nr md:Int) (ok:Bool) :
  Fun prog G0 123 #[.slice none 0 0,.func (.func 126) #[] #[.pointer (some ⟨116,0,none⟩),.pointer (some ⟨108,0,none⟩)]] (hpL G0 (clL bm off n cap g bx tp nr md ok)) (ak (clL bm off n cap g bx tp nr md ok)) (.ret (.int .i64 (-1)) []):=by
 refine de (B:=200) G0F func123 rfl call123 (yV hB off n cap g bx tp nr md ok) ?_ zS zS zS (by simp [ntmps123]) zO ?_
 ·exact vQ
 intro C hC bQ hY
 repeat' first|refine cH ?_|refine dc ?_|refine cM ?_|refine gwW ?_|fail
 exact eS results123
theorem YS (bm:Blk) (off n cap:Nat) (hB:bm.fx) (g bx tp nr md:Int) (ok:Bool) :
  Fun prog G0 96 #[.slice none 0 0,.func (.func 126) #[] #[.pointer (some ⟨116,0,none⟩),.pointer (some ⟨108,0,none⟩)]] (hpL G0 (clL bm off n cap g bx tp nr md ok)) (ak (clL bm off n cap g bx tp nr md ok)) (.ret (.bool false) []):=by
 refine de (B:=200) G0F func96 rfl call96 (yV hB off n cap g bx tp nr md ok) ?_ zS zS zS (by simp [ntmps96]) zO ?_
 ·exact vQ
 intro C hC bQ hY;have hr:=λρ=>Blk.fx_rn hB ρ;unfold clL
 repeat' first|refine cM ?_|((first|refine gwR [123] ?_|refine gwD [123] ?_);intro Q hQ _;(repeat first|simp [hC,hY]|refine az (YU bm off n cap hB g bx tp nr md ok) G0F (B:=200) (yV hB off n cap g bx tp nr md ok) (λk=>k) (λk hk=>rfl) ay zS (by simp [clL,Blk.rn_id]) ah rG ?_);refine cQ hQ ?_)|fail
 exact eS results96
end Go.Gy
namespace Go.Gy
open Go Go.RowKit Go.Proofs Go.Proofs.Tryz
theorem ru {p:Prop} (h:p:=by simp [bW,hA,hS,df]):p:=h
theorem aaa {p:Prop} (h:p:=by
 refine yO follows ?_;simp only [Array.toList,fA,gP,Nat.reduceAdd]
 repeat' (first
  | refine eA [0,2] bd rfl (mA ?_ ?_)
  | refine eA [1,2] bd rfl (mA ?_ ?_)
  | refine eA [0,3] bd rfl (mA ?_ ?_)
  | refine eA [1,3] bd rfl (mA ?_ ?_)
  | refine eA [0] bd rfl (iv ?_)
  | refine eA [1] bd rfl (iv ?_)
  | refine eA [2] bd rfl (iv ?_)
  | refine eA [3] bd rfl (iv ?_)
  | refine eA [4] bd rfl (iv ?_)
  | refine eA [5] bd rfl (iv ?_)
  | refine Hc bd ?_
  | (
   refine KG [96] rfl ae (by first|assumption|simp) ?_;intro q hq;simp [hC,hY,dk,bW,hA,hS,df,tj];(repeat ((first|(refine az (ac9 bm off n cap hm.fx g bx tp nr md true l c a hln HT hg) G0F (B:=200) (H0 hm.fx off n cap g bx tp nr md true c a) (λk=>if k=108 then 320 else if k=116 then 321 else if k=124 then 304 else k) (λk hk=>(ab zO).trans ((ab zO).trans (ab zO))) ay zS (by simp [ipL,hrm,yU,Hu,ic,hA]) (by simp [ak,ipL]) wj ?_));try simp [hC,hY,dk,bW,hA,hS,df,tj]));refine hq _ _ _ _ ?_;clear hq q
   )
  | (
   refine lf (f:=.func 97) (cap:=#[]) hC hpr rfl rfl rfl zS rfl rfl aJ aq zS ou vG ru cS ?_ ?_
   ·intro v ns hV k hk;rw [ph hV k hk];simp
   rintro v ns (⟨h0,rfl,rfl⟩|⟨c,a,jM,HT,hg,rfl,rfl⟩)
   ·exact absurd (List.length_eq_zero_iff.1 h0) Xx
   )
  | (
   refine lf (f:=.func 98) (cap:=#[]) hC mM rfl rfl rfl zS rfl rfl aJ aq zS ou (by simp [gev,dk,upd,cfV]) ru cS ?_ ?_
   ·intro v ns hV k hk;have:=yW hV k hk;simp;omega
   rintro v ns ⟨rfl,rfl⟩)
  )
 all_goals (
  refine dy (k3 hA hS df) ?_
  )
 all_goals (refine ⟨.inr rfl,by simp [results68],I1 G0F⟩)):p:=h
def nkE (ok rt:Bool) (nr:Int) (l:List Pr):Int:=if ok=true then if rt=true then if Hs ok nr l=true then 130 else 0 else 2 else 2
theorem Nw (L:bS) (ks:Nat) (bm bs:Blk) (hT:LTwo G0 L ks bm bs) (off n cap ao n2 av:Nat) (fm fs:aS) (hm:MB bm off n fm) (cf:SB bs ao n2 fs) (dS:n2<=av) (g bx tp nr md st:Int) (hs:i64 st) :
  Fun prog G0 68 #[cfV (.slice (some ⟨100,off,none⟩) n cap) g bx tp nr md,.agg #[.int .i64 st,.slice (some ⟨ks,ao,none⟩) n2 av]] (hpL G0 L) (ak L) (.ret (.int .i64 (nkE (eQ n fm g bx tp nr md) (aV st fs n2) nr (prs st fs n2))) []):=by
 refine de (B:=200) G0F func68 rfl call68 hT.ok ?_ zS zS zS (by simp [ntmps68]) zO ?_
 ·exact dE
 intro C hC bQ hY;have hA:=hT.a;have hS:=hT.s;have df:=hT.ne;have jW:=hT.low;have mY:=hT.k1;have nA:=hT.k2;have hrm:=λρ=>Blk.fx_rn hm.fx ρ;have Gz:=λρ=>Blk.fx_rn cf.fx ρ;have hln:=Su st fs n2;have mM:=WB 320 zO bm off n cap fm hm g bx tp nr md;have hpr:=Ui ks 304 mY zO zO bs ao n2 av fs cf dS st hs;have mW:=AV bm off n cap fm hm g bx tp nr md;obtain ⟨l,hl⟩:∃ l,prs st fs n2=l:=⟨_,rfl⟩
 rw [hl] at hpr hln |-;unfold nkE cfV
 cases ok:eQ n fm g bx tp nr md with
 | false =>
  rw [ok] at mW;simp only [gB,bY] at mW |-
  repeat' first|refine cM ?_|((first|refine gwR [43,44] ?_|refine gwD [43,44] ?_);intro Q hQ _;(repeat first|simp [hC,hY,hA,hS,df]|refine az mW G0F (B:=200) (aH hm.fx) (λk=>k) (λk hk=>rfl) cY zS iV ah ax ?_);refine cQ hQ ?_)|fail
  exact eT results68
 | true =>
  rw [ok] at mW mM;simp only [aU] at mW |-
  cases rt:aV st fs n2 with
  | false =>
   simp only [gB,bY]
   repeat' first|refine cM ?_|((first|refine gwR [43,44] ?_|refine gwD [43,44] ?_);intro Q hQ _;(repeat first|simp [hC,hY,rt,hA,hS,df]|refine az mW G0F (B:=200) (aH hm.fx) (λk=>k) (λk hk=>rfl) cY zS iV ah ax ?_|refine az (iN bs ao n2 av fs cf st hs) G0F (B:=200) (aH cf.fx) (λk=>if k=100 then ks else k) (λk hk=>ab zO) ay zS jw ah ax ?_);refine cQ hQ ?_)|fail
   exact eT results68
  | true =>
   simp only [aU]
   repeat' first|refine cM ?_|((first|refine gwR [43,44] ?_|refine gwD [43,44] ?_);intro Q hQ _;(repeat first|simp [hC,hY,rt,hA,hS,df]|refine az mW G0F (B:=200) (aH hm.fx) (λk=>k) (λk hk=>rfl) cY zS iV ah ax ?_|refine az (iN bs ao n2 av fs cf st hs) G0F (B:=200) (aH cf.fx) (λk=>if k=100 then ks else k) (λk hk=>ab zO) ay zS jw ah ax ?_);refine cQ hQ ?_)|fail
   by_cases Xx:l=[]
   ·subst Xx;have tj:Hs true nr []=false:=rfl;rw [tj];simp only [gB,bY];refine yO follows ?_;simp only [Array.toList,fA,gP,Nat.reduceAdd]
    repeat' (first
     | refine eA [0,2] bd rfl (mA ?_ ?_)
     | refine eA [1,2] bd rfl (mA ?_ ?_)
     | refine eA [0,3] bd rfl (mA ?_ ?_)
     | refine eA [1,3] bd rfl (mA ?_ ?_)
     | refine eA [0] bd rfl (iv ?_)
     | refine eA [1] bd rfl (iv ?_)
     | refine eA [2] bd rfl (iv ?_)
     | refine eA [3] bd rfl (iv ?_)
     | refine eA [4] bd rfl (iv ?_)
     | refine eA [5] bd rfl (iv ?_)
     | refine Hc bd ?_
     | (
      refine KG [96] rfl ae (by first|assumption|simp) ?_;intro q hq;simp [hC,hY,dk,bW,hA,hS,df];(repeat ((first|(refine az (YS bm off n cap hm.fx g bx tp nr md true) G0F (B:=200) (yV hm.fx off n cap g bx tp nr md true) (λk=>if k=108 then 320 else if k=116 then 321 else k) (λk hk=>(ab zO).trans (ab zO)) ay zS (by simp [clL,hrm,yU,Hu,hA]) (by simp [ak,clL]) rG ?_));try simp [hC,hY,dk,bW,hA,hS,df]));refine hq _ _ _ _ ?_;clear hq q
      )
     | (
      refine lf (f:=.func 97) (cap:=#[]) hC hpr rfl rfl rfl zS rfl rfl aJ aq zS ou vG ru cS ?_ ?_
      ·intro v ns hV k hk;rw [ph hV k hk];simp
      rintro v ns (⟨_,rfl,rfl⟩|⟨c,a,jM,HT,hg,rfl,rfl⟩);rotate_left
      ·exact absurd jM zS
      )
     | (
      refine lf (f:=.func 98) (cap:=#[]) hC mM rfl rfl rfl zS rfl rfl aJ aq zS ou (by simp [gev,dk,upd,cfV]) ru cS ?_ ?_
      ·intro v ns hV k hk;have:=yW hV k hk;simp;omega
      rintro v ns ⟨rfl,rfl⟩)
     )
    all_goals (
     refine dy (k3 hA hS df) ?_
     )
    all_goals (refine ⟨.inr rfl,by simp [results68],I1 G0F⟩)
   ·cases tj:Hs true nr l with
    | false =>
     simp only [gB,bY];exact aaa
    | true =>
     simp only [aU];exact aaa
theorem Cb {p:Prop} (h:p:=by simp [e0,e1,rm,rs,hk.a,hk.s,g5,hk.k1]):p:=h
theorem CN {p:Prop} (h:p:=by simp [ak,e0,e1];exact ⟨hk.ne,λe=>hk.ne e.symm⟩):p:=h
theorem re {p:Prop} (h:p:=by unfold kaN;rw [ab zO,ab zO]):p:=h
theorem DS {p:Prop} (h:p:=by
 have h2:nr*nr<=2097152*2097152:=cU h1.2 h1.2 zO zO;have h3:0<=nr*nr:=cz zO zO;exact Go.Gy.bm zO zO):p:=h
theorem Fg {p:Prop} (h:p:=by
 rcases this with rfl|rfl|rfl|rfl
 ·omega
 ·obtain ⟨rfl,rfl⟩:i=0/\k=1:=zO;simp [vx]
 ·obtain ⟨rfl,rfl⟩|⟨rfl,rfl⟩|⟨rfl,rfl⟩:(i=0/\k=1)\/(i=0/\k=2)\/(i=1/\k=2):=zO
  all_goals simp [vx]
 ·obtain ⟨rfl,rfl⟩|⟨rfl,rfl⟩|⟨rfl,rfl⟩|⟨rfl,rfl⟩|⟨rfl,rfl⟩|⟨rfl,rfl⟩:(i=0/\k=1)\/(i=0/\k=2)\/(i=0/\k=3)\/(i=1/\k=2)\/(i=1/\k=3)\/(i=2/\k=3):=zO
  all_goals simp [vx]):p:=h
theorem DA {p:Prop} (h:p:=by
 have:=PQ _ v ns hV k g8;obtain ⟨j,rfl⟩:∃ j,k=1000+j:=⟨k - 1000,zO⟩
 rw [e2];simp;omega):p:=h
theorem Fm {p:Prop} (h:p:=by
 have h1:=PQ _ v ns hV k g8;have h2:=PQ _ v ns hV l hl;obtain ⟨j,rfl⟩:∃ j,k=1000+j:=⟨k - 1000,zO⟩
 obtain ⟨i,rfl⟩:∃ i,l=1000+i:=⟨l - 1000,zO⟩
 rw [e2,e2] at e;omega):p:=h
theorem aed {st:Int} {f:aS} {n:Nat} {p q:Int} (h:drE st f n p q=0):drF st f n p q=mvF f p q:=ai h
theorem abl {st:Int} {f:aS} {n:Nat} {p q:Int} (hf:∀ j,j<6*n->i64 (f j)) {j:Nat} (hj:j<6*n):i64 (drF st f n p q j):=by
 by_cases hE:drE st f n p q=0
 ·rw [aed hE]
  have fJ:okB f p q (j / 6)=true:=by
   unfold drE at hE;split at hE
   ·split at hE
    ·rename_i h;exact zG.1 h _ zO
    ·cases hE
   ·cases hE
  unfold okB at fJ;obtain ⟨a0,a1,a2⟩:=tt.1 fJ;unfold inW at a0 a1 a2;unfold mvF;split
  ·rename_i hm;have hc:j%6=0\/j%6=1\/j%6=2:=zO;have hd:6*(j / 6)+j%6=j:=zO;rcases hc with e|e|e
   ·rw [e] at hd |-;rw [dZ] at hd;rw [hd] at a0;exact jy
   ·rw [e] at hd |-;rw [hd] at a1;exact jy
   ·rw [e] at hd |-;rw [hd] at a2;exact jy
  ·exact hf j hj
 ·unfold drF;rw [ab hE];exact hf j hj
theorem iJ {n:Nat} {f:aS} {g bx tp nr md:Int} (h:eQ n f g bx tp nr md=true):(1<=bx/\bx<=1048576)/\(1<=tp/\tp<=65536)/\(1<=nr/\nr<=2097152)/\0<=md/\md<=4:=by
 unfold eQ at h;simp only [bO,wiB,fe] at h;obtain ⟨_,_,_,hb,ht,hn,hm⟩:=h;rw [bm (x:=2*bx) zO zO] at hn;omega
theorem Yo {f:aS} {n:Nat} {nr:Int} (h1:1<=nr) (h:∀ i k,i<k->k<n->¬d2F f i k<nr*nr):Li f n=false:=by
 have hp:0<nr*nr:=ki zO zO;refine Lj.2 λi hi=>acb.2 λk hk df e=>?_;by_cases c:i<k
 ·have:=h i k c hk;rw [abd] at e;omega
 ·have:=h k i zO hi;omega

theorem FunS.imp1 {f:FuncId} {args:bV} {hp:Hp} {rs:List Nat} {R R':AI} (h:FunS prog G1 f args hp rs R)
  (fp:∀ v ns,R' v ns->aN (cJ (dom (rst hp rs)) ns) v/\(∀ k∈ak ns,100<=k/\¬dom (rst hp rs) k)/\(∀ k b c,(k,b)∈ns->(k,c)∈ns->b=c)/\∀ p∈ns,p.2.ids (cJ (dom (rst hp rs)) ns))
  (hi:∀ v ns,R v ns->R' v ns):FunS prog G1 f args hp rs R' :=
 ⟨h.enter,h.ids,h.closed,fp,λr W h1 h2 h3 h4=>(h.run r W h1 h2 h3 h4).mono λe W' ⟨v,ns,r',hR,h5⟩=>⟨v,ns,r',hi v ns hR,h5⟩⟩
theorem HY {m m' x y z:Int} (h:m<=m') (hv:inV m x y z=true):inV m' x y z=true:=by
 rw [tt] at *
 unfold inW at *
 omega
theorem sJ {bx tp bx' tp':Int} {f:aS} {n:Nat} (h1:bx<=bx') (h2:tp<=tp') (h:ij bx tp f n=true):ij bx' tp' f n=true:=by
 rw [sI] at *
 intro i hi;have:=h i hi;unfold inB at *
 rw [bO] at *
 exact ⟨HY h1 this.1,HY h2 this.2⟩
theorem ni {bx tp:Int} {f h:aS} {n:Nat} (e:Eq6 n f h):ij bx tp f n=ij bx tp h n:=by
 have key:∀ f h:Nat->Int,Eq6 n f h->ij bx tp f n=true->ij bx tp h n=true:=λf h e h1=>by
  rw [sI] at *
  intro i hi;have:=h1 i hi;unfold inB at *
  rw [<-e (6*i) zO,<-e (6*i+1) zO,<-e (6*i+2) zO,<-e (6*i+3) zO,<-e (6*i+4) zO,<-e (6*i+5) zO];exact this
 cases c:ij bx tp h n with
 | true=>exact key h f e.symm c
 | false =>
  cases c2:ij bx tp f n with
  | false=>rfl
  | true=>rw [key f h e c2] at c;cases c
theorem s8 {st:Int} {f F:aS} {n:Nat} (h:aV st f n=true) (hF:ij 1048576 65536 F n=true):aV st F n=true:=by
 unfold aV at *
 rw [bO] at *
 exact ⟨h.1,hF⟩
def nrB (st:Int) (f:aS) (n:Nat) (nr:Int):Bool:=Hs true nr (prs st f n)
theorem acE {st:Int} {f:aS} {n:Nat} {nr:Int} (hr:aV st f n=true) (h1:1<=nr/\nr<=2097152) (h:nrB st f n nr=false):Li f n=false:=by
 refine Yo h1.1 λi k hik PR cA=>?_
 have hb:Int.bmod (nr*nr) 18446744073709551616=nr*nr:=by
  exact DS
 have hm:Ap f i k∈prs st f n:=by
  unfold prs;rw [ai hr];have:=ahV hr;exact Fg
 have hsq:(Ap f i k).2.2=d2F f i k:=JH (ja hr (zO:i<n)).1 (ja hr PR).1;unfold nrB Hs at h;rw [jY] at h;have:=h _ hm;unfold vo at this;rw [hsq,hb] at this;simp at this;omega
structure KaAt (hp:Hp) (ka ks:Nat) (bm bs:Blk):Prop where
 fm:bm.fx
 fs:bs.fx
 a:hp ka=some bm
 s:hp ks=some bs
 k1:100<=ks
 ne:ka≠ks
 ka8:100<=ka\/(ka=2/\bm=lmB)
def kaR (ka ks:Nat):List Nat:=if 100<=ka then [ka,ks] else [ks]
def kaM (ka ks nk k:Nat):Nat:=if k=100 then ka else if k=108 then ks else if 1000<=k then k - 1000+nk else k
def kaN (ks nk k:Nat):Nat:=if k=100 then ks else if 1000<=k then k - 1000+nk else k
section
variable {f:FuncId} {bm bs:Blk} {off n cap ao n2 av:Nat} {g bx tp nr md st:Int} {xs:bV} {hp:Hp} {ka ks:Nat}
theorem FunS.kaAt {nk:Nat} {R:Nat->Nat->Nat->Value->List (Nat×Blk)->Prop} (yH:∀ ρ,xs.map (ren ρ)=xs)
  (h:∀ (L:bS) (ka ks:Nat),LKa L ka ks bm bs->FunS prog G1 f (#[cfV (.slice (some ⟨ka,off,none⟩) n cap) g bx tp nr md,.agg #[.int .i64 st,.slice (some ⟨ks,ao,none⟩) n2 av]]++xs) (hpL G1 L) (ak L) (R ks 1000 1000))
  (PQ:∀ ks v ns,R ks 1000 1000 v ns->∀ k∈ak ns,1000<=k) (hrr:∀ ρ ks0,ρ ks0=ks->(∀ j,ρ (1000+j)=nk+j)->RR ρ (R ks0 1000 1000)=R ks nk nk)
  (hk:KaAt hp ka ks bm bs) (ba:∀ k,k<100->hp k=G1 k) (mZ:100<=nk/\ka<nk/\ks<nk) :
  FunS prog G1 f (#[cfV (.slice (some ⟨ka,off,none⟩) n cap) g bx tp nr md,.agg #[.int .i64 st,.slice (some ⟨ks,ao,none⟩) n2 av]]++xs) hp (kaR ka ks) (R ks nk nk):=by
 have rm:=λρ=>Blk.fx_rn hk.fm ρ;have rs:=λρ=>Blk.fx_rn hk.fs ρ;by_cases g5:100<=ka
 ·have hT:=LKa.two hk.fm hk.fs;have e0:kaM ka ks nk 100=ka:=by simp [kaM]
  have e1:kaM ka ks nk 108=ks:=by simp [kaM]
  have e2:∀ j,kaM ka ks nk (1000+j)=nk+j:=λj=>by unfold kaM;rw [ab zO,ab zO,ai zO];omega
  have hR:kaR ka ks=[ka,ks]:=ai g5;rw [hR];refine (h _ _ _ hT).mvL G1F hT.ok (kaM ka ks nk) (λk hk=>by unfold kaM;rw [ab zO,ab zO,ab zO]) ?_ (by simp [ak,e0,e1]) (hrr _ _ e1 e2) ba Cb CN (λv ns hV k g8=>?_) (λv ns hV k g8 l hl e=>?_)
  ·rw [nU,yH];simp [cfV,ren,aT,aw,aA,e0,e1]
  ·exact DA
  ·exact Fm
 ·obtain ⟨rfl,rfl⟩:=hk.ka8.resolve_left g5;have hT:=LKa.lim hk.fs;have e0:kaN ks nk 100=ks:=by simp [kaN]
  have e2:∀ j,kaN ks nk (1000+j)=nk+j:=λj=>by unfold kaN;rw [ab zO,ai zO];omega
  have eg:kaN ks nk 2=2:=re;have hR:kaR 2 ks=[ks]:=ab zO;rw [hR];refine (h _ _ _ hT).mvL G1F hT.ok (kaN ks nk) (λk hk=>re) ?_ (by simp [ak,e0]) (hrr _ _ e0 e2) ba (by simp [e0,rs,hk.s,hk.k1]) ah (λv ns hV k g8=>?_) (λv ns hV k g8 l hl e=>?_)
  ·rw [nU,yH];simp [cfV,ren,aT,aw,aA,e0,eg]
  ·exact DA
  ·exact Fm
theorem Fun.kaAt {v:Value} (hv:bz v=true) (yH:∀ ρ,xs.map (ren ρ)=xs)
  (h:∀ (L:bS) (ka ks:Nat),LKa L ka ks bm bs->Fun prog G1 f (#[cfV (.slice (some ⟨ka,off,none⟩) n cap) g bx tp nr md,.agg #[.int .i64 st,.slice (some ⟨ks,ao,none⟩) n2 av]]++xs) (hpL G1 L) (ak L) (.ret v []))
  (hk:KaAt hp ka ks bm bs) (ba:∀ k,k<100->hp k=G1 k) :
  Fun prog G1 f (#[cfV (.slice (some ⟨ka,off,none⟩) n cap) g bx tp nr md,.agg #[.int .i64 st,.slice (some ⟨ks,ao,none⟩) n2 av]]++xs) hp (kaR ka ks) (.ret v []):=by
 have rm:=λρ=>Blk.fx_rn hk.fm ρ;have rs:=λρ=>Blk.fx_rn hk.fs ρ;by_cases g5:100<=ka
 ·have hT:=LKa.two hk.fm hk.fs;have e0:kaM ka ks 0 100=ka:=by simp [kaM]
  have e1:kaM ka ks 0 108=ks:=by simp [kaM]
  have hR:kaR ka ks=[ka,ks]:=ai g5;rw [hR];have:=(h _ _ _ hT).rn (db:=hp) (kaM ka ks 0) G1F hT.ok.low (vz hT.ok (kaM ka ks 0) (λk hk=>by unfold kaM;rw [ab zO,ab zO,ab zO]) ba Cb CN);rw [nU,yH,bM hv] at this;simpa [cfV,ren,aT,aw,aA,e0,e1,ak,rnL] using this
 ·obtain ⟨rfl,rfl⟩:=hk.ka8.resolve_left g5;have hT:=LKa.lim hk.fs;have e0:kaN ks 0 100=ks:=by simp [kaN]
  have eg:kaN ks 0 2=2:=re;have hR:kaR 2 ks=[ks]:=ab zO;rw [hR];have:=(h _ _ _ hT).rn (db:=hp) (kaN ks 0) G1F hT.ok.low (vz hT.ok (kaN ks 0) (λk hk=>re) ba (by simp [e0,rs,hk.s,hk.k1]) ah);rw [nU,yH,bM hv] at this;simpa [cfV,ren,aT,aw,aA,e0,eg,ak,rnL] using this
end
theorem ET {p:Prop} (h:p:=by
 split
 ·rename_i hr;have hb:=T4 hr hj;exact ⟨zO,zO⟩
 ·exact hi6 j hj):p:=h
theorem J5 (L:bS) (ka ks:Nat) (bm bs:Blk) (hT:LKa L ka ks bm bs) (off n cap ao n2 av:Nat) (fm fs:aS) (hm:MB bm off n fm) (cf:SB bs ao n2 fs) (g bx tp nr md st:Int) (hs:i64 st) (zr:i64 bx) (BV:i64 tp) :
  Fun prog G1 17 #[cfV (.slice (some ⟨ka,off,none⟩) n cap) g bx tp nr md,.agg #[.int .i64 st,.slice (some ⟨ks,ao,none⟩) n2 av]] (hpL G1 L) (ak L) (.ret (.bool (pX n n2 (eQ n fm g bx tp nr md) (aV st fs n2)&&ij bx tp fs n2)) []):=by
 refine qR (B:=200) G1F func17 rfl call17 hT.ok ?_ zS zS zS (by simp [ntmps17]) zO ?_
 ·exact dE
 intro C hC bQ hY;have hA:=hT.a;have hS:=hT.s;have df:=hT.ne;have fq:=hT.na;have jW:=hT.low;have mY:=hT.k1;have nA:=hT.k2;have Gz:=λρ=>Blk.fx_rn cf.fx ρ;have fp:=pL L ka ks bm bs hT off n cap ao n2 av fm fs hm cf g bx tp nr md st hs;have hwi:=Fun.up1 (SL bs ao n2 av fs cf st bx tp zr BV) (aH cf.fx);unfold cfV at fp |-
 cases c:pX n n2 (eQ n fm g bx tp nr md) (aV st fs n2) with
 | false =>
  rw [c] at fp
  repeat' first|refine cM ?_|((first|refine gwR [29] ?_|refine gwD [29] ?_);intro Q hQ _;(repeat first|simp [hC,hY,hA,hS,df,fq]|refine dG fp hT.ok ji ?_);refine cQ hQ ?_)|fail
  refine ⟨.inr rfl,by simp [results17],I1 G1F⟩
 | true =>
  rw [c] at fp
  repeat' first|refine cM ?_|((first|refine gwR [29,34] ?_|refine gwD [29,34] ?_);intro Q hQ _;(repeat first|simp [hC,hY,hA,hS,df,fq]|refine dG fp hT.ok ji ?_|refine az hwi G1F (B:=200) (aH cf.fx) (λk=>if k=100 then ks else k) (λk hk=>ab zO) ay zS jw ah ax ?_);refine cQ hQ ?_)|fail
  refine ⟨.inr rfl,by simp [results17],I1 G1F⟩
theorem Uh (L:bS) (ka ks:Nat) (bm bs:Blk) (hT:LKa L ka ks bm bs) (off n cap ao n2 av:Nat) (fm fs:aS) (hm:MB bm off n fm) (cf:SB bs ao n2 fs) (dS:n2<=av) (g bx tp nr md st:Int) (hs:i64 st) :
  Fun prog G1 68 #[cfV (.slice (some ⟨ka,off,none⟩) n cap) g bx tp nr md,.agg #[.int .i64 st,.slice (some ⟨ks,ao,none⟩) n2 av]] (hpL G1 L) (ak L) (.ret (.int .i64 (nkE (eQ n fm g bx tp nr md) (aV st fs n2) nr (prs st fs n2))) []):=by
 rcases hT.a8 with e|e
 ·subst e;exact (Nw L ks bm bs hT.tw off n cap ao n2 av fm fs hm cf dS g bx tp nr md st hs).up1 hT.ok
 ·obtain ⟨rfl,rfl⟩:=hT.ag e;subst e;have h:=(Nw _ 108 lmB bs (LTwo.two pM cf.fx) off n cap ao n2 av fm fs hm cf dS g bx tp nr md st hs).mvG hT.lmv (λk hk=>by cases hk) rfl;exact xa
def DdR (ks ao av:Nat) (Lo:Bool) (bx tp:Int) (F:aS) (st:Int) (n:Nat) (nk:Nat) (v:Value) (ns:bS):Prop :=
 (Lo=true/\v=.tuple #[.agg #[.int .i64 st,.slice (some ⟨ks,ao,none⟩) n av],.int .i64 130]/\ns=[]) \/
 (Lo=false/\∃ (F':aS) (e:Int),uy nk st n F' e v ns/\¬e=130/\(∀ j,j<6*n->i64 (F' j))/\(e=0->Eq6 n F' F)/\(ij bx tp F n=true->e=0))
theorem qQ {ks ao av:Nat} {Lo:Bool} {bx tp:Int} {F:aS} {st:Int} {n nk:Nat} {v:Value} {ns:bS} (h:DdR ks ao av Lo bx tp F st n nk v ns):∀ k∈ak ns,k=nk:=by
 rcases h with ⟨_,_,rfl⟩|⟨_,F',e,h,_⟩
 ·exact ah
 ·exact vt h
theorem Pu {bs:Blk} {ao n av:Nat} {fs:aS} (cf:SB bs ao n fs) (dS:n<=av) {st p q:Int} (g:Int) (fm:aS) (hs:i64 st) (c0:aV st fs n=true) (c1:iL p q=true) {bx tp:Int} (zr:bx<=1048576) (BV:tp<=65536) {v:Value} {ns:bS} {nk:Nat}
  (hV:AL nk st n (drF st fs n p q) (drE st fs n p q) v ns) (ks:Nat):DdR ks ao av false bx tp (opF 1 p q g fm n fs) st n nk v ns:=by
 refine .inr ⟨rfl,_,_,hV,?_,λj hj=>abl cf.i6 hj,λe=>?_,λha=>?_⟩
 ·unfold drE;split
  ·split<;>omega
  ·omega
 ·rw [aed e];intro j hj;unfold mvF opF;rw [ai rfl];by_cases c:j%6<3
  ·rw [ai c,ai c,Ko c0 c1 zO c,(zO:6*(j / 6)+3+j%6=j+3)]
  ·rw [ab c,ab c]
 ·unfold drE;rw [ai (by rw [c0,c1];rfl),ai];rw [zG];intro i hi;have:=sI.1 ha i hi;unfold inB at this;rw [bO] at this;have h1:=HY zr this.1;unfold okB
  have e:∀ u,u<3->opF 1 p q g fm n fs (6*i+u)=fs (6*i+u)+dwV fs p q i u:=λu hu=>by
   unfold opF;rw [ai rfl,ai zO,Ko c0 c1 hi hu,(zO:6*i+u+3=6*i+3+u)]
  have e0:=e 0 zO;have e1:=e 1 zO;have e2:=e 2 zO;rw [dZ] at e0;rw [<-e0,<-e1,<-e2];exact h1
theorem Ub {n:Nat} {fs:aS} {st p q:Int} (g:Int) (fm:aS) (hi6:∀ j,j<6*n->i64 (fs j)) (c0:aV st fs n=true) (c1:iL p q=true) {bx tp:Int} (zr:bx<=1048576) (BV:tp<=65536) {v:Value} {ns:bS} {nk:Nat}
  (hV:uy nk st n (if aV st (lfF fs p q) n=true then lfF fs p q else fs) (if aV st (lfF fs p q) n=true then 0 else 20) v ns) (ks ao av:Nat):DdR ks ao av false bx tp (opF 3 p q g fm n fs) st n nk v ns:=by
 have eF:Eq6 n (lfF fs p q) (opF 3 p q g fm n fs):=λj hj=>by simp [opF,lfF]
 refine .inr ⟨rfl,_,_,hV,?_,λj hj=>?_,λe=>?_,λha=>?_⟩
 ·split<;>omega
 ·exact ET
 ·split at e
  ·rename_i hr;rw [ai hr];exact eF
  ·omega
 ·rw [ai];refine s8 c0 ?_;rw [ni eF];exact sJ zr BV ha
theorem T5 {n:Nat} {fm fs:aS} {g bx tp nr md st p q:Int} (fJ:eQ n fm g bx tp nr md=true) (ez:aV st fs n=true) (Jm:tZ p q=true) (tj:Li fs n=false) (hi6:∀ j,j<6*n->i64 (fs j)) {v:Value} {ns:bS} {nk:Nat}
  (hV:uy nk st n (if aV st (kcF p q g fm fs n) n=true then kcF p q g fm fs n else fs) (if aV st (kcF p q g fm fs n) n=true then 0 else 20) v ns) (ks ao av:Nat):DdR ks ao av false bx tp (opF 2 p q g fm n fs) st n nk v ns:=by
 obtain ⟨⟨_,zr⟩,⟨_,BV⟩,_⟩:=iJ fJ;have eF:Eq6 n (kcF p q g fm fs n) (opF 2 p q g fm n fs):=λj hj=>by simp [opF]
 refine .inr ⟨rfl,_,_,hV,?_,λj hj=>?_,λe=>?_,λha=>?_⟩
 ·split<;>omega
 ·exact ET
 ·split at e
  ·rename_i hr;rw [ai hr];exact eF
  ·omega
 ·rw [ai];refine s8 ez ?_;rw [ni eF];exact sJ zr BV ha
theorem wm {p:Prop} (h:p:=by intro q hq;obtain ⟨pp,mG,rfl⟩:=aI.1 hq;have hpb:=hT.ok.big pp mG;simp (disch:=omega) only [aj,bW]):p:=h
theorem jx {p:Prop} (h:p:=by simp [okT,eY]):p:=h
theorem Rr {D:gA} {ks ao av:Nat} (hD:D ks) {Lo:Bool} {bx tp:Int} {F:aS} {st:Int} {n:Nat} (v:Value) (ns:bS) (h:DdR ks ao av Lo bx tp F st n 1000 v ns):aN (cJ D ns) v/\(∀ p∈ns,200<=p.1/\p.2.ids (cJ D ns))/\(∀ k b c,(k,b)∈ns->(k,c)∈ns->b=c):=by
 rcases h with ⟨_,rfl,rfl⟩|⟨_,F',e,h,_⟩
 ·refine ⟨?_,zS,zS⟩;simp [aN,cp,aL,aR,cJ,hD]
 ·exact od v ns h
theorem WL {ks ks' ao av:Nat} {Lo:Bool} {bx tp:Int} {F:aS} {st:Int} {n nk:Nat} {ρ:cI} (hk:ρ ks=ks') (h:ρ 1000=nk):RR ρ (DdR ks ao av Lo bx tp F st n 1000)=DdR ks' ao av Lo bx tp F st n nk:=by
 funext v ns;apply propext;constructor
 ·rintro ⟨v0,uo,⟨h1,rfl,rfl⟩|⟨h1,F',e,h2,h3⟩,rfl,rfl⟩
  ·exact .inl ⟨h1,by simp [ren,aT,aw,aA,hk],by simp [rnL]⟩
  ·exact .inr ⟨h1,F',e,yk h st n F' e▸⟨_,_,h2,rfl,rfl⟩,h3⟩
 ·rintro (⟨h1,rfl,rfl⟩|⟨h1,F',e,h2,h3⟩)
  ·exact ⟨_,_,.inl ⟨h1,rfl,rfl⟩,by simp [ren,aT,aw,aA,hk],by simp [rnL]⟩
  ·rw [<-yk h st n F' e] at h2;obtain ⟨v0,uo,h4,e1,e2⟩:=h2;exact ⟨v0,uo,.inr ⟨h1,F',e,h4,h3⟩,e1,e2⟩
theorem acd (L:bS) (ka ks:Nat) (bm bs:Blk) (hT:LKa L ka ks bm bs) (off n cap ao av:Nat) (fm fs:aS) (hm:MB bm off n fm) (cf:SB bs ao n fs) (dp:n<=av) (g bx tp nr md st:Int) (hs:i64 st) (p q:Int) (fJ:eQ n fm g bx tp nr md=true) (ez:aV st fs n=true) (Jm:tZ p q=true) (tj:Li fs n=false) :
  FunS prog G1 69 #[cfV (.slice (some ⟨ka,off,none⟩) n cap) g bx tp nr md,.agg #[.int .i64 st,.slice (some ⟨ks,ao,none⟩) n av],.int .i64 p,.int .i64 q] (hpL G1 L) (ak L) (uy 1000 st n (if aV st (kcF p q g fm fs n) n=true then kcF p q g fm fs n else fs) (if aV st (kcF p q g fm fs n) n=true then 0 else 20)):=by
 cases hF:aV st (kcF p q g fm fs n) n with
 | true=>simpa using ace L ka ks bm bs hT off n cap ao av fm fs hm cf dp g bx tp nr md st hs p q fJ ez Jm tj hF
 | false=>simpa using T6 L ka ks bm bs hT off n cap ao av fm fs hm cf dp g bx tp nr md st hs p q fJ ez Jm tj hF
theorem T7 (L:bS) (ka ks:Nat) (bm bs:Blk) (hT:LKa L ka ks bm bs) (off n cap ao av:Nat) (fm fs:aS) (hm:MB bm off n fm) (cf:SB bs ao n fs) (dp:n<=av) (g bx tp nr md st:Int) (hs:i64 st) (p q:Int) (fJ:eQ n fm g bx tp nr md=true) (ez:aV st fs n=true) (Jm:tZ p q=true) :
  FunS prog G1 48 #[cfV (.slice (some ⟨ka,off,none⟩) n cap) g bx tp nr md,.agg #[.int .i64 st,.slice (some ⟨ks,ao,none⟩) n av],.int .i64 p,.int .i64 q] (hpL G1 L) (ak L) (DdR ks ao av (nrB st fs n nr) bx tp (opF 2 p q g fm n fs) st n 1000):=by
 refine iK (B:=200) G1F func48 rfl call48 hT.ok ?_ (Rr hT.ib) (by simp [ntmps48]) zO ?_
 ·exact dE
 intro C hC bQ hY;have hA:=hT.a;have hS:=hT.s;have df:=hT.ne;have fq:=hT.na;have jW:=hT.low;have mY:=hT.k1;have nA:=hT.k2;have mW:=Uh L ka ks bm bs hT off n cap ao n av fm fs hm cf dp g bx tp nr md st hs
 have mZ:nkE (eQ n fm g bx tp nr md) (aV st fs n) nr (prs st fs n)=if nrB st fs n nr=true then 130 else 0:=by
  unfold nkE nrB;rw [fJ,ez,ai rfl,ai rfl]
 rw [mZ] at mW
 cases hN:nrB st fs n nr with
 | true =>
  rw [hN,ai rfl] at mW;unfold cfV at mW |-
  repeat' first|refine cM ?_|((first|refine gwR [68] ?_|refine gwD [68] ?_);intro Q hQ _;(repeat first|simp [hC,hY,hA,hS,df,fq]|refine dG mW hT.ok ji ?_);refine cQ hQ ?_)|fail
  refine ⟨.inr trivial,I1 G1F,_,_,λk=>k,.inl ⟨rfl,rfl,rfl⟩,λ_ _=>rfl,zS,zS,by simp [results48,ren,aT,aw,aA],zS⟩
 | false =>
  have tj:=acE ez (iJ fJ).2.2.1 hN;rw [hN,ab zS] at mW
  have TR:=FunS.nmL (acd L ka ks bm bs hT off n cap ao av fm fs hm cf dp g bx tp nr md st hs p q fJ ez Jm tj) hT.ok hT.fx 312 zO (λv ns=>vt) (by
   have:=hT.a2;simp [cfV,ren,aT,aw,aA,r1n];omega) (yk (nk:=312) (by simp [r1n]) st n _ _)
  unfold cfV at mW TR |-
  repeat' first|refine cM ?_|((first|refine gwR [68] ?_|refine gwD [68] ?_);intro Q hQ _;(repeat first|simp [hC,hY,hA,hS,df,fq]|refine dG mW hT.ok ji ?_);refine cQ hQ ?_)|fail
  refine gj ?_;refine gl4 (k4 hA hS df fq) ?_;refine bN (f:=.func 69) (cap:=#[]) hC TR rfl zS rfl rfl aJ aq zS aM aq wm cS ?_ ?_
  ·intro v ns hV k hk;rw [vt hV k hk];omega
  intro v ns hV;obtain ⟨w,⟨c3,M3,g3,k1,k2,k3,rfl,rfl⟩,rfl⟩:=hV;refine gl4 (k4 hA hS df fq) ?_;refine bH ?_
  repeat' first|refine cM ?_|refine K4 ?_|fail
  refine ⟨.inr trivial,I1 G1F,_,_,λk=>if k=1000 then 312 else k,T5 (nk:=1000) fJ ez Jm tj cf.i6 ⟨_,⟨c3,M3,g3,k1,k2,k3,rfl,rfl⟩,rfl⟩ ks ao av,λk hk=>ab zO,zS,zS,by simp [results48,ren,aT,aw,aA],?_⟩;simp [ic]
def alB (h:FuncId):Blk:=⟨#[.func (.func h) #[] #[]],.ty 40⟩
theorem AP (h:FuncId) (ρ:cI):(alB h).rn ρ=alB h:=by simp [alB,Blk.rn,aw]
theorem O8 (h:FuncId):(alB h).fx:=by
 show ∀ x∈(alB h).c,bP x=true;simp [alB,bP]
theorem Wf {L:bS} (hL:LOk L 200) (h:FuncId):LOk ((200,alB h)::L) 300:=by
 refine ⟨?_,?_,?_⟩
 ·intro p hp;rcases al.1 hp with rfl|hp
  ·exact jy
  ·have:=hL.big p hp;exact ⟨this.1,zO⟩
 ·refine gO.2 ⟨λhm=>?_,hL.one⟩;obtain ⟨p,hp,e⟩:=aD.1 hm;have h2:=(hL.big p hp).2;dsimp only at e;omega
 ·intro p hp;rcases al.1 hp with rfl|hp
  ·exact Blk.fx_ids (O8 h) _
  ·exact Blk.ids_mono (λk hk=>br _ hk) (hL.ids p hp)
theorem Wg (h:FuncId) (L:bS) (ka ks:Nat) (bm bs:Blk) (hT:LKa L ka ks bm bs) (off n cap ao av:Nat) (g bx tp nr md st:Int) (p q:Int) (bX tX:Int) (F:aS) (R:AI) (hR:∀ v ns,R v ns->DdR ks ao av false bX tX F st n 364 v ns)
  (hd:FunS prog G1 h #[.agg #[.int .i64 st,.slice (some ⟨ks,ao,none⟩) n av],.int .i64 p,.int .i64 q] (hpL G1 [(ks,bs)]) [ks] R) :
  FunS prog G1 64 #[cfV (.slice (some ⟨ka,off,none⟩) n cap) g bx tp nr md,.agg #[.int .i64 st,.slice (some ⟨ks,ao,none⟩) n av],.int .i64 p,.int .i64 q,.pointer (some ⟨200,0,none⟩)] (hpL G1 ((200,alB h)::L)) (ak ((200,alB h)::L)) (DdR ks ao av false bX tX F st n 1000):=by
 have hL:=Wf hT.ok h;have mY:=hT.k1;have nA:=hT.k2;have yB:=hT.a2;have hA:=hT.a;have hS:=hT.s;have df:=hT.ne;have fq:=hT.na;have jW:=hT.low;have n2:¬ks=200:=zO;have n3:¬ka=200:=zO;refine iK (B:=300) G1F func64 rfl call64 hL ?_ (λv ns hV=>?_) (by simp [ntmps64]) zO ?_
 ·simp [aN,cp,aL,aR,cfV,dom,n2,n3,hA,hS]
 ·have:=Rr (D:=dom (hpL G1 ((200,alB h)::L))) (by simp [dom,n2,hS]) v ns hV;refine ⟨this.1,λp hp=>⟨?_,(this.2.1 p hp).2⟩,this.2.2⟩;have:=qQ hV p.1 (aI.2 ⟨p,hp,rfl⟩);omega
 intro C hC bQ hY;have Vw:∀ p∈L,¬p.1=200:=λp hp=>by have:=(hT.ok.big p hp).2;omega
 unfold cfV alB
 repeat' first|refine cM ?_|refine K4 ?_|fail
 refine gj ?_;refine gl4 (k4 hA hS df fq) ?_;refine bN (f:=.tmp 11) (g:=h) (cap:=#[]) hC hd rfl zS rfl rfl jx aq zS aM aq (by simp (disch:=omega) only [bE,bR,aj,bW,aW,dm,ab,ai];exact hS.symm) (by intro k hk;simp (disch:=omega) only [aj,bW,aW,dm,ab,jW]) ?_ ?_
 ·intro v ns hV k hk;rw [qQ (hR v ns hV) k hk];omega
 intro v ns hV;rcases hR v ns hV with ⟨h1,_⟩|⟨_,F',e,⟨w,⟨c3,M3,g3,k1,k2,k3,rfl,rfl⟩,rfl⟩,hh⟩
 ·cases h1
 refine Z2 (k4 hA hS df fq) ?_;refine bH ?_
 repeat' first|refine cM ?_|refine K4 ?_|fail
 refine ⟨.inr trivial,?_,_,_,λk=>if k=1000 then 364 else k,.inr ⟨rfl,F',e,⟨_,⟨c3,M3,g3,k1,k2,k3,rfl,rfl⟩,rfl⟩,hh⟩,λk hk=>ab zO,zS,zS,by simp [results64,ren,aT,aw,aA],?_⟩
 ·intro k hk;have yZ:k<300:=aO λh1=>hk (hL.free G1F zO k zO);simp (disch:=omega) only [aj]
 ·exact fZ
theorem om {p:Prop} (h:p:=by obtain ⟨rfl,rfl⟩:=hV;simp [ak] at hk;omega):p:=h
theorem xM {p:Prop} (h:p:=by
 exact h.bx q hq h1 λq' y8 e cA zu=>zv q' y8 e cA ((jc hi).2 (.inr zu))):p:=h
theorem E9 {p:Prop} (h:p:=by
 exact h.h0 u λq hq e hl=>hu q hq e ((jc hi).2 (.inr hl))):p:=h
theorem wX {p:Prop} (h:p:=by
 obtain ⟨rfl,rfl⟩:=hV;simp [ak] at hk hl;rw [hk,hl]):p:=h
structure TJ2 (N X D:List (Nat×Nat)) (V:eM) (Bk:Nat->Nat->Blk) (iP:eM) (hp0:Hp) (listed:Array Bool) (ts:eM) (hp:Hp):Prop where
 t0:∀ t,t∉N.map Prod.snd->ts t=iP t
 tm:∀ p∈N,listed[p.1]? = some true->ts p.2=V p.1
 h0:∀ k,(∀ q∈X,q.2=k->listed[q.1]?≠some true)->hp k=hp0 k
 bx:∀ q∈X,listed[q.1]? = some true->(∀ q'∈X,q'.2=q.2->q.1<q'.1->listed[q'.1]?≠some true)->hp q.2=some (Bk q.1 q.2)
 cl:∀ p∈D,listed[p.1]? = some true->listed[p.2]? = some true
theorem jc {listed:Array Bool} {i j:Nat} (hi:listed[i]? = some false):(listed.setIfInBounds i true)[j]? = some true↔j=i\/listed[j]? = some true:=by
 exact DL
section
variable {N X D:List (Nat×Nat)} {V:eM} {Bk:Nat->Nat->Blk} {iP ts:eM} {hp0 hp:Hp} {listed:Array Bool}
theorem TJ2.start (hl:∀ j:Nat,listed[j]?≠some true):TJ2 N X D V Bk iP hp0 listed iP hp0:=⟨λ_ _=>rfl,λp _ h=>absurd h (hl _),λ_ _=>rfl,λq _ h=>absurd h (hl _),λp _ h=>absurd h (hl _)⟩
theorem TJ2.ext (h:TJ2 N X D V Bk iP hp0 listed ts hp) {k:Nat} (hk:k∉X.map Prod.snd):hp k=hp0 k:=h.h0 k λq hq e=>absurd (aD.2 ⟨q,hq,e⟩) hk
theorem TJ2.put (TL:(N.map Prod.fst).Nodup) (RE:(N.map Prod.snd).Nodup) (h:TJ2 N X D V Bk iP hp0 listed ts hp) {i t:Nat} {v:Value} (hi:listed[i]? = some false) (hm:(i,t)∈N) (hv:V i=v):(∀ u,u∉N.map Prod.snd->upd ts t v u=iP u)/\∀ p∈N,(listed.setIfInBounds i true)[p.1]? = some true->upd ts t v p.2=V p.1:=by
 refine ⟨λu hu=>?_,λp hp1 hl=>?_⟩
 ·exact sc
 ·by_cases e:p.2=t
  ·exact EB
  ·rw [aj _ _ e];rcases (jc hi).1 hl with e1|h1
   ·exact xD
   ·exact h.tm p hp1 h1
theorem TJ2.cls (h:TJ2 N X D V Bk iP hp0 listed ts hp) {i:Nat} (hi:listed[i]? = some false) (hd:∀ p∈D,p.1=i->listed[p.2]? = some true):∀ p∈D,(listed.setIfInBounds i true)[p.1]? = some true->(listed.setIfInBounds i true)[p.2]? = some true:=λp hp1 hl =>
 (jc hi).2 (.inr (((jc hi).1 hl).elim (hd p hp1) (h.cl p hp1)))
theorem TJ2.tmp (TL:(N.map Prod.fst).Nodup) (RE:(N.map Prod.snd).Nodup) (h:TJ2 N X D V Bk iP hp0 listed ts hp) {i t:Nat} {v:Value} (hi:listed[i]? = some false) (hd:∀ p∈D,p.1=i->listed[p.2]? = some true) (hm:(i,t)∈N) (hv:V i=v) (hx:i∉X.map Prod.fst):TJ2 N X D V Bk iP hp0 (listed.setIfInBounds i true) (upd ts t v) hp:=by
 obtain ⟨a,b⟩:=h.put TL RE hi hm hv;refine ⟨a,b,λk hk=>h.h0 k λq hq e hl=>hk q hq e ((jc hi).2 (.inr hl)),λq hq hl zv=>?_,h.cls hi hd⟩;rcases (jc hi).1 hl with e1|h1
 ·exact wg
 ·exact xM
theorem TJ2.blk {i k:Nat} (PL:∀ q∈X,q.1=i->q.2=k) (h:TJ2 N X D V Bk iP hp0 listed ts hp) {b:Blk} (hi:listed[i]? = some false) (hx:(i,k)∈X) (hb:Bk i k=b) (ho:∀ q∈X,q.2=k->i<q.1->(q.1,i)∈D) :
  (∀ u,(∀ q∈X,q.2=u->(listed.setIfInBounds i true)[q.1]?≠some true)->upd hp k (some b) u=hp0 u)/\∀ q∈X,(listed.setIfInBounds i true)[q.1]? = some true->(∀ q'∈X,q'.2=q.2->q.1<q'.1->(listed.setIfInBounds i true)[q'.1]?≠some true)->upd hp k (some b) q.2=some (Bk q.1 q.2):=by
 refine ⟨λu hu=>?_,λq hq hl zv=>?_⟩
 ·rw [aj _ _ (λe=>hu _ hx e.symm ((jc hi).2 (.inl rfl)))];exact E9
 ·by_cases e:q.2=k
  ·have e2:q.1=i:=by
    rcases (jc hi).1 hl with e1|h1
    ·exact e1
    ·rcases Nat.lt_trichotomy q.1 i with c|c|c
     ·exact absurd ((jc hi).2 (.inl rfl)) (zv _ hx e.symm c)
     ·exact c
     ·have:=h.cl _ (ho q hq e c) h1;rw [hi] at this;cases this
   rw [e2,e,<-hb];exact bj _ _ _
  ·rw [aj _ _ e];rcases (jc hi).1 hl with e1|h1
   ·exact absurd (PL q hq e1) e
   ·exact xM
theorem TJ2.bxi (h:TJ2 N X D V Bk iP hp0 listed ts hp) {i w k:Nat} (hi:listed[i]? = some false) (hw:(w,k)∈X) (hl:listed[w]? = some true) (hn:∀ q∈X,q.2=k->w<q.1->q.1=i\/(q.1,i)∈D):hp k=some (Bk w k) :=
 h.bx _ hw hl λq hq e cA zu=>by
  exact DO
theorem TJ2.new (TL:(N.map Prod.fst).Nodup) (RE:(N.map Prod.snd).Nodup) {i t k:Nat} (PL:∀ q∈X,q.1=i->q.2=k) (h:TJ2 N X D V Bk iP hp0 listed ts hp) {v:Value} {b:Blk} (hi:listed[i]? = some false) (hd:∀ p∈D,p.1=i->listed[p.2]? = some true) (hm:(i,t)∈N) (hv:V i=v) (hx:(i,k)∈X) (hb:Bk i k=b) (ho:∀ q∈X,q.2=k->i<q.1->(q.1,i)∈D):TJ2 N X D V Bk iP hp0 (listed.setIfInBounds i true) (upd ts t v) (upd hp k (some b)):=by
 exact Ds
theorem TJ2.st {i k:Nat} (PL:∀ q∈X,q.1=i->q.2=k) (h:TJ2 N X D V Bk iP hp0 listed ts hp) {b:Blk} (hi:listed[i]? = some false) (hd:∀ p∈D,p.1=i->listed[p.2]? = some true) (hn:i∉N.map Prod.fst) (hx:(i,k)∈X) (hb:Bk i k=b) (ho:∀ q∈X,q.2=k->i<q.1->(q.1,i)∈D):TJ2 N X D V Bk iP hp0 (listed.setIfInBounds i true) ts (upd hp k (some b)):=by
 obtain ⟨b1,b2⟩:=h.blk PL hi hx hb ho;refine ⟨h.t0,λp hp1 hl=>?_,b1,b2,h.cls hi hd⟩;rcases (jc hi).1 hl with e1|h1
 ·exact absurd (aD.2 ⟨p,hp1,e1⟩) hn
 ·exact h.tm p hp1 h1
theorem TJ2.chg {V':eM} {VI:Nat->Nat->Blk} {i:Nat} (h:TJ2 N X D V Bk iP hp0 listed ts hp) (hi:listed[i]? = some false) (hv:∀ j,j≠i->(j,i)∉D->V j=V' j) (hb:∀ j,j≠i->(j,i)∉D->Bk j=VI j):TJ2 N X D V' VI iP hp0 listed ts hp:=by
 exact Di
theorem TJ2.new3 (TL:(N.map Prod.fst).Nodup) (RE:(N.map Prod.snd).Nodup) {i t k0 k1 k2:Nat} (PL:∀ q∈X,q.1=i->q.2=k0\/q.2=k1\/q.2=k2) (hX2:∀ q∈X,q.2=k0\/q.2=k1\/q.2=k2->q.1=i) (df:k0≠k1/\k0≠k2/\k1≠k2) (h:TJ2 N X D V Bk iP hp0 listed ts hp) {v:Value} {b0 b1 b2:Blk} (hi:listed[i]? = some false) (hd:∀ p∈D,p.1=i->listed[p.2]? = some true) (hm:(i,t)∈N) (hv:V i=v) (hx:(i,k0)∈X/\(i,k1)∈X/\(i,k2)∈X) (hb:Bk i k0=b0/\Bk i k1=b1/\Bk i k2=b2):TJ2 N X D V Bk iP hp0 (listed.setIfInBounds i true) (upd ts t v) (upd (upd (upd hp k0 (some b0)) k1 (some b1)) k2 (some b2)):=by
 obtain ⟨a1,a2⟩:=h.put TL RE hi hm hv;refine ⟨a1,a2,λu hu=>?_,λq hq hl zv=>?_,h.cls hi hd⟩
 ·have n0:u≠k0:=λe=>hu _ hx.1 e.symm ((jc hi).2 (.inl rfl));have n1:u≠k1:=λe=>hu _ hx.2.1 e.symm ((jc hi).2 (.inl rfl));have n2:u≠k2:=λe=>hu _ hx.2.2 e.symm ((jc hi).2 (.inl rfl));rw [aj _ _ n2,aj _ _ n1,aj _ _ n0];exact E9
 ·by_cases c:q.2=k0\/q.2=k1\/q.2=k2
  ·have e2:=hX2 q hq c;rw [e2];rcases c with e|e|e
   ·rw [e,aj _ _ df.2.1,aj _ _ df.1,bj,hb.1]
   ·rw [e,aj _ _ df.2.2,bj,hb.2.1]
   ·rw [e,bj,hb.2.2]
  ·have n0:q.2≠k0:=λe=>c (.inl e);have n1:q.2≠k1:=λe=>c (.inr (.inl e));have n2:q.2≠k2:=λe=>c (.inr (.inr e));rw [aj _ _ n2,aj _ _ n1,aj _ _ n0];rcases (jc hi).1 hl with e1|h1
   ·exact absurd (PL q hq e1) c
   ·exact xM
end

def AlR (nk:Nat) (h:FuncId) (v:Value) (ns:bS):Prop:=v=.func (.func 64) #[] #[.pointer (some ⟨nk,0,none⟩)]/\ns=[(nk,alB h)]
theorem aaL (h:FuncId):FunS prog G0 46 #[.func (.func h) #[] #[]] (hpL G0 []) (ak []) (AlR 1000 h):=by
 refine dJ (B:=200) G0F func46 rfl call46 jG ?_ ?_ (by simp [ntmps46]) zO ?_
 ·simp [aN,cp,aL]
 ·rintro v ns ⟨rfl,rfl⟩;refine ⟨dD,by simp [Blk.fx_ids (O8 h)],?_⟩;exact mw
 intro C hC bQ hY;refine fO ?_;refine ⟨.inr trivial,dH (m:=[]) G0F zS bn,_,_,λk=>if k=1000 then 200 else k,⟨rfl,rfl⟩,λk hk=>ab zO,zS,zS,by simp [results46,ren,aT,aw,aA],?_⟩;simp [alB,Blk.rn,aw]
theorem We (h:FuncId) (nk:Nat) (mZ:200<=nk):FunS prog G0 46 #[.func (.func h) #[] #[]] (hpL G0 []) [] (AlR nk h):=by
 refine (aaL h).mvL G0F jG (λk=>if k=1000 then nk else k) (λk hk=>ab zO) vE ah ?_ (λ_ _=>rfl) zS ah (λv ns hV k hk=>?_) (λv ns hV k hk l hl _=>?_)
 ·funext v ns;apply propext;constructor
  ·rintro ⟨v0,uo,⟨rfl,rfl⟩,rfl,rfl⟩;exact ⟨ay,by simp [rnL,AP]⟩
  ·rintro ⟨rfl,rfl⟩;exact ⟨_,_,⟨rfl,rfl⟩,ay,by simp [rnL,AP]⟩
 ·obtain ⟨rfl,rfl⟩:=hV;simp [ak] at hk;subst hk;simp;omega
 ·exact wX
def deL (k1 k2:Nat):List (Int×Value):=[(1,.func (.func 64) #[] #[.pointer (some ⟨k1,0,none⟩)]),(2,.func (.func 48) #[] #[]),(3,.func (.func 64) #[] #[.pointer (some ⟨k2,0,none⟩)])]
def AX (nk:Nat):List (Nat×Blk):=[(nk,muB (deL (nk+1) (nk+2))),(nk+1,alB 47),(nk+2,alB 49)]
def DeR (nk:Nat) (v:Value) (ns:bS):Prop:=v=.map (some nk)/\ns=AX nk
@[simp] theorem auM:Ay prog 65=true:=ae
theorem JL (s:Int):jT s []=none:=rfl
theorem HF (s:Int) (p:Int×Value) (l:List (Int×Value)):jT s (p::l)=if (s==p.1)=true then some p.2 else jT s l:=rfl
@[simp] theorem anr (q:Option Nat):Ix (.map q)=some (.map q):=rfl
theorem afT:FunS prog G0 31 #[] (hpL G0 []) (ak []) (DeR 1000):=by
 refine dJ (B:=200) G0F func31 rfl call31 jG zS ?_ zS zO ?_
 ·rintro v ns ⟨rfl,rfl⟩;refine ⟨by simp [aN,cp,aL,aR,cJ,ak,AX],?_,?_⟩
  ·simp [AX,Blk.fx_ids (O8 _),G6,deL,aL,aR,cJ,ak]
  ·intro k b c h1 h2;simp [AX] at h1 h2;exact Ei
 intro C hC bQ hY;refine fO ?_;refine gj ?_;refine n7 trivial ?_;refine bN (f:=.func 46) (cap:=#[]) hC (We 47 216 zO) rfl zS rfl rfl aJ aq zS aM aq zS bn (λv ns hV k hk=>om) ?_;rintro v ns ⟨rfl,rfl⟩;refine zP (Gy.k2 @JL @HF) ?_;refine bN (f:=.func 46) (cap:=#[]) hC (We 49 240 zO) rfl zS rfl rfl aJ aq zS aM aq zS bn (λv ns hV k hk=>om) ?_;rintro v ns ⟨rfl,rfl⟩;refine GU (Gy.k2 @JL @HF) ?_;refine bH ?_;refine fO ?_;refine ⟨.inr trivial,dH (m:=[]) G0F zS bn,_,_,λk=>if k=1000 then 208 else if k=1001 then 216 else if k=1002 then 240 else k,⟨rfl,rfl⟩,λk hk=>?_,by simp [AX],by simp [AX],by simp [results31,ren,aT,aw,aA],?_⟩
 ·dsimp only;rw [ab zO,ab zO,ab zO]
 ·simp [AX,AP];simp [muB,muC,deL,Blk.rn,aw,aA]
theorem iU {p:Prop} (h:p:=by simp [hA,hS,df,fq]):p:=h
theorem kz {p:Prop} (h:p:=by simp [ntmps13]):p:=h
theorem oF {p:Prop} (h:p:=by unfold pX;rw [fJ,ez];simp):p:=h
theorem wD {p:Prop} (h:p:=by simp (disch:=omega) only [aW,dm,ab,clow]):p:=h
theorem vP {p:Prop} (h:p:=by simp [results13,ren,aT,aw,aA,k3,k4,k6,k7,c200,c208,c224]):p:=h
theorem lZ {p:Prop} (h:p:=by simp [gn]):p:=h
theorem ky {p:Prop} (h:p:=by simp [ooD]):p:=h
theorem Cz {p:Prop} (h:p:=by simp [okT,eY,vf3,vf4,vf5,vf7,vf9,yf]):p:=h
theorem rK {p:Prop} (h:p:=by simp [gev,vf3,vf4,vf5,vf7,vf9,yf]):p:=h
theorem Cj {p:Prop} (h:p:=by simp [okX,eY,vf3,vf4,vf5,vf7,vf9,yf]):p:=h
theorem Cm {p:Prop} (h:p:=by simp (disch:=omega) only [aW,ab,hT.low]):p:=h
theorem lX {p:Prop} (h:p:=by simp [onD]):p:=h
theorem C4 {p:Prop} (h:p:=by
 intro k hk;simp (disch:=omega) only [aj,bW,aW,dm,ab,hT.low]):p:=h
theorem EZ {p:Prop} (h:p:=by
 refine ⟨iU,iU,iU,iU,iU,iU,iU,iU,iU,?_,?_⟩
 ·exact C4
 ·intro p hp;have hb:=hT.ok.big p hp;simp (disch:=omega) only [aj,bW,aW,dm,ab];exact hT.mem p hp):p:=h
theorem xn {p:Prop} (h:p:=by
 rcases hT.a8 with e|e
 ·rw [e];exact cL _ (hT.am e)
 ·rw [e,clow _ zO];obtain ⟨_,rfl⟩:=hT.ag e;exact xU):p:=h
theorem sa {p:Prop} (h:p:=by
 refine dH G1F (λpq VB=>?_) (λx hx=>?_)
 ·have hb:=hT.ok.big pq VB;simp (disch:=omega) only [aj];rw [cL pq VB];exact (hT.mem pq VB).symm
 ·simp (disch:=omega) only [aj];rw [clow x hx];exact (jW x hx).symm):p:=h
theorem mz {p:Prop} (h:p:=by
 intro v ns hV x hx;rw [vr hV x hx];simp):p:=h
theorem wW {p:Prop} (h:p:=by
 have:=(a9.1 hi).1;rw [szR] at this;simpa using this):p:=h
theorem Dw {p:Prop} (h:p:=by
 rcases Gz q hq with rfl|rfl|hq
 ·rw [an7];simp
 ·rw [an8];simp
 ·obtain ⟨pq,hp1,rfl⟩:=aI.1 hq;have hb:=hT.ok.big pq hp1;rw [cL pq hp1];simp (disch:=omega) only [aW,ab];exact hT.mem pq hp1):p:=h
abbrev uT := @List.append_eq
def shL (nk k:Nat):Nat:=if 1000<=k then k - 1000+nk else k
theorem adr {nk k:Nat} (h:k<1000):shL nk k=k:=ab zO
def DdT (bx tp:Int) (F:aS) (n c9 M9:Nat) (g9:aS) (e9:Int):Prop:=∃ F':Nat->Int,n<=c9/\6*n<=M9/\(∀ j,j<6*n->g9 j=F' j)/\(∀ j,j<6*n->i64 (F' j))/\¬e9=130/\(e9=0->Eq6 n F' F)/\(ij bx tp F n=true->e9=0)
theorem Ty {bx tp st:Int} {F fs:aS} {n:Nat} (ez:aV st fs n=true) (h6:∀ j,j<6*n->i64 (fs j)) (zr:bx<=1048576) (BV:tp<=65536):∃ c9 M9 g9 e9,DdT bx tp F n c9 M9 g9 e9:=by
 by_cases ha:ij bx tp F n=true
 ·have hr:=s8 ez (sJ zr BV ha);exact ⟨n,6*n,F,0,F,aG _,aG _,λ_ _=>rfl,λj hj=>by have:=T4 hr hj;exact ⟨zO,zO⟩,zO,λ_=>Eq6.rfl',λ_=>rfl⟩
 ·exact ⟨n,6*n,fs,20,fs,aG _,aG _,λ_ _=>rfl,h6,zO,λe=>zO,λh=>absurd h ha⟩
def OpO (bx tp:Int) (F fs:aS) (st:Int) (n nk:Nat) (v:Value) (ns:bS):Prop :=
 ∃ F':Nat->Int,uy nk st n F' (if ij bx tp F n=true then 0 else 180) v ns/\(∀ j,j<6*n->i64 (F' j))/\(if ij bx tp F n=true then Eq6 n F' F else Eq6 n F' fs)
theorem acP {D:gA} {bx tp:Int} {F fs:aS} {st:Int} {n:Nat} (v:Value) (ns:bS) (h:OpO bx tp F fs st n 1000 v ns):aN (cJ D ns) v/\(∀ p∈ns,200<=p.1/\p.2.ids (cJ D ns))/\(∀ k b c,(k,b)∈ns->(k,c)∈ns->b=c):=by
 obtain ⟨F',h,_⟩:=h;exact od v ns h
theorem ahI {bx tp:Int} {F F' fs:aS} {st:Int} {n nk:Nat} {v:Value} {ns:bS} (h:uy nk st n F' 0 v ns) (h64:∀ j,j<6*n->i64 (F' j)) (e:Eq6 n F' F) (ha:ij bx tp F' n=true):OpO bx tp F fs st n nk v ns:=by
 rw [ni e] at ha;exact ⟨F',by rw [ai ha];exact h,h64,by rw [ai ha];exact e⟩
theorem Yy {bx tp:Int} {F fs:aS} {st:Int} {n nk:Nat} {v:Value} {ns:bS} (h:uy nk st n fs 180 v ns) (h64:∀ j,j<6*n->i64 (fs j)) (ha:¬ij bx tp F n=true):OpO bx tp F fs st n nk v ns :=
 ⟨fs,by rw [ab ha];exact h,h64,by rw [ab ha];exact Eq6.rfl'⟩
theorem WM:FunS prog G1 31 #[] (hpL G1 []) [] (DeR 352):=by
 have h:FunS prog G0 31 #[] (hpL G0 []) (ak []) (DeR 352):=by
  have d0:shL 352 1000=352:=rfl;have d1:shL 352 1001=353:=rfl;have d2:shL 352 1002=354:=rfl;refine afT.mvL G0F jG (shL 352) (λk hk=>adr zO) zS ah ?_ (λ_ _=>rfl) zS ah (λv ns hV k hk=>?_) (λv ns hV k hk l hl e=>?_)
  ·have em:(muB (deL 1001 1002)).rn (shL 352)=muB (deL 353 354):=by simp [muB,muC,deL,Blk.rn,aw,aA,d1,d2]
   funext v ns;apply propext;constructor
   ·rintro ⟨v0,uo,⟨rfl,rfl⟩,rfl,rfl⟩;exact ⟨rX,by simp [rnL,AX,AP,d0,d1,d2,em]⟩
   ·rintro ⟨rfl,rfl⟩;exact ⟨_,_,⟨rfl,rfl⟩,rX,by simp [rnL,AX,AP,d0,d1,d2,em]⟩
  ·obtain ⟨rfl,rfl⟩:=hV;simp [ak,AX] at hk;rcases hk with rfl|rfl|rfl<;>simp [d0,d1,d2]
  ·obtain ⟨rfl,rfl⟩:=hV;simp [ak,AX] at hk hl;rcases hk with rfl|rfl|rfl<;>rcases hl with rfl|rfl|rfl<;>first|rfl|(simp [d0,d1,d2] at e)
 exact FunS.up1 (m:=[]) (B:=200) h jG
def ooN:List (Nat×Nat):=[(0,22),(1,23),(2,24),(3,25),(4,26),(5,27),(6,28),(7,29),(8,30),(9,31),(10,32),(11,21),(12,33),(13,34),(15,7)]
def ooX:List (Nat×Nat):=[(0,352),(0,353),(0,354),(10,432),(14,224)]
def ooD:List (Nat×Nat):=[(11,10),(12,10),(13,10),(14,10),(15,10)]
def ooV (F:aS) (L:bS) (ka ks off n cap ao av:Nat) (g bx tp nr md st k p q:Int) (gk:FuncId) (ku:bV) (c9:Nat) (M9:Nat) (g9:aS) (e9:Int):Nat->Value
 | 0=>.map (some 352)
 | 1=>.pointer (some ⟨216,0,none⟩)
 | 2=>.int .u8 k
 | 3=>.func (.func gk) #[] ku
 | 4=>.agg #[.slice (some ⟨ka,off,none⟩) n cap,.int .i64 g,.int .i64 bx,.int .i64 tp,.int .i64 nr,.int .i64 md]
 | 5=>.agg #[.int .i64 st,.slice (some ⟨ks,ao,none⟩) n av]
 | 6=>.pointer (some ⟨216,1,none⟩)
 | 7=>.int .i64 p
 | 8=>.pointer (some ⟨216,2,none⟩)
 | 9=>.int .i64 q
 | 10=>.tuple #[.agg #[.int .i64 st,.slice (some ⟨432,0,none⟩) n c9],.int .i64 e9]
 | 11=>.tuple #[.agg #[.int .i64 st,.slice (some ⟨432,0,none⟩) n c9],.int .i64 e9]
 | 12=>.agg #[.int .i64 st,.slice (some ⟨432,0,none⟩) n c9]
 | 13=>.int .i64 e9
 | 15=>.int .i64 e9
 | _=>.bool true
def ahH (F:aS) (L:bS) (ka ks off n cap ao av:Nat) (g bx tp nr md st k p q:Int) (gk:FuncId) (ku:bV) (c9:Nat) (M9:Nat) (g9:aS) (e9:Int):Nat->Nat->Blk
 | 0=>λx=>if x=353 then alB 47 else if x=354 then alB 49 else muB (deL 353 354)
 | 10=>λ_=>⟨fa M9 .i64 g9,.ty 50⟩
 | 14=>λ_=>⟨#[.int .i64 st,.slice (some ⟨432,0,none⟩) n c9],.ty 27⟩
 | _=>λ_=>⟨#[],.mp⟩
structure ooF (F:aS) (L:bS) (ka ks off n cap ao av:Nat) (g bx tp nr md st k p q:Int) (gk:FuncId) (ku:bV) (iP:eM) (hp0:Hp):Prop where
 e3:iP 3=.pointer (some ⟨200,0,none⟩)
 e4:iP 4=.pointer (some ⟨208,0,none⟩)
 e5:iP 5=.pointer (some ⟨216,0,none⟩)
 e6:iP 6=.pointer (some ⟨224,0,none⟩)
 e7:iP 7=.int .i64 180
 b200:hp0 200=some (⟨#[.slice (some ⟨ka,off,none⟩) n cap,.int .i64 g,.int .i64 bx,.int .i64 tp,.int .i64 nr,.int .i64 md],.ty 24⟩)
 b208:hp0 208=some (⟨#[.int .i64 st,.slice (some ⟨ks,ao,none⟩) n av],.ty 27⟩)
 b216:hp0 216=some (⟨#[.int .u8 k,.int .i64 p,.int .i64 q],.ty 33⟩)
 b224:hp0 224=some (⟨#[.int .i64 0,.slice none 0 0],.ty 27⟩)
 low:∀ k,k<100->hp0 k=G1 k
 bL:∀ p∈L,hp0 p.1=some p.2
theorem ze:(ooN.map Prod.fst).Nodup:=bd
theorem zf:(ooN.map Prod.snd).Nodup:=bd
theorem Il:∀ k,k<200->k∉ooX.map Prod.snd:=λk hk=>by simp [ooX];try omega
theorem ahO {L:bS} {ka ks:Nat} {bm bs:Blk} (hT:LKa L ka ks bm bs) (off n cap ao av:Nat) (fm fs:aS) (hm:MB bm off n fm) (cf:SB bs ao n fs) (dp:n<=av) (g bx tp nr md st:Int) (hs:i64 st) (k p q:Int) (zt:0<=k/\k<256) (fJ:eQ n fm g bx tp nr md=true) (ez:aV st fs n=true) (RM:opB k p q=true) (TQ:(true&&ij bx tp fs n)=true)
  (gk:FuncId) (ku:bV) (yf:jT k (deL 353 354)=some (.func (.func gk) #[] ku)) (JV:ku.all da=true) (F:aS) (R:AI) {rs:List Nat} (hR:∀ v ns,R v ns->∃ (c9 M9:Nat) (g9:aS) (e9:Int),DdT bx tp F n c9 M9 g9 e9/\v=.tuple #[.agg #[.int .i64 st,.slice (some ⟨432,0,none⟩) n c9],.int .i64 e9]/\ns=[(432,⟨fa M9 .i64 g9,.ty 50⟩)])
  (hdd:FunS prog G1 gk (#[.agg #[.slice (some ⟨ka,off,none⟩) n cap,.int .i64 g,.int .i64 bx,.int .i64 tp,.int .i64 nr,.int .i64 md],.agg #[.int .i64 st,.slice (some ⟨ks,ao,none⟩) n av],.int .i64 p,.int .i64 q]++ku) (hpL G1 ((353,alB 47)::(354,alB 49)::L)) rs R) (Gz:∀ x∈rs,x=353\/x=354\/x∈ak L) :
  FunS prog G1 13 #[cfV (.slice (some ⟨ka,off,none⟩) n cap) g bx tp nr md,.agg #[.int .i64 st,.slice (some ⟨ks,ao,none⟩) n av],.agg #[.int .u8 k,.int .i64 p,.int .i64 q]] (hpL G1 L) (ak L) (OpO bx tp F fs st n 1000):=by
 refine iK (B:=200) G1F func13 rfl call13 hT.ok ?_ acP kz zO ?_
 ·exact dE
 intro C hC bQ hY;have hA:=hT.a;have hS:=hT.s;have df:=hT.ne;have fq:=hT.na;have jW:=hT.low;have mY:=hT.k1;have nA:=hT.k2;have yB:=hT.a2;have hcr:=λK=>aP (K:=K) G1W ae ((vd k p q zt).up Gr);rw [RM] at hcr;obtain ⟨JT,OT,_⟩:=iJ fJ;have fp:=pL L ka ks bm bs hT off n cap ao n av fm fs hm cf g bx tp nr md st hs;have dR:=J5 L ka ks bm bs hT off n cap ao n av fm fs hm cf g bx tp nr md st hs fk fk;have Jb:pX n n (eQ n fm g bx tp nr md) (aV st fs n)=true:=oF;rw [Jb] at fp dR;rw [TQ] at dR;have aq3:∀ v,jT k (deL 353 354)=v↔some (.func (.func gk) #[] ku)=v:=λv=>by rw [yf]
 obtain ⟨c0,M0,g0,e0,h0d⟩:=Ty (F:=F) ez cf.i6 JT.2 OT.2;unfold cfV at fp dR;unfold cfV;refine fO ?_;refine nh 0 (λ_ _=>False) rfl (λ_ _ h=>h.elim) ?_;intro _
 repeat' first|refine cM ?_|((first|refine gwR [29,17] ?_|refine gwD [29,17] ?_);intro Q hQ _;(repeat first|simp [hC,hY,hA,hS,df,fq,hcr]|refine dG fp hT.ok ji ?_|refine dG dR hT.ok ji ?_);refine cQ hQ ?_)|fail
 refine yO follows ?_;simp only [Array.toList,uT,bq,bw,fA,gP,Nat.reduceAdd];refine OY (ooF F L ka ks off n cap ao av g bx tp nr md st k p q gk ku) ?_ ?_
 ·exact EZ
 intro iP hp0 hF;refine Hb (λlisted ts hp=>∃ c9 M9 g9 e9,(DdT bx tp F n c9 M9 g9 e9)/\TJ2 ooN ooX ooD (ooV F L ka ks off n cap ao av g bx tp nr md st k p q gk ku c9 M9 g9 e9) (ahH F L ka ks off n cap ao av g bx tp nr md st k p q gk ku c9 M9 g9 e9) iP hp0 listed ts hp) (λlisted ts hp szR rdR hI=>?_) (λfuel listed ts hp i szR hi jX h hk=>?_) _ _ _ _ zS bd ?_
 ·have MS:=zj szR ae rdR;have jK:∀ i,i<16->listed[i]? = some true:=λi hi=>MS i oN;obtain ⟨c9,M9,g9,e9,hinv,hI⟩:=hI;have k3:ts 3=.pointer (some ⟨200,0,none⟩):=(hI.t0 3 zD).trans hF.e3;have k4:ts 4=.pointer (some ⟨208,0,none⟩):=(hI.t0 4 zD).trans hF.e4;have k6:ts 6=.pointer (some ⟨224,0,none⟩):=(hI.t0 6 zD).trans hF.e6;have k7:ts 7=.int .i64 e9:=hI.tm (15,7) zD (jK 15 zO);have c200:hp 200=some (⟨#[.slice (some ⟨ka,off,none⟩) n cap,.int .i64 g,.int .i64 bx,.int .i64 tp,.int .i64 nr,.int .i64 md],.ty 24⟩):=(hI.ext zD).trans hF.b200;have c208:hp 208=some (⟨#[.int .i64 st,.slice (some ⟨ks,ao,none⟩) n av],.ty 27⟩):=(hI.ext zD).trans hF.b208;have c224:hp 224=some (⟨#[.int .i64 st,.slice (some ⟨432,0,none⟩) n c9],.ty 27⟩):=hI.bx (14,224) zD (jK 14 zO) (by simp [ooX]);have aaX:hp 432=some (⟨fa M9 .i64 g9,.ty 50⟩):=hI.bx (10,432) zD (jK 10 zO) (by simp [ooX]);have cL:∀ p∈L,hp p.1=some p.2:=λp hp=>(hI.ext (Il _ (hT.ok.big p hp).2)).trans (hF.bL p hp);have clow:∀ k,k<100->hp k=G1 k:=λk hk=>(hI.ext (Il _ zO)).trans (hF.low k hk);have HM:hp ks=some bs:=cL _ hT.kb
  have hA2:hp ka=some bm:=by
   exact xn
  obtain ⟨F',t1,t2,t3,t4,t5,t6,t7⟩:=hinv;have h9:=qW t2 t3 t4 (by have:=(ln ez).2.1;omega);have Vu:KaAt hp ka 432 bm ⟨fa M9 .i64 g9,.ty 50⟩:=⟨hm.fx,h9.fx,hA2,aaX,zO,zO,hT.a8.imp (λe=>zO) λe=>⟨e,(hT.ag e).2⟩⟩
  have PO:=Fun.kaAt (xs:=#[]) (off:=off) (n:=n) (cap:=cap) (ao:=0) (n2:=n) (av:=c9) (g:=g) (bx:=bx) (tp:=tp) (nr:=nr) (md:=md) (st:=st) rfl (λ_=>zS) (λL' ka' ks' h'=>J5 L' ka' ks' bm _ h' off n cap 0 n c9 fm F' hm h9 g bx tp nr md st hs fk fk) Vu clow;rw [Array.append_empty] at PO
  have e2:(pX n n (eQ n fm g bx tp nr md) (aV st F' n)&&ij bx tp F' n)=ij bx tp F' n:=by
   cases ha:ij bx tp F' n with
   | false=>rw [Bool.and_false]
   | true =>
    have:=s8 ez (sJ zO zO ha);unfold pX;rw [fJ,this];simp
  rw [e2] at PO;unfold cfV at PO;by_cases hz:e9=0
  ·cases ha:ij bx tp F' n with
   | true =>
    rw [ha] at PO;subst hz
    repeat' first|refine cM ?_|((first|refine gwR [17] ?_|refine gwD [17] ?_);intro Q hQ _;(repeat first|simp [hC,hY,k3,k4,k6,k7,c200,c208,c224]|refine eX PO (λ_ _=>rfl) clow trivial ?_);refine cQ hQ ?_)|fail
    refine ⟨.inr trivial,?_,_,_,λx=>if x=1000 then 432 else x,ahI ⟨_,⟨c9,M9,g9,t1,t2,t3,rfl,rfl⟩,rfl⟩ t4 (t6 rfl) ha,λx hx=>ab zO,zS,zS,by simp [results13,ren,aT,aw,aA,k6,c224],?_⟩
    ·exact sa
    ·simp [ic,aaX]
   | false =>
    rw [ha] at PO;subst hz
    repeat' first|refine cM ?_|((first|refine gwR [17] ?_|refine gwD [17] ?_);intro Q hQ _;(repeat first|simp [hC,hY,k3,k4,k6,k7,c200,c208,c224]|refine eX PO (λ_ _=>rfl) clow trivial ?_);refine cQ hQ ?_)|fail
    have dO:=tC ks 568 mY zO zO bs ao n av fs cf dp st;refine gj ?_;refine n7 (Gy.k7 k3 k4 k6 k7 c200 c208 c224) ?_;refine bN (f:=.func 21) (cap:=#[]) hC dO rfl zS rfl rfl aJ aq zS aM aq (by simp [HM,bW]) (λx hx=>wD) ?_ ?_
    ·exact mz
    rintro v ns ⟨c7,M7,g7,x7,y7,z7,rfl,rfl⟩;refine GU (Gy.k7 k3 k4 k6 k7 c200 c208 c224) ?_;refine bH ?_;refine dy (Gy.k7 k3 k4 k6 k7 c200 c208 c224) ?_;refine ⟨.inr trivial,?_,_,_,λx=>if x=1000 then 568 else x,Yy ⟨_,⟨c7,M7,g7,x7,y7,z7,rfl,rfl⟩,rfl⟩ cf.i6 (λh=>by rw [<-ni (t6 rfl),ha] at h;cases h),λx hx=>ab zO,zS,zS,vP,?_⟩
    ·exact sa
    ·exact fZ
  ·have hz1:(e9==0)=false:=by simpa using hz
   have hz3:(e9 != 130)=true:=by simpa using t5
   refine dy (k9 k3 k4 k6 k7 c200 c208 c224 hz1 hz3) ?_;have dO:=tC ks 568 mY zO zO bs ao n av fs cf dp st;refine gj ?_;refine n7 (Gy.k7 k3 k4 k6 k7 c200 c208 c224) ?_;refine bN (f:=.func 21) (cap:=#[]) hC dO rfl zS rfl rfl aJ aq zS aM aq (by simp [HM,bW]) (λx hx=>wD) ?_ ?_
   ·exact mz
   rintro v ns ⟨c7,M7,g7,x7,y7,z7,rfl,rfl⟩;refine GU (Gy.k7 k3 k4 k6 k7 c200 c208 c224) ?_;refine bH ?_;refine dy (Gy.k7 k3 k4 k6 k7 c200 c208 c224) ?_;refine ⟨.inr trivial,?_,_,_,λx=>if x=1000 then 568 else x,Yy ⟨_,⟨c7,M7,g7,x7,y7,z7,rfl,rfl⟩,rfl⟩ cf.i6 (λh=>hz (t7 h)),λx hx=>ab zO,zS,zS,vP,?_⟩
   ·exact sa
   ·exact fZ
 ·have cA:i<16:=by
   exact wW
  obtain ⟨c9,M9,g9,e9,hinv,h⟩:=h;obtain rfl|rfl|rfl|rfl|rfl|rfl|rfl|rfl|rfl|rfl|rfl|rfl|rfl|rfl|rfl|rfl:i=0\/i=1\/i=2\/i=3\/i=4\/i=5\/i=6\/i=7\/i=8\/i=9\/i=10\/i=11\/i=12\/i=13\/i=14\/i=15:=zO
  ·-- 0
   have low:∀ k,k<100->hp k=G1 k:=λk hk=>(h.ext (Il _ zO)).trans (hF.low k hk);refine sG (f:=.func 31) (cap:=#[]) hC WM rfl hi lZ kz rfl rfl aJ aq zS zS zS zS (λq hq=>(low q hq).symm▸zS) ?_ ?_
   ·rintro v ns ⟨rfl,rfl⟩ k hk;simp [ak,AX] at hk;omega
   rintro v ns ⟨rfl,rfl⟩;exact hk _ _ ⟨c9,M9,g9,e9,hinv,(h.new3 ze zf (i:=0) (t:=22) (k0:=352) (k1:=353) (k2:=354) zD zD zD hi ky zD rfl ⟨zD,zD,zD⟩ ⟨rfl,rfl,rfl⟩)⟩
  ·-- 1
   have ZD:ts 5=.pointer (some ⟨216,0,none⟩):=(h.t0 5 zD).trans hF.e5;refine uj (Gy.k2 ZD yf) ?_;exact hk _ _ ⟨c9,M9,g9,e9,hinv,(h.tmp ze zf hi ky (i:=1) (t:=23) zD rfl zD)⟩
  ·-- 2
   have jR:=jX _ rfl;simp [Region.binds] at jR;have d1:listed[1]? = some true:=bf;have vf1:ts 23=.pointer (some ⟨216,0,none⟩):=h.tm (1,23) zD d1;have Bv:hp 216=some (⟨#[.int .u8 k,.int .i64 p,.int .i64 q],.ty 33⟩):=(h.ext zD).trans hF.b216;refine uj (Gy.k3 vf1 Bv yf) ?_;exact hk _ _ ⟨c9,M9,g9,e9,hinv,(h.tmp ze zf hi (by simp [ooD,d1]) (i:=2) (t:=24) zD rfl zD)⟩
  ·-- 3
   have jR:=jX _ rfl;simp [Region.binds] at jR;have d0:listed[0]? = some true:=bf;have d2:listed[2]? = some true:=bf;have vf0:ts 22=.map (some 352):=h.tm (0,22) zD d0;have vf2:ts 24=.int .u8 k:=h.tm (2,24) zD d2;have aiI:hp 352=some (muB (deL 353 354)):=h.bxi hi (w:=0) zD d0 zD;refine gwo ?_;intro Q hQ;simp [hC,hY,vf0,vf2,aiI,yf];apply hQ;exact hk _ _ ⟨c9,M9,g9,e9,hinv,(h.tmp ze zf hi (by simp [ooD,d0,d2]) (i:=3) (t:=25) zD rfl zD)⟩
  ·-- 4
   have vx3:ts 3=.pointer (some ⟨200,0,none⟩):=(h.t0 3 zD).trans hF.e3;have ZT:hp 200=some (⟨#[.slice (some ⟨ka,off,none⟩) n cap,.int .i64 g,.int .i64 bx,.int .i64 tp,.int .i64 nr,.int .i64 md],.ty 24⟩):=(h.ext zD).trans hF.b200;refine uj (Gy.k3 vx3 ZT yf) ?_;exact hk _ _ ⟨c9,M9,g9,e9,hinv,(h.tmp ze zf hi ky (i:=4) (t:=26) zD rfl zD)⟩
  ·-- 5
   have vx4:ts 4=.pointer (some ⟨208,0,none⟩):=(h.t0 4 zD).trans hF.e4;have ZU:hp 208=some (⟨#[.int .i64 st,.slice (some ⟨ks,ao,none⟩) n av],.ty 27⟩):=(h.ext zD).trans hF.b208;refine uj (Gy.k3 vx4 ZU yf) ?_;exact hk _ _ ⟨c9,M9,g9,e9,hinv,(h.tmp ze zf hi ky (i:=5) (t:=27) zD rfl zD)⟩
  ·-- 6
   have ZD:ts 5=.pointer (some ⟨216,0,none⟩):=(h.t0 5 zD).trans hF.e5;refine uj (Gy.k2 ZD yf) ?_;exact hk _ _ ⟨c9,M9,g9,e9,hinv,(h.tmp ze zf hi ky (i:=6) (t:=28) zD rfl zD)⟩
  ·-- 7
   have jR:=jX _ rfl;simp [Region.binds] at jR;have d6:listed[6]? = some true:=bf;have vf6:ts 28=.pointer (some ⟨216,1,none⟩):=h.tm (6,28) zD d6;have Bv:hp 216=some (⟨#[.int .u8 k,.int .i64 p,.int .i64 q],.ty 33⟩):=(h.ext zD).trans hF.b216;refine uj (Gy.k3 vf6 Bv yf) ?_;exact hk _ _ ⟨c9,M9,g9,e9,hinv,(h.tmp ze zf hi (by simp [ooD,d6]) (i:=7) (t:=29) zD rfl zD)⟩
  ·-- 8
   have ZD:ts 5=.pointer (some ⟨216,0,none⟩):=(h.t0 5 zD).trans hF.e5;refine uj (Gy.k2 ZD yf) ?_;exact hk _ _ ⟨c9,M9,g9,e9,hinv,(h.tmp ze zf hi ky (i:=8) (t:=30) zD rfl zD)⟩
  ·-- 9
   have jR:=jX _ rfl;simp [Region.binds] at jR;have d8:listed[8]? = some true:=bf;have vf8:ts 30=.pointer (some ⟨216,2,none⟩):=h.tm (8,30) zD d8;have Bv:hp 216=some (⟨#[.int .u8 k,.int .i64 p,.int .i64 q],.ty 33⟩):=(h.ext zD).trans hF.b216;refine uj (Gy.k3 vf8 Bv yf) ?_;exact hk _ _ ⟨c9,M9,g9,e9,hinv,(h.tmp ze zf hi (by simp [ooD,d8]) (i:=9) (t:=31) zD rfl zD)⟩
  ·-- 10
   have jR:=jX _ rfl;simp [Region.binds] at jR;have d3:listed[3]? = some true:=bf;have d4:listed[4]? = some true:=bf;have d5:listed[5]? = some true:=bf;have d7:listed[7]? = some true:=bf;have d9:listed[9]? = some true:=bf;have vf3:ts 25=.func (.func gk) #[] ku:=h.tm (3,25) zD d3;have vf4:ts 26=.agg #[.slice (some ⟨ka,off,none⟩) n cap,.int .i64 g,.int .i64 bx,.int .i64 tp,.int .i64 nr,.int .i64 md]:=h.tm (4,26) zD d4;have vf5:ts 27=.agg #[.int .i64 st,.slice (some ⟨ks,ao,none⟩) n av]:=h.tm (5,27) zD d5;have vf7:ts 29=.int .i64 p:=h.tm (7,29) zD d7;have vf9:ts 31=.int .i64 q:=h.tm (9,31) zD d9;have low:∀ k,k<100->hp k=G1 k:=λk hk=>(h.ext (Il _ zO)).trans (hF.low k hk);have cL:∀ p∈L,hp p.1=some p.2:=λp hp=>(h.ext (Il _ (hT.ok.big p hp).2)).trans (hF.bL p hp);have d0:listed[0]? = some true:=bf;have an7:hp 353=some (alB 47):=h.bxi hi (w:=0) (k:=353) zD d0 zD;have an8:hp 354=some (alB 49):=h.bxi hi (w:=0) (k:=354) zD d0 zD;refine sG (f:=.tmp 25) (g:=gk) (cap:=ku) hC hdd rfl hi lZ kz rfl rfl Cz rK JV Cj rK (λq hq=>?_) (λq hq=>(low q hq).symm▸Cm) ?_ ?_
   ·exact Dw
   ·intro v ns hV k hk;obtain ⟨c9',M9',g9',e9',u0,rfl,rfl⟩:=hR v ns hV;simp [ak] at hk;omega
   intro v ns hV;obtain ⟨c9',M9',g9',e9',u0,rfl,rfl⟩:=hR v ns hV;have h:=h.chg (V':=ooV F L ka ks off n cap ao av g bx tp nr md st k p q gk ku c9' M9' g9' e9') (VI:=ahH F L ka ks off n cap ao av g bx tp nr md st k p q gk ku c9' M9' g9' e9') hi (λj hj hD=>by unfold ooV;split<;>first|rfl|exact absurd rfl hj|exact (hD zD).elim) (λj hj hD=>by unfold ahH;split<;>first|rfl|exact absurd rfl hj|exact (hD zD).elim);exact hk _ _ ⟨c9',M9',g9',e9',u0,h.new ze zf zD hi ky (i:=10) (t:=32) (k:=432) zD rfl zD rfl zD⟩
  ·-- 11
   have jR:=jX _ rfl;simp [Region.binds] at jR;have d10:listed[10]? = some true:=bf;have ZC:ts 32=.tuple #[.agg #[.int .i64 st,.slice (some ⟨432,0,none⟩) n c9],.int .i64 e9]:=h.tm (10,32) zD d10;refine uj (Gy.k2 ZC yf) ?_;exact hk _ _ ⟨c9,M9,g9,e9,hinv,(h.tmp ze zf hi (by simp [ooD,d10]) (i:=11) (t:=21) zD rfl zD)⟩
  ·-- 12
   have jR:=jX _ rfl;simp [Region.binds] at jR;have d11:listed[11]? = some true:=bf;have QX:ts 21=.tuple #[.agg #[.int .i64 st,.slice (some ⟨432,0,none⟩) n c9],.int .i64 e9]:=h.tm (11,21) zD d11;have d10:listed[10]? = some true:=h.cl (11,10) zD d11;refine uj (Gy.k2 QX yf) ?_;exact hk _ _ ⟨c9,M9,g9,e9,hinv,(h.tmp ze zf hi (by simp [ooD,d10,d11]) (i:=12) (t:=33) zD rfl zD)⟩
  ·-- 13
   have jR:=jX _ rfl;simp [Region.binds] at jR;have d11:listed[11]? = some true:=bf;have QX:ts 21=.tuple #[.agg #[.int .i64 st,.slice (some ⟨432,0,none⟩) n c9],.int .i64 e9]:=h.tm (11,21) zD d11;have d10:listed[10]? = some true:=h.cl (11,10) zD d11;refine uj (Gy.k2 QX yf) ?_;exact hk _ _ ⟨c9,M9,g9,e9,hinv,(h.tmp ze zf hi (by simp [ooD,d10,d11]) (i:=13) (t:=34) zD rfl zD)⟩
  ·-- 14
   have jR:=jX _ rfl;simp [Region.binds] at jR;have d10:listed[10]? = some true:=bf;have d12:listed[12]? = some true:=bf;have ZC:ts 32=.tuple #[.agg #[.int .i64 st,.slice (some ⟨432,0,none⟩) n c9],.int .i64 e9]:=h.tm (10,32) zD d10;have ais:ts 33=.agg #[.int .i64 st,.slice (some ⟨432,0,none⟩) n c9]:=h.tm (12,33) zD d12;have vx6:ts 6=.pointer (some ⟨224,0,none⟩):=(h.t0 6 zD).trans hF.e6;have aiF:hp 224=some (⟨#[.int .i64 0,.slice none 0 0],.ty 27⟩):=(h.h0 224 λq hq e hl=>by simp only [ooX,al,aB,aC] at hq;rcases hq with rfl|rfl|rfl|rfl|rfl<;>first|(simp at e;done)|(rw [hi] at hl;cases hl)).trans hF.b224;refine uj (k5 ZC ais vx6 aiF yf) ?_;exact hk _ _ ⟨c9,M9,g9,e9,hinv,(h.st zD hi (by simp [ooD,d10,d12]) (i:=14) (k:=224) zD zD rfl zD)⟩
  ·-- 15
   have jR:=jX _ rfl;simp [Region.binds] at jR;have d13:listed[13]? = some true:=bf;have ait:ts 34=.int .i64 e9:=h.tm (13,34) zD d13;have d10:listed[10]? = some true:=h.cl (13,10) zD d13;refine uj (Gy.k2 ait yf) ?_;exact hk _ _ ⟨c9,M9,g9,e9,hinv,(h.tmp ze zf hi (by simp [ooD,d10,d13]) (i:=15) (t:=7) zD rfl zD)⟩
 ·have Vy:∀ j:Nat,(Array.replicate 16 false)[j]?≠some true:=λj=>by
   rw [jm];split<;>simp
  exact ⟨c0,M0,g0,e0,h0d,TJ2.start Vy⟩
def onN:List (Nat×Nat):=[(0,22),(1,23),(2,24),(3,25),(4,26),(5,27),(6,28),(7,29),(8,30),(9,31),(10,32),(11,21),(12,33),(13,34),(15,7)]
def onX:List (Nat×Nat):=[(0,352),(0,353),(0,354),(14,224)]
def onD:List (Nat×Nat):=[]
def onV (F:aS) (L:bS) (ka ks off n cap ao av:Nat) (g bx tp nr md st k p q:Int) (gk:FuncId) (ku:bV)  : Nat->Value
 | 0=>.map (some 352)
 | 1=>.pointer (some ⟨216,0,none⟩)
 | 2=>.int .u8 k
 | 3=>.func (.func gk) #[] ku
 | 4=>.agg #[.slice (some ⟨ka,off,none⟩) n cap,.int .i64 g,.int .i64 bx,.int .i64 tp,.int .i64 nr,.int .i64 md]
 | 5=>.agg #[.int .i64 st,.slice (some ⟨ks,ao,none⟩) n av]
 | 6=>.pointer (some ⟨216,1,none⟩)
 | 7=>.int .i64 p
 | 8=>.pointer (some ⟨216,2,none⟩)
 | 9=>.int .i64 q
 | 10=>.tuple #[.agg #[.int .i64 st,.slice (some ⟨ks,ao,none⟩) n av],.int .i64 130]
 | 11=>.tuple #[.agg #[.int .i64 st,.slice (some ⟨ks,ao,none⟩) n av],.int .i64 130]
 | 12=>.agg #[.int .i64 st,.slice (some ⟨ks,ao,none⟩) n av]
 | 13=>.int .i64 130
 | 15=>.int .i64 130
 | _=>.bool true
def asc (F:aS) (L:bS) (ka ks off n cap ao av:Nat) (g bx tp nr md st k p q:Int) (gk:FuncId) (ku:bV)  : Nat->Nat->Blk
 | 0=>λx=>if x=353 then alB 47 else if x=354 then alB 49 else muB (deL 353 354)
 | 14=>λ_=>⟨#[.int .i64 st,.slice (some ⟨ks,ao,none⟩) n av],.ty 27⟩
 | _=>λ_=>⟨#[],.mp⟩
structure onF (F:aS) (L:bS) (ka ks off n cap ao av:Nat) (g bx tp nr md st k p q:Int) (gk:FuncId) (ku:bV) (iP:eM) (hp0:Hp):Prop where
 e3:iP 3=.pointer (some ⟨200,0,none⟩)
 e4:iP 4=.pointer (some ⟨208,0,none⟩)
 e5:iP 5=.pointer (some ⟨216,0,none⟩)
 e6:iP 6=.pointer (some ⟨224,0,none⟩)
 e7:iP 7=.int .i64 180
 b200:hp0 200=some (⟨#[.slice (some ⟨ka,off,none⟩) n cap,.int .i64 g,.int .i64 bx,.int .i64 tp,.int .i64 nr,.int .i64 md],.ty 24⟩)
 b208:hp0 208=some (⟨#[.int .i64 st,.slice (some ⟨ks,ao,none⟩) n av],.ty 27⟩)
 b216:hp0 216=some (⟨#[.int .u8 k,.int .i64 p,.int .i64 q],.ty 33⟩)
 b224:hp0 224=some (⟨#[.int .i64 0,.slice none 0 0],.ty 27⟩)
 low:∀ k,k<100->hp0 k=G1 k
 bL:∀ p∈L,hp0 p.1=some p.2
theorem zc:(onN.map Prod.fst).Nodup:=bd
theorem zd:(onN.map Prod.snd).Nodup:=bd
theorem Ij:∀ k,k<200->k∉onX.map Prod.snd:=λk hk=>by simp [onX];try omega
theorem acU {L:bS} {ka ks:Nat} {bm bs:Blk} (hT:LKa L ka ks bm bs) (off n cap ao av:Nat) (fm fs:aS) (hm:MB bm off n fm) (cf:SB bs ao n fs) (dp:n<=av) (g bx tp nr md st:Int) (hs:i64 st) (k p q:Int) (zt:0<=k/\k<256) (fJ:eQ n fm g bx tp nr md=true) (ez:aV st fs n=true) (RM:opB k p q=true) (TQ:(true&&ij bx tp fs n)=true)
  (gk:FuncId) (ku:bV) (yf:jT k (deL 353 354)=some (.func (.func gk) #[] ku)) (JV:ku.all da=true) (F:aS) (R:AI) {rs:List Nat} (hR:∀ v ns,R v ns->v=.tuple #[.agg #[.int .i64 st,.slice (some ⟨ks,ao,none⟩) n av],.int .i64 130]/\ns=[])
  (hdd:FunS prog G1 gk (#[.agg #[.slice (some ⟨ka,off,none⟩) n cap,.int .i64 g,.int .i64 bx,.int .i64 tp,.int .i64 nr,.int .i64 md],.agg #[.int .i64 st,.slice (some ⟨ks,ao,none⟩) n av],.int .i64 p,.int .i64 q]++ku) (hpL G1 ((353,alB 47)::(354,alB 49)::L)) rs R) (Gz:∀ x∈rs,x=353\/x=354\/x∈ak L) :
  FunS prog G1 13 #[cfV (.slice (some ⟨ka,off,none⟩) n cap) g bx tp nr md,.agg #[.int .i64 st,.slice (some ⟨ks,ao,none⟩) n av],.agg #[.int .u8 k,.int .i64 p,.int .i64 q]] (hpL G1 L) (ak L) (uy 1000 st n fs 130):=by
 refine iK (B:=200) G1F func13 rfl call13 hT.ok ?_ od kz zO ?_
 ·exact dE
 intro C hC bQ hY;have hA:=hT.a;have hS:=hT.s;have df:=hT.ne;have fq:=hT.na;have jW:=hT.low;have mY:=hT.k1;have nA:=hT.k2;have yB:=hT.a2;have hcr:=λK=>aP (K:=K) G1W ae ((vd k p q zt).up Gr);rw [RM] at hcr;obtain ⟨JT,OT,_⟩:=iJ fJ;have fp:=pL L ka ks bm bs hT off n cap ao n av fm fs hm cf g bx tp nr md st hs;have dR:=J5 L ka ks bm bs hT off n cap ao n av fm fs hm cf g bx tp nr md st hs fk fk;have Jb:pX n n (eQ n fm g bx tp nr md) (aV st fs n)=true:=oF;rw [Jb] at fp dR;rw [TQ] at dR;have aq3:∀ v,jT k (deL 353 354)=v↔some (.func (.func gk) #[] ku)=v:=λv=>by rw [yf]
 unfold cfV at fp dR;unfold cfV;refine fO ?_;refine nh 0 (λ_ _=>False) rfl (λ_ _ h=>h.elim) ?_;intro _
 repeat' first|refine cM ?_|((first|refine gwR [29,17] ?_|refine gwD [29,17] ?_);intro Q hQ _;(repeat first|simp [hC,hY,hA,hS,df,fq,hcr]|refine dG fp hT.ok ji ?_|refine dG dR hT.ok ji ?_);refine cQ hQ ?_)|fail
 refine yO follows ?_;simp only [Array.toList,uT,bq,bw,fA,gP,Nat.reduceAdd];refine OY (onF F L ka ks off n cap ao av g bx tp nr md st k p q gk ku) ?_ ?_
 ·exact EZ
 intro iP hp0 hF;refine Hb (λlisted ts hp=>TJ2 onN onX onD (onV F L ka ks off n cap ao av g bx tp nr md st k p q gk ku ) (asc F L ka ks off n cap ao av g bx tp nr md st k p q gk ku ) iP hp0 listed ts hp) (λlisted ts hp szR rdR hI=>?_) (λfuel listed ts hp i szR hi jX h hk=>?_) _ _ _ _ zS bd ?_
 ·have MS:=zj szR ae rdR;have jK:∀ i,i<16->listed[i]? = some true:=λi hi=>MS i oN
  skip
  have k3:ts 3=.pointer (some ⟨200,0,none⟩):=(hI.t0 3 zD).trans hF.e3;have k4:ts 4=.pointer (some ⟨208,0,none⟩):=(hI.t0 4 zD).trans hF.e4;have k6:ts 6=.pointer (some ⟨224,0,none⟩):=(hI.t0 6 zD).trans hF.e6;have k7:ts 7=.int .i64 130:=hI.tm (15,7) zD (jK 15 zO);have c200:hp 200=some (⟨#[.slice (some ⟨ka,off,none⟩) n cap,.int .i64 g,.int .i64 bx,.int .i64 tp,.int .i64 nr,.int .i64 md],.ty 24⟩):=(hI.ext zD).trans hF.b200;have c208:hp 208=some (⟨#[.int .i64 st,.slice (some ⟨ks,ao,none⟩) n av],.ty 27⟩):=(hI.ext zD).trans hF.b208;have c224:hp 224=some (⟨#[.int .i64 st,.slice (some ⟨ks,ao,none⟩) n av],.ty 27⟩):=hI.bx (14,224) zD (jK 14 zO) (by simp [onX]);have cL:∀ p∈L,hp p.1=some p.2:=λp hp=>(hI.ext (Ij _ (hT.ok.big p hp).2)).trans (hF.bL p hp);have clow:∀ k,k<100->hp k=G1 k:=λk hk=>(hI.ext (Ij _ zO)).trans (hF.low k hk);have HM:hp ks=some bs:=cL _ hT.kb
  have hA2:hp ka=some bm:=by
   exact xn
  refine dy (Gy.k7 k3 k4 k6 k7 c200 c208 c224) ?_;have dO:=tC ks 560 mY zO zO bs ao n av fs cf dp st;refine gj ?_;refine n7 (Gy.k7 k3 k4 k6 k7 c200 c208 c224) ?_;refine bN (f:=.func 21) (cap:=#[]) hC dO rfl zS rfl rfl aJ aq zS aM aq (by simp [HM,bW]) (λx hx=>wD) ?_ ?_
  ·exact mz
  rintro v ns ⟨c7,M7,g7,x7,y7,z7,rfl,rfl⟩;refine GU (Gy.k7 k3 k4 k6 k7 c200 c208 c224) ?_;refine bH ?_;refine dy (Gy.k7 k3 k4 k6 k7 c200 c208 c224) ?_;refine ⟨.inr trivial,?_,_,_,λx=>if x=1000 then 560 else x,⟨_,⟨c7,M7,g7,x7,y7,z7,rfl,rfl⟩,rfl⟩,λx hx=>ab zO,zS,zS,vP,?_⟩
  ·exact sa
  ·exact fZ
 ·have cA:i<16:=by
   exact wW
  skip
  obtain rfl|rfl|rfl|rfl|rfl|rfl|rfl|rfl|rfl|rfl|rfl|rfl|rfl|rfl|rfl|rfl:i=0\/i=1\/i=2\/i=3\/i=4\/i=5\/i=6\/i=7\/i=8\/i=9\/i=10\/i=11\/i=12\/i=13\/i=14\/i=15:=zO
  ·-- 0
   have low:∀ k,k<100->hp k=G1 k:=λk hk=>(h.ext (Ij _ zO)).trans (hF.low k hk);refine sG (f:=.func 31) (cap:=#[]) hC WM rfl hi lZ kz rfl rfl aJ aq zS zS zS zS (λq hq=>(low q hq).symm▸zS) ?_ ?_
   ·rintro v ns ⟨rfl,rfl⟩ k hk;simp [ak,AX] at hk;omega
   rintro v ns ⟨rfl,rfl⟩;exact hk _ _ (h.new3 zc zd (i:=0) (t:=22) (k0:=352) (k1:=353) (k2:=354) zD zD zD hi lX zD rfl ⟨zD,zD,zD⟩ ⟨rfl,rfl,rfl⟩)
  ·-- 1
   have ZD:ts 5=.pointer (some ⟨216,0,none⟩):=(h.t0 5 zD).trans hF.e5;refine uj (Gy.k2 ZD yf) ?_;exact hk _ _ (h.tmp zc zd hi lX (i:=1) (t:=23) zD rfl zD)
  ·-- 2
   have jR:=jX _ rfl;simp [Region.binds] at jR;have d1:listed[1]? = some true:=bf;have vf1:ts 23=.pointer (some ⟨216,0,none⟩):=h.tm (1,23) zD d1;have Bv:hp 216=some (⟨#[.int .u8 k,.int .i64 p,.int .i64 q],.ty 33⟩):=(h.ext zD).trans hF.b216;refine uj (Gy.k3 vf1 Bv yf) ?_;exact hk _ _ (h.tmp zc zd hi (by simp [onD,d1]) (i:=2) (t:=24) zD rfl zD)
  ·-- 3
   have jR:=jX _ rfl;simp [Region.binds] at jR;have d0:listed[0]? = some true:=bf;have d2:listed[2]? = some true:=bf;have vf0:ts 22=.map (some 352):=h.tm (0,22) zD d0;have vf2:ts 24=.int .u8 k:=h.tm (2,24) zD d2;have aiI:hp 352=some (muB (deL 353 354)):=h.bxi hi (w:=0) zD d0 zD;refine gwo ?_;intro Q hQ;simp [hC,hY,vf0,vf2,aiI,yf];apply hQ;exact hk _ _ (h.tmp zc zd hi (by simp [onD,d0,d2]) (i:=3) (t:=25) zD rfl zD)
  ·-- 4
   have vx3:ts 3=.pointer (some ⟨200,0,none⟩):=(h.t0 3 zD).trans hF.e3;have ZT:hp 200=some (⟨#[.slice (some ⟨ka,off,none⟩) n cap,.int .i64 g,.int .i64 bx,.int .i64 tp,.int .i64 nr,.int .i64 md],.ty 24⟩):=(h.ext zD).trans hF.b200;refine uj (Gy.k3 vx3 ZT yf) ?_;exact hk _ _ (h.tmp zc zd hi lX (i:=4) (t:=26) zD rfl zD)
  ·-- 5
   have vx4:ts 4=.pointer (some ⟨208,0,none⟩):=(h.t0 4 zD).trans hF.e4;have ZU:hp 208=some (⟨#[.int .i64 st,.slice (some ⟨ks,ao,none⟩) n av],.ty 27⟩):=(h.ext zD).trans hF.b208;refine uj (Gy.k3 vx4 ZU yf) ?_;exact hk _ _ (h.tmp zc zd hi lX (i:=5) (t:=27) zD rfl zD)
  ·-- 6
   have ZD:ts 5=.pointer (some ⟨216,0,none⟩):=(h.t0 5 zD).trans hF.e5;refine uj (Gy.k2 ZD yf) ?_;exact hk _ _ (h.tmp zc zd hi lX (i:=6) (t:=28) zD rfl zD)
  ·-- 7
   have jR:=jX _ rfl;simp [Region.binds] at jR;have d6:listed[6]? = some true:=bf;have vf6:ts 28=.pointer (some ⟨216,1,none⟩):=h.tm (6,28) zD d6;have Bv:hp 216=some (⟨#[.int .u8 k,.int .i64 p,.int .i64 q],.ty 33⟩):=(h.ext zD).trans hF.b216;refine uj (Gy.k3 vf6 Bv yf) ?_;exact hk _ _ (h.tmp zc zd hi (by simp [onD,d6]) (i:=7) (t:=29) zD rfl zD)
  ·-- 8
   have ZD:ts 5=.pointer (some ⟨216,0,none⟩):=(h.t0 5 zD).trans hF.e5;refine uj (Gy.k2 ZD yf) ?_;exact hk _ _ (h.tmp zc zd hi lX (i:=8) (t:=30) zD rfl zD)
  ·-- 9
   have jR:=jX _ rfl;simp [Region.binds] at jR;have d8:listed[8]? = some true:=bf;have vf8:ts 30=.pointer (some ⟨216,2,none⟩):=h.tm (8,30) zD d8;have Bv:hp 216=some (⟨#[.int .u8 k,.int .i64 p,.int .i64 q],.ty 33⟩):=(h.ext zD).trans hF.b216;refine uj (Gy.k3 vf8 Bv yf) ?_;exact hk _ _ (h.tmp zc zd hi (by simp [onD,d8]) (i:=9) (t:=31) zD rfl zD)
  ·-- 10
   have jR:=jX _ rfl;simp [Region.binds] at jR;have d3:listed[3]? = some true:=bf;have d4:listed[4]? = some true:=bf;have d5:listed[5]? = some true:=bf;have d7:listed[7]? = some true:=bf;have d9:listed[9]? = some true:=bf;have vf3:ts 25=.func (.func gk) #[] ku:=h.tm (3,25) zD d3;have vf4:ts 26=.agg #[.slice (some ⟨ka,off,none⟩) n cap,.int .i64 g,.int .i64 bx,.int .i64 tp,.int .i64 nr,.int .i64 md]:=h.tm (4,26) zD d4;have vf5:ts 27=.agg #[.int .i64 st,.slice (some ⟨ks,ao,none⟩) n av]:=h.tm (5,27) zD d5;have vf7:ts 29=.int .i64 p:=h.tm (7,29) zD d7;have vf9:ts 31=.int .i64 q:=h.tm (9,31) zD d9;have low:∀ k,k<100->hp k=G1 k:=λk hk=>(h.ext (Ij _ zO)).trans (hF.low k hk);have cL:∀ p∈L,hp p.1=some p.2:=λp hp=>(h.ext (Ij _ (hT.ok.big p hp).2)).trans (hF.bL p hp);have d0:listed[0]? = some true:=bf;have an7:hp 353=some (alB 47):=h.bxi hi (w:=0) (k:=353) zD d0 zD;have an8:hp 354=some (alB 49):=h.bxi hi (w:=0) (k:=354) zD d0 zD;refine sG (f:=.tmp 25) (g:=gk) (cap:=ku) hC hdd rfl hi lZ kz rfl rfl Cz rK JV Cj rK (λq hq=>?_) (λq hq=>(low q hq).symm▸Cm) ?_ ?_
   ·exact Dw
   ·intro v ns hV k hk;obtain ⟨rfl,rfl⟩:=hR v ns hV;simp [ak] at hk
   intro v ns hV;obtain ⟨rfl,rfl⟩:=hR v ns hV;exact hk _ _ (h.tmp zc zd hi (by simp [onD,d3,d4,d5,d7,d9]) (i:=10) (t:=32) zD rfl zD)
  ·-- 11
   have jR:=jX _ rfl;simp [Region.binds] at jR;have d10:listed[10]? = some true:=bf;have ZC:ts 32=.tuple #[.agg #[.int .i64 st,.slice (some ⟨ks,ao,none⟩) n av],.int .i64 130]:=h.tm (10,32) zD d10;refine uj (Gy.k2 ZC yf) ?_;exact hk _ _ (h.tmp zc zd hi (by simp [onD,d10]) (i:=11) (t:=21) zD rfl zD)
  ·-- 12
   have jR:=jX _ rfl;simp [Region.binds] at jR;have d11:listed[11]? = some true:=bf;have QX:ts 21=.tuple #[.agg #[.int .i64 st,.slice (some ⟨ks,ao,none⟩) n av],.int .i64 130]:=h.tm (11,21) zD d11;refine uj (Gy.k2 QX yf) ?_;exact hk _ _ (h.tmp zc zd hi (by simp [onD,d11]) (i:=12) (t:=33) zD rfl zD)
  ·-- 13
   have jR:=jX _ rfl;simp [Region.binds] at jR;have d11:listed[11]? = some true:=bf;have QX:ts 21=.tuple #[.agg #[.int .i64 st,.slice (some ⟨ks,ao,none⟩) n av],.int .i64 130]:=h.tm (11,21) zD d11;refine uj (Gy.k2 QX yf) ?_;exact hk _ _ (h.tmp zc zd hi (by simp [onD,d11]) (i:=13) (t:=34) zD rfl zD)
  ·-- 14
   have jR:=jX _ rfl;simp [Region.binds] at jR;have d12:listed[12]? = some true:=bf;have ais:ts 33=.agg #[.int .i64 st,.slice (some ⟨ks,ao,none⟩) n av]:=h.tm (12,33) zD d12;have vx6:ts 6=.pointer (some ⟨224,0,none⟩):=(h.t0 6 zD).trans hF.e6;have aiF:hp 224=some (⟨#[.int .i64 0,.slice none 0 0],.ty 27⟩):=(h.h0 224 λq hq e hl=>by simp only [onX,al,aB,aC] at hq;rcases hq with rfl|rfl|rfl|rfl<;>first|(simp at e;done)|(rw [hi] at hl;cases hl)).trans hF.b224;refine uj (Gy.k4 ais vx6 aiF yf) ?_;exact hk _ _ (h.st zD hi (by simp [onD,d12]) (i:=14) (k:=224) zD zD rfl zD)
  ·-- 15
   have jR:=jX _ rfl;simp [Region.binds] at jR;have d13:listed[13]? = some true:=bf;have ait:ts 34=.int .i64 130:=h.tm (13,34) zD d13;refine uj (Gy.k2 ait yf) ?_;exact hk _ _ (h.tmp zc zd hi (by simp [onD,d13]) (i:=15) (t:=7) zD rfl zD)
 ·have Vy:∀ j:Nat,(Array.replicate 16 false)[j]?≠some true:=λj=>by
   rw [jm];split<;>simp
  exact TJ2.start Vy
theorem CH {p:Prop} (h:p:=by rcases hρ with ⟨rfl,rfl,_⟩|⟨rfl,rfl,_⟩<;>rfl):p:=h
theorem D2 {p:Prop} (h:p:=by
 obtain ⟨pp,mG,rfl⟩:=aI.1 hk;exact (hT.ok.big pp mG).2):p:=h
theorem F0 {p:Prop} (h:p:=by
 have hb:=hT.ok.big pp mG;rw [lo _ hb.2,Blk.fx_rn (hT.fx pp mG),XA zO];exact ⟨hb.1,hT.mem pp mG⟩):p:=h
theorem acN {k p q:Int} (h:opB k p q=true):iL p q=true/\(k=1\/k=2\/k=3)/\i64 p/\i64 q:=by
 unfold opB at h;unfold iL;simp only [bO,fe,wiB] at *
 unfold i64;omega
def deK (k:Nat):Nat:=if k=200 then 353 else if 1000<=k then k - 1000+432 else k
def deM (k:Nat):Nat:=if k=200 then 354 else if 1000<=k then k - 1000+432 else k
theorem al0 {h1 h2:FuncId} {L:bS}:hpL G1 ((353,alB h1)::(354,alB h2)::L) 353=some (alB h1):=by simp [aW]
theorem al1 {h1 h2:FuncId} {L:bS}:hpL G1 ((353,alB h1)::(354,alB h2)::L) 354=some (alB h2):=by simp [aW]
theorem XA {h1 h2:FuncId} {L:bS} {k:Nat} (hk:k<300):hpL G1 ((353,alB h1)::(354,alB h2)::L) k=hpL G1 L k:=by simp (disch:=omega) only [aW,ab]
section
variable {L:bS} {ka ks:Nat} {bm bs:Blk} (hT:LKa L ka ks bm bs)
include hT
theorem Rs (h h1 h2:FuncId) (ρ:cI) (nk:Nat) (hρ:(ρ=deK/\nk=353/\h=h1)\/(ρ=deM/\nk=354/\h=h2)) {f:FuncId} {off n cap ao av:Nat} {g bx tp nr md st p q bX tX:Int} {F:aS} {nb:Bool}
  (hh:FunS prog G1 f #[cfV (.slice (some ⟨ka,off,none⟩) n cap) g bx tp nr md,.agg #[.int .i64 st,.slice (some ⟨ks,ao,none⟩) n av],.int .i64 p,.int .i64 q,.pointer (some ⟨200,0,none⟩)] (hpL G1 ((200,alB h)::L)) (ak ((200,alB h)::L)) (DdR ks ao av nb bX tX F st n 1000)) :
  FunS prog G1 f #[cfV (.slice (some ⟨ka,off,none⟩) n cap) g bx tp nr md,.agg #[.int .i64 st,.slice (some ⟨ks,ao,none⟩) n av],.int .i64 p,.int .i64 q,.pointer (some ⟨nk,0,none⟩)] (hpL G1 ((353,alB h1)::(354,alB h2)::L)) (nk::ak L) (DdR ks ao av nb bX tX F st n 432):=by
 have mY:=hT.k2;have Vu:=hT.a2;have e2:ρ 200=nk:=CH;have e1:ρ 1000=432:=CH
 have lo:∀ k,k<200->ρ k=k:=λk hk=>by
  rcases hρ with ⟨rfl,rfl,_⟩|⟨rfl,rfl,_⟩
  ·unfold deK;rw [ab zO,ab zO]
  ·unfold deM;rw [ab zO,ab zO]
 have hi:∀ k,k∈ak L->k<200:=λk hk=>by
  exact D2
 have mZ:nk=353\/nk=354:=by rcases hρ with ⟨_,e,_⟩|⟨_,e,_⟩<;>omega
 have m9:hpL G1 ((353,alB h1)::(354,alB h2)::L) nk=some (alB h):=by
  rcases hρ with ⟨_,rfl,rfl⟩|⟨_,rfl,rfl⟩
  ·exact al0
  ·exact al1
 refine hh.mvL G1F (Wf hT.ok h) ρ (λk hk=>lo k zO) ?_ ?_ (WL (lo ks mY) e1) (λk hk=>?_) (λpp mG=>?_) (λk hk l hl e=>?_) (λv ns hV k hk=>?_) (λv ns hV k hk l hl e=>?_)
 ·simp [cfV,ren,aT,aw,aA,e2,lo ka Vu,lo ks mY]
 ·show ρ 200::(ak L).map ρ=_;rw [e2];congr 1;exact dK (λk hk=>lo k (hi k hk)) |>.trans (nW _)
 ·rw [XA zO];exact hT.low k hk
 ·rcases al.1 mG with rfl|mG
  ·rw [AP];simp only [e2];exact ⟨zO,m9⟩
  ·exact F0
 ·have g8:k=200\/k<200:=(al.1 hk).imp id (hi k);have zu:l=200\/l<200:=(al.1 hl).imp id (hi l);rcases g8 with rfl|g8<;>rcases zu with rfl|zu
  ·rfl
  ·rw [e2,lo l zu] at e;omega
  ·rw [e2,lo k g8] at e;omega
  ·rwa [lo k g8,lo l zu] at e
 ·rw [qQ hV k hk,e1];refine ⟨zO,λhm=>?_⟩;rcases al.1 hm with e|e
  ·omega
  ·have:=hi _ e;omega
 ·rw [qQ hV k hk,qQ hV l hl]
theorem abg (h1 h2:FuncId) {f:FuncId} {off n cap ao av:Nat} {g bx tp nr md st p q bX tX:Int} {F:aS} {nb:Bool}
  (hh:FunS prog G1 f #[cfV (.slice (some ⟨ka,off,none⟩) n cap) g bx tp nr md,.agg #[.int .i64 st,.slice (some ⟨ks,ao,none⟩) n av],.int .i64 p,.int .i64 q] (hpL G1 L) (ak L) (DdR ks ao av nb bX tX F st n 1000)) :
  FunS prog G1 f #[cfV (.slice (some ⟨ka,off,none⟩) n cap) g bx tp nr md,.agg #[.int .i64 st,.slice (some ⟨ks,ao,none⟩) n av],.int .i64 p,.int .i64 q] (hpL G1 ((353,alB h1)::(354,alB h2)::L)) (ak L) (DdR ks ao av nb bX tX F st n 432):=by
 have mY:=hT.k2;have Vu:=hT.a2;have e1:deK 1000=432:=rfl;have lo:∀ k,k<200->deK k=k:=λk hk=>by unfold deK;rw [ab zO,ab zO]
 have hi:∀ k,k∈ak L->k<200:=λk hk=>by
  exact D2
 refine hh.mvL G1F hT.ok deK (λk hk=>lo k zO) ?_ ?_ (WL (lo ks mY) e1) (λk hk=>?_) (λpp mG=>?_) (λk hk l hl e=>?_) (λv ns hV k hk=>?_) (λv ns hV k hk l hl e=>?_)
 ·simp [cfV,ren,aT,aw,aA,lo ka Vu,lo ks mY]
 ·exact dK (λk hk=>lo k (hi k hk)) |>.trans (nW _)
 ·rw [XA zO];exact hT.low k hk
 ·exact F0
 ·rwa [lo k (hi k hk),lo l (hi l hl)] at e
 ·rw [qQ hV k hk,e1];refine ⟨zO,λhm=>?_⟩;have:=hi _ hm;omega
 ·rw [qQ hV k hk,qQ hV l hl]
end
theorem abf {ks ao av:Nat} {bx tp:Int} {F:aS} {st:Int} {n nk:Nat} (v:Value) (ns:bS) (h:DdR ks ao av false bx tp F st n nk v ns) :
  ∃ (c9 M9:Nat) (g9:aS) (e9:Int),DdT bx tp F n c9 M9 g9 e9/\v=.tuple #[.agg #[.int .i64 st,.slice (some ⟨nk,0,none⟩) n c9],.int .i64 e9]/\ns=[(nk,⟨fa M9 .i64 g9,.ty 50⟩)]:=by
 rcases h with ⟨h,_⟩|⟨_,F',e,⟨w,⟨c,M,G9,h1,h2,h3,rfl,rfl⟩,rfl⟩,h4,h5,h6,h7⟩
 ·cases h
 ·exact ⟨c,M,G9,e,⟨F',h1,h2,h3,h5,h4,h6,h7⟩,rfl,rfl⟩
theorem WK {ks ao av:Nat} {bx tp:Int} {F:aS} {st:Int} {n nk:Nat} (v:Value) (ns:bS) (h:DdR ks ao av true bx tp F st n nk v ns) :
  v=.tuple #[.agg #[.int .i64 st,.slice (some ⟨ks,ao,none⟩) n av],.int .i64 130]/\ns=[]:=by
 rcases h with ⟨_,h⟩|⟨h,_⟩
 ·exact h
 ·cases h
theorem wJ {p:Prop} (h:p:=by unfold opN;rw [hE];exact ab zO):p:=h
theorem xq {p:Prop} (h:p:=by
 simp [aN,cp,aL,aR,dom,hA,hS,df,fq]):p:=h
theorem ES {p:Prop} (h:p:=by
 rintro m _ rfl;unfold ahJ bI
 repeat' first|refine cM ?_|refine K4 ?_|fail
 refine gj ?_;refine n7 (k4 hA hS df fq) ?_;refine bN (f:=.func 21) (cap:=#[]) hC (dO 1008 zO zO) rfl zS rfl rfl aJ aq zS aM aq kE cS ?_ ?_
 ·intro v ns hV x hx;rw [vr hV x hx];simp
 rintro v ns ⟨c7,M7,g7,x7,y7,z7,rfl,rfl⟩;refine GU (k4 hA hS df fq) ?_;refine bH ?_
 repeat' first|refine cM ?_|refine K4 ?_|fail
 refine ⟨.inr trivial,I1 G1F,_,_,λx=>if x=1000 then 1008 else x,⟨_,⟨c7,M7,g7,x7,y7,z7,rfl,rfl⟩,rfl⟩,λx hx=>ab zO,zS,zS,by simp [results13,ren,aT,aw,aA],?_⟩;simp [ic]):p:=h
theorem DF {p:Prop} (h:p:=by
 refine ⟨rfl,_,0,sD _ 1000 hC G1F hT.ok hT.fx bQ zO ?_ ?_ ji,rfl⟩
 ·exact xq
 ·simp [bI,aF,aL,aR,dom,hA,hS,df,fq]):p:=h
theorem xl {p:Prop} (h:p:=by
 rw [hE,hN];exact ⟨fs,hV,cf.i6,Eq6.rfl'⟩):p:=h
def opE (g bx tp nr:Int) (fm:aS) (n:Nat) (st:Int) (fs:aS) (k p q:Int):Int :=
 if opB k p q=true then (if ij bx tp fs n=true then (if k=2/\nrB st fs n nr=true then 130 else if ij bx tp (opF k p q g fm n fs) n=true then 0 else 180) else 180) else 2
def opN (g bx tp nr:Int) (fm:aS) (n:Nat) (st:Int) (fs:aS) (k p q:Int):Nat->Int :=
 if opE g bx tp nr fm n st fs k p q=0 then opF k p q g fm n fs else fs
def OpZ (E:Int) (F:aS) (st:Int) (n nk:Nat) (v:Value) (ns:bS):Prop :=
 ∃ F':Nat->Int,uy nk st n F' E v ns/\(∀ j,j<6*n->i64 (F' j))/\Eq6 n F' F
theorem Ak {E:Int} {F:aS} {st:Int} {n nk:Nat} {v:Value} {ns:bS} (h:OpZ E F st n nk v ns):∀ x∈ak ns,x=nk:=by
 obtain ⟨F',h,_⟩:=h;exact vt h
theorem acT {D:gA} {E:Int} {F:aS} {st:Int} {n:Nat} (v:Value) (ns:bS) (h:OpZ E F st n 1000 v ns):aN (cJ D ns) v/\(∀ p∈ns,200<=p.1/\p.2.ids (cJ D ns))/\(∀ k b c,(k,b)∈ns->(k,c)∈ns->b=c):=by
 obtain ⟨F',h,_⟩:=h;exact od v ns h
theorem YA {nk:Nat} {ρ:cI} (h:ρ 1000=nk) (E:Int) (F:aS) (st:Int) (n:Nat):RR ρ (OpZ E F st n 1000)=OpZ E F st n nk:=by
 funext v ns;apply propext;constructor
 ·rintro ⟨v0,uo,⟨F',h1,h2⟩,rfl,rfl⟩;exact ⟨F',yk h st n F' E▸⟨_,_,h1,rfl,rfl⟩,h2⟩
 ·rintro ⟨F',h1,h2⟩;rw [<-yk h st n F' E] at h1;obtain ⟨v0,uo,h4,e1,e2⟩:=h1;exact ⟨v0,uo,⟨F',h4,h2⟩,e1,e2⟩
theorem abU {L:bS} {ka ks:Nat} {bm bs:Blk} (hT:LKa L ka ks bm bs) {R:AI} (hk:∀ v ns,R v ns->∀ k∈ak ns,k=1000)
  (hf:∀ (D:gA) v ns,R v ns->aN (cJ D ns) v/\(∀ p∈ns,200<=p.1/\p.2.ids (cJ D ns))/\(∀ k b c,(k,b)∈ns->(k,c)∈ns->b=c)) :
  ∀ v ns,R v ns->aN (cJ (dom (rst (hpL G1 L) (ak L))) ns) v/\(∀ k∈ak ns,100<=k/\¬dom (rst (hpL G1 L) (ak L)) k)/\(∀ k b c,(k,b)∈ns->(k,c)∈ns->b=c)/\∀ p∈ns,p.2.ids (cJ (dom (rst (hpL G1 L) (ak L))) ns):=λv ns hV=>by
 obtain ⟨h1,h2,h3⟩:=hf (dom (rst (hpL G1 L) (ak L))) v ns hV;refine ⟨h1,λk g8=>?_,h3,λp hp=>(h2 p hp).2⟩;rw [hk v ns hV k g8];refine ⟨zO,λhd=>hd ?_⟩;rw [LOk.rst G1F];exact hT.ok.free G1F zO 1000 zO
def ahJ (L:bS) (ks:Nat) (st:Int) (ao n av:Nat) (e:Int):GS :=
 ⟨tsL [(4,.pointer (some ⟨208,0,none⟩)),(6,.pointer (some ⟨224,0,none⟩)),(7,.int .i64 e)],hpL G1 ([(208,bI st ks ao n av),(224,⟨#[.int .i64 0,.slice none 0 0],.ty 27⟩)]++L),1000,0⟩
section
variable {L:bS} {ka ks:Nat} {bm bs:Blk} (hT:LKa L ka ks bm bs) (off n cap ao av:Nat) (fm fs:aS) (hm:MB bm off n fm) (cf:SB bs ao n fs) (dp:n<=av) (g bx tp nr md st:Int) (hs:i64 st) (k p q:Int) (zt:0<=k/\k<256) (fJ:eQ n fm g bx tp nr md=true) (ez:aV st fs n=true)
include hT hm cf dp hs zt fJ ez
theorem YB (h0:opB k p q=false\/(opB k p q=true/\ij bx tp fs n=false)) :
  FunS prog G1 13 #[cfV (.slice (some ⟨ka,off,none⟩) n cap) g bx tp nr md,.agg #[.int .i64 st,.slice (some ⟨ks,ao,none⟩) n av],.agg #[.int .u8 k,.int .i64 p,.int .i64 q]] (hpL G1 L) (ak L) (uy 1000 st n fs (if opB k p q=true then 180 else 2)):=by
 refine iK (B:=200) G1F func13 rfl call13 hT.ok ?_ od kz zO ?_
 ·exact dE
 intro C hC bQ hY;have hA:=hT.a;have hS:=hT.s;have df:=hT.ne;have fq:=hT.na;have jW:=hT.low;have mY:=hT.k1;have nA:=hT.k2;have yB:=hT.a2;have hcr:=λK=>aP (K:=K) G1W ae ((vd k p q zt).up Gr);obtain ⟨JT,OT,_⟩:=iJ fJ;have fp:=pL L ka ks bm bs hT off n cap ao n av fm fs hm cf g bx tp nr md st hs;have dR:=J5 L ka ks bm bs hT off n cap ao n av fm fs hm cf g bx tp nr md st hs fk fk;have Jb:pX n n (eQ n fm g bx tp nr md) (aV st fs n)=true:=oF;rw [Jb] at fp dR;have dO:=λnk h1 h2=>tC ks nk mY h1 h2 bs ao n av fs cf dp st;unfold cfV at fp dR;unfold cfV;refine fO ?_;rcases h0 with h0|⟨h0,h1⟩
 ·rw [h0] at hcr |-;refine nh 0 (λm s=>s=ahJ L ks st ao n av 2) rfl ?_ ?_
  ·exact ES
  ·intro _
   repeat' first|refine cM ?_|((first|refine gwR [29] ?_|refine gwD [29] ?_);intro Q hQ _;(repeat first|simp [hC,hY,hA,hS,df,fq,hcr]|refine dG fp hT.ok ji ?_);refine cQ hQ ?_)|fail
   exact DF
 ·rw [h0] at hcr |-;rw [h1] at dR;refine nh 0 (λm s=>s=ahJ L ks st ao n av 180) rfl ?_ ?_
  ·exact ES
  ·intro _
   repeat' first|refine cM ?_|((first|refine gwR [29,17] ?_|refine gwD [29,17] ?_);intro Q hQ _;(repeat first|simp [hC,hY,hA,hS,df,fq,hcr]|refine dG fp hT.ok ji ?_|refine dG dR hT.ok ji ?_);refine cQ hQ ?_)|fail
   exact DF
theorem ae6 :
  FunS prog G1 13 #[cfV (.slice (some ⟨ka,off,none⟩) n cap) g bx tp nr md,.agg #[.int .i64 st,.slice (some ⟨ks,ao,none⟩) n av],.agg #[.int .u8 k,.int .i64 p,.int .i64 q]] (hpL G1 L) (ak L) (OpZ (opE g bx tp nr fm n st fs k p q) (opN g bx tp nr fm n st fs k p q) st n 1000):=by
 have mY:=hT.k1;have nA:=hT.k2;have fp:=abU hT (R:=OpZ (opE g bx tp nr fm n st fs k p q) (opN g bx tp nr fm n st fs k p q) st n 1000) (λv ns=>Ak) (λD v ns=>acT v ns)
 cases ho:opB k p q with
 | false =>
  have hE:opE g bx tp nr fm n st fs k p q=2:=by unfold opE;rw [ho];simp
  have hN:opN g bx tp nr fm n st fs k p q=fs:=wJ;refine (YB hT off n cap ao av fm fs hm cf dp g bx tp nr md st hs k p q zt fJ ez (.inl ho)).imp1 fp λv ns hV=>?_;rw [ho] at hV;exact xl
 | true =>
  cases ha:ij bx tp fs n with
  | false =>
   have hE:opE g bx tp nr fm n st fs k p q=180:=by unfold opE;rw [ho,ha];simp
   have hN:opN g bx tp nr fm n st fs k p q=fs:=wJ;refine (YB hT off n cap ao av fm fs hm cf dp g bx tp nr md st hs k p q zt fJ ez (.inr ⟨ho,ha⟩)).imp1 fp λv ns hV=>?_;rw [ho] at hV;exact xl
  | true =>
   have TQ:(true&&ij bx tp fs n)=true:=by rw [ha];rfl
   obtain ⟨Jm,yZ,ip,iq⟩:=acN ho;obtain ⟨JT,OT,_⟩:=iJ fJ
   have own:∀ (gk:FuncId) (ku:bV) (rs:List Nat),jT k (deL 353 354)=some (.func (.func gk) #[] ku)->ku.all da=true ->
     FunS prog G1 gk (#[cfV (.slice (some ⟨ka,off,none⟩) n cap) g bx tp nr md,.agg #[.int .i64 st,.slice (some ⟨ks,ao,none⟩) n av],.int .i64 p,.int .i64 q]++ku) (hpL G1 ((353,alB 47)::(354,alB 49)::L)) rs (DdR ks ao av false bx tp (opF k p q g fm n fs) st n 432)->(∀ x∈rs,x=353\/x=354\/x∈ak L)->¬(k=2/\nrB st fs n nr=true) ->
     FunS prog G1 13 #[cfV (.slice (some ⟨ka,off,none⟩) n cap) g bx tp nr md,.agg #[.int .i64 st,.slice (some ⟨ks,ao,none⟩) n av],.agg #[.int .u8 k,.int .i64 p,.int .i64 q]] (hpL G1 L) (ak L) (OpZ (opE g bx tp nr fm n st fs k p q) (opN g bx tp nr fm n st fs k p q) st n 1000):=by
    intro gk ku rs h1 h2 h3 h4 h5;refine (ahO hT off n cap ao av fm fs hm cf dp g bx tp nr md st hs k p q zt fJ ez ho TQ gk ku h1 h2 (opF k p q g fm n fs) _ abf h3 h4).imp1 fp ?_;rintro v ns ⟨F',hV,h6,h7⟩;have hE:opE g bx tp nr fm n st fs k p q=if ij bx tp (opF k p q g fm n fs) n=true then 0 else 180:=by unfold opE;rw [ho,ha,ai rfl,ai rfl,ab h5]
    unfold opN;rw [hE]
    cases hb:ij bx tp (opF k p q g fm n fs) n with
    | true =>
     rw [hb,ai rfl] at hV h7;rw [ai rfl,ai rfl];exact ⟨F',hV,h6,h7⟩
    | false =>
     rw [hb,ab zS] at hV h7;rw [ab zS,ab zO];exact ⟨F',hV,h6,h7⟩
   have MR:=λ(h:FuncId) (R:AI) (hR:∀ v ns,R v ns->DdR ks ao av false bx tp (opF k p q g fm n fs) st n 364 v ns) hd=>Wg h L ka ks bm bs hT off n cap ao av g bx tp nr md st p q bx tp (opF k p q g fm n fs) R hR hd;rcases yZ with rfl|rfl|rfl
   ·have hd:=FunS.up1 (m:=[(ks,bs)]) (B:=ks+1) ((TA bs ao n av fs cf dp st p q hs ip iq).own2 (fL:=#[.agg #[.int .i64 st,.slice (some ⟨ks,ao,none⟩) n av],.int .i64 p,.int .i64 q]) cf.fx ks 364 mY zO zO (λv ns=>Pt) oC (Tz BY)) ⟨by simp [mY],ah,by simpa using Blk.fx_ids cf.fx _⟩;have h1:=MR 47 _ (λv ns hV=>Pu cf dp g fm hs ez Jm JT.2 OT.2 hV ks) hd;exact own 64 #[.pointer (some ⟨353,0,none⟩)] _ rfl zS (Rs hT 47 47 49 deK 353 (.inl ⟨rfl,rfl,rfl⟩) h1) (λx hx=>(al.1 hx).imp id .inr) zO
   ·have h1:=T7 L ka ks bm bs hT off n cap ao av fm fs hm cf dp g bx tp nr md st hs p q fJ ez Jm;have h2:=abg hT 47 49 h1
    cases hnr:nrB st fs n nr with
    | true =>
     rw [hnr] at h2;have hE:opE g bx tp nr fm n st fs 2 p q=130:=by unfold opE;rw [ho,ha,hnr];simp
     have hN:opN g bx tp nr fm n st fs 2 p q=fs:=wJ;refine (acU hT off n cap ao av fm fs hm cf dp g bx tp nr md st hs 2 p q zt fJ ez ho TQ 48 #[] rfl zS (opF 2 p q g fm n fs) _ WK (by simpa [cfV] using h2) (λx hx=>.inr (.inr hx))).imp1 fp λv ns hV=>?_;exact xl
    | false =>
     rw [hnr] at h2;exact own 48 #[] _ rfl zS (by simpa using h2) (λx hx=>.inr (.inr hx)) (λh=>by rw [hnr] at h;exact absurd h.2 zS)
   ·have hd:=FunS.up1 (m:=[(ks,bs)]) (B:=ks+1) ((U4 bs ao n av fs cf dp st p q hs ip iq ez Jm).own2 (fL:=#[.agg #[.int .i64 st,.slice (some ⟨ks,ao,none⟩) n av],.int .i64 p,.int .i64 q]) cf.fx ks 364 mY zO zO (λv ns=>vt) oC (yk BY st n _ _)) ⟨by simp [mY],ah,by simpa using Blk.fx_ids cf.fx _⟩;have h1:=MR 49 _ (λv ns hV=>Ub g fm cf.i6 ez Jm JT.2 OT.2 hV ks ao av) hd;exact own 64 #[.pointer (some ⟨354,0,none⟩)] _ rfl zS (Rs hT 49 47 49 deM 354 (.inr ⟨rfl,rfl,rfl⟩) h1) (λx hx=>.inr (al.1 hx)) zO
end
end Go.Gy
namespace Go.Gy
open Go Go.RowKit
theorem Y6 {b:Blk} {ρ:cI}:gR (b.rn ρ)=gR b:=by
 obtain ⟨c,T⟩:=b;cases T<;>rfl
structure RW (G:Hp) (sh:bS) (ρ:cI) (s s':GS):Prop where
 ts:∀ t,s'.ts t=eY\/(s.ts t=ren ρ (s'.ts t)/\s.ts t≠eY/\aN (dom s'.hp) (s'.ts t))
 hp:∀ k b,s'.hp k=some b->s.hp (ρ k)=some (b.rn ρ)/\b.ids (dom s'.hp)
 inj:∀ k l,dom s'.hp k->dom s'.hp l->ρ k=ρ l->k=l
 low:∀ k,k<100->ρ k=k
 big:∀ k,100<=k->dom s'.hp k->100<=ρ k
 glob:∀ k,k<100->s'.hp k=G k
 free:∀ x,s'.B<=x->s'.hp x=none
 lowB:100<=s'.B
 yc:s'.yc=s.yc
 sh:∀ p∈sh,s'.hp p.1=some p.2/\ρ p.1=p.1
theorem GIB.rnw {G:Hp} {E:Ext} {n:Nat} {sh:bS} {rS r ρ:cI} {s s':GS} {a:Act} {W:World} (h:GIB G E n sh rS r s a W) (hw:RW G sh ρ s s'):GIB G E n sh rS (λk=>r (ρ k)) s' a W:=by
 have sub:∀ k,dom s'.hp k->dom s.hp (ρ k):=λk hk=>by
  unfold dom at *
  cases hb:s'.hp k with
  | none=>exact absurd hb hk
  | some b=>rw [(hw.hp k b hb).1];simp
 refine ⟨h.size,λt=>?_,λk b hb=>?_,λk l hk hl e=>hw.inj k l hk hl (h.inj _ _ (sub k hk) (sub l hl) e),?_,h.defers,λp hp=>⟨(hw.sh p hp).1,by show r (ρ p.1)=_;rw [(hw.sh p hp).2];exact (h.keepS p hp).2⟩,hw.glob,λk hk hd=>?_,hw.free,hw.lowB⟩
 ·rcases hw.ts t with e|⟨e,hj,hi⟩
  ·exact .inl e
  ·rcases h.rel t with e'|e'
   ·exact absurd e' hj
   ·refine .inr ⟨?_,hi⟩;rw [e'.1,e];exact jf r ρ _
 ·have h1:=hw.hp k b hb;have h2:=h.sat (ρ k) (b.rn ρ) h1.1;rw [Blk.rn_obj] at h2;exact ⟨h2.1,h1.2⟩
 ·obtain ⟨S,h1,h2,h3⟩:=h.ext;refine ⟨S,rv,h2,λi b hi g5 hr=>h3 (ρ i) (b.rn ρ) (hw.hp i b hi).1 (hw.big i g5 ?_) (by rw [Y6];exact hr)⟩;unfold dom;rw [show s'.hp i=some b from hi];simp
 ·show r (ρ k)=k;have h1:=hw.low k hk;have:=sub k hd;rw [h1] at this;rw [h1];exact h.low k hk this
section
variable {P:Program} {G:Hp} {E:Ext} {n:Nat} {sh:bS} {rS:cI} {ro:Option Nat} {s:GS} {K:kV}
theorem VN {c:Code} (I:Nat->GS->Prop) {m0:Nat} (h0:I m0 s)
  (round:∀ m s,I m s->GB P G E n sh rS ro c s (dU (λs'=>∃ vB m' ρ,RW G sh ρ s' vB/\I m' vB/\m'<m) K)):GB P G E n sh rS ro (.loop c) s K:=by
 have key:∀ (m:Nat) (s:GS),I m s->∀ r a W,GIB G E n sh rS r s a W->∀ (b:Frame) (k:List Item) (cs:List Frame),b.roundOf=ro ->
   (Fs P).fn b.fn->∃ e a' w',(∃ s' r',K e s'/\GIB G E n sh rS r' s' a' w')/\ArrivesIn (Machine.fenced P (Fw P ro)) P (lone (b.atR a (.code c::.inLoop c::k)) cs W) b k cs e a' w':=by
  intro m
  induction m using Nat.strongRecOn with
  | _ m ih =>
   intro s hI r a W hi b k cs Jn Gw;obtain ⟨e,a₁,w₁,⟨s',r',hk,cv⟩,gz⟩:=round m s hI r a W hi b (.inLoop c::k) cs Jn Gw (mJ P _)
   cases e with
   | normal =>
    obtain ⟨vB,m',ρ,XI,Xo,cA⟩:=hk;obtain ⟨e₂,a₂,w₂,PV,qT⟩:=ih m' cA vB Xo _ a₁ w₁ (cv.rnw XI) b k cs Jn Gw;exact sn
   | exit id=>exact ⟨_,a₁,w₁,⟨s',r',hk,cv⟩,.pass (x:=.inLoop c) rfl (λ_ _=>.inl zS) gz⟩
   | goto l=>exact ⟨_,a₁,w₁,⟨s',r',hk,cv⟩,.pass (x:=.inLoop c) rfl (λ_ _=>.inl zS) gz⟩
   | ret=>exact ⟨_,a₁,w₁,⟨s',r',hk,cv⟩,.pass (x:=.inLoop c) rfl (λ_ _=>.inl zS) gz⟩
   | panic ch=>exact ⟨_,a₁,w₁,⟨s',r',hk,cv⟩,.pass (x:=.inLoop c) rfl (λ_ _=>.inl zS) gz⟩
   | outgrown=>exact ⟨_,a₁,w₁,⟨s',r',hk,cv⟩,.pass (x:=.inLoop c) rfl (λ_ _=>.inl zS) gz⟩
 intro r a W hi b k cs Jn hb hr;obtain ⟨e,a',w',hq,gz⟩:=key m0 s h0 r a W hi b k cs Jn hb;exact FB
end
theorem rwL {G:Hp} {sh L:bS} {s:GS} {m:bS} (ρ:cI) (l:List (Nat×Value)) (B:Nat) (cK:ct G) (hB:200<=B) (hl:∀ p∈l,s.ts p.1=ren ρ p.2/\s.ts p.1≠eY/\aN (dom (hpL G (m++L))) p.2)
  (hm:∀ p∈m,s.hp (ρ p.1)=some (p.2.rn ρ)/\p.2.ids (dom (hpL G (m++L)))/\200<=p.1/\p.1<B/\200<=ρ p.1) (hmj:∀ p∈m,∀ q∈m,ρ p.1=ρ q.1->p.1=q.1) (hL:LOk L 200) (zV:∀ p∈L,p.2.fx) (hk:∀ p∈L,s.hp p.1=some p.2) (ba:∀ k,k<200->ρ k=k) (hG:∀ k,k<100->s.hp k=G k)
  (m7:∀ p∈sh,p∈L):RW G sh ρ s ⟨tsL l,hpL G (m++L),B,s.yc⟩:=by
 have hLm:∀ p∈L,hpL G (m++L) p.1=some p.2:=λp hp=>by
  have key:∀ (m:bS),(∀ q∈m,200<=q.1)->hpL G (m++L) p.1=some p.2:=by
   intro m
   induction m with
   | nil=>intro _;exact LOk.at hL.one p hp
   | cons q m ih =>
    intro h;have h1:=h q zS;have h2:=(hL.big p hp).2;obtain ⟨qk,qb⟩:=q;rw [bq,aW,ab (by dsimp only at h1;omega)];exact ih λq hq=>h q (br _ hq)
  exact key m λq hq=>(hm q hq).2.2.1
 have mF:∀ k b,hpL G (m++L) k=some b->(k,b)∈m\/(k,b)∈L\/G k=some b:=λk b hb=>by
  rcases cB hb with h|h
  ·exact (cN.1 h).imp id .inl
  ·exact .inr (.inr h)
 have alO:∀ k,k<100->hpL G (m++L) k=G k:=λk hk=>cD (λp hp=>by
  rcases cN.1 hp with h|h
  ·have:=(hm p h).2.2.1;omega
  ·exact (hL.big p h).1) hk
 have hρ:∀ k,dom (hpL G (m++L)) k->(k<200/\ρ k=k)\/(∃ b,(k,b)∈m/\200<=k/\200<=ρ k):=λk hd=>by
  unfold dom at hd
  cases hb:hpL G (m++L) k with
  | none=>exact absurd hb hd
  | some b =>
   rcases mF k b hb with h|h|h
   ·have h1:=hm _ h;exact .inr ⟨b,h,h1.2.2.1,h1.2.2.2.2⟩
   ·have h1:=(hL.big _ h).2;exact .inl ⟨h1,ba k h1⟩
   ·have h1:=(cK k b h).1;exact .inl ⟨zO,ba k zO⟩
 refine ⟨λt=>?_,λk b hb=>?_,λk l' g8 zu e=>?_,λk g8=>ba k zO,λk h1 hd=>?_,alO,λx hx=>?_,by show 100<=B;omega,rfl,λp hp=>⟨hLm p (m7 p hp),ba _ (hL.big p (m7 p hp)).2⟩⟩
 ·exact EV
 ·rcases mF k b hb with h|h|h
  ·have:=hm _ h;exact ⟨this.1,this.2.1⟩
  ·have h1:=(hL.big _ h).2;rw [ba k h1,Blk.fx_rn (zV _ h)];exact ⟨hk _ h,Blk.fx_ids (zV _ h) _⟩
  ·have h1:=cK k b h;rw [ba k zO,hG k h1.1,h,Blk.rn_flat (λx hx=>h1.2 x hx)];exact ⟨rfl,Blk.flat_ids h1.2⟩
 ·rcases hρ k g8 with ⟨a1,a2⟩|⟨b,a1,a2,a3⟩<;>rcases hρ l' zu with ⟨c1,c2⟩|⟨d,c1,c2,c3⟩
  ·omega
  ·omega
  ·omega
  ·exact hmj _ a1 _ c1 e
 ·rcases hρ k hd with ⟨a1,a2⟩|⟨b,a1,a2,a3⟩<;>omega
 ·show hpL G (m++L) x=none
  cases hb:hpL G (m++L) x with
  | none=>rfl
  | some b =>
   have tn:B<=x:=hx;rcases mF x b hb with h|h|h
   ·have:=hm _ h;dsimp only at this;omega
   ·have:=(hL.big _ h).2;dsimp only at this;omega
   ·have:=(cK x b h).1;omega
end Go.Gy
namespace Go.Gy
open Go Go.RowKit Go.Proofs Go.Proofs.Tryz
theorem rM {p:Prop} (h:p:=by simp [rnL,h,Blk.fx_rn h1.fx]):p:=h
theorem Fv {p:Prop} (h:p:=by
 rw [hi] at h;simp only at h
 cases hz:i.zero with
 | none=>rw [hz] at h;cases h
 | some z =>
  rw [hz] at h;simp only [bO,fe,cV] at h;exact ⟨i,z,rfl,hz,h.1.1,h.1.2.1,h.1.2.2,h.2⟩):p:=h
abbrev qt := @Go.Obj.cells.injEq
def fv (N:Nat) (g:eM):Array Value:=Array.ofFn (n:=N) λi=>g i
@[simp] theorem aov (N:Nat) (g:eM):(fv N g).size=N:=by simp [fv]
theorem PE (N:Nat) (g:eM) {j:Nat} (h:j<N):(fv N g)[j]? = some (g j):=by simp [fv,h]
theorem abx (N:Nat) (g:eM) {j:Nat} (h:N<=j):(fv N g)[j]? = none:=by simp [fv];omega
theorem PF {N:Nat} {g:eM} {x:Value} (h:x∈fv N g):∃ j,j<N/\x=g j:=by
 obtain ⟨j,hj,rfl⟩:=Array.mem_iff_getElem.1 h;exact ⟨j,by simpa using hj,by simp [fv]⟩
section
variable {P:Program} {C:Ctx} {n:Nat} {d:List Deferred} {ro:Option Nat} {yc:Nat}
theorem Ya {r:cI} {l:List Value} (h:∀ x∈l,bP x=true):l.map (aw r)=l:=by
 have:l.map (aw r)=l.map id:=dK λx hx=>eU (h x hx);rw [this,nW]
theorem Ku {r:cI} {ts:eM} {hp:Hp} {a:Act} {W:World} {mn:Nat} {o:Oper} {tx ty:Tmp} {t e e2:TypeId} {i:TypeInfo} {z:Value} {q:OV} {j ao sl cap m m' nk:Nat} {bc c2:bV} {nw:List Value} {next:Act->World->Prop} {Q:Exit->Act->World->Prop}
  (h:RI C n d r ts hp yc a W) (hd:∀ dd,o.dst=some dd->dd<n)
  (ho:o.op=.call { callee:=.builtin .append,args:=#[.tmp tx,.tmp ty],argTypes:=#[t,t] }) (ht:P.underlying t=some (.slice e)) (hi:P.info? e=some i) (hz:i.zero=some z)
  (hx:ts tx=.slice q sl cap) (hq:(q=none/\sl=0/\cap=0/\bc=#[])\/∃ k,q=some ⟨k,0,none⟩/\100<=k/\hp k=some ⟨bc,.ty e⟩)
  (hy:ts ty=.slice (some ⟨j,ao,none⟩) m m') (mU:hp j=some ⟨c2,.ty e2⟩) (hnl:nw.length=m*i.size) (Lb:∀ q u,nw[q]? = some u->c2[ao+q]? = some u) (h1:∀ u∈nw,∀ r,(aw r u).oneCell'=true) (y9:∀ c,∀ x∈Builtin.zeroCells z.cells c,bP x=true)
  (hm:0<m) (hc:cap*i.size=bc.size) (M5:sl<=cap) (BU:sl+m<=maxLen) (pV:(sl+m)*i.bytes<=140737488355328) (mZ:hp nk=none/\100<=nk) (hzs:z.cells.size=i.size)
  (post:∀ (k' cW:Nat) (rest:List Value),(q=some ⟨k',0,none⟩\/k'=nk)->100<=k'->(∀ x∈rest,x∈bc\/bP x=true)->sl+m<=cW->sl*i.size+m*i.size+rest.length=cW*i.size->∀ r' a' W',RI C n d r' (dk ts o.dst (.slice (some ⟨k',0,none⟩) (sl+m) cW)) (upd hp k' (some ⟨(bc.toList.take (sl*i.size)++nw++rest).toArray,.ty e⟩)) yc a' W'->next a' W') :
  o.wpIn (Fw P ro) mn P a W next Q:=by
 have amj:∀ x∈nw,aL (dom hp) x:=λx hx=>by
  obtain ⟨q,hq⟩:=List.mem_iff_getElem?.1 hx;exact (h.sat j _ mU).2 x (ke (Lb q x hq))
 have hn:∀ q u,(nw.map (aw r))[q]? = some u->W.cell? ((⟨r j,ao,none⟩:Addr).add q)=some u:=λq u hq=>by
  rw [nS] at hq
  cases hv:nw[q]? with
  | none=>rw [hv] at hq;cases hq
  | some v =>
   rw [hv] at hq;simp only [gL,bg] at hq;subst hq;rw [lG];have hs:=(h.sat j _ mU).1;simp [World.cell?,hs,Blk.obj,lz,Lb q v hv]
 have ey:a.eval (.tmp ty)=.slice (some ⟨r j,ao,none⟩) m m':=by
  exact Eg
 have ho1:∀ u∈nw.map (aw r),u.oneCell'=true:=λu hu=>by
  obtain ⟨v,hv,rfl⟩:=aD.1 hu;exact h1 v hv r
 have zu:(nw.map (aw r)).length=m*i.size:=by rw [uZ];exact hnl
 have BS:¬dom hp nk:=by unfold dom;simp [mZ.1]
 have IZ:∀ q,dom hp q->upd r nk W.heap.size q=r q:=λq hq=>aj _ _ (λe=>BS (e▸hq))
 have hbi:∀ x∈bc,aL (dom hp) x:=by
  rcases hq with ⟨_,_,_,rfl⟩|⟨k,_,_,hb⟩
  ·exact λx hx=>absurd hx zS
  ·exact (h.sat k _ hb).2
 -- a new row
 have grow:∀ cW:Nat,sl+m<=cW->next (a.put o.dst (.slice (some ⟨W.heap.size,0,none⟩) (sl+m) cW)) (W.drew.alloc (.cells ((((bc.toList.take (sl*i.size)).map (aw r)).toArray++(nw.map (aw r)).toArray)++Builtin.zeroCells z.cells (cW - (sl+m))) e)):=λcW dS=>by
  have hv:(Value.slice (some ⟨W.heap.size,0,none⟩) (sl+m) cW)=ren (upd r nk W.heap.size) (.slice (some ⟨nk,0,none⟩) (sl+m) cW):=wH;rw [hv]
  have jK:∀ x∈bc.toList.take (sl*i.size)++nw++(Builtin.zeroCells z.cells (cW - (sl+m))).toList,aL (dom hp) x:=λx hx=>by
   simp only [cN] at hx;rcases hx with (hx|hx)|hx
   ·exact hbi x (by simpa using lB hx)
   ·exact amj x hx
   ·exact jd (y9 _ x (by simpa using hx))
  refine post nk cW (Builtin.zeroCells z.cells (cW - (sl+m))).toList (.inr rfl) mZ.2 (λx hx=>.inr (y9 _ x cG)) dS ?_ (upd r nk W.heap.size) _ _
   (h.drew.after (e:=⟨.slice (some ⟨nk,0,none⟩) (sl+m) cW,[],[],[(nk,⟨_,.ty e⟩)],none,false⟩) hd IZ dD ⟨rfl,rfl,rfl,rF,λq hq _=>?_,λp hp1=>?_,λp hp1=>?_,by simp⟩ ah (by simp [ak,mZ]))
  ·rw [Array.length_toList,LY,hzs,<-qx,<-qx];congr 1;omega
  ·exact lF _ _ _ hq
  ·simp only [bw,bE] at hp1;subst hp1;refine ⟨?_,λx hx=>pr (λk hk=>.inl hk) (jK x cG)⟩;show (W.drew.alloc _).heap[upd r nk W.heap.size nk]? = _;rw [bj];refine (heap_alloc_new W.drew _).trans ?_;unfold Blk.obj;simp only [bg,qt,and_true];rw [ff]
   have e1:(bc.toList.take (sl*i.size)++nw++(Builtin.zeroCells z.cells (cW - (sl+m))).toList).map (aw (upd r nk W.heap.size))=(bc.toList.take (sl*i.size)).map (aw r)++nw.map (aw r)++(Builtin.zeroCells z.cells (cW - (sl+m))).toList:=by
    rw [dK λx hx=>pQ IZ (jK x hx),uI,uI,Ya (l:=(Builtin.zeroCells z.cells (cW - (sl+m))).toList) λx hx=>y9 _ x cG]
   rw [e1];simp
  ·exact F7
 rcases hq with ⟨rfl,rfl,rfl,rfl⟩|⟨k,rfl,hk,hb⟩
 ·have ex:a.eval (.tmp tx)=.slice none 0 0:=by
   exact xt
  refine jI iR (Ky (R:=λu W'=>next (a.put o.dst u) W') (Rp:=λ_ _=>False) ho ht hi hz ex ey zu hn hm zO (by simpa using pV) (λcW dS=>?_)) (λu W' h=>h) (λpv W' h=>h.elim);have:=grow cW zO;exact cZ
 ·have ex:a.eval (.tmp tx)=.slice (some ⟨r k,0,none⟩) sl cap:=by
   exact xt
  have hg:W.heap[r k]? = some (.cells (bc.map (aw r)) e (0,0)):=(h.sat k _ hb).1;have HR:dom hp k:=fF;refine jI iR (B6 (R:=λu W'=>next (a.put o.dst u) W') (Rp:=λ_ _=>False) ho ht hi hz ex hg ey zu hn (by rw [uW];omega) M5 BU pV ho1 (λhr=>?_) (λhr cW dS=>?_)) (λu W' h=>h) (λpv W' h=>h.elim)
  ·have jK:∀ x∈bc.toList.take (sl*i.size)++nw++bc.toList.drop (sl*i.size+nw.length),aL (dom hp) x:=λx hx=>by
    simp only [cN] at hx;rcases hx with (hx|hx)|hx
    ·exact hbi x (by simpa using lB hx)
    ·exact amj x hx
    ·exact hbi x (by simpa using uN hx)
   refine post k cap (bc.toList.drop (sl*i.size+nw.length)) (.inl rfl) hk (λx hx=>.inl (by simpa using uN hx)) hr ?_ r _ _ (h.after (e:=⟨.slice (some ⟨k,0,none⟩) (sl+m) cap,[],[(k,⟨_,.ty e⟩)],[],none,false⟩) hd (λ_ _=>rfl) (by simp [aN,cp,aL,aR,cJ,HR]) ⟨rfl,rfl,rfl,zS,λq hq hnq=>?_,λp hp1=>?_,zS,zS⟩ (by simp [ak,HR,hk]) ah)
   ·have h2:=uC i.size hr;rw [qx] at h2;rw [List.length_drop,Array.length_toList,hnl,<-hc];omega
   ·exact Cr
   ·simp only [dY,bE] at hp1;subst hp1;refine ⟨?_,λx hx=>pr (λk hk=>.inl hk) (jK x cG)⟩;rw [setRow_heap W (r k) _ _ e (0,0) hg];unfold Blk.obj;simp only [bg,qt,and_true];rw [ff];simp [List.map_take,List.map_drop]
  ·have:=grow cW dS;rw [iH,<-List.map_take];exact this
end
def opC (k p q:aS) (j:Nat):Value:=if j%3=0 then .int .u8 (k (j / 3)) else if j%3=1 then .int .i64 (p (j / 3)) else .int .i64 (q (j / 3))
structure OA (A:bV) (c m:Nat) (k p q:aS):Prop where
 sz:A.size=3*c
 fl:∀ x∈A,bP x=true
 rd:∀ j,j<3*m->A[j]? = some (opC k p q j)
 le:m<=c
theorem OA.zero:OA #[] 0 0 (λ_=>0) (λ_=>0) (λ_=>0):=⟨rfl,zS,λj hj=>zO,aG _⟩
theorem OA.fx {A:bV} {c m:Nat} {k p q:aS} (h:OA A c m k p q) {T:TypeId}:Blk.fx ⟨A,.ty T⟩:=h.fl
def yS (m:Nat) (f h:aS) (j:Nat):Int:=if j<m then f j else h (j - m)
theorem acO {m:Nat} {k p q k2 p2 q2:aS} (j:Nat):opC (yS m k k2) (yS m p p2) (yS m q q2) j=if j<3*m then opC k p q j else opC k2 p2 q2 (j - 3*m):=by
 unfold opC yS;by_cases c:j<3*m
 ·rw [ai c];simp only [ai (zO:j / 3<m)]
 ·rw [ab c];simp only [ab (zO:¬j / 3<m),(zO:(j - 3*m) / 3=j / 3 - m),(zO:(j - 3*m)%3=j%3)]
theorem OA.app {A:bV} {c c' m m2:Nat} {k p q k2 p2 q2:aS} (h:OA A c m k p q) {nw rest:List Value} (hn:nw=(fv (3*m2) (opC k2 p2 q2)).toList) (hr:∀ x∈rest,x∈A\/bP x=true) (hle:m+m2<=c') (hs:m*3+m2*3+rest.length=c'*3) :
  OA (A.toList.take (m*3)++nw++rest).toArray c' (m+m2) (yS m k k2) (yS m p p2) (yS m q q2):=by
 have hl:A.toList.length=3*c:=by simp [h.sz]
 have h1:=h.le;have cA:(A.toList.take (m*3)).length=3*m:=by rw [ql,hl];omega
 have hln:nw.length=3*m2:=by rw [hn];simp
 refine ⟨by simp only [qJ,List.length_append,cA,hln];omega,λx hx=>?_,λj hj=>?_,hle⟩
 ·simp only [fz,cN] at hx;rcases hx with (hx|hx)|hx
  ·exact h.fl x (by simpa using lB hx)
  ·rw [hn] at hx;obtain ⟨q,_,rfl⟩:=PF cG;unfold opC;split<;>(try split)<;>rfl
  ·exact (hr x hx).elim (h.fl x) id
 ·rw [iz,acO];by_cases c1:j<3*m
  ·rw [ai c1,ix,js zO,fT,ai zO,j4];exact h.rd j c1
  ·rw [ab c1,ix,jn zO,cA,js zO,hn,j4,PE _ _ zO]
theorem aiK:∃ i z,prog.info? 33=some i/\i.zero=some z/\i.size=3/\i.bytes=24/\z.cells.size=3/\∀ x∈z.cells,bP x=true:=by
 have h:(match prog.info? 33 with
  | some i=>(match i.zero with
   | some z=>decide (i.size=3/\i.bytes=24/\z.cells.size=3)&&z.cells.all bP
   | none=>false)
  | none=>false)=true:=ae
 cases hi:prog.info? 33 with
 | none=>rw [hi] at h;cases h
 | some i =>
  exact Fv
def OD (hp:Hp) (v:Value) (A:bV) (c m:Nat):Prop:=(v=.slice none 0 0/\m=0/\c=0/\A=#[])\/∃ k,v=.slice (some ⟨k,0,none⟩) m c/\100<=k/\hp k=some ⟨A,.ty 33⟩
section
variable {C:Ctx} {n:Nat} {d:List Deferred} {ro:Option Nat} {K:kV}
theorem U2 {r:cI} {ts:eM} {hp:Hp} {yc:Nat} {a:Act} {W:World} {mn:Nat} {o:Oper} {tx ty:Tmp} {nk m c m2 j c2:Nat} {A B:bV} {k p q k2 p2 q2:aS} {next:Act->World->Prop} {Q:Exit->Act->World->Prop}
  (h:RI C n d r ts hp yc a W) (hd:∀ dd,o.dst=some dd->dd<n) (ho:o.op=.call { callee:=.builtin .append,args:=#[.tmp tx,.tmp ty],argTypes:=#[28,28] })
  (hx:OD hp (ts tx) A c m) (hA:OA A c m k p q) (hy:ts ty=.slice (some ⟨j,0,none⟩) m2 c2) (mU:hp j=some ⟨B,.ty 33⟩) (hB:OA B c2 m2 k2 p2 q2) (hm:0<m2) (hs:m+m2<=1000) (mZ:hp nk=none/\100<=nk)
  (post:∀ k' c' A',(k'=nk\/∃ c,ts tx=.slice (some ⟨k',0,none⟩) m c)->100<=k'->OA A' c' (m+m2) (yS m k k2) (yS m p p2) (yS m q q2)->∀ r' a' W',RI C n d r' (dk ts o.dst (.slice (some ⟨k',0,none⟩) (m+m2) c')) (upd hp k' (some ⟨A',.ty 33⟩)) yc a' W'->next a' W') :
  o.wpIn (Fw prog ro) mn prog a W next Q:=by
 obtain ⟨i,z,hi,hz,PW,aqK,hzs,y9⟩:=aiK
 obtain ⟨sl,hxe,hq⟩:∃ sl,ts tx=.slice sl m c/\((sl=none/\m=0/\c=0/\A=#[])\/∃ k,sl=some ⟨k,0,none⟩/\100<=k/\hp k=some ⟨A,.ty 33⟩):=by
  rcases hx with ⟨h1,rfl,rfl,rfl⟩|⟨k,h1,h2,h3⟩
  ·exact ⟨_,h1,.inl ⟨rfl,rfl,rfl,rfl⟩⟩
  ·exact ⟨_,h1,.inr ⟨k,rfl,h2,h3⟩⟩
 have Lb:((fv (3*m2) (opC k2 p2 q2)).toList).length=m2*i.size:=by rw [PW];simp;omega
 refine Ku (z:=z) (nw:=(fv (3*m2) (opC k2 p2 q2)).toList) h hd ho underlying28 hi hz hxe hq hy mU Lb (λq u hq=>by
  have:(fv (3*m2) (opC k2 p2 q2)).toList[q]? = some u:=hq;rw [j4] at this;by_cases hN:q<3*m2
  ·rw [PE _ _ hN] at this;rw [ar,hB.rd q hN];exact this
  ·rw [abx _ _ zO] at this;cases this) (λu hu r=>by
  obtain ⟨q,_,rfl⟩:=PF (by simpa using hu);unfold opC;split<;>(try split)<;>rfl) (λc x hx=>y9 x (IT hx)) hm (by rw [PW,hA.sz];omega) hA.le (by simp only [maxLen];omega) (by rw [aqK];omega) mZ (by rw [PW,hzs]) (λk' cW rest g8 g5 z4 dS abZ r' a' W' cv=>?_)
 rw [PW] at abZ cv;refine post k' cW _ ?_ g5 (hA.app rfl z4 dS abZ) r' a' W' cv;rcases g8 with e|e
 ·exact .inr ⟨c,by rw [hxe,e]⟩
 ·exact .inl e
theorem GK {ops:Array Oper} {o:Oper} {post:og} {base i:Nat} {ts:eM} {hp:Hp} {yc:Nat} {tx ty:Tmp} {m c m2 j c2:Nat} {A B:bV} {k p q k2 p2 q2:aS} (hg:o.guard=none) (hd:∀ dd,o.dst=some dd->dd<n)
  (ho:o.op=.call { callee:=.builtin .append,args:=#[.tmp tx,.tmp ty],argTypes:=#[28,28] })
  (hx:OD hp (ts tx) A c m) (hA:OA A c m k p q) (hy:ts ty=.slice (some ⟨j,0,none⟩) m2 c2) (mU:hp j=some ⟨B,.ty 33⟩) (hB:OA B c2 m2 k2 p2 q2) (hm:0<m2) (hs:m+m2<=1000)
  (h:∀ k' c' A',(k'=base+8*i\/∃ c,ts tx=.slice (some ⟨k',0,none⟩) m c)->100<=k'->OA A' c' (m+m2) (yS m k k2) (yS m p p2) (yS m q q2)->GL prog C n d ro ops base (i+1) post (dk ts o.dst (.slice (some ⟨k',0,none⟩) (m+m2) c')) (upd hp k' (some ⟨A',.ty 33⟩)) yc K):GL prog C n d ro ops base i (o::post) ts hp yc K:=by
 intro r a W TM hf hbb hG hR;refine wpListIn_plain hg λK' JS=>?_;refine U2 TM hd ho hx hA hy mU hB hm hs (nk:=base+8*i) ⟨hf _ (aG _),zO⟩ (λk' c' A' g8 g5 BQ r' a' W' cv=>JS _ _ (h k' c' A' g8 g5 BQ r' a' W' cv (λx VD=>?_) hbb hG hR));unfold upd;split
 ·rename_i e;rcases g8 with e2|⟨c0,e2⟩
  ·omega
  ·rcases hx with ⟨h1,_⟩|⟨k0,h1,h2,h3⟩
   ·rw [h1] at e2;cases e2
   ·rw [h1] at e2;simp only [Value.slice.injEq,bg,Addr.mk.injEq,and_true] at e2;have:=hf x zO;rw [e,<-e2.1,h3] at this;cases this
 ·exact hf x zO
end
theorem aiL:∃ i z,prog.info? 27=some i/\i.zero=some z/\i.size=2/\i.bytes=32/\z.cells.size=2/\∀ x∈z.cells,bP x=true:=by
 have h:(match prog.info? 27 with
  | some i=>(match i.zero with
   | some z=>decide (i.size=2/\i.bytes=32/\z.cells.size=2)&&z.cells.all bP
   | none=>false)
  | none=>false)=true:=ae
 cases hi:prog.info? 27 with
 | none=>rw [hi] at h;cases h
 | some i =>
  exact Fv
section
variable {C:Ctx} {n:Nat} {d:List Deferred} {ro:Option Nat} {K:kV}
end
def Tc (nk m:Nat) (k p q:aS) (v:Value) (ns:bS):Prop:=∃ c A,OA A c m k p q/\v=.slice (some ⟨nk,0,none⟩) m c/\ns=[(nk,⟨A,.ty 33⟩)]
theorem NF {nk m:Nat} {k p q:aS} {v:Value} {ns:bS} (h:Tc nk m k p q v ns):∀ x∈ak ns,x=nk:=by
 obtain ⟨c,A,_,_,rfl⟩:=h;simp [ak]
theorem ND {D:gA} {m:Nat} {k p q:aS} (v:Value) (ns:bS) (h:Tc 1000 m k p q v ns):aN (cJ D ns) v/\(∀ p∈ns,200<=p.1/\p.2.ids (cJ D ns))/\(∀ k b c,(k,b)∈ns->(k,c)∈ns->b=c):=by
 obtain ⟨c,A,h,rfl,rfl⟩:=h;refine ⟨by simp [cJ,ak],?_,?_⟩
 ·simp only [bE,bR];exact ⟨zO,Blk.fx_ids h.fx _⟩
 ·exact mw
theorem Sj {nk m:Nat} {k p q:aS} {ρ:cI} (h:ρ 1000=nk):RR ρ (Tc 1000 m k p q)=Tc nk m k p q:=by
 funext v ns;apply propext;constructor
 ·rintro ⟨v0,uo,⟨c,A,h1,rfl,rfl⟩,rfl,rfl⟩;exact ⟨c,A,h1,eN,rM⟩
 ·rintro ⟨c,A,h1,rfl,rfl⟩;exact ⟨_,_,⟨c,A,h1,rfl,rfl⟩,eN,rM⟩
theorem OA.congr {A:bV} {c m:Nat} {k p q k2 p2 q2:aS} (h:OA A c m k p q) (e:∀ j,j<m->k j=k2 j/\p j=p2 j/\q j=q2 j):OA A c m k2 p2 q2:=by
 refine ⟨h.sz,h.fl,λj hj=>?_,h.le⟩;obtain ⟨e1,e2,e3⟩:=e (j / 3) zO;rw [h.rd j hj];unfold opC;rw [e1,e2,e3]
theorem v9 {p:Prop} (h:p:=by simp [ybx,Blk.ids,aL]):p:=h
theorem CQ {p:Prop} (h:p:=by rw [hC];simpa [ren,aT,aw,aA,opV] using hyc):p:=h
theorem kP {p:Prop} (h:p:=by
 exact λ_ _=>trivial):p:=h
section
variable {P:Program} {G:Hp}
theorem zM {f:FuncId} {fn:Func} {c:Code} {args:bV} {m:bS} {l:Nat} {xs:List (Array Value)} {stop c0 c1:Nat} {v:Value} {B:Nat} (cK:ct G) (hf:P.funcs[f]? = some fn) (hb:fn.body=some c) (eP:∀ a w,(callFunc f a).run P w=.ok (.enter f a) w)
  (hm:LOk m B) (ha:∀ x∈args,aN (λk=>k∈ak m) x) (hv:bz v=true) (hn:args.size<=fn.ntmps) (hB:100<=B)
  (h:∀ C:Ctx,C.G=G->C.hp0=hpL G m->C.Y=some ⟨l,xs,stop,none,none⟩->GW P C fn.ntmps [] none c ⟨λt=>args.getD t undef,hpL G m,B,c0⟩ λe s=>(e=.normal\/e=.ret)/\qa P fn.results.toList s.ts s.hp=some v/\(∀ k,dom (hpL G m) k->s.hp k=hpL G m k)/\s.yc=c1):FunY P G f args (hpL G m) (ak m) ⟨l,xs,stop,none,none⟩ c0 c1 v:=by
 have e:=LOk.rst (m:=m) cK;exact abv (B:=B) cK hm.low hf hb eP vX mj hv rfl hn hB lW rP
theorem FunY.mvL {f:FuncId} {args fL:bV} {m:bS} {B:Nat} {y:YG} {c0 c1:Nat} {v:Value} {db:Hp} {LG:List Nat} (h:FunY P G f args (hpL G m) (ak m) y c0 c1 v) (cK:ct G) (hm:LOk m B) (ρ:cI) (ba:∀ k,k<100->ρ k=k)
  (ea:args.map (ren ρ)=fL) (er:(ak m).map ρ=LG) (hp0:∀ k,k<100->db k=G k) (m9:∀ p∈m,100<=ρ p.1/\db (ρ p.1)=some (p.2.rn ρ)) (gu:∀ k∈ak m,∀ l∈ak m,ρ k=ρ l->k=l):FunY P G f fL db LG y c0 c1 v:=by
 subst ea er
 exact h.rn ρ cK hm.low (vz hm ρ ba hp0 m9 gu) λk hk _=>by
  obtain ⟨p,hp,rfl⟩:=aI.1 hk;exact (m9 p hp).1
end
def opV (k p q:Int):Value:=.agg #[.int .u8 k,.int .i64 p,.int .i64 q]
def ybx (l:Nat):Blk:=⟨#[.func (.yield l) #[] #[]],.ty 31⟩
theorem Q6 (l:Nat):LOk [(100,ybx l)] 200:=⟨zS,ah,by
 simp [ybx,Blk.ids,aL]⟩
theorem Q7 (l:Nat) (ρ:cI):(ybx l).rn ρ=ybx l:=by simp [ybx,Blk.rn,aw]
structure OpB (b:Blk) (off m:Nat) (k p q:aS):Prop where
 fx:b.fx
 ld:∀ i,i<m->ft prog 33 b (off+i*3)=some (opV (k i) (p i) (q i))
 m45:m<=1000
theorem Im {b:Blk} (hb:b.fx) (l:Nat):LOk [(100,b),(108,ybx l)] 200:=⟨zS,ah,by
 simp only [al,aB,aC,dC,bR];exact ⟨Blk.fx_ids hb _,v9⟩⟩
theorem SU (l stop c0:Nat) (xs:List (Array Value)) (k p q:Int) (hx:xs[c0]? = some #[opV k p q]) (hc:c0<=stop) :
  FunY prog G0 83 #[opV k p q,.pointer (some ⟨100,0,none⟩)] (hpL G0 [(100,ybx l)]) (ak [(100,ybx l)]) ⟨l,xs,stop,none,none⟩ c0 (c0+1) (.bool (c0==stop)):=by
 refine zM (B:=200) G0F func83 rfl call83 (Q6 l) ?_ zS (by simp [ntmps83]) zO ?_
 ·simp [opV,aN,cp,aL,aR,ak]
 intro C hC bQ hY;unfold opV at hx;unfold opV ybx;refine dy (k2 hx hc) ?_;refine ⟨.inr trivial,?_,?_,eG⟩
 ·simp [results83,bne]
 ·refine dH (m:=[(100,ybx l)]) G0F ?_ ?_
  ·intro p hp;simp at hp;subst hp
   rfl
  ·(intro k hk;first|rfl|(simp (disch:=omega) only [eW,al,aB,aC,aj,aW,dm,ab,bW]<;>done))
def RV (b:Blk) (l off m cap c0:Nat) (i:Nat):GS :=
 ⟨tsL [(0,.slice (some ⟨100,off,none⟩) m cap),(1,.func (.func 83) #[] #[.pointer (some ⟨108,0,none⟩)]),(6,.slice (some ⟨100,off,none⟩) m cap),(7,.int .i64 m),(8,.int .i64 i)],
 hpL G0 [(100,b),(108,ybx l)],300,c0+i⟩
theorem ab9 (l stop c0:Nat) (xs:List (Array Value)) (b:Blk) (off m cap:Nat) (k p q:aS) (h:OpB b off m k p q) (hx:∀ i,i<m->xs[c0+i]? = some #[opV (k i) (p i) (q i)]) (hc:c0<=stop) (N:Nat) (hN:N<=m) (hle:c0+N<=stop+1) (cm:(N=m/\c0+m<=stop)\/(N<m/\c0+N=stop)) :
  FunY prog G0 104 #[.slice (some ⟨100,off,none⟩) m cap,.func (.func 83) #[] #[.pointer (some ⟨108,0,none⟩)]] (hpL G0 [(100,b),(108,ybx l)]) (ak [(100,b),(108,ybx l)]) ⟨l,xs,stop,none,none⟩ c0 (if N=m then c0+m else stop+1) (.int .i64 (if N=m then -1 else (N:Int))):=by
 refine zM (B:=200) G0F func104 rfl call104 (Im h.fx l) ?_ zS (by simp [ntmps104]) zO ?_
 ·exact bG
 intro C hC bQ hY;have abQ:=h.m45;have iZ:=λD=>Blk.fx_ids h.fx D;have agC:∀ D,(ybx l).ids D:=λD=>v9;refine fO ?_;refine jQ N (RV b l off m cap c0) ?_ ?_ ?_
 ·refine dv _ 300 hC G0F (m0:=[(100,b),(108,ybx l)]) bQ zO ?_ ?_ ?_
  ·exact gb
  ·simp [iZ,agC]
  ·simp
 ·intro i hi;have dR:i<m:=zO;have cv:(i:Int)<m:=zO;have hz:(0:Int)<=i:=zO;have hs:Int.bmod ((i:Int)+1) 18446744073709551616=((i+1:Nat):Int):=fE;have hl:=h.ld i dR;have e1:(c0+i==stop)=false:=aE;unfold opV at hl;unfold RV;refine dy (k5 dR cv hz hs hl) ?_;refine gj ?_;refine Z2 (k5 dR cv hz hs hl) ?_;have hyc:=(SU l stop (c0+i) xs (k i) (p i) (q i) (hx i dR) zO).mvL (db:=hpL G0 [(100,b),(108,ybx l)]) (LG:=[108]) G0F (Q6 l) (λk=>if k=100 then 108 else k) (λk hk=>ab zO) rfl ah bn (by simp [Q7]) ah;refine sF (f:=.tmp 11) (g:=83) (cap:=#[.pointer (some ⟨108,0,none⟩)]) (args:=#[opV (k i) (p i) (q i),.pointer (some ⟨108,0,none⟩)]) (y:=⟨l,xs,stop,none,none⟩) (db:=hpL G0 [(100,b),(108,ybx l)]) (rs:=[108]) rfl zS rfl rfl jx aq zS aM (by simp [gev,opV]) hY rfl CQ zS bn ?_;rw [e1];refine bH ?_;refine dy hs ?_;refine dv _ 300 hC G0F (m0:=[(100,b),(108,ybx l)]) bQ zO ?_ ?_ ?_
  ·exact jz
  ·simp [iZ,agC]
  ·simp
 ·rcases cm with ⟨rfl,he⟩|⟨he1,he2⟩
  ·unfold RV;refine fO ?_;refine ⟨.inr trivial,?_,?_,?_⟩
   ·simp [results104]
   ·exact kP
   ·simp
  ·have cv:(N:Int)<m:=zO;have hz:(0:Int)<=N:=zO;have hl:=h.ld N he1;have e1:(c0+N==stop)=true:=aE;have e2:¬N=m:=zO;unfold opV at hl;unfold RV;refine dy (k4 he1 cv hz hl) ?_;refine gj ?_;refine Z2 (k4 he1 cv hz hl) ?_;have hyc:=(SU l stop (c0+N) xs (k N) (p N) (q N) (hx N he1) zO).mvL (db:=hpL G0 [(100,b),(108,ybx l)]) (LG:=[108]) G0F (Q6 l) (λk=>if k=100 then 108 else k) (λk hk=>ab zO) rfl ah bn (by simp [Q7]) ah;refine sF (f:=.tmp 11) (g:=83) (cap:=#[.pointer (some ⟨108,0,none⟩)]) (args:=#[opV (k N) (p N) (q N),.pointer (some ⟨108,0,none⟩)]) (y:=⟨l,xs,stop,none,none⟩) (db:=hpL G0 [(100,b),(108,ybx l)]) (rs:=[108]) rfl zS rfl rfl jx aq zS aM (by simp [gev,opV]) hY rfl CQ zS bn ?_;rw [e1];refine bH ?_;refine fO ?_;refine ⟨.inr trivial,?_,?_,?_⟩
   ·simp [results104,e2]
   ·exact kP
   ·rw [ab e2,he2]
theorem ry {p:Prop} (h:p:=by simp [opL,ak]):p:=h
theorem Cx {p:Prop} (h:p:=by simp [Q7,Blk.fx_rn (Yt P j).fx]):p:=h
theorem Cd {p:Prop} (h:p:=by rw [hC];simpa [ren,aT,aw,aA] using ha):p:=h
theorem Cu {p:Prop} (h:p:=by simp (disch:=omega) only [aj,aW,dm,ab]):p:=h
theorem FF {p:Prop} (h:p:=by
 intro k hk;have mN:=cA k hk;simp (disch:=omega) only [aj,aW,ab]):p:=h
theorem aa5 (l stop c0:Nat) (xs:List (Array Value)) (b:Blk) (off m cap:Nat) (k p q:aS) (h:OpB b off m k p q) (hx:∀ i,i<m->xs[c0+i]? = some #[opV (k i) (p i) (q i)]) (hc:c0<=stop) (N:Nat) (hN:N<=m) (hle:c0+N<=stop+1) (cm:(N=m/\c0+m<=stop)\/(N<m/\c0+N=stop)) :
  FunY prog G0 82 #[.slice (some ⟨100,off,none⟩) m cap,.func (.func 83) #[] #[.pointer (some ⟨108,0,none⟩)]] (hpL G0 [(100,b),(108,ybx l)]) (ak [(100,b),(108,ybx l)]) ⟨l,xs,stop,none,none⟩ c0 (if N=m then c0+m else stop+1) (.bool (!decide (N=m))):=by
 refine zM (B:=200) G0F func82 rfl call82 (Im h.fx l) ?_ zS (by simp [ntmps82]) zO ?_
 ·exact bG
 intro C hC bQ hY;have hz:(0:Int)<=N:=zO;refine fO ?_;refine gj ?_;refine zP trivial ?_;refine sF (f:=.func 104) (g:=104) (cap:=#[]) (args:=#[.slice (some ⟨100,off,none⟩) m cap,.func (.func 83) #[] #[.pointer (some ⟨108,0,none⟩)]]) (y:=⟨l,xs,stop,none,none⟩) (db:=hpL G0 [(100,b),(108,ybx l)]) (rs:=ak [(100,b),(108,ybx l)]) rfl zS rfl rfl jx aq zS aM aq hY rfl (by rw [hC];exact ab9 l stop c0 xs b off m cap k p q h hx hc N hN hle cm) (λ_ _=>rfl) (λ_ _=>rfl) ?_;by_cases e:N=m
 ·rw [ai e,ai e];refine zP trivial ?_;refine bH ?_;refine fO ?_;refine ⟨.inr trivial,?_,?_,eG⟩
  ·simp [results82,e]
  ·exact kP
 ·rw [ab e,ab e];refine zP hz ?_;refine bH ?_;refine fO ?_;refine ⟨.inr trivial,?_,?_,eG⟩
  ·simp [results82,e,hz]
  ·exact kP
theorem Rh (l stop c0:Nat) (xs:List (Array Value)) (b:Blk) (off m cap:Nat) (k p q:aS) (h:OpB b off m k p q) (hx:∀ i,i<m->xs[c0+i]? = some #[opV (k i) (p i) (q i)]) (hc:c0<=stop) (N:Nat) (hN:N<=m) (hle:c0+N<=stop+1) (cm:(N=m/\c0+m<=stop)\/(N<m/\c0+N=stop)) :
  FunY prog G0 81 #[.slice (some ⟨100,off,none⟩) m cap,.pointer (some ⟨108,0,none⟩)] (hpL G0 [(100,b),(108,ybx l)]) (ak [(100,b),(108,ybx l)]) ⟨l,xs,stop,none,none⟩ c0 (if N=m then c0+m else stop+1) (.bool (decide (N=m))):=by
 refine zM (B:=200) G0F func81 rfl call81 (Im h.fx l) ?_ zS (by simp [ntmps81]) zO ?_
 ·exact bG
 intro C hC bQ hY;refine fO ?_;refine gj ?_;refine zP trivial ?_;refine sF (f:=.func 82) (g:=82) (cap:=#[]) (args:=#[.slice (some ⟨100,off,none⟩) m cap,.func (.func 83) #[] #[.pointer (some ⟨108,0,none⟩)]]) (y:=⟨l,xs,stop,none,none⟩) (db:=hpL G0 [(100,b),(108,ybx l)]) (rs:=ak [(100,b),(108,ybx l)]) rfl zS rfl rfl jx aq zS aM aq hY rfl (by rw [hC];exact aa5 l stop c0 xs b off m cap k p q h hx hc N hN hle cm) (λ_ _=>rfl) (λ_ _=>rfl) ?_;refine zP trivial ?_;refine bH ?_;refine fO ?_;refine ⟨.inr trivial,?_,?_,eG⟩
 ·simp [results81]
 ·exact kP
def pk (j:Nat):Int:=if j%3=1 then 2 else 1
def pp (P:aS) (j:Nat):Int:=P (j / 3)
def pq (j:Nat):Int:=if j%3=1 then 1000000 else 2000000
def Io (m:Nat) (k p q:aS):List (Array Value):=(List.range m).map λj=>#[opV (k j) (p j) (q j)]
theorem Aj (m:Nat) (k p q:aS):(Io m k p q).length=m:=by simp [Io]
theorem Lu {m i:Nat} {k p q:aS} (h:i<m):(Io m k p q)[i]? = some #[opV (k i) (p i) (q i)]:=by simp [Io,h]
def ptB (off np cap:Nat):Blk:=⟨#[.slice (some ⟨116,off,none⟩) np cap],.ty 22⟩
def opL (n:Int) (off np cap:Nat) (bp:Blk):List (Nat×Blk):=[(100,jb n),(108,ptB off np cap),(116,bp)]
theorem Ai {bp:Blk} (hb:bp.fx) (n:Int) (off np cap:Nat):LOk (opL n off np cap bp) 200:=⟨by simp [opL],ry,by
 simp only [opL,al,aB,aC,dC,bR];exact ⟨bF,by simp [ptB,aF,aL,aR,ak],Blk.fx_ids hb _⟩⟩
def acI (n:Int) (off np cap:Nat) (bp:Blk) (l j:Nat):GS :=
 ⟨tsL [(1,.pointer (some ⟨100,0,none⟩)),(2,.pointer (some ⟨108,0,none⟩)),(4,.func (.func 81) #[] #[.pointer (some ⟨200,0,none⟩)]),(26,.slice (some ⟨116,off,none⟩) np cap),(27,.int .i64 np),(28,.int .i64 j)],
 hpL G0 ((200,ybx l)::opL n off np cap bp),300,3*j⟩
def o3 (P:Int):Blk:=⟨#[.int .u8 1,.int .i64 P,.int .i64 2000000,.int .u8 2,.int .i64 P,.int .i64 1000000,.int .u8 1,.int .i64 P,.int .i64 2000000],.ty 33⟩
theorem anw {A:bV} (hA:A.size=9) (a0 a1 a2 a3 a4 a5 a6 a7 a8:Value):((((((((A.setIfInBounds 0 a0).setIfInBounds 1 a1).setIfInBounds 2 a2).setIfInBounds 3 a3).setIfInBounds 4 a4).setIfInBounds 5 a5).setIfInBounds 6 a6).setIfInBounds 7 a7).setIfInBounds 8 a8=#[a0,a1,a2,a3,a4,a5,a6,a7,a8]:=by
 obtain ⟨l⟩:=A;have hl:l.length=9:=hA
 exact match l,hl with
 | [b0,b1,b2,b3,b4,b5,b6,b7,b8],_=>zS
theorem Yt (P:aS) (j:Nat):OpB (o3 (P j)) 0 3 (λi=>pk (3*j+i)) (λi=>pp P (3*j+i)) (λi=>pq (3*j+i)):=by
 refine ⟨?_,λi hi=>?_,zO⟩
 ·show ∀ x∈(o3 (P j)).c,bP x=true;simp [o3]
 ·have e0:(3*j+0) / 3=j:=zO;have e1:(3*j+1) / 3=j:=zO;have e2:(3*j+2) / 3=j:=zO;have m0:(3*j+0)%3=0:=zO;have m1:(3*j+1)%3=1:=zO;have m2:(3*j+2)%3=2:=zO;obtain rfl|rfl|rfl:i=0\/i=1\/i=2:=zO
  ·unfold opV pk pp pq o3;rw [e0,m0];simp [sZ]
  ·unfold opV pk pp pq o3;rw [e1,m1];simp [sZ]
  ·unfold opV pk pp pq o3;rw [e2,m2];simp [sZ]
theorem ahP (n:Int) (hn:¬n=4) (off np cap:Nat) (bp:Blk) (P:aS) (hP:MB bp off np P) (h45:np<=300) :
  IterK prog G0 80 #[.pointer (some ⟨100,0,none⟩),.pointer (some ⟨108,0,none⟩)] (hpL G0 (opL n off np cap bp)) (ak (opL n off np cap bp)) (Io (3*np) pk (pp P) pq):=by
 have hL:=Ai hP.fx n off np cap;refine jO (B:=200) (v:=.tuple #[]) G0F func80 rfl call80 hL ?_ (by simp [ntmps80]) zO ?_
 ·simp [aN,cp,aL,aR,opL,ak]
 intro C l stop hC bQ hY;have iZ:=λD=>Blk.fx_ids hP.fx D;have agC:∀ D,(ybx l).ids D:=λD=>v9;have cA:∀ k,dom (hpL G0 (opL n off np cap bp)) k->k<200:=λk hk=>aO λh1=>hk (hL.free G0F zO k zO);unfold opL jb ptB;have hn4:(n==4)=false:=by simp [hn]
 refine dy hn4 ?_;refine jQ (min (stop / 3) np) (acI n off np cap bp l) ?_ ?_ ?_
 ·refine dv _ 300 hC G0F (m0:=opL n off np cap bp) bQ zO ?_ ?_ ?_
  ·simp [aN,cp,aL,aR,dom,opL]
  ·simp [opL,ptB,jb,ybx,aF,aL,aR,iZ,dom]
  ·simp [opL,ptB,jb]
 ·intro j hj;have hjn:j<np:=zO;have RK:(j:Int)<np:=zO;have hz:(0:Int)<=j:=zO;have hs:Int.bmod ((j:Int)+1) 18446744073709551616=((j+1:Nat):Int):=fE;have hl:=hP.at hjn;have h3:3*j+3<=stop:=zO;unfold acI opL jb ptB ybx;refine dy (k5 hjn RK hz hs hl) ?_;refine gj ?_;refine Z2 trivial ?_;rw [anw zS];have ha:=(Rh l stop (3*j) (Io (3*np) pk (pp P) pq) (o3 (P j)) 0 3 3 _ _ _ (Yt P j) (λi hi=>Lu zO) zO 3 zO zO (.inl ⟨rfl,h3⟩)).mvL (db:=hpL G0 [(428,o3 (P j)),(200,ybx l)]) (LG:=[428,200]) G0F (Im (Yt P j).fx l) (λk=>if k=100 then 428 else if k=108 then 200 else k) (λk hk=>(ab zO).trans (ab zO)) rfl ah bn Cx ah;refine sF (f:=.tmp 36) (g:=81) (cap:=#[.pointer (some ⟨200,0,none⟩)]) (args:=#[.slice (some ⟨428,0,none⟩) 3 3,.pointer (some ⟨200,0,none⟩)]) (y:=⟨l,Io (3*np) pk (pp P) pq,stop,none,none⟩) (db:=hpL G0 [(428,o3 (P j)),(200,ybx l)]) (rs:=[428,200]) rfl zS rfl rfl jx aq zS aM aq hY rfl Cd (by simp [o3,ybx]) (λk hk=>Cu) ?_;refine n7 trivial ?_;refine bH ?_;refine dy hs ?_;refine dv _ 300 hC G0F (m0:=opL n off np cap bp) bQ zO ?_ ?_ ?_
  ·simp [aN,cp,aL,aR,dom,opL,hs]
  ·simp [opL,ptB,jb,ybx,aF,aL,aR,iZ,dom]
  ·simp [opL,ptB,jb]
 ·by_cases h4:3*np<=stop
  ·rw [nN zO];unfold acI opL jb ptB;refine fO ?_;refine ⟨.inl trivial,?_,?_,?_⟩
   ·simp [results80]
   ·rw [Aj];show _=_;omega
   ·exact FF
  ·rw [nX zO];have hjn:stop / 3<np:=zO;have RK:((stop / 3:Nat):Int)<np:=zO;have hz:(0:Int)<=(stop / 3:Nat):=zO;have hl:=hP.at hjn;generalize hj:stop / 3=j at *
   unfold acI opL jb ptB ybx;refine dy (k4 hjn RK hz hl) ?_;refine gj ?_;refine Z2 trivial ?_;rw [anw zS];have ha:=(Rh l stop (3*j) (Io (3*np) pk (pp P) pq) (o3 (P j)) 0 3 3 _ _ _ (Yt P j) (λi hi=>Lu zO) zO (stop - 3*j) zO zO (.inr ⟨zO,zO⟩)).mvL (db:=hpL G0 [(428,o3 (P j)),(200,ybx l)]) (LG:=[428,200]) G0F (Im (Yt P j).fx l) (λk=>if k=100 then 428 else if k=108 then 200 else k) (λk hk=>(ab zO).trans (ab zO)) rfl ah bn Cx ah;refine sF (f:=.tmp 36) (g:=81) (cap:=#[.pointer (some ⟨200,0,none⟩)]) (args:=#[.slice (some ⟨428,0,none⟩) 3 3,.pointer (some ⟨200,0,none⟩)]) (y:=⟨l,Io (3*np) pk (pp P) pq,stop,none,none⟩) (db:=hpL G0 [(428,o3 (P j)),(200,ybx l)]) (rs:=[428,200]) rfl zS rfl rfl jx aq zS aM aq hY rfl Cd (by simp [o3,ybx]) (λk hk=>Cu) ?_;have df:¬stop - 3*j=3:=zO;rw [ab df,aX df];refine n7 trivial ?_;refine bH ?_;refine fO ?_;refine ⟨.inr trivial,?_,?_,?_⟩
   ·simp [results80]
   ·rw [Aj];show _=_;omega
   ·exact FF
theorem Cc {p:Prop} (h:p:=by simp [Mo,dom,eY,ren,aT,aw,aA,aN,cp,aL,aR]):p:=h
theorem FQ {p:Prop} (h:p:=by
 refine n7 trivial ?_;refine bH ?_;simp only [iX,gK];refine ⟨λk=>if k=208 then 340 else k,_,λC0 h1 h2=>pT _ _ 300 (h1.trans so) G0F (m0:=[]) (zU C0 h2) zO ?_ ?_ ?_ ?_ ?_,⟨_,_,.inr ⟨zO,c',A',BQ,rfl,rfl⟩,rfl⟩⟩
 ·exact Cc
 ·exact r8
 ·simp
 ·exact jA
 ·simp):p:=h
theorem r8 {p:Prop} (h:p:=by
 have IW:=λD=>Blk.fx_ids (BQ.fx (T:=33)) D;have hfm:=λρ=>Blk.fx_rn (BQ.fx (T:=33)) ρ;simp [hfm,rn1,aw,aA,aF,aL,aR,dom,IW]):p:=h
def OsR (nk m:Nat) (k p q:aS) (v:Value) (ns:bS):Prop:=(m=0/\v=.slice none 0 0/\ns=[])\/(0<m/\Tc nk m k p q v ns)
theorem nI {nk m:Nat} {k p q:aS} {v:Value} {ns:bS} (h:OsR nk m k p q v ns):∀ x∈ak ns,x=nk:=by
 rcases h with ⟨_,rfl,rfl⟩|⟨_,h⟩
 ·exact ah
 ·exact NF h
theorem Lx {D:gA} {m:Nat} {k p q:aS} (v:Value) (ns:bS) (h:OsR 1000 m k p q v ns):aN (cJ D ns) v/\(∀ p∈ns,200<=p.1/\p.2.ids (cJ D ns))/\(∀ k b c,(k,b)∈ns->(k,c)∈ns->b=c):=by
 rcases h with ⟨_,rfl,rfl⟩|⟨_,h⟩
 ·exact oQ
 ·exact ND v ns h
theorem Qk {nk m:Nat} {k p q:aS} {ρ:cI} (h:ρ 1000=nk):RR ρ (OsR 1000 m k p q)=OsR nk m k p q:=by
 funext v ns;apply propext;constructor
 ·rintro ⟨v0,uo,hV,rfl,rfl⟩;rcases hV with ⟨h1,rfl,rfl⟩|⟨h1,h2⟩
  ·exact Co
  ·exact .inr ⟨h1,Sj h▸⟨_,_,h2,rfl,rfl⟩⟩
 ·rintro (⟨h1,rfl,rfl⟩|⟨h1,h2⟩)
  ·exact FD
  ·rw [<-Sj h] at h2;obtain ⟨v0,uo,h3,e1,e2⟩:=h2;exact ⟨v0,uo,.inr ⟨h1,h3⟩,e1,e2⟩
theorem Yv (k p q:aS):OA #[] 0 0 k p q:=⟨rfl,zS,λj hj=>zO,aG _⟩
theorem Ls (a b c:Int):OA #[.int .u8 a,.int .i64 b,.int .i64 c] 1 1 (λ_=>a) (λ_=>b) (λ_=>c):=by
 refine ⟨rfl,zS,λj hj=>?_,aG _⟩;obtain rfl|rfl|rfl:j=0\/j=1\/j=2:=zO
 ·rfl
 ·rfl
 ·rfl
theorem jJ {f:aS} {i j:Nat} (h:j<i+1):yS i f (λ_=>f i) j=f j:=by
 unfold yS;by_cases c:j<i
 ·rw [ai c]
 ·rw [ab c,(zO:j=i)]
theorem rn1 {v:Value} {t:TypeId} {ρ:cI}:(⟨#[v],.ty t⟩:Blk).rn ρ=⟨#[aw ρ v],.ty t⟩:=by simp [Blk.rn]
def aoI (P:aS) (i:Nat) (h:Hp):Prop:=∃ sl ns,OsR 208 i pk (pp P) pq sl ns/\h=hpL G0 ((200,⟨#[sl],.ty 28⟩)::ns)
def Mo:List (Nat×Value):=[(2,.pointer (some ⟨200,0,none⟩)),(4,.slice none 0 0)]
theorem Wm (n:Int) (hn:¬n=4) (off np cap:Nat) (bp:Blk) (P:aS) (hP:MB bp off np P) (h45:np<=300) :
  FunS prog G0 79 #[.slice none 0 0,.func (.func 80) #[] #[.pointer (some ⟨100,0,none⟩),.pointer (some ⟨108,0,none⟩)]] (hpL G0 (opL n off np cap bp)) (ak (opL n off np cap bp)) (OsR 1000 (3*np) pk (pp P) pq):=by
 have hL:=Ai hP.fx n off np cap;refine dJ (B:=200) G0F func79 rfl call79 hL ?_ Lx (by simp [ntmps79]) zO ?_
 ·simp [aN,cp,aL,aR,ak,opL]
 intro C hC bQ hY;have iZ:=λD=>Blk.fx_ids hP.fx D;have zU:∀ C0:Ctx,(C0.hp0=λk=>if k∈ak (opL n off np cap bp) then none else C.hp0 k)->C0.hp0=hpL G0 []:=λC0 h0=>by rw [h0,bQ];exact hL.aside G0F
 refine fO ?_;refine AN (f:=80) (rs:=ak (opL n off np cap bp)) (xs:=Io (3*np) pk (pp P) pq) (bh:=#[.pointer (some ⟨100,0,none⟩),.pointer (some ⟨108,0,none⟩)]) (ak (opL n off np cap bp)) hY zS ?_ ?_ (by simp [ntmps79]) (tsL Mo) (tsL Mo) (aoI P) (hpS:=hpL G0 [(200,⟨#[.slice none 0 0],.ty 28⟩)]) 300 (3*np) (by rw [Aj];exact aG _) (λ_ hk=>hk) ?_ ?_ ?_ ?_ ?_ (λ_=>.inl rfl) ?_ ?_
 ·rw [hC];exact pK (ahP n hn off np cap bp P hP h45) G0F hL (λk=>k) (λ_ _=>rfl) ga zS (λk hk=>CF) (by simp [opL,Blk.rn_id]) zS
 ·intro x hx;simp [Io] at hx;obtain ⟨i,_,rfl⟩:=hx;simp [opV]
 ·intro k hk;simp [opL,ak] at hk;rcases hk with rfl|rfl|rfl<;>simp [dom,opL]
 ·exact hL.clz (by simp [opL])
 ·intro C0 h1 h2;refine dv _ 300 (h1.trans hC) G0F (m0:=[]) (zU C0 h2) zO ?_ ?_ ?_
  ·simp [Mo,aN,cp,aL,aR,dom]
  ·exact jC
  ·simp
 ·exact xQ
 ·intro k hk;simp [opL,ak] at hk;rcases hk with rfl|rfl|rfl<;>simp
 ·intro i x hq0 hi hx hI C1 l sR vl qS;obtain ⟨sl,ns,hV,rfl⟩:=hI;rw [Lu hi] at hx;simp only [bg] at hx;subst hx;have so:=hC;have je:C1.G=G0:=sR.trans hC;rcases hV with ⟨rfl,rfl,rfl⟩|⟨jM,c,A,hA,rfl,rfl⟩
  ·clear hC hY;have hC:=je;have hY:=qS;unfold opV;refine dy (Gy.k2 @bC.eq_1 @Mo.eq_1) ?_;intro C2 oY Gx oZ;clear hC hY;have hC:C2.G=G0:=oY.trans so;have hY:=oZ;refine uv ?_;refine gj ?_;refine GU trivial ?_;refine GK (m:=0) (c:=0) (m2:=1) (j:=332) (c2:=1) (A:=#[]) (B:=#[.int .u8 (pk 0),.int .i64 (pp P 0),.int .i64 (pq 0)]) (k:=pk) (p:=pp P) (q:=pq) (k2:=λ_=>pk 0) (p2:=λ_=>pp P 0) (q2:=λ_=>pq 0) rfl zS rfl (.inl ⟨zS,rfl,rfl,rfl⟩) (Yv _ _ _) zS zS (Ls _ _ _) zO zO ?_
   ·rintro k' c' A' g8 vm BQ;replace BQ:OA A' c' (0+1) pk (pp P) pq:=BQ.congr λj hj=>⟨jJ hj,jJ hj,jJ hj⟩
    obtain rfl:k'=340:=by
     exact rZ
    exact FQ
  ·clear hC hY;have hC:=je;have hY:=qS;have IW:=λD=>Blk.fx_ids (hA.fx (T:=33)) D;unfold opV;refine dy (Gy.k2 @bC.eq_1 @Mo.eq_1) ?_;intro C2 oY Gx oZ;clear hC hY;have hC:C2.G=G0:=oY.trans so;have hY:=oZ;refine uv ?_;refine gj ?_;refine GU trivial ?_;refine GK (m:=i) (c:=c) (m2:=1) (j:=332) (c2:=1) (A:=A) (B:=#[.int .u8 (pk i),.int .i64 (pp P i),.int .i64 (pq i)]) (k:=pk) (p:=pp P) (q:=pq) (k2:=λ_=>pk i) (p2:=λ_=>pp P i) (q2:=λ_=>pq i) rfl zS rfl (.inr ⟨208,zS,zO,zS⟩) hA zS zS (Ls _ _ _) zO zO ?_
   ·rintro k' c' A' g8 vm BQ;replace BQ:OA A' c' (i+1) pk (pp P) pq:=BQ.congr λj hj=>⟨jJ hj,jJ hj,jJ hj⟩
    have g8:k'=340\/k'=208:=by
     exact r9
    rcases g8 with rfl|rfl
    ·
     exact FQ
    ·
     refine n7 trivial ?_;refine bH ?_;simp only [iX,gK];refine ⟨λk=>if k=208 then 208 else k,_,λC0 h1 h2=>pT _ _ 300 (h1.trans so) G0F (m0:=[]) (zU C0 h2) zO ?_ ?_ ?_ ?_ ?_,⟨_,_,.inr ⟨zO,c',A',BQ,rfl,rfl⟩,rfl⟩⟩
     ·exact Cc
     ·exact r8
     ·simp
     ·exact jA
     ·simp
 ·left
  refine ⟨(Aj _ _ _ _).symm,?_⟩;rintro hq0 ⟨sl,ns,hV,rfl⟩;refine ⟨?_,?_⟩
  ·intro k hk;simp [opL,ak] at hk;rcases hV with ⟨h0,rfl,rfl⟩|⟨jM,c,A,hA,rfl,rfl⟩
   ·rcases hk with rfl|rfl|rfl<;>simp
   ·rcases hk with rfl|rfl|rfl<;>simp
  have ig:∀ (h2:Hp),(∀ k,k∉ak (opL n off np cap bp)->k<100->h2 k=hpL G0 (opL n off np cap bp) k)->∀ k,dom (hpL G0 (opL n off np cap bp)) k->eW (ak (opL n off np cap bp)) (upd (hpL G0 (opL n off np cap bp)) 200 (some ⟨#[.slice none 0 0],.ty 28⟩)) h2 k=hpL G0 (opL n off np cap bp) k:=λh2 hh k hk=>by
   unfold eW;by_cases h1:k∈ak (opL n off np cap bp)
   ·exact Gg
   ·rw [ab h1];refine hh k h1 (aO λh3=>h1 ?_);unfold dom at hk
    cases hb:hpL G0 (opL n off np cap bp) k with
    | none=>exact absurd hb hk
    | some b' =>
     exact EL
  rcases hV with ⟨h0,rfl,rfl⟩|⟨jM,c,A,hA,rfl,rfl⟩
  ·have K6:¬200∈ak (opL n off np cap bp):=by simp [opL,ak]
   unfold Mo;refine dy (Gy.k2 @eW.eq_1 K6) ?_;refine ⟨.inr trivial,ig _ (λk h1 h2=>?_),_,_,λk=>k,.inl ⟨h0,rfl,rfl⟩,λ_ _=>rfl,zS,zS,by simp [results79,ren,aT,aw,aA],zS⟩;exact r7
  ·have K6:¬200∈ak (opL n off np cap bp):=by simp [opL,ak]
   have Xm:¬208∈ak (opL n off np cap bp):=ry;unfold Mo;refine dy (Gy.k2 @eW.eq_1 K6) ?_;refine ⟨.inr trivial,ig _ (λk h1 h2=>?_),_,_,λk=>if k=1000 then 208 else k,.inr ⟨jM,c,A,hA,rfl,rfl⟩,λk hk=>ab zO,zS,zS,by simp [results79,ren,aT,aw,aA],?_⟩
   ·exact r7
   ·simp [eW,Xm,Blk.fx_rn (hA.fx (T:=33))]
end Go.Gy
