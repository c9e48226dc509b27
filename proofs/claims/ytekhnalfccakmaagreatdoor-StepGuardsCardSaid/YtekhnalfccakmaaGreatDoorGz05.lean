/-
  Lemmas of this claim, in their order (GyVB, GyVC, GyVD, GyRC, GyRF, GyQB, GyDB, GyDC, GyWA, GyWB, GyWC, GyWD, GyWE, GyWF, GyWG, GyWH, GyWK, GyWL, GyWM, GyCA, GyCB, GyCC, GyCD, GyCE, GyCF, GyEF, GyEP, GyEQ, GyER, GyNA, GyWI, GyCG, GyLJ, GyPA, GyFC, GyFB, GyFF, GyWO).
  Conditions: those of each theorem.
-/
import Derived.Test.YtekhnalfccakmaaGreatDoorGz04
set_option linter.unusedSimpArgs false
set_option linter.unusedVariables false
set_option maxRecDepth 20000
set_option maxHeartbeats 16000000
namespace Go.Gy
open Go Go.RowKit Go.Proofs Go.Proofs.Tryz
theorem rU {p:Prop} (h:p:=by simp [Res.at,ak]):p:=h
theorem gW {p:Prop} (h:p:=by simp [xsV]):p:=h
theorem xH {p:Prop} (h:p:=by
 refine ⟨by simp [eV],λt=>tO oh t,.inr trivial,?_⟩;simp [results54,LW]):p:=h
abbrev du := @Int.not_lt
theorem ahm (p:gA) (m:Nat):∃ N,N<=m/\(∀ i,i<N->p i)/\(N=m\/¬p N):=by
 induction m with
 | zero=>exact ⟨0,aG _,λi hi=>absurd hi (uR i),.inl rfl⟩
 | succ m ih =>
  obtain ⟨N,h1,h2,h3⟩:=ih;rcases h3 with rfl|h3
  ·by_cases hp:p N
   ·exact ⟨N+1,aG _,λi hi=>by
     by_cases e:i=N
     ·subst e;exact hp
     ·exact h2 i zO,.inl rfl⟩
   ·exact ⟨N,zO,h2,.inr hp⟩
  ·exact ⟨N,zO,h2,.inr h3⟩
def inW (m x:Int):Prop:=0<=m/\-m<=x/\x<=m
instance inWdec (m x:Int):Decidable (inW m x):=by unfold inW;infer_instance
theorem Lp {m:Int} (h:i64 m) (h0:0<=m):Int.bmod (-m) 18446744073709551616=-m:=by
 have:=h.1;have:=h.2;rw [dz];omega
def Vf (x0 x1 x2 m:Int):Hp:=hpL G0 [(200,⟨#[.int .i64 x0,.int .i64 x1,.int .i64 x2],.ty 48⟩),(208,jb m),(216,⟨#[.bool false],.ty 4⟩)]
def LW:Nat->Value:=tsL [(3,.pointer (some ⟨208,0,none⟩)),(4,.pointer (some ⟨216,0,none⟩))]
theorem QZ (x0 x1 x2 m:Int) (hm:i64 m) (h0:i64 x0) (h1:i64 x1) (h2:i64 x2):Ret prog G0 54 #[.agg #[.int .i64 x0,.int .i64 x1,.int .i64 x2],.int .i64 m] (.bool (decide (inW m x0/\inW m x1/\inW m x2))):=by
 refine ck G0F func54 rfl call54 zS zS (by simp [ntmps54]) ?_;intro C hC bQ hY;obtain ⟨N,hN,cA,cm⟩:=ahm (λi=>inW m (vf x0 x1 x2 i)) 3
 repeat' first|refine cM ?_|((first|refine gwR [74] ?_|refine gwD [74] ?_);intro Q hQ _;(repeat first|simp [hC,hY,jb]|refine eX (tQ 232 240 1 1 #[.int .i64 x0,.int .i64 x1,.int .i64 x2] zS zO zO zO zO) zS (λk hk=>cD zS hk) rU ?_);refine cQ hQ ?_)|fail
 have hT:m<0\/0<=m:=zO;refine sH (f:=103) (rs:=[240,232]) (xs:=xsV 3 (vf x0 x1 x2)) (bh:=#[.pointer (some ⟨240,0,none⟩)]) zS ?_ gW (by simp [ntmps54]) LW (λ_=>Vf x0 x1 x2 m) 300 N (by simp [xsV];omega) ?_ ?_ ?_ ?_ ?_
 ·rw [hC];refine pD.cast (IterX.rn (λk=>if k=100 then 240 else if k=108 then 232 else k) G0F (λk hk=>cD (by simp [tG]) hk) (rs:=[100,108]) ?_ (QY x0 x1 x2)) ga zS;refine ⟨λk hk=>?_,?_,?_,?_⟩
  ·have h1:¬k=100:=zO;have h2:¬k=108:=zO;have h3:¬k=200:=zO;have h4:¬k=208:=zO;have h5:¬k=216:=zO;have h8:¬k=232:=zO;have h9:¬k=240:=zO;simp [h1,h2,h3,h4,h5,h8,h9,pv1,tG]
  ·simp
  ·simp [tG,Blk.rn,aw,aA]
  ·simp
 ·refine dv _ 300 hC G0F (m0:=[]) bQ zO ?_ ?_ ?_
  ·exact gb
  ·simp [aF,aL,aR,jb]
  ·simp
 ·simp [Vf,dom]
 ·intro i hi t;refine tO ?_ t;simp [aN,cp,aL,aR,dom,Vf]
 ·intro i x hi hx C1 l sR vl qS;have so:=hC;have je:C1.G=G0:=sR.trans hC;obtain ⟨g0,g1,g2⟩:=cA i hi;replace hC:=je;replace hY:=qS;have:i=0\/i=1\/i=2:=zO;rcases this with rfl|rfl|rfl
  all_goals
   rw [Bu _ _ _ zO] at hx;simp only [bg] at hx;subst hx;simp only [vf] at *
   unfold Vf
  all_goals
   refine dy (k3 @bC.eq_1 @LW.eq_1 @jb.eq_1) ?_
  all_goals
   intro C2 oY Gx oZ;replace hC:C2.G=G0:=oY.trans so;replace hY:=oZ;have q0:¬m<0:=zO;have q1:=du.2 g1;have q2:=du.2 g2;have MU:=Lp hm g0;refine dy (k7 @bC.eq_1 @LW.eq_1 @jb.eq_1 MU q0 q1 q2) ?_
  all_goals
   refine dv [] 300 je G0F vl zO ?_ ?_ ?_
   ·simp
   ·simp [aF,aL,aR,jb]
   ·exact gX
 ·by_cases MW:N=3
  ·subst MW
   left
   refine ⟨gW,?_⟩
   have e:(inW m x0/\inW m x1/\inW m x2)=True:=by
    simp only [iC,iff_true];exact ⟨cA 0 zO,cA 1 zO,cA 2 zO⟩
   simp only [e];unfold Vf LW jb;refine fO ?_;exact eR results54
  ·right
   have hN3:N<3:=zO;replace cm:=cm.resolve_left MW;refine ⟨_,Bu _ _ _ hN3,?_⟩
   have e:(inW m x0/\inW m x1/\inW m x2)=False:=by
    simp only [iC,iff_false];rintro ⟨a0,a1,a2⟩;have:N=0\/N=1\/N=2:=zO;rcases this with rfl|rfl|rfl<;>contradiction
   simp only [e]
   have Vz:m<0\/(¬m<0/\vf x0 x1 x2 N < -m)\/(¬m<0/\¬vf x0 x1 x2 N < -m/\m<vf x0 x1 x2 N):=by
    unfold inW at cm;omega
   intro C1 l sR vl qS;have so:=hC;replace hC:=sR.trans hC;replace hY:=qS;clear cA hN;have:N=0\/N=1\/N=2:=zO;rcases this with rfl|rfl|rfl
   all_goals
    simp only [vf] at Vz |-;unfold Vf
   all_goals
    refine dy (k3 @bC.eq_1 @LW.eq_1 @jb.eq_1) ?_
   all_goals
    intro C2 oY Gx oZ;replace hC:C2.G=G0:=oY.trans so;replace hY:=oZ;rcases Vz with q0|⟨q0,q1⟩|⟨q0,q1,q2⟩
    ·
     refine dy (k4 @bC.eq_1 @LW.eq_1 @jb.eq_1 q0) ?_;exact xH
    ·have MU:=Lp hm (du.1 q0);refine dy (k6 @bC.eq_1 @LW.eq_1 @jb.eq_1 MU q0 q1) ?_;exact xH
    ·have MU:=Lp hm (du.1 q0);refine dy (k7 @bC.eq_1 @LW.eq_1 @jb.eq_1 MU q0 q1 q2) ?_;exact xH
def inV (m x0 x1 x2:Int):Bool:=decide (inW m x0/\inW m x1/\inW m x2)
@[simp] theorem apT (x0 x1 x2 m:Int) (hm:i64 m) (h0:i64 x0) (h1:i64 x1) (h2:i64 x2) (K:iQ):cu prog G0 54 #[.agg #[.int .i64 x0,.int .i64 x1,.int .i64 x2],.int .i64 m] K↔K (.bool (inV m x0 x1 x2)):=aP G0W ae (QZ x0 x1 x2 m hm h0 h1 h2)
theorem oH {p:Prop} (h:p:=by simp [eW]):p:=h
theorem bn {p:Prop} (h:p:=by (intro k hk;first|rfl|(simp (disch:=omega) only [eW,al,aB,aC,aj,aW,dm,ab,bW]<;>done))):p:=h
theorem vS {p:Prop} (h:p:=by simp [aF,aL,aR,ak]):p:=h
theorem bG {p:Prop} (h:p:=by
 simp [aN,cp,aL,aR,ak]):p:=h
theorem Dn {p:Prop} (h:p:=by
 refine ⟨by simp [eV],oh,zS,.inr rfl,by simp [results122,eW],dH G0F oH bn⟩):p:=h
def fnI (x:Int):Prop:=-536870912<=x/\x<=536870912
instance fnIdec (x:Int):Decidable (fnI x):=by unfold fnI;infer_instance
theorem MK (M m:Nat) (v:Bool) (cs:bV) (K8:∀ x∈cs,bP x=true) (f:aS) (ny:IterK prog G0 103 #[.pointer (some ⟨100,0,none⟩)] (hpL G0 [(100,⟨#[.slice (some ⟨108,0,none⟩) m m],.ty 58⟩),(108,⟨cs,.ty 48⟩)]) (ak [(100,⟨#[.slice (some ⟨108,0,none⟩) m m],.ty 58⟩),(108,⟨cs,.ty 48⟩)]) (xsV M f)) (hv:v=true↔∀ j,j<M->fnI (f j)) :
  Fun prog G0 122 #[.slice (some ⟨100,0,none⟩) m m] (hpL G0 [(100,⟨cs,.ty 48⟩)]) [100] (.ret (.bool v) []):=by
 have zV:Blk.fx (Blk.mk cs (.ty 48)):=K8;have IW:∀ D,(Blk.mk cs (.ty 48)).ids D:=λD=>Blk.fx_ids zV D;refine de (m:=[(100,⟨cs,.ty 48⟩)]) (B:=200) G0F func122 rfl call122 ⟨zS,ah,by simp only [bE,bR];exact IW _⟩ ?_ zS zS zS (by simp [ntmps122]) zO ?_
 ·exact bG
 intro C hC bQ hY;obtain ⟨N,hN,cA,cm⟩:=ahm (λi=>fnI (f i)) M
 repeat' first|refine cM ?_|((first|refine gwR [74] ?_|refine gwD [74] ?_);intro Q hQ _;(repeat first|simp [hC,hY,jb]|refine eX (tQ 100 216 m m cs K8 zO zO zO zO) zS (λk hk=>cD zS hk) rU ?_);refine cQ hQ ?_)|fail
 refine td (G:=G0) (f:=103) (rs:=[216,100]) (xs:=xsV M f) (bh:=#[.pointer (some ⟨216,0,none⟩)]) (m0:=[(100,⟨cs,.ty 48⟩)]) [216,100] G0F hC bQ hY zS ?_ gW (by simp [ntmps122]) [(2,.pointer (some ⟨200,0,none⟩))] [] (λ_=>[(200,⟨#[.bool false],.ty 4⟩)]) 300 N (by simp [xsV];omega) zO zS fY ?_ zS zS zS ?_ zS ?_ ?_
 ·refine pK (m:=[(100,⟨#[.slice (some ⟨108,0,none⟩) m m],.ty 58⟩),(108,⟨cs,.ty 48⟩)]) (B:=200) ny G0F ⟨zS,ah,?_⟩ (λk=>if k=100 then 216 else if k=108 then 100 else k) (λk hk=>?_) ga ah bn ?_ ?_
  ·simp only [al,aB,aC,dC,bR];exact ⟨vS,IW _⟩
  ·exact fG
  ·have hr:=λρ=>vi K8 ρ;simp [hr,Blk.rn,aw,aA]
  ·exact ah
 ·intro k hk b hb;simp only [al,aB,aC] at hk;rcases hk with rfl|rfl
  ·simp at hb;subst hb;simp [aF,aL,aR]
  ·simp at hb;subst hb;exact IW _
 ·intro i hi;simp [aN,cp,aL,aR,dom,aF]
 ·intro i x hi hx C1 l sR vl qS;rw [Bu _ _ _ zO] at hx;simp only [bg] at hx;subst hx;obtain ⟨g1,g2⟩:=cA i hi;have q1:=du.2 g1;have q2:=du.2 g2;clear hC hY;have hC:=sR;have hY:=qS;refine dy @bC.eq_1 ?_;intro C2 oY Gx oZ;clear hC hY;have hC:=oY;have hY:=oZ;refine dy (k3 @bC.eq_1 q1 q2) ?_;simp
 ·by_cases MW:N=M
  ·subst MW
   left
   refine ⟨gW,?_⟩;have e:=hv.2 cA;subst e
   repeat' first|refine cM ?_|(refine g6 ?_;intro Q hQ _;simp [hC,hY,eW,bq,bw];refine cQ hQ ?_)|fail
   refine ⟨.inr rfl,by simp [results122],dH G0F oH bn⟩
  ·right
   have hN3:N<M:=zO;replace cm:=cm.resolve_left MW;refine ⟨_,Bu _ _ _ hN3,?_⟩
   have e:v=false:=by
    cases v
    ·rfl
    ·exact absurd (hv.1 rfl N hN3) cm
   subst e
   have Vz:f N < -536870912\/(¬f N < -536870912/\536870912<f N):=by
    unfold fnI at cm;omega
   intro C1 l sR vl qS;clear hC hY;have hC:=sR;have hY:=qS;refine dy @bC.eq_1 ?_;intro C2 oY Gx oZ;clear hC hY;have hC:=oY;have hY:=oZ;rcases Vz with q1|⟨q1,q2⟩
   ·
    refine dy (k2 @bC.eq_1 q1) ?_;exact Dn
   ·
    refine dy (k3 @bC.eq_1 q1 q2) ?_;exact Dn

theorem TD (x0 x1 x2:Int) (v:Bool) (hv:v=true↔fnI x0/\fnI x1/\fnI x2):Fun prog G0 122 #[.slice (some ⟨100,0,none⟩) 1 1] (hpL G0 [(100,⟨#[.int .i64 x0,.int .i64 x1,.int .i64 x2],.ty 48⟩)]) [100] (.ret (.bool v) []):=by
 refine MK 3 1 _ _ zS _ (qZ x0 x1 x2) ?_;rw [hv];refine ⟨λ⟨h0,h1,h2⟩ j hj=>?_,λh=>⟨h 0 zO,h 1 zO,h 2 zO⟩⟩;have:j=0\/j=1\/j=2:=zO;rcases this with rfl|rfl|rfl<;>assumption
theorem x6 (x0 x1 x2 y0 y1 y2:Int) (v:Bool) (hv:v=true↔(fnI x0/\fnI x1/\fnI x2)/\fnI y0/\fnI y1/\fnI y2):Fun prog G0 122 #[.slice (some ⟨100,0,none⟩) 2 2] (hpL G0 [(100,⟨#[.int .i64 x0,.int .i64 x1,.int .i64 x2,.int .i64 y0,.int .i64 y1,.int .i64 y2],.ty 48⟩)]) [100] (.ret (.bool v) []):=by
 refine MK 6 2 _ _ zS _ (Ox x0 x1 x2 y0 y1 y2) ?_;rw [hv];refine ⟨λ⟨⟨h0,h1,h2⟩,h3,h4,h5⟩ j hj=>?_,λh=>⟨⟨h 0 zO,h 1 zO,h 2 zO⟩,h 3 zO,h 4 zO,h 5 zO⟩⟩;have:j=0\/j=1\/j=2\/j=3\/j=4\/j=5:=zO;rcases this with rfl|rfl|rfl|rfl|rfl|rfl<;>assumption
theorem Wb (x y:Int):Ret prog G0 95 #[.int .i64 x,.int .i64 y] (.int .i64 (Int.bmod (x+y) 18446744073709551616)):=by
 refine ck G0F func95 rfl call95 zS zS (by simp [ntmps95]) ?_;intro C hC bQ hY;refine fO ?_;exact eR results95
@[simp] theorem anP (x y:Int) (K:iQ):cu prog G0 95 #[.int .i64 x,.int .i64 y] K↔K (.int .i64 (Int.bmod (x+y) 18446744073709551616)):=aP G0W ae (Wb x y)
theorem ak7 {a b:Int} (h1:fnI a) (h2:fnI b):Int.bmod (a+b) 18446744073709551616=a+b:=by
 obtain ⟨h1,h3⟩:=h1;obtain ⟨h2,h4⟩:=h2;exact bm zO zO
theorem kN {p:Prop} (h:p:=by simp [aF,aL,aR]):p:=h
theorem ay {p:Prop} (h:p:=by simp [ren,aT,aw,aA]):p:=h
theorem kO {p:Prop} (h:p:=by simp [Blk.rn,aw,aA]):p:=h
theorem ax {p:Prop} (h:p:=by simp [ak];rfl):p:=h
theorem EE {p:Prop} (h:p:=by
 intro k hk b hb;simp only [al,aB,aC] at hk;rcases hk with rfl|rfl
 ·simp at hb;subst hb;simp [aF,aL,aR]
 ·simp at hb;subst hb;simp [aF,aL,aR]):p:=h
theorem Dc {p:Prop} (h:p:=by
 rw [e];unfold eaL
 repeat' first|refine cM ?_|((first|refine gwR [122] ?_|refine gwD [122] ?_);intro Q hQ _;(repeat first|simp [hC,hY,eW,bq,bw]|refine az (TD (op a0 b0) (op a1 b1) (op a2 b2) _ hw) G0F (B:=200) ⟨zS,ah,kN⟩ (λk=>if k=100 then 408 else k) (λk hk=>ab zO) ay zS kO ah ax ?_);refine cQ hQ ?_)|fail
 exact eR (k2 results94 @eaV.eq_1)):p:=h
@[simp] theorem ai9 (f:Fn):bz (.func f #[] #[])=true:=by simp [bz,o6,bP,Array.all]
def eaE (op:Int->Int->Int) (a0 a1 a2 b0 b1 b2:Int):Int:=if ((fnI a0/\fnI a1/\fnI a2)/\fnI b0/\fnI b1/\fnI b2)/\fnI (op a0 b0)/\fnI (op a1 b1)/\fnI (op a2 b2) then 0 else 20
def eaV (e v:Int):Int:=if e=0 then v else 0
def eaL (g:FuncId) (op:Int->Int->Int) (a0 a1 a2 b0 b1 b2:Int) (i:Nat):List (Nat×Blk):=[(200,⟨#[.int .i64 a0,.int .i64 a1,.int .i64 a2],.ty 48⟩),(208,⟨#[.int .i64 b0,.int .i64 b1,.int .i64 b2],.ty 48⟩),(216,⟨#[.func (.func g) #[] #[]],.ty 131⟩),
 (224,⟨#[.int .i64 (if 0<i then op a0 b0 else 0),.int .i64 (if 1<i then op a1 b1 else 0),.int .i64 (if 2<i then op a2 b2 else 0)],.ty 48⟩)]
theorem WY (g:FuncId) (op:Int->Int->Int) (RM:∀ x y K,fnI x->fnI y->(cu prog G0 g #[.int .i64 x,.int .i64 y] K↔K (.int .i64 (op x y)))) (a0 a1 a2 b0 b1 b2:Int):Ret prog G0 94 #[.agg #[.int .i64 a0,.int .i64 a1,.int .i64 a2],.agg #[.int .i64 b0,.int .i64 b1,.int .i64 b2],.func (.func g) #[] #[]]
  (.tuple #[.agg #[.int .i64 (eaV (eaE op a0 a1 a2 b0 b1 b2) (op a0 b0)),.int .i64 (eaV (eaE op a0 a1 a2 b0 b1 b2) (op a1 b1)),.int .i64 (eaV (eaE op a0 a1 a2 b0 b1 b2) (op a2 b2))],.int .i64 (eaE op a0 a1 a2 b0 b1 b2)]):=by
 refine ck G0F func94 rfl call94 zS zS (by simp [ntmps94]) ?_;intro C hC bQ hY;obtain ⟨v,hv⟩:∃ v:Bool,v=true↔(fnI a0/\fnI a1/\fnI a2)/\fnI b0/\fnI b1/\fnI b2:=⟨decide _,decide_eq_true_iff⟩
 cases v with
 | false =>
  have e:eaE op a0 a1 a2 b0 b1 b2=20:=by unfold eaE;rw [ab];intro h;exact absurd (hv.2 h.1) zS
  rw [e]
  repeat' first|refine cM ?_|((first|refine gwR [122] ?_|refine gwD [122] ?_);intro Q hQ _;(repeat first|simp [hC,hY]|refine az (x6 a0 a1 a2 b0 b1 b2 _ hv) G0F (B:=200) ⟨zS,ah,kN⟩ (λk=>if k=100 then 256 else k) (λk hk=>ab zO) ay zS kO ah ax ?_);refine cQ hQ ?_)|fail
  exact eR (k2 results94 @eaV.eq_1)
 | true =>
  repeat' first|refine cM ?_|((first|refine gwR [122,74] ?_|refine gwD [122,74] ?_);intro Q hQ _;(repeat first|simp [hC,hY]|(first|(refine az (x6 a0 a1 a2 b0 b1 b2 _ hv) G0F (B:=200) ⟨zS,ah,kN⟩ (λk=>if k=100 then 256 else k) (λk hk=>ab zO) ay zS kO ah ax ?_)|refine eX (tQ 288 296 1 1 #[.int .i64 a0,.int .i64 a1,.int .i64 a2] zS zO zO zO zO) zS (λk hk=>cD zS hk) rU ?_));refine cQ hQ ?_)|fail
  obtain ⟨⟨f0,f1,f2⟩,g0,g1,g2⟩:=hv.1 rfl;have s0:=λK=>RM a0 b0 K f0 g0;have s1:=λK=>RM a1 b1 K f1 g1;have s2:=λK=>RM a2 b2 K f2 g2;refine td (G:=G0) (f:=103) (rs:=[296,288]) (xs:=xsV 3 (vf a0 a1 a2)) (bh:=#[.pointer (some ⟨296,0,none⟩)]) (m0:=[]) [296,288] G0F hC bQ hY zS ?_ gW (by simp [ntmps94]) [(3,.pointer (some ⟨200,0,none⟩)),(4,.pointer (some ⟨208,0,none⟩)),(5,.pointer (some ⟨216,0,none⟩)),(6,.pointer (some ⟨224,0,none⟩)),(7,.int .i64 0)] [] (eaL g op a0 a1 a2 b0 b1 b2) 400 3 gW zO zS fY ?_ zS zS (by simp [eaL]) ?_ zS ?_ ?_
  ·refine pK (m:=tG a0 a1 a2) (B:=200) (qZ a0 a1 a2) G0F ⟨by simp [tG],kM,wx⟩ (λk=>if k=100 then 296 else if k=108 then 288 else k) (λk hk=>?_) ga kM bn ?_ ?_
   ·exact fG
   ·simp [tG,Blk.rn,aw,aA]
   ·exact kM
  ·exact EE
  ·intro i hi;simp [eaL,aN,cp,aL,aR,dom,aF]
  ·intro i x hi hx C1 l sR vl qS;rw [Bu _ _ _ zO] at hx;simp only [bg] at hx;subst hx;clear hC hY;have hC:=sR;have hY:=qS;have:i=0\/i=1\/i=2:=zO;rcases this with rfl|rfl|rfl
   all_goals
    simp only [vf];unfold eaL
   all_goals
    refine dy @bC.eq_1 ?_
   all_goals
    intro C2 oY Gx oZ;clear hC hY;have hC:=oY;have hY:=oZ;refine dy (k4 @bC.eq_1 s0 s1 s2) ?_
   all_goals simp
  ·left
   refine ⟨gW,?_⟩;obtain ⟨w,hw⟩:∃ w:Bool,w=true↔fnI (op a0 b0)/\fnI (op a1 b1)/\fnI (op a2 b2):=⟨decide _,decide_eq_true_iff⟩
   cases w with
   | false =>
    have e:eaE op a0 a1 a2 b0 b1 b2=20:=by unfold eaE;rw [ab];intro h;exact absurd (hw.2 h.2) zS
    exact Dc
   | true =>
    have e:eaE op a0 a1 a2 b0 b1 b2=0:=by unfold eaE;rw [ai];exact ⟨hv.1 rfl,hw.1 rfl⟩
    exact Dc
theorem afr (g:FuncId) (op:Int->Int->Int) (RM:∀ x y K,fnI x->fnI y->(cu prog G0 g #[.int .i64 x,.int .i64 y] K↔K (.int .i64 (op x y)))) (a0 a1 a2 b0 b1 b2:Int) (K:iQ):cu prog G0 94 #[.agg #[.int .i64 a0,.int .i64 a1,.int .i64 a2],.agg #[.int .i64 b0,.int .i64 b1,.int .i64 b2],.func (.func g) #[] #[]] K ↔
  K (.tuple #[.agg #[.int .i64 (eaV (eaE op a0 a1 a2 b0 b1 b2) (op a0 b0)),.int .i64 (eaV (eaE op a0 a1 a2 b0 b1 b2) (op a1 b1)),.int .i64 (eaV (eaE op a0 a1 a2 b0 b1 b2) (op a2 b2))],.int .i64 (eaE op a0 a1 a2 b0 b1 b2)]):=aP G0W ae (WY g op RM a0 a1 a2 b0 b1 b2)
def iY (a b:Int):Int:=a+b
theorem aaI (a0 a1 a2 b0 b1 b2:Int):Ret prog G0 67 #[.agg #[.int .i64 a0,.int .i64 a1,.int .i64 a2],.agg #[.int .i64 b0,.int .i64 b1,.int .i64 b2]]
  (.tuple #[.agg #[.int .i64 (eaV (eaE iY a0 a1 a2 b0 b1 b2) (iY a0 b0)),.int .i64 (eaV (eaE iY a0 a1 a2 b0 b1 b2) (iY a1 b1)),.int .i64 (eaV (eaE iY a0 a1 a2 b0 b1 b2) (iY a2 b2))],.int .i64 (eaE iY a0 a1 a2 b0 b1 b2)]):=by
 refine ck G0F func67 rfl call67 zS zS (by simp [ntmps67]) ?_;intro C hC bQ hY;have he:=λK=>afr 95 iY (λx y K hx hy=>by rw [anP,ak7 hx hy];rfl) a0 a1 a2 b0 b1 b2 K;refine dy he ?_;exact eR results67
@[simp] theorem axX (a0 a1 a2 b0 b1 b2:Int) (K:iQ):cu prog G0 67 #[.agg #[.int .i64 a0,.int .i64 a1,.int .i64 a2],.agg #[.int .i64 b0,.int .i64 b1,.int .i64 b2]] K ↔
  K (.tuple #[.agg #[.int .i64 (eaV (eaE iY a0 a1 a2 b0 b1 b2) (iY a0 b0)),.int .i64 (eaV (eaE iY a0 a1 a2 b0 b1 b2) (iY a1 b1)),.int .i64 (eaV (eaE iY a0 a1 a2 b0 b1 b2) (iY a2 b2))],.int .i64 (eaE iY a0 a1 a2 b0 b1 b2)]):=aP G0W ae (aaI a0 a1 a2 b0 b1 b2)
end Go.Gy
namespace Go.Gy
open Go Go.RowKit Go.Proofs Go.Proofs.Tryz
end Go.Gy
namespace Go.Gy
open Go Go.RowKit Go.Proofs Go.Proofs.Tryz
abbrev nQ := @of_decide_eq_true
def iL (n d:Int):Bool:=decide (-2097152<=n/\n<=2097152/\1<=d/\d<=2097152)
theorem YQ (n:Int) (hn:i64 n) {m:Int} (hm:(if n<Int.bmod (-n) 18446744073709551616 then Int.bmod (-n) 18446744073709551616 else n)=m):(m<=2097152/\-2097152<=n)↔(-2097152<=n/\n<=2097152):=by
 have h1:=hn.1;have h2:=hn.2;rw [dz] at hm;by_cases e:n=-9223372036854775808
 ·subst e;simp at hm;omega
 ·have e2:(if -n%((18446744073709551616:Nat):Int)<(((18446744073709551616:Nat):Int)+1) / 2 then -n%((18446744073709551616:Nat):Int) else -n%((18446744073709551616:Nat):Int) - ((18446744073709551616:Nat):Int))=-n:=by split<;>omega
  rw [e2] at hm;split at hm<;>omega
theorem YR (n d:Int) (hn:i64 n):Ret prog G0 65 #[.int .i64 n,.int .i64 d] (.bool (iL n d)):=by
 refine ck G0F func65 rfl call65 rfl zS (by simp [ntmps65]) ?_;intro C hC bQ hY;obtain ⟨m,hm⟩:∃ m,(if n<Int.bmod (-n) 18446744073709551616 then Int.bmod (-n) 18446744073709551616 else n)=m:=⟨_,rfl⟩
 have key:=YQ n hn hm;by_cases c0:m<=2097152
 ·by_cases c1:-2097152<=n
  ·have c4:=key.1 ⟨c0,c1⟩;by_cases c2:0<d
   ·have ep:iL n d=decide (d<=2097152):=by unfold iL;congr 1;simp only [iC];omega
    rw [ep];refine dy (k4 hm c0 c1 c2) ?_;exact eR results65
   ·have ep:iL n d=false:=by unfold iL;simp only [decide_eq_false_iff_not];omega
    rw [ep];refine dy (k4 hm c0 c1 c2) ?_;exact eR results65
  ·have ep:iL n d=false:=by unfold iL;simp only [decide_eq_false_iff_not];omega
   rw [ep];refine dy (k3 hm c0 c1) ?_;exact eR results65
 ·have ep:iL n d=false:=by unfold iL;simp only [decide_eq_false_iff_not];omega
  rw [ep];refine dy (k2 hm c0) ?_;exact eR results65
@[simp] theorem as2 (n d:Int) (hn:i64 n) (K:iQ):cu prog G0 65 #[.int .i64 n,.int .i64 d] K↔K (.bool (iL n d)):=aP G0W ae (YR n d hn)
def d1E (v n d:Int):Int:=if iL n d=true/\-1073741824<=v/\v<=1073741824 then 0 else 2
def d1V (v n d:Int):Int:=if iL n d=true/\-1073741824<=v/\v<=1073741824 then eo (v*n) d else 0
theorem Sp {n d:Int} (h:iL n d=true):-2097152<=n/\n<=2097152/\1<=d/\d<=2097152:=by unfold iL at h;exact nQ h
theorem aaH {a b p q:Int} (h1:-p<=a) (h2:a<=p) (h3:-q<=b) (h4:b<=q):-(p*q)<=a*b/\a*b<=p*q:=by
 have hp:0<=p:=zO;have hq:0<=q:=zO;have e1:0<=(p - a)*(q+b):=cz zO zO;have e2:0<=(p+a)*(q - b):=cz zO zO;have e3:0<=(p - a)*(q - b):=cz zO zO;have e4:0<=(p+a)*(q+b):=cz zO zO;simp only [Int.sub_mul,fV,lI,fh] at e1 e2 e3 e4;generalize p*q=u at *
 generalize a*b=w at *
 generalize p*b=x at *
 generalize a*q=y at *
 omega
theorem ad8 {v n d:Int} (h:iL n d=true) (h1:-1073741824<=v) (h2:v<=1073741824):(-2251799813685248<=v*n/\v*n<=2251799813685248)/\(-2251799813685248<=eo (v*n) d/\eo (v*n) d<=2251799813685248):=by
 obtain ⟨p1,p2,p3,p4⟩:=Sp h;have hm:=aaH (p:=1073741824) (q:=2097152) h1 h2 p1 p2;exact ⟨hm,Yn zO hm.1 hm.2 zD⟩
theorem XL {z:Int} (h:-2251799813685248<=z/\z<=2251799813685248):i64 z:=⟨zO,zO⟩
theorem anA {z:Int} (h:-2251799813685248<=z/\z<=2251799813685248):sm z:=(XL h).sm
theorem afR (v n d:Int) (hv:i64 v) (hn:i64 n) (hd:i64 d):Ret prog G0 121 #[.int .i64 v,.int .i64 n,.int .i64 d] (.tuple #[.int .i64 (d1V v n d),.int .i64 (d1E v n d)]):=by
 refine ck G0F func121 rfl call121 zS zS (by simp [ntmps121]) ?_;intro C hC bQ hY
 cases hp:iL n d with
 | false =>
  have e1:d1E v n d=2:=by unfold d1E;rw [ab (by simp [hp])]
  have e2:d1V v n d=0:=by unfold d1V;rw [ab (by simp [hp])]
  rw [e1,e2];refine dy (k2 hn hp) ?_;exact eR results121
 | true =>
  by_cases c1:v < -1073741824
  ·have e1:d1E v n d=2:=by unfold d1E;rw [ab zO]
   have e2:d1V v n d=0:=by unfold d1V;rw [ab zO]
   rw [e1,e2];refine dy (k3 hn hp c1) ?_;exact eR results121
  ·by_cases c2:1073741824<v
   ·have e1:d1E v n d=2:=by unfold d1E;rw [ab zO]
    have e2:d1V v n d=0:=by unfold d1V;rw [ab zO]
    rw [e1,e2];refine dy (k4 hn hp c1 c2) ?_;exact eR results121
   ·have e1:d1E v n d=0:=by unfold d1E;rw [ai ⟨hp,zO,zO⟩]
    have e2:d1V v n d=eo (v*n) d:=by unfold d1V;rw [ai ⟨hp,zO,zO⟩]
    rw [e1,e2];have b:=ad8 (v:=v) hp zO zO;have s1:=anA b.1;have s2:=XL b.2;have d0:0<d:=by have:=Sp hp;omega
    refine dy (k9 hn hv hd hp c1 c2 s1 s2 d0) ?_;exact eR results121
@[simp] theorem d1c (v n d:Int) (hv:i64 v) (hn:i64 n) (hd:i64 d) (K:iQ):cu prog G0 121 #[.int .i64 v,.int .i64 n,.int .i64 d] K↔K (.tuple #[.int .i64 (d1V v n d),.int .i64 (d1E v n d)]):=aP G0W ae (afR v n d hv hn hd)
theorem bF {p:Prop} (h:p:=by simp [jb,aF,aL,aR]):p:=h
theorem jv {p:Prop} (h:p:=by unfold inW;omega):p:=h
theorem DM {p:Prop} (h:p:=by
 have e:=ZR (v2:=v2) c0 c1;rw [e,c2];refine vj (k8 h0 h1 h2 hn hd c0 c1 c2) ?_;exact eR (k2 results92 @eaV.eq_1)):p:=h
theorem Ed {p:Prop} (h:p:=by
 rw [e];refine vj (k8 q MU a0 b0 a1 b1 a2 b2) ?_;exact eR results25):p:=h
abbrev lJ := @Classical.em
abbrev bZ := @decide_eq_true
def wyE (v0 v1 v2 n d:Int):Int:=if d1E v0 n d=0 then (if d1E v1 n d=0 then d1E v2 n d else d1E v1 n d) else d1E v0 n d
theorem Pq (v n d:Int):d1E v n d=0\/d1E v n d=2:=by unfold d1E;split<;>simp
theorem an5 {v0 v1 v2 n d:Int} (h0:d1E v0 n d=2):wyE v0 v1 v2 n d=2:=by unfold wyE;rw [ab zO];exact h0
theorem an6 {v0 v1 v2 n d:Int} (h0:d1E v0 n d=0) (h1:d1E v1 n d=2):wyE v0 v1 v2 n d=2:=by unfold wyE;rw [ai h0,ab zO];exact h1
theorem ZR {v0 v1 v2 n d:Int} (h0:d1E v0 n d=0) (h1:d1E v1 n d=0):wyE v0 v1 v2 n d=d1E v2 n d:=by unfold wyE;rw [ai h0,ai h1]
theorem adM (v0 v1 v2 n d:Int) (h0:i64 v0) (h1:i64 v1) (h2:i64 v2) (hn:i64 n) (hd:i64 d):Ret prog G0 92 #[.agg #[.int .i64 v0,.int .i64 v1,.int .i64 v2],.int .i64 n,.int .i64 d]
  (.tuple #[.agg #[.int .i64 (eaV (wyE v0 v1 v2 n d) (d1V v0 n d)),.int .i64 (eaV (wyE v0 v1 v2 n d) (d1V v1 n d)),.int .i64 (eaV (wyE v0 v1 v2 n d) (d1V v2 n d))],.int .i64 (wyE v0 v1 v2 n d)]):=by
 refine ck G0F func92 rfl call92 zS zS (by simp [ntmps92]) ?_;intro C hC bQ hY;rcases Pq v0 n d with c0|c0
 ·rcases Pq v1 n d with c1|c1
  ·rcases Pq v2 n d with c2|c2
   ·exact DM
   ·exact DM
  ·have e:=an6 (v2:=v2) c0 c1;rw [e];refine vj (k7 h0 h1 h2 hn hd c0 c1) ?_;exact eR (k2 results92 @eaV.eq_1)
 ·have e:=an5 (v1:=v1) (v2:=v2) c0;rw [e];refine vj (k6 h0 h1 h2 hn hd c0) ?_;exact eR (k2 results92 @eaV.eq_1)
@[simp] theorem avg (v0 v1 v2 n d:Int) (h0:i64 v0) (h1:i64 v1) (h2:i64 v2) (hn:i64 n) (hd:i64 d) (K:iQ):cu prog G0 92 #[.agg #[.int .i64 v0,.int .i64 v1,.int .i64 v2],.int .i64 n,.int .i64 d] K ↔
  K (.tuple #[.agg #[.int .i64 (eaV (wyE v0 v1 v2 n d) (d1V v0 n d)),.int .i64 (eaV (wyE v0 v1 v2 n d) (d1V v1 n d)),.int .i64 (eaV (wyE v0 v1 v2 n d) (d1V v2 n d))],.int .i64 (wyE v0 v1 v2 n d)]):=aP G0W ae (adM v0 v1 v2 n d h0 h1 h2 hn hd)
theorem Rv (v0 v1 v2 n d:Int) (h0:i64 v0) (h1:i64 v1) (h2:i64 v2) (hn:i64 n) (hd:i64 d):Fun prog G0 91 #[.agg #[.int .i64 v0,.int .i64 v1,.int .i64 v2],.pointer (some ⟨100,0,none⟩),.pointer (some ⟨108,0,none⟩)] (hpL G0 [(100,jb n),(108,jb d)]) (ak [(100,jb n),(108,jb d)])
  (.ret (.agg #[.int .i64 (eaV (wyE v0 v1 v2 n d) (d1V v0 n d)),.int .i64 (eaV (wyE v0 v1 v2 n d) (d1V v1 n d)),.int .i64 (eaV (wyE v0 v1 v2 n d) (d1V v2 n d))]) []):=by
 refine de (B:=200) G0F func91 rfl call91 ⟨zS,ah,bF⟩ ?_ zS zS zS (by simp [ntmps91]) zO ?_
 ·exact bG
 intro C hC bQ hY;refine dy (k6 @jb.eq_1 h0 h1 h2 hn hd) ?_;refine ⟨.inr rfl,by simp [results91],dH G0F gX bn⟩
theorem OI (x0 x1 x2 m:Int) (hm:i64 m):Ret prog G0 25 #[.agg #[.int .i64 x0,.int .i64 x1,.int .i64 x2],.int .i64 m] (.bool (decide (inW m x0/\inW m x1/\inW m x2))):=by
 refine ck G0F func25 rfl call25 rfl zS (by simp [ntmps25]) ?_;intro C hC bQ hY;by_cases q:m<0
 ·have e:decide (inW m x0/\inW m x1/\inW m x2)=false:=aX jv;rw [e];refine vj q ?_;exact eR results25
 ·have MU:=Lp hm (du.1 q);rcases lJ (m<x0) with a0|a0
  ·have e:decide (inW m x0/\inW m x1/\inW m x2)=false:=aX jv;rw [e];refine vj (k3 q MU a0) ?_;exact eR results25
  rcases lJ (x0 < -m) with b0|b0
  ·have e:decide (inW m x0/\inW m x1/\inW m x2)=false:=aX jv;rw [e];refine vj (k4 q MU a0 b0) ?_;exact eR results25
  rcases lJ (m<x1) with a1|a1
  ·have e:decide (inW m x0/\inW m x1/\inW m x2)=false:=aX jv;rw [e];refine vj (k5 q MU a0 b0 a1) ?_;exact eR results25
  rcases lJ (x1 < -m) with b1|b1
  ·have e:decide (inW m x0/\inW m x1/\inW m x2)=false:=aX jv;rw [e];refine vj (k6 q MU a0 b0 a1 b1) ?_;exact eR results25
  rcases lJ (m<x2) with a2|a2
  ·have e:decide (inW m x0/\inW m x1/\inW m x2)=false:=aX jv;rw [e];refine vj (k7 q MU a0 b0 a1 b1 a2) ?_;exact eR results25
  rcases lJ (x2 < -m) with b2|b2
  ·have e:decide (inW m x0/\inW m x1/\inW m x2)=false:=aX jv;exact Ed
  have e:decide (inW m x0/\inW m x1/\inW m x2)=true:=bZ jv;exact Ed
@[simp] theorem apU (x0 x1 x2 m:Int) (hm:i64 m) (K:iQ):cu prog G0 25 #[.agg #[.int .i64 x0,.int .i64 x1,.int .i64 x2],.int .i64 m] K↔K (.bool (inV m x0 x1 x2)):=aP G0W ae (OI x0 x1 x2 m hm)
theorem l8 {p:Prop} (h:p:=by simp [jb,Blk.rn,aw,aA]):p:=h
theorem vR {p:Prop} (h:p:=by simp [ak,ixL];rfl):p:=h
theorem fk {p:Prop} (h:p:=by unfold i64;omega):p:=h
theorem cj {p:Prop} (h:p:=by simp [hr]):p:=h
theorem D5 {p:Prop} (h:p:=by
 refine dy (k11 @jb.eq_1 zr BV h0 h1 h2 h3 h4 h5 c0 c1) ?_;refine ⟨.inr rfl,by simp [results53],dH G0F gX bn⟩):p:=h
theorem jz {p:Prop} (h:p:=by
 simp [aN,cp,aL,aR,dom,hs]):p:=h
theorem EI {p:Prop} (h:p:=by
 refine ⟨.inr rfl,by simp [results73],dH G0F gX bn⟩):p:=h
theorem Gh {p:Prop} (h:p:=by
 refine ⟨.inr rfl,by simp [results52],dH G0F gX bn⟩):p:=h
structure SB (b:Blk) (off n:Nat) (f:aS):Prop where
 rd:rdI b off (6*n) f
 fx:b.fx
 i6:∀ j,j<6*n->i64 (f j)
 nn:n<=2932031007402
def inB (bx tp:Int) (f:aS) (i:Nat):Bool:=inV bx (f (6*i)) (f (6*i+1)) (f (6*i+2))&&inV tp (f (6*i+3)) (f (6*i+4)) (f (6*i+5))
theorem SB.body {b:Blk} {off n:Nat} {f:aS} (h:SB b off n f) {i:Nat} (hi:i<n):ft prog 50 b (off+i*6)=some (.agg #[.int .i64 (f (6*i)),.int .i64 (f (6*i+1)),.int .i64 (f (6*i+2)),.int .i64 (f (6*i+3)),.int .i64 (f (6*i+4)),.int .i64 (f (6*i+5))]):=by
 have abD:=Blk.fx_rd h.fx;have:=sY (P:=prog) (T:=50) (m:=6) (j:=6*i) (cO isAgg50) (aZ sizeOf50) zO h.rd zO;rw [(zO:off+i*6=off+6*i),this,ap8]
 rfl
theorem SB.i {b:Blk} {off n:Nat} {f:aS} (h:SB b off n f) {i:Nat} (hi:i<n) (q:Nat) (hq:q<6):i64 (f (6*i+q)):=h.i6 _ zO
theorem LV (bx tp x0 x1 x2 v0 v1 v2:Int) (zr:i64 bx) (BV:i64 tp) (h0:i64 x0) (h1:i64 x1) (h2:i64 x2) (h3:i64 v0) (h4:i64 v1) (h5:i64 v2) :
  Fun prog G0 53 #[.agg #[.int .i64 x0,.int .i64 x1,.int .i64 x2,.int .i64 v0,.int .i64 v1,.int .i64 v2],.pointer (some ⟨100,0,none⟩),.pointer (some ⟨108,0,none⟩)] (hpL G0 [(100,jb bx),(108,jb tp)]) (ak [(100,jb bx),(108,jb tp)]) (.ret (.bool !(inV bx x0 x1 x2&&inV tp v0 v1 v2)) []):=by
 refine de (B:=200) G0F func53 rfl call53 ⟨zS,ah,bF⟩ ?_ zS zS zS (by simp [ntmps53]) zO ?_
 ·exact bG
 intro C hC bQ hY
 cases c0:inV bx x0 x1 x2 with
 | true =>
  cases c1:inV tp v0 v1 v2 with
  | true =>
   exact D5
  | false =>
   exact D5
 | false =>
  refine dy (k10 @jb.eq_1 zr BV h0 h1 h2 h3 h4 h5 c0) ?_;refine ⟨.inr rfl,by simp [results53],dH G0F gX bn⟩
theorem tY {m:Int} {ρ:cI}:(jb m).rn ρ=jb m:=l8
def ab8 (b:Blk) (off n cap:Nat) (bx tp:Int) (i:Nat):GS :=
 ⟨tsL [(0,.slice (some ⟨100,off,none⟩) n cap),(1,.func (.func 53) #[] #[.pointer (some ⟨108,0,none⟩),.pointer (some ⟨116,0,none⟩)]),(7,.int .i64 n),(8,.int .i64 i)],
 hpL G0 [(100,b),(108,jb bx),(116,jb tp)],300,0⟩
def ixL (b:Blk) (bx tp:Int):List (Nat×Blk):=[(100,b),(108,jb bx),(116,jb tp)]
theorem H2 {b:Blk} (hb:b.fx) (bx tp:Int):LOk (ixL b bx tp) 200:=⟨by simp [ixL],by simp [ixL,ak],by
 simp only [ixL,al,aB,aC,dC,bR];exact ⟨Blk.fx_ids hb _,bF,bF⟩⟩
theorem XT (b:Blk) (off n cap:Nat) (f:aS) (h:SB b off n f) (bx tp:Int) (zr:i64 bx) (BV:i64 tp) (N:Nat) (hN:N<=n) (cA:∀ i,i<N->inB bx tp f i=true) (cm:N=n\/inB bx tp f N=false) :
  Fun prog G0 73 #[.slice (some ⟨100,off,none⟩) n cap,.func (.func 53) #[] #[.pointer (some ⟨108,0,none⟩),.pointer (some ⟨116,0,none⟩)]] (hpL G0 (ixL b bx tp)) (ak (ixL b bx tp)) (.ret (.int .i64 (if N=n then -1 else N)) []):=by
 refine de (B:=200) G0F func73 rfl call73 (H2 h.fx bx tp) ?_ zS zS zS (by simp [ntmps73]) zO ?_
 ·simp [aN,cp,aL,aR,ak,ixL]
 intro C hC bQ hY;have Vx:=h.nn;unfold ixL;refine fO ?_;refine jQ N (ab8 b off n cap bx tp) ?_ ?_ ?_
 ·refine dv _ 300 hC G0F (m0:=[(100,b),(108,jb bx),(116,jb tp)]) bQ zO ?_ ?_ ?_
  ·exact gb
  ·have hi:=λD=>Blk.fx_ids h.fx D;simp [aF,aL,aR,jb,hi]
  ·simp
 ·intro i hi;have dR:i<n:=zO;have cv:(i:Int)<n:=zO;have hz:(0:Int)<=i:=zO;have hs:Int.bmod ((i:Int)+1) 18446744073709551616=((i+1:Nat):Int):=fE;have uk:=h.body dR;have hq:=cA i hi;unfold inB at hq;rw [bO] at hq;obtain ⟨q1,q2⟩:=hq;unfold ab8
  repeat' first|refine cM ?_|((first|refine gwR [53] ?_|refine gwD [53] ?_);intro Q hQ _;(repeat first|simp [hC,hY,hi,cv,hz,hs,uk,q1,q2,jb]|refine az (LV bx tp _ _ _ _ _ _ zr BV (h.i dR 0 zO) (h.i dR 1 zO) (h.i dR 2 zO) (h.i dR 3 zO) (h.i dR 4 zO) (h.i dR 5 zO)) G0F (B:=200) ⟨zS,ah,bF⟩ (λk=>if k=100 then 108 else if k=108 then 116 else k) (λk hk=>(ab zO).trans (ab zO)) ay zS l8 ah ax ?_);refine cQ hQ ?_)|fail
  refine dv _ 300 hC G0F (m0:=[(100,b),(108,jb bx),(116,jb tp)]) bQ zO ?_ ?_ ?_
  ·exact jz
  ·have hi:=λD=>Blk.fx_ids h.fx D;simp [aF,aL,aR,jb,hi]
  ·exact gX
 ·by_cases pY:N=n
  ·subst pY;simp only [aU];unfold ab8;refine fO ?_;exact eS results73
  ·have dR:N<n:=zO;have cv:(N:Int)<n:=zO;have hz:(0:Int)<=N:=zO;have uk:=h.body dR;have hq:=cm.resolve_left pY;unfold inB at hq;rw [ab pY];unfold ab8
   cases q1:inV bx (f (6*N)) (f (6*N+1)) (f (6*N+2)) with
   | false =>
    repeat' first|refine cM ?_|((first|refine gwR [53] ?_|refine gwD [53] ?_);intro Q hQ _;(repeat first|simp [hC,hY,dR,cv,hz,uk,q1,jb]|refine az (LV bx tp _ _ _ _ _ _ zr BV (h.i dR 0 zO) (h.i dR 1 zO) (h.i dR 2 zO) (h.i dR 3 zO) (h.i dR 4 zO) (h.i dR 5 zO)) G0F (B:=200) ⟨zS,ah,bF⟩ (λk=>if k=100 then 108 else if k=108 then 116 else k) (λk hk=>(ab zO).trans (ab zO)) ay zS l8 ah ax ?_);refine cQ hQ ?_)|fail
    exact EI
   | true =>
    have q2:inV tp (f (6*N+3)) (f (6*N+4)) (f (6*N+5))=false:=by rw [q1] at hq;simpa using hq
    repeat' first|refine cM ?_|((first|refine gwR [53] ?_|refine gwD [53] ?_);intro Q hQ _;(repeat first|simp [hC,hY,dR,cv,hz,uk,q1,q2,jb]|refine az (LV bx tp _ _ _ _ _ _ zr BV (h.i dR 0 zO) (h.i dR 1 zO) (h.i dR 2 zO) (h.i dR 3 zO) (h.i dR 4 zO) (h.i dR 5 zO)) G0F (B:=200) ⟨zS,ah,bF⟩ (λk=>if k=100 then 108 else if k=108 then 116 else k) (λk hk=>(ab zO).trans (ab zO)) ay zS l8 ah ax ?_);refine cQ hQ ?_)|fail
    exact EI
def ij (bx tp:Int) (f:aS) (n:Nat):Bool:=(List.range n).all (inB bx tp f)
theorem sI {bx tp:Int} {f:aS} {n:Nat}:ij bx tp f n=true↔∀ i,i<n->inB bx tp f i=true:=by simp [ij]
theorem Jz {bx tp:Int} {f:aS} {n N:Nat} (hN:N<=n) (cA:∀ i,i<N->inB bx tp f i=true) (cm:N=n\/inB bx tp f N=false):ij bx tp f n=decide (N=n):=by
 by_cases h:N=n
 ·subst h;rw [bZ rfl];exact sI.2 cA
 ·rw [aX h]
  cases hb:ij bx tp f n with
  | false=>rfl
  | true=>have:=sI.1 hb N zO;rw [cm.resolve_left h] at this;cases this
theorem H4 (p:Nat->Bool) (m:Nat):∃ N,N<=m/\(∀ i,i<N->p i=true)/\(N=m\/p N=false):=by
 obtain ⟨N,h1,h2,h3⟩:=ahm (λi=>p i=true) m;exact ⟨N,h1,h2,h3.imp id (λh=>kA)⟩
theorem afM (b:Blk) (off n cap:Nat) (f:aS) (h:SB b off n f) (bx tp:Int) (zr:i64 bx) (BV:i64 tp) :
  Fun prog G0 52 #[.slice (some ⟨100,off,none⟩) n cap,.func (.func 53) #[] #[.pointer (some ⟨108,0,none⟩),.pointer (some ⟨116,0,none⟩)]] (hpL G0 (ixL b bx tp)) (ak (ixL b bx tp)) (.ret (.bool !(ij bx tp f n)) []):=by
 refine de (B:=200) G0F func52 rfl call52 (H2 h.fx bx tp) ?_ zS zS zS (by simp [ntmps52]) zO ?_
 ·simp [aN,cp,aL,aR,ak,ixL]
 intro C hC bQ hY;obtain ⟨N,hN,cA,cm⟩:=H4 (inB bx tp f) n;rw [Jz hN cA cm];have hr:=λρ=>Blk.fx_rn h.fx ρ;unfold ixL;by_cases pY:N=n
 ·have Xp:(decide (N=n))=true:=bZ pY;rw [Xp]
  repeat' first|refine cM ?_|((first|refine gwR [73] ?_|refine gwD [73] ?_);intro Q hQ _;(repeat first|simp [hC,hY,pY]|refine az (XT b off n cap f h bx tp zr BV N hN cA cm) G0F (B:=200) (H2 h.fx bx tp) (λk=>k) (λk hk=>rfl) ay zS (by simp [ixL,jb,Blk.rn_id]) ah vR ?_);refine cQ hQ ?_)|fail
  exact Gh
 ·have Xp:(decide (N=n))=false:=aX pY;have hz:(0:Int)<=N:=zO;rw [Xp]
  repeat' first|refine cM ?_|((first|refine gwR [73] ?_|refine gwD [73] ?_);intro Q hQ _;(repeat first|simp [hC,hY,pY,hz]|refine az (XT b off n cap f h bx tp zr BV N hN cA cm) G0F (B:=200) (H2 h.fx bx tp) (λk=>k) (λk hk=>rfl) ay zS (by simp [ixL,jb,Blk.rn_id]) ah vR ?_);refine cQ hQ ?_)|fail
  exact Gh
theorem aH {b:Blk} (hb:b.fx):LOk [(100,b)] 200:=⟨zS,ah,by
 simp only [bE,bR];exact Blk.fx_ids hb _⟩
theorem SL (b:Blk) (off n cap:Nat) (f:aS) (h:SB b off n f) (st bx tp:Int) (zr:i64 bx) (BV:i64 tp) :
  Fun prog G0 34 #[.agg #[.int .i64 st,.slice (some ⟨100,off,none⟩) n cap],.int .i64 bx,.int .i64 tp] (hpL G0 [(100,b)]) (ak [(100,b)]) (.ret (.bool (ij bx tp f n)) []):=by
 refine de (B:=200) G0F func34 rfl call34 (aH h.fx) ?_ zS zS zS (by simp [ntmps34]) zO ?_
 ·exact bG
 intro C hC bQ hY;have hr:=λρ=>Blk.fx_rn h.fx ρ
 repeat' first|refine cM ?_|((first|refine gwR [52] ?_|refine gwD [52] ?_);intro Q hQ _;(repeat first|simp [hC,hY]|refine az (afM b off n cap f h bx tp zr BV) G0F (B:=200) (H2 h.fx bx tp) (λk=>if k=108 then 208 else if k=116 then 216 else k) (λk hk=>(ab zO).trans (ab zO)) ay zS (by simp [ixL,hr,tY];simp [jb]) (by simp [ak,ixL]) vR ?_);refine cQ hQ ?_)|fail
 refine ⟨.inr rfl,by simp [results34],dH G0F gX bn⟩
def stB (st:Int):Bool:=decide (-1073741824<=st/\st<=1073741824)
theorem adv (st:Int) (hs:i64 st):stB st=(decide ((if st<Int.bmod (-st) 18446744073709551616 then Int.bmod (-st) 18446744073709551616 else st)<=1073741824)&&decide (-1073741824<=st)):=by
 have h1:=hs.1;have h2:=hs.2;unfold stB;rw [lE];simp only [bO,fe];rw [dz];split<;>split<;>omega
def aV (st:Int) (f:aS) (n:Nat):Bool:=stB st&&decide (1<=n/\n<=4)&&ij 1048576 65536 f n
theorem GV:i64 1048576:=fk
theorem ab3:i64 65536:=fk
theorem iN (b:Blk) (off n cap:Nat) (f:aS) (h:SB b off n f) (st:Int) (hs:i64 st) :
  Fun prog G0 44 #[.agg #[.int .i64 st,.slice (some ⟨100,off,none⟩) n cap]] (hpL G0 [(100,b)]) (ak [(100,b)]) (.ret (.bool (aV st f n)) []):=by
 refine de (B:=200) G0F func44 rfl call44 (aH h.fx) ?_ zS zS zS (by simp [ntmps44]) zO ?_
 ·exact bG
 intro C hC bQ hY;have hr:=λρ=>Blk.fx_rn h.fx ρ;obtain ⟨m,hm⟩:∃ m,(if st<Int.bmod (-st) 18446744073709551616 then Int.bmod (-st) 18446744073709551616 else st)=m:=⟨_,rfl⟩
 have key:=adv st hs;rw [hm] at key;unfold aV;rw [key];by_cases c0:m<=1073741824
 ·by_cases c1:-1073741824<=st
  ·by_cases c2:0<n
   ·by_cases c3:n<=4
    ·have c4:(n:Int)<=4:=zO;have e:decide (1<=n/\n<=4)=true:=bZ zO;rw [bZ c0,bZ c1,e]
     repeat' first|refine cM ?_|((first|refine gwR [34] ?_|refine gwD [34] ?_);intro Q hQ _;(repeat first|simp [hC,hY,hm,c0,c1,c2,c3,c4]|refine az (SL b off n cap f h st 1048576 65536 GV ab3) G0F (B:=200) (aH h.fx) (λk=>k) (λk hk=>rfl) ay zS cj ah ax ?_);refine cQ hQ ?_)|fail
     exact eS results44
    ·have c4:¬(n:Int)<=4:=zO;have e:decide (1<=n/\n<=4)=false:=aX zO;rw [bZ c0,bZ c1,e];refine dy (k6 hm c0 c1 c2 c3 c4) ?_;exact eS results44
   ·have e:decide (1<=n/\n<=4)=false:=aX zO;rw [bZ c0,bZ c1,e];refine dy (k4 hm c0 c1 c2) ?_;exact eS results44
  ·rw [bZ c0,aX c1];refine dy (k3 hm c0 c1) ?_;exact eS results44
 ·rw [aX c0];refine dy (k2 hm c0) ?_;exact eS results44
theorem Gb {p:Prop} (h:p:=by
 have hi:=λD=>Blk.fx_ids h.fx D;simp [aF,aL,aR,hi,dom]):p:=h
theorem fH {p:Prop} (h:p:=by
 exact eS results15):p:=h
theorem SB.int {b:Blk} {off n:Nat} {f:aS} (h:SB b off n f) {i:Nat} (hi:i<n) {q:Nat} (hq:q<6):ft prog 3 b (off+i*6+q)=some (.int .i64 (f (6*i+q))):=by
 have abD:=Blk.fx_rd h.fx;have:=Bf (P:=prog) (T:=3) (j:=6*i+q) (cO isAgg3) h.rd zO;rw [(zO:off+i*6+q=off+(6*i+q)),this]
def SP (bx tp:Int) (b:Blk) (off n cap:Nat) (st:Int) (i:Nat):GS :=
 ⟨tsL [(1,.int .i64 bx),(2,.int .i64 tp),(3,.pointer (some ⟨200,0,none⟩)),(7,.int .i64 i)],
 hpL G0 [(200,⟨#[.int .i64 st,.slice (some ⟨100,off,none⟩) n cap],.ty 27⟩),(100,b)],400,0⟩
theorem J3 {bx tp:Int} {f:aS} {i:Nat}:inB bx tp f i=true↔((-bx<=f (6*i)/\f (6*i)<=bx)/\(-bx<=f (6*i+1)/\f (6*i+1)<=bx)/\(-bx<=f (6*i+2)/\f (6*i+2)<=bx))/\(-tp<=f (6*i+3)/\f (6*i+3)<=tp)/\(-tp<=f (6*i+4)/\f (6*i+4)<=tp)/\(-tp<=f (6*i+5)/\f (6*i+5)<=tp):=by
 unfold inB inV inW;simp only [bO,fe];omega
theorem IM (b:Blk) (off n cap:Nat) (f:aS) (h:SB b off n f) (st bx tp:Int) (zr:0<=bx/\bx<=1048576) (BV:0<=tp/\tp<=1048576) :
  Fun prog G0 15 #[.agg #[.int .i64 st,.slice (some ⟨100,off,none⟩) n cap],.int .i64 bx,.int .i64 tp] (hpL G0 [(100,b)]) (ak [(100,b)]) (.ret (.bool (ij bx tp f n)) []):=by
 refine de (B:=200) G0F func15 rfl call15 (aH h.fx) ?_ zS zS zS (by simp [ntmps15]) zO ?_
 ·exact bG
 intro C hC bQ hY;obtain ⟨N,hN,cA,cm⟩:=H4 (inB bx tp f) n;have Vx:=h.nn;have nb:¬bx<0:=zO;have nt:¬tp<0:=zO;have mb:Int.bmod (-bx) 18446744073709551616=-bx:=bm zO zO;have mt:Int.bmod (-tp) 18446744073709551616=-tp:=bm zO zO;rw [Jz hN cA cm];refine fO ?_;refine jQ N (SP bx tp b off n cap st) ?_ ?_ ?_
 ·refine dv _ 400 hC G0F (m0:=[(100,b)]) bQ zO ?_ ?_ ?_
  ·exact gb
  ·exact Gb
  ·simp
 ·intro i hi;have dR:i<n:=zO;have cv:(i:Int)<n:=zO;have hz:(0:Int)<=i:=zO;have hs:Int.bmod ((i:Int)+1) 18446744073709551616=((i+1:Nat):Int):=fE;have l0:=h.int dR (q:=0) zO;have l1:=h.int dR (q:=1) zO;have l2:=h.int dR (q:=2) zO;have l3:=h.int dR (q:=3) zO;have l4:=h.int dR (q:=4) zO;have l5:=h.int dR (q:=5) zO;simp only [dZ] at l0;obtain ⟨⟨⟨a0,b0⟩,⟨a1,b1⟩,⟨a2,b2⟩⟩,⟨a3,b3⟩,⟨a4,b4⟩,⟨a5,b5⟩⟩:=J3.1 (cA i hi);replace a0:=du.2 a0;replace a1:=du.2 a1;replace a2:=du.2 a2;replace a3:=du.2 a3;replace a4:=du.2 a4;replace a5:=du.2 a5;replace b0:=du.2 b0;replace b1:=du.2 b1;replace b2:=du.2 b2;replace b3:=du.2 b3;replace b4:=du.2 b4;replace b5:=du.2 b5;unfold SP;refine vj (k27 nb nt mb mt hi dR cv hz hs l0 l1 l2 l3 l4 l5 a0 a1 a2 a3 a4 a5 b0 b1 b2 b3 b4 b5) ?_;refine dv _ 400 hC G0F (m0:=[(100,b)]) bQ zO ?_ ?_ ?_
  ·exact jz
  ·exact Gb
  ·simp
 ·by_cases pY:N=n
  ·rw [bZ pY];subst pY;unfold SP;refine fO ?_;exact fH
  ·rw [aX pY];have dR:N<n:=zO;have cv:(N:Int)<n:=zO;have hz:(0:Int)<=N:=zO;have l0:=h.int dR (q:=0) zO;have l1:=h.int dR (q:=1) zO;have l2:=h.int dR (q:=2) zO;have l3:=h.int dR (q:=3) zO;have l4:=h.int dR (q:=4) zO;have l5:=h.int dR (q:=5) zO;simp only [dZ] at l0;have agr:¬inB bx tp f N=true:=by rw [cm.resolve_left pY];simp
   rw [J3] at agr;unfold SP;by_cases a0:f (6*N) < -bx
   ·
    refine vj (k14 nb nt mb mt dR cv hz l0 l1 l2 l3 l4 l5 a0) ?_;exact fH
   by_cases b0:bx<f (6*N)
   ·
    refine vj (k15 nb nt mb mt dR cv hz l0 l1 l2 l3 l4 l5 a0 b0) ?_;exact fH
   by_cases a3:f (6*N+3) < -tp
   ·
    refine vj (k16 nb nt mb mt dR cv hz l0 l1 l2 l3 l4 l5 a0 b0 a3) ?_;exact fH
   by_cases b3:tp<f (6*N+3)
   ·
    refine vj (k17 nb nt mb mt dR cv hz l0 l1 l2 l3 l4 l5 a0 b0 a3 b3) ?_;exact fH
   by_cases a1:f (6*N+1) < -bx
   ·
    refine vj (k18 nb nt mb mt dR cv hz l0 l1 l2 l3 l4 l5 a0 b0 a3 b3 a1) ?_;exact fH
   by_cases b1:bx<f (6*N+1)
   ·
    refine vj (k19 nb nt mb mt dR cv hz l0 l1 l2 l3 l4 l5 a0 b0 a3 b3 a1 b1) ?_;exact fH
   by_cases a4:f (6*N+4) < -tp
   ·
    refine vj (k20 nb nt mb mt dR cv hz l0 l1 l2 l3 l4 l5 a0 b0 a3 b3 a1 b1 a4) ?_;exact fH
   by_cases b4:tp<f (6*N+4)
   ·
    refine vj (k21 nb nt mb mt dR cv hz l0 l1 l2 l3 l4 l5 a0 b0 a3 b3 a1 b1 a4 b4) ?_;exact fH
   by_cases a2:f (6*N+2) < -bx
   ·
    refine vj (k22 nb nt mb mt dR cv hz l0 l1 l2 l3 l4 l5 a0 b0 a3 b3 a1 b1 a4 b4 a2) ?_;exact fH
   by_cases b2:bx<f (6*N+2)
   ·
    refine vj (k23 nb nt mb mt dR cv hz l0 l1 l2 l3 l4 l5 a0 b0 a3 b3 a1 b1 a4 b4 a2 b2) ?_;exact fH
   by_cases a5:f (6*N+5) < -tp
   ·
    refine vj (k24 nb nt mb mt dR cv hz l0 l1 l2 l3 l4 l5 a0 b0 a3 b3 a1 b1 a4 b4 a2 b2 a5) ?_;exact fH
   by_cases b5:tp<f (6*N+5)
   ·
    refine vj (k25 nb nt mb mt dR cv hz l0 l1 l2 l3 l4 l5 a0 b0 a3 b3 a1 b1 a4 b4 a2 b2 a5 b5) ?_;exact fH
   exfalso
   omega
theorem adH (b:Blk) (off n cap:Nat) (f:aS) (h:SB b off n f) (st:Int) :
  Fun prog G0 15 #[.agg #[.int .i64 st,.slice (some ⟨100,off,none⟩) n cap],.int .i64 1048576,.int .i64 65536] (hpL G0 [(100,b)]) (ak [(100,b)]) (.ret (.bool (ij 1048576 65536 f n)) []):=IM b off n cap f h st 1048576 65536 zO zO
theorem Bn (b:Blk) (off n cap:Nat) (f:aS) (h:SB b off n f) (st:Int) :
  Fun prog G0 27 #[.agg #[.int .i64 st,.slice (some ⟨100,off,none⟩) n cap]] (hpL G0 [(100,b)]) (ak [(100,b)]) (.ret (.bool (aV st f n)) []):=by
 refine de (B:=200) G0F func27 rfl call27 (aH h.fx) ?_ zS zS zS (by simp [ntmps27]) zO ?_
 ·exact bG
 intro C hC bQ hY;have hr:=λρ=>Blk.fx_rn h.fx ρ;unfold aV;by_cases c0:-1073741824<=st
 ·by_cases c1:st<=1073741824
  ·have es:stB st=true:=bZ ⟨c0,c1⟩;rw [es];by_cases c2:1<=n
   ·have c2':(1:Int)<=n:=zO;have aaW:0<n:=zO;by_cases c3:n<=4
    ·have c4:(n:Int)<=4:=zO;have e:decide (1<=n/\n<=4)=true:=bZ zO;rw [e]
     repeat' first|refine cM ?_|((first|refine gwR [15] ?_|refine gwD [15] ?_);intro Q hQ _;(repeat first|simp [hC,hY,c0,c1,c2,c2',aaW,c3,c4]|refine az (adH b off n cap f h st) G0F (B:=200) (aH h.fx) (λk=>k) (λk hk=>rfl) ay zS cj ah ax ?_);refine cQ hQ ?_)|fail
     exact eS results27
    ·have c4:¬(n:Int)<=4:=zO;have e:decide (1<=n/\n<=4)=false:=aX zO;rw [e];refine dy (k7 c0 c1 c2 c2' aaW c3 c4) ?_;exact eS results27
   ·have c2':¬(1:Int)<=n:=zO;have aaW:¬0<n:=zO;have akR:n=0:=zO;have e:decide (1<=n/\n<=4)=false:=aX zO;rw [e];refine dy (k6 c0 c1 c2 c2' aaW akR) ?_;exact eS results27
  ·have es:stB st=false:=aX zO;rw [es];refine dy (k2 c0 c1) ?_;exact eS results27
 ·have es:stB st=false:=aX zO;rw [es];refine dy c0 ?_;exact eS results27
theorem UO (st:Int):Ret prog G0 27 #[.agg #[.int .i64 st,.slice none 0 0]] (.bool false):=by
 refine ck G0F func27 rfl call27 rfl zS (by simp [ntmps27]) ?_;intro C hC bQ hY;by_cases c0:-1073741824<=st
 ·by_cases c1:st<=1073741824
  ·(repeat' (first|refine cM ?_|(refine g6 ?_;intro Q hQ _;simp [hC,hY,c0,c1];refine cQ hQ ?_)|refine gwC ?_ ?_<;>intro hb))
   exact eR results27
  ·(repeat' (first|refine cM ?_|(refine g6 ?_;intro Q hQ _;simp [hC,hY,c0,c1];refine cQ hQ ?_)|refine gwC ?_ ?_<;>intro hb))
   exact eR results27
 ·(repeat' (first|refine cM ?_|(refine g6 ?_;intro Q hQ _;simp [hC,hY,c0];refine cQ hQ ?_)|refine gwC ?_ ?_<;>intro hb))
  exact eR results27
@[simp] theorem asp (st:Int) (K:iQ):cu prog G0 27 #[.agg #[.int .i64 st,.slice none 0 0]] K↔K (.bool false):=aP G0W ae (UO st)
theorem lV {p:Prop} (h:p:=by simp;rfl):p:=h
theorem aJ {p:Prop} (h:p:=by simp [okT]):p:=h
theorem aq {p:Prop} (h:p:=by simp [gev]):p:=h
theorem aM {p:Prop} (h:p:=by simp [okX,eY]):p:=h
theorem xB {p:Prop} (h:p:=by
 simp only [bE,bR];exact ⟨zO,Blk.fx_ids (dI _ _ _) _⟩):p:=h
theorem DZ {p:Prop} (h:p:=by
 obtain ⟨c,M,g,h1,h2,h3,rfl,rfl⟩:=h;refine ⟨dD,?_,?_⟩
 ·exact xB
 ·intro k b c h1 h2;simp at h1 h2;rw [h1.2,h2.2]):p:=h
theorem Ej {p:Prop} (h:p:=by
 funext v ns;apply propext;constructor
 ·rintro ⟨v0,uo,⟨c,M,g,h1,h2,h3,rfl,rfl⟩,rfl,rfl⟩;exact ⟨c,M,g,h1,h2,h3,ay,by simp [rnL,ic]⟩
 ·rintro ⟨c,M,g,h1,h2,h3,rfl,rfl⟩;exact ⟨_,_,⟨c,M,g,h1,h2,h3,rfl,rfl⟩,ay,by simp [rnL,ic]⟩):p:=h
def V7 (nk n:Nat) (f:aS) (v:Value) (ns:bS):Prop:=∃ (c M:Nat) (g:aS),n<=c/\6*n<=M/\(∀ j,j<6*n->g j=f j)/\v=.slice (some ⟨nk,0,none⟩) n c/\ns=[(nk,⟨fa M .i64 g,.ty 50⟩)]
theorem dI (M:Nat) (g:aS) (T:TypeId):Blk.fx ⟨fa M .i64 g,.ty T⟩:=λx hx=>by
 obtain ⟨m,rfl⟩:=yX hx;rfl
theorem ac1 {b:Blk} {n:Nat} {f:aS} (v:Value) (ns:bS) (h:V7 1000 n f v ns):aN (cJ (λk=>k∈ak [(100,b)]) ns) v/\(∀ p∈ns,200<=p.1/\p.2.ids (cJ (λk=>k∈ak [(100,b)]) ns))/\(∀ k b c,(k,b)∈ns->(k,c)∈ns->b=c):=by
 exact DZ
theorem Tt (b:Blk) (off n cap:Nat) (f:aS) (h:SB b off n f) (dS:n<=cap) :
  FunS prog G0 38 #[.slice (some ⟨100,off,none⟩) n cap] (hpL G0 [(100,b)]) (ak [(100,b)]) (V7 1000 n f):=by
 refine dJ (B:=200) G0F func38 rfl call38 (aH h.fx) ?_ ac1 (by simp [ntmps38]) zO ?_
 ·exact bG
 intro C hC bQ hY;have Vx:=h.nn;have abD:=Blk.fx_rd h.fx;refine fO ?_;refine xW ?_;simp only [Array.toList];refine VQ rfl zS rfl underlying25 (aZ sizeOf50) ?_;refine n7 trivial ?_;by_cases hn0:n=0
 ·subst hn0;refine KF (p:=some (224,0)) (q:=some (100,off)) rfl zS rfl underlying25 (aZ sizeOf50) lV lV (aG _) ?_;refine n7 trivial ?_;refine bH ?_;refine fO ?_;refine ⟨.inr trivial,G4 G0F,_,_,λk=>if k=1000 then 224 else k,⟨0,0,f,aG _,zO,λ_ _=>rfl,rfl,rfl⟩,λk hk=>ab zO,zS,zS,by simp [results38,ren,aT,aw,aA],?_⟩;simp [fa,Blk.rn]
 ·refine Rb (p:=some ⟨224,0,none⟩) (j:=100) (b2:=b) (ao:=off) (m:=n) (m':=cap) (nw:=(fa (6*n) .i64 f).toList) (sz:=6) (BN:=48) (z:=.agg #[.int .i64 0,.int .i64 0,.int .i64 0,.int .i64 0,.int .i64 0,.int .i64 0]) rfl zS rfl underlying25 (aZ sizeOf50) ?_ ?_ ?_ ?_ ?_ (ah1 h.rd) o9 (λq x hx=>?_) zO aE vM zO (λcW yz=>?_)
  ·kernel_rfl
  ·kernel_rfl
  ·simp
  ·simp
  ·simp
  ·have:=IT hx;simp [Value.cells] at this;subst this
   rfl
  ·rw [IU (k:=.i64) zS,Ri];refine n7 trivial ?_;refine bH ?_;refine fO ?_;refine ⟨.inr trivial,G4 G0F,_,_,λk=>if k=1000 then 224+16 else k,⟨cW,6*n+(cW - n)*6,Ms f (6*n) 0 f,yz,?_,?_,rfl,rfl⟩,λk hk=>ab zO,zS,zS,by simp [results38,ren,aT,aw,aA],?_⟩
   ·omega
   ·intro j hj;unfold Ms;rw [ai zO]
   ·simp only [bE,bR];rw [ic];simp
def Hl (nk:Nat) (st:Int) (n:Nat) (f:aS) (v:Value) (ns:bS):Prop:=∃ (c M:Nat) (g:aS),n<=c/\6*n<=M/\(∀ j,j<6*n->g j=f j)/\v=.agg #[.int .i64 st,.slice (some ⟨nk,0,none⟩) n c]/\ns=[(nk,⟨fa M .i64 g,.ty 50⟩)]
theorem NQ {b:Blk} {st:Int} {n:Nat} {f:aS} (v:Value) (ns:bS) (h:Hl 1000 st n f v ns):aN (cJ (λk=>k∈ak [(100,b)]) ns) v/\(∀ p∈ns,200<=p.1/\p.2.ids (cJ (λk=>k∈ak [(100,b)]) ns))/\(∀ k b c,(k,b)∈ns->(k,c)∈ns->b=c):=by
 exact DZ
theorem FunS.own1 {fn:FuncId} {args:bV} {b:Blk} {R:AI} (h:FunS prog G0 fn args (hpL G0 [(100,b)]) (ak [(100,b)]) R) (hb:b.fx) (nk:Nat) (mZ:200<=nk) (hR:∀ v ns,R v ns->∀ k∈ak ns,k=1000) (ha:args.map (ren λk=>if k=1000 then nk else k)=args) :
  FunS prog G0 fn args (hpL G0 [(100,b)]) [100] (RR (λk=>if k=1000 then nk else k) R):=by
 have h0:=h.rn (λk=>if k=1000 then nk else k) G0F (aH hb).low (db:=hpL G0 [(100,b)]) (vz (aH hb) _ (λk hk=>ab zO) (aH hb).low (by
  simp only [bE,bR];refine ⟨zS,?_⟩;rw [Blk.fx_rn hb];simp) ah) (λv ns hr k hk=>by
  rw [hR v ns hr k hk,ai rfl];refine ⟨zO,λhd=>hd ?_⟩;simp [rst,ak,(zO:¬nk=100),(zO:¬nk<100)]) (λv ns hr k hk l hl _=>by rw [hR v ns hr k hk,hR v ns hr l hl])
 rw [ha] at h0;simpa [ak] using h0
theorem acZ (nk n:Nat) (f:aS):RR (λk=>if k=1000 then nk else k) (V7 1000 n f)=V7 nk n f:=by
 exact Ej
theorem ac0 (nk:Nat) (st:Int) (n:Nat) (f:aS):RR (λk=>if k=1000 then nk else k) (Hl 1000 st n f)=Hl nk st n f:=by
 exact Ej
theorem WA (nk:Nat) (mZ:200<=nk) (b:Blk) (off n cap:Nat) (f:aS) (h:SB b off n f) (dS:n<=cap) :
  FunS prog G0 38 #[.slice (some ⟨100,off,none⟩) n cap] (hpL G0 [(100,b)]) [100] (V7 nk n f):=by
 have:=(Tt b off n cap f h dS).own1 h.fx nk mZ (λv ns hR k hk=>by
  obtain ⟨c,M,g,h1,h2,h3,rfl,rfl⟩:=hR;simpa [ak] using hk) ay
 rwa [acZ] at this
theorem Sk (b:Blk) (off n cap:Nat) (f:aS) (h:SB b off n f) (dS:n<=cap) (st:Int) :
  FunS prog G0 21 #[.agg #[.int .i64 st,.slice (some ⟨100,off,none⟩) n cap]] (hpL G0 [(100,b)]) (ak [(100,b)]) (Hl 1000 st n f):=by
 refine dJ (B:=200) G0F func21 rfl call21 (aH h.fx) ?_ NQ (by simp [ntmps21]) zO ?_
 ·exact bG
 intro C hC bQ hY;refine fO ?_;refine gj ?_;refine zP trivial ?_;refine Mb (f:=.func 38) (args:=#[.slice (some ⟨100,off,none⟩) n cap]) (cap:=#[]) rfl zS rfl rfl aJ aq zS aM aq (hC.symm▸WA 232 zO b off n cap f h dS) zS (by rw [<-hC];(intro k hk;first|rfl|(simp (disch:=omega) only [eW,al,aB,aC,aj,aW,dm,ab,bW]<;>done))) ?_ ?_
 ·rintro v ns ⟨c,M,g,h1,h2,h3,rfl,rfl⟩;simp [ak]
 ·rintro v ns ⟨c,M,g,h1,h2,h3,rfl,rfl⟩;refine zP trivial ?_;refine bH ?_;refine fO ?_;refine ⟨.inr trivial,G4 G0F,_,_,λk=>if k=1000 then 232 else k,⟨c,M,g,h1,h2,h3,rfl,rfl⟩,λk hk=>ab zO,zS,zS,by simp [results21,ren,aT,aw,aA],?_⟩;simp [ic]
theorem Ly (nk:Nat) (mZ:200<=nk) (b:Blk) (off n cap:Nat) (f:aS) (h:SB b off n f) (dS:n<=cap) (st:Int) :
  FunS prog G0 21 #[.agg #[.int .i64 st,.slice (some ⟨100,off,none⟩) n cap]] (hpL G0 [(100,b)]) [100] (Hl nk st n f):=by
 have:=(Sk b off n cap f h dS st).own1 h.fx nk mZ (λv ns hR k hk=>by
  obtain ⟨c,M,g,h1,h2,h3,rfl,rfl⟩:=hR;simpa [ak] using hk) ay
 rwa [ac0] at this
theorem jG:LOk [] 200:=⟨zS,ah,zS⟩
theorem vK {p:Prop} (h:p:=by simp [bI,aF,aL,aR,ak]):p:=h
theorem Er {p:Prop} (h:p:=by
 rcases h1 with ⟨e1,rfl⟩|⟨e1,rfl⟩|⟨e1,rfl⟩|⟨e1,rfl⟩<;>rcases h2 with ⟨e2,rfl⟩|⟨e2,rfl⟩|⟨e2,rfl⟩|⟨e2,rfl⟩<;>first|rfl|omega):p:=h
def dwE (f:aS) (p q:Int) (i:Nat):Int:=wyE (f (6*i+3)) (f (6*i+4)) (f (6*i+5)) p q
def dwV (f:aS) (p q:Int) (i j:Nat):Int:=eaV (dwE f p q i) (d1V (f (6*i+3+j)) p q)
def dwA (f:aS) (p q:Int) (i:Nat):Value:=.agg #[.int .i64 (dwV f p q i 0),.int .i64 (dwV f p q i 1),.int .i64 (dwV f p q i 2)]
def Pv (f:aS) (p q:Int) (n:Nat):List (Array Value):=(List.range n).map λi=>#[dwA f p q i]
theorem zH (f:aS) (p q:Int) (n:Nat):(Pv f p q n).length=n:=by simp [Pv]
theorem GN (f:aS) (p q:Int) (n i:Nat) (h:i<n):(Pv f p q n)[i]? = some #[dwA f p q i]:=by simp [Pv,h]
def bI (st:Int) (k off n cap:Nat):Blk:=⟨#[.int .i64 st,.slice (some ⟨k,off,none⟩) n cap],.ty 27⟩
def fnB (k1 k2:Nat):Blk:=⟨#[.func (.func 91) #[] #[.pointer (some ⟨k1,0,none⟩),.pointer (some ⟨k2,0,none⟩)]],.ty 128⟩
def ue (nk:Nat) (st:Int) (off n cap:Nat) (p q:Int):List (Nat×Blk):=[(nk,bI st 100 off n cap),(nk+1,jb p),(nk+2,jb q),(nk+3,fnB (nk+1) (nk+2))]
def Te (nk:Nat) (st:Int) (off n cap:Nat) (p q:Int) (v:Value) (ns:bS):Prop:=v=.func (.func 93) #[] #[.pointer (some ⟨nk,0,none⟩),.pointer (some ⟨nk+3,0,none⟩)]/\ns=ue nk st off n cap p q
theorem ZH (b:Blk) (off n cap:Nat) (hb:b.fx) (st p q:Int) :
  FunS prog G0 66 #[.agg #[.int .i64 st,.slice (some ⟨100,off,none⟩) n cap],.int .i64 p,.int .i64 q] (hpL G0 [(100,b)]) (ak [(100,b)]) (Te 1000 st off n cap p q):=by
 refine dJ (B:=200) G0F func66 rfl call66 (aH hb) ?_ ?_ (by simp [ntmps66]) zO ?_
 ·exact bG
 ·rintro v ns ⟨rfl,rfl⟩;refine ⟨by simp [aN,cp,aL,aR,cJ,ak,ue],by simp [ue,bI,fnB,jb,aF,aL,aR,cJ,ak],?_⟩;intro k b c h1 h2;simp [ue] at h1 h2;exact Er
 intro C hC bQ hY;refine fO ?_;refine ⟨.inr trivial,G4 G0F,_,_,λk=>if k=1000 then 200 else if k=1001 then 208 else if k=1002 then 216 else if k=1003 then 240 else k,⟨rfl,rfl⟩,λk hk=>?_,by simp [ue],by simp [ue],by simp [results66,ren,aT,aw,aA],?_⟩
 ·dsimp only;rw [ab zO,ab zO,ab zO,ab zO]
 ·simp [ue,bI,fnB,jb,Blk.rn,aw,aA]
def wyL (b:Blk) (st:Int) (off n cap:Nat) (p q:Int):List (Nat×Blk):=[(100,bI st 116 off n cap),(108,fnB 124 132),(116,b),(124,jb p),(132,jb q)]
theorem Q5 {b:Blk} (hb:b.fx) (st:Int) (off n cap:Nat) (p q:Int):LOk (wyL b st off n cap p q) 200:=⟨by simp [wyL],by simp [wyL,ak],by
 simp only [wyL,al,aB,aC,dC,bR];exact ⟨vK,by simp [fnB,aF,aL,aR,ak],Blk.fx_ids hb _,bF,bF⟩⟩
def adU (b:Blk) (st:Int) (off n cap:Nat) (p q:Int) (l i:Nat):GS :=
 ⟨tsL [(0,.func (.yield l) #[] #[]),(1,.pointer (some ⟨100,0,none⟩)),(2,.pointer (some ⟨108,0,none⟩)),(7,.slice (some ⟨116,off,none⟩) n cap),(8,.int .i64 n),(9,.int .i64 i)],hpL G0 (wyL b st off n cap p q),300,i⟩
theorem adO (b:Blk) (off n cap:Nat) (f:aS) (h:SB b off n f) (st p q:Int) (hp:i64 p) (hq:i64 q) :
  IterK prog G0 93 #[.pointer (some ⟨100,0,none⟩),.pointer (some ⟨108,0,none⟩)] (hpL G0 (wyL b st off n cap p q)) (ak (wyL b st off n cap p q)) (Pv f p q n):=by
 refine jO (B:=200) (v:=.tuple #[]) G0F func93 rfl call93 (Q5 h.fx st off n cap p q) ?_ (by simp [ntmps93]) zO ?_
 ·simp [aN,cp,aL,aR,wyL,ak]
 intro C l stop hC bQ hY;have Vx:=h.nn;have iZ:=λD=>Blk.fx_ids h.fx D;unfold wyL bI fnB;refine fO ?_;refine jQ (min stop n) (adU b st off n cap p q l) ?_ ?_ ?_
 ·refine dv _ 300 hC G0F (m0:=wyL b st off n cap p q) bQ zO ?_ ?_ ?_
  ·simp [aN,cp,aL,aR,dom,wyL]
  ·simp [wyL,bI,fnB,aF,aL,aR,jb,iZ,dom]
  ·simp [wyL,bI,fnB]
 ·intro i hi;have dR:i<n:=zO;have cv:(i:Int)<n:=zO;have hz:(0:Int)<=i:=zO;have hs:Int.bmod ((i:Int)+1) 18446744073709551616=((i+1:Nat):Int):=fE;have tc:i<stop:=zO;have RQ:(i != stop)=true:=aE;have hle:i<=stop:=zO;have uk:=h.body dR;have hx:=GN f p q n i dR;unfold adU wyL bI fnB
  repeat' first|refine cM ?_|((first|refine gwR [91] ?_|refine gwD [91] ?_);intro Q hQ _;(repeat first|simp [hC,hY,dR,cv,hz,hs,tc,RQ,hle,uk,hx,jb,dwA,dwV,dwE]|refine az (Rv _ _ _ p q (h.i dR 3 zO) (h.i dR 4 zO) (h.i dR 5 zO) hp hq) G0F (B:=200) ⟨zS,ah,bF⟩ (λk=>if k=100 then 124 else if k=108 then 132 else k) (λk hk=>(ab zO).trans (ab zO)) ay zS l8 ah ax ?_);refine cQ hQ ?_)|fail
  refine dv _ 300 hC G0F (m0:=wyL b st off n cap p q) bQ zO ?_ ?_ ?_
  ·simp [aN,cp,aL,aR,dom,wyL,hs]
  ·simp [wyL,bI,fnB,aF,aL,aR,jb,iZ,dom]
  ·simp [wyL,bI,fnB,jb]
 ·have hL:=Q5 h.fx st off n cap p q;have cA:∀ k,dom (hpL G0 (wyL b st off n cap p q)) k->k<200:=λk hk=>aO λh1=>hk (hL.free G0F zO k zO);by_cases h4:n<=stop
  ·rw [nN h4];have hlen:=zH f p q n;unfold adU;refine fO ?_;refine ⟨.inl trivial,by simp [results93],by first|(rw [hlen];omega)|omega,λk hk=>?_⟩;have hk:=cA k hk
   first|rfl|(simp (disch:=omega) only [aj])
  ·rw [nX zO];have dR:stop<n:=zO;have cv:(stop:Int)<n:=zO;have hz:(0:Int)<=stop:=zO;have uk:=h.body dR;have hx:=GN f p q n stop dR;have hlen:=zH f p q n;unfold adU wyL bI fnB
   repeat' first|refine cM ?_|((first|refine gwR [91] ?_|refine gwD [91] ?_);intro Q hQ _;(repeat first|simp [hC,hY,dR,cv,hz,uk,hx,jb,dwA,dwV,dwE]|refine az (Rv _ _ _ p q (h.i dR 3 zO) (h.i dR 4 zO) (h.i dR 5 zO) hp hq) G0F (B:=200) ⟨zS,ah,bF⟩ (λk=>if k=100 then 124 else if k=108 then 132 else k) (λk hk=>(ab zO).trans (ab zO)) ay zS l8 ah ax ?_);refine cQ hQ ?_)|fail
   refine ⟨.inr trivial,by simp [results93],wC,λk hk=>?_⟩;have hk:=cA k hk;simp (disch:=omega) only [aj]
   rfl
end Go.Gy
namespace Go.Gy
open Go Go.RowKit Go.Proofs
theorem oQ {p:Prop} (h:p:=by
 simp [aN,cp,aL,aR]):p:=h
theorem DB {p:Prop} (h:p:=by
 rcases h with ⟨_,rfl,rfl⟩|⟨c,g,h1,h2,h3,rfl,rfl⟩
 ·exact oQ
 ·refine ⟨dD,?_,?_⟩
  ·exact xB
  ·intro k b c h1 h2;simp at h1 h2;rw [h1.2,h2.2]):p:=h
def AB (f:aS) (p q:Int) (j:Nat):Int:=dwV f p q (j / 3) (j%3)
def aaG (nk n:Nat) (G:aS) (v:Value) (ns:bS):Prop:=(n=0/\v=.slice none 0 0/\ns=[])\/∃ (c:Nat) (g:aS),0<n/\n<=c/\(∀ j,j<3*n->g j=G j)/\v=.slice (some ⟨nk,0,none⟩) n c/\ns=[(nk,⟨fa (3*c) .i64 g,.ty 48⟩)]
theorem adG {D:gA} {nk n B:Nat} {G:aS} (hB:B<=nk) (v:Value) (ns:bS) (h:aaG nk n G v ns):aN (cJ D ns) v/\(∀ p∈ns,B<=p.1/\p.2.ids (cJ D ns))/\(∀ k b c,(k,b)∈ns->(k,c)∈ns->b=c):=by
 exact DB
theorem DU {p:Prop} (h:p:=by
 rcases h with ⟨h1,rfl,rfl⟩|⟨c,g,h1,h2,h3,rfl,rfl⟩<;>simp [ak]):p:=h
theorem AA {nk n:Nat} {G:aS} {v:Value} {ns:bS} (h:aaG nk n G v ns):∀ k∈ak ns,k=nk:=by
 exact DU
theorem qY {st:Int} {k off n cap:Nat} {ρ:cI}:(bI st k off n cap).rn ρ=bI st (ρ k) off n cap:=by simp [bI,Blk.rn,aw,aA]
theorem Xf {k l:Nat} {ρ:cI}:(fnB k l).rn ρ=fnB (ρ k) (ρ l):=by simp [fnB,Blk.rn,aw,aA]
end Go.Gy
namespace Go.Gy
open Go Go.RowKit Go.Proofs Go.Proofs.Tryz
theorem Cf {p:Prop} (h:p:=by simp [rnL,ue,qY,Xf,tY,g5,h0,h1,h2,h3]):p:=h
theorem adL {nk tz off n cap:Nat} {st p q:Int} {ρ:cI} (g5:ρ 100=100) (h0:ρ nk=tz) (h1:ρ (nk+1)=tz+1) (h2:ρ (nk+2)=tz+2) (h3:ρ (nk+3)=tz+3):RR ρ (Te nk st off n cap p q)=Te tz st off n cap p q:=by
 funext v ns;apply propext;constructor
 ·rintro ⟨v0,uo,⟨rfl,rfl⟩,rfl,rfl⟩;exact ⟨by simp [ren,aT,aw,aA,h0,h3],Cf⟩
 ·rintro ⟨rfl,rfl⟩;exact ⟨_,_,⟨rfl,rfl⟩,by simp [ren,aT,aw,aA,h0,h3],Cf⟩
def up4 (nk k:Nat):Nat:=if 1000<=k then (if k<1004 then k - 1000+nk else k) else k
theorem adN (nk:Nat) (mZ:200<=nk) (b:Blk) (off n cap:Nat) (hb:b.fx) (st p q:Int) :
  FunS prog G0 66 #[.agg #[.int .i64 st,.slice (some ⟨100,off,none⟩) n cap],.int .i64 p,.int .i64 q] (hpL G0 [(100,b)]) [100] (Te nk st off n cap p q):=by
 have e4:∀ j,j<4->up4 nk (1000+j)=nk+j:=λj hj=>by unfold up4;rw [ai zO,ai zO];omega
 have KX:up4 nk 100=100:=by simp [up4]
 have hr:=λρ=>Blk.fx_rn hb ρ
 have Vt:∀ v ns,Te 1000 st off n cap p q v ns->∀ k∈ak ns,∃ j,j<4/\k=1000+j:=by
  rintro v ns ⟨rfl,rfl⟩ k hk;simp [ak,ue] at hk;rcases hk with rfl|rfl|rfl|rfl
  ·exact ⟨0,zO,rfl⟩
  ·exact ⟨1,zO,rfl⟩
  ·exact ⟨2,zO,rfl⟩
  ·exact ⟨3,zO,rfl⟩
 refine (ZH b off n cap hb st p q).mvL G0F (aH hb) (up4 nk) (λk hk=>by unfold up4;rw [ab zO]) (by simp [ren,aT,aw,aA,KX]) (by simp [ak,KX]) (adL KX (e4 0 zO) (e4 1 zO) (e4 2 zO) (e4 3 zO)) (aH hb).low (by simp [KX,hr]) ah (λv ns hV k hk=>?_) (λv ns hV k hk l hl e=>?_)
 ·obtain ⟨j,hj,rfl⟩:=Vt v ns hV k hk;rw [e4 j hj];simp;omega
 ·obtain ⟨j,hj,rfl⟩:=Vt v ns hV k hk;obtain ⟨i,hi,rfl⟩:=Vt v ns hV l hl;rw [e4 j hj,e4 i hi] at e;omega
theorem ZF {nk off n cap:Nat} {st p q:Int} {v:Value} {ns:bS} (h:Te nk st off n cap p q v ns):∀ k∈ak ns,nk<=k/\k<nk+4:=by
 obtain ⟨rfl,rfl⟩:=h;intro k hk;simp [ak,ue] at hk;omega
def dnk (nk nv k:Nat):Nat:=if k=100 then nk else if k=108 then nk+3 else if k=116 then 100 else if k=124 then nk+1 else if k=132 then nk+2 else if k=1000 then nv else k
theorem abh {nk nv:Nat} (k:Nat) (hk:k<100):dnk nk nv k=k:=by
 unfold dnk;rw [ab zO,ab zO,ab zO,ab zO,ab zO,ab zO]
def Mj (nk n:Nat) (G:aS) (ok:Bool) (v:Value) (ns:bS):Prop:=∃ v0,aaG nk (if ok=true then n else 0) G v0 ns/\v=.tuple #[v0,.int .i64 (if ok=true then 0 else 2)]
theorem Vb {D:gA} {nk n B:Nat} {G:aS} {ok:Bool} (hB:B<=nk) (v:Value) (ns:bS) (h:Mj nk n G ok v ns):aN (cJ D ns) v/\(∀ p∈ns,B<=p.1/\p.2.ids (cJ D ns))/\(∀ k b c,(k,b)∈ns->(k,c)∈ns->b=c):=by
 obtain ⟨v0,hV,rfl⟩:=h;obtain ⟨f1,f2,f3⟩:=adG (D:=D) hB v0 ns hV;refine ⟨?_,f2,f3⟩;rcases hV with ⟨h1,rfl,rfl⟩|⟨c,g,h1,h2,h3,rfl,rfl⟩
 ·exact oQ
 ·exact dD
end Go.Gy
namespace Go.Gy
open Go Go.RowKit Go.Proofs
def okB (f:aS) (p q:Int) (i:Nat):Bool:=inV 1048576 (f (6*i)+dwV f p q i 0) (f (6*i+1)+dwV f p q i 1) (f (6*i+2)+dwV f p q i 2)
def WU (f:aS) (p q:Int) (n:Nat):Bool:=(List.range n).all (okB f p q)
def drE (st:Int) (f:aS) (n:Nat) (p q:Int):Int:=if (aV st f n&&iL p q)=true then (if WU f p q n=true then 0 else 20) else 2
def mvF (f:aS) (p q:Int) (j:Nat):Int:=if j%6<3 then f j+dwV f p q (j / 6) (j%6) else f j
def drF (st:Int) (f:aS) (n:Nat) (p q:Int):Nat->Int:=if drE st f n p q=0 then mvF f p q else f
theorem zG {f:aS} {p q:Int} {n:Nat}:WU f p q n=true↔∀ i,i<n->okB f p q i=true:=by simp [WU]
theorem afW {f:aS} {p q:Int} {n i:Nat} (hi:i<n) (h:okB f p q i=false):WU f p q n=false:=by
 cases hb:WU f p q n with
 | false=>rfl
 | true=>rw [zG.1 hb i hi] at h;cases h
theorem tt {m x y z:Int}:inV m x y z=true↔inW m x/\inW m y/\inW m z:=by unfold inV;exact decide_eq_true_iff
theorem ln {st:Int} {f:aS} {n:Nat} (h:aV st f n=true):(-1073741824<=st/\st<=1073741824)/\(1<=n/\n<=4)/\∀ i,i<n->inB 1048576 65536 f i=true:=by
 unfold aV stB at h;simp only [bO,fe] at h;exact ⟨h.1.1,h.1.2,sI.1 h.2⟩
theorem ja {st:Int} {f:aS} {n:Nat} (h:aV st f n=true) {i:Nat} (hi:i<n):(inW 1048576 (f (6*i))/\inW 1048576 (f (6*i+1))/\inW 1048576 (f (6*i+2)))/\(inW 65536 (f (6*i+3))/\inW 65536 (f (6*i+4))/\inW 65536 (f (6*i+5))):=by
 have:=(ln h).2.2 i hi;unfold inB at this;rw [bO,tt,tt] at this;exact this
theorem Pp {v p q:Int} (hp:iL p q=true) (hv:inW 65536 v):d1E v p q=0:=by
 unfold inW at hv;unfold d1E;rw [ai ⟨hp,zO,zO⟩]
theorem afQ {v p q:Int} (hp:iL p q=true) (hv:inW 65536 v):d1V v p q=eo (v*p) q:=by
 unfold inW at hv;unfold d1V;rw [ai ⟨hp,zO,zO⟩]
theorem UP {st:Int} {f:aS} {n:Nat} {p q:Int} (h:aV st f n=true) (hp:iL p q=true) {i:Nat} (hi:i<n):dwE f p q i=0:=by
 obtain ⟨_,h3,h4,h5⟩:=ja h hi;unfold dwE;rw [ZR (Pp hp h3) (Pp hp h4),Pp hp h5]
theorem Ko {st:Int} {f:aS} {n:Nat} {p q:Int} (h:aV st f n=true) (hp:iL p q=true) {i:Nat} (hi:i<n) {u:Nat} (hu:u<3):dwV f p q i u=eo (f (6*i+3+u)*p) q:=by
 obtain ⟨_,h3,h4,h5⟩:=ja h hi
 have hv:inW 65536 (f (6*i+3+u)):=by
  obtain rfl|rfl|rfl:u=0\/u=1\/u=2:=zO
  ·exact h3
  ·exact h4
  ·exact h5
 unfold dwV;rw [UP h hp hi,eaV,ai rfl,afQ hp hv]
theorem WW (op:Int->Int->Int) (a0 a1 a2 b0 b1 b2:Int):eaE op a0 a1 a2 b0 b1 b2=0\/eaE op a0 a1 a2 b0 b1 b2=20:=by unfold eaE;split<;>simp
theorem acL {x0 x1 x2 w0 w1 w2:Int} (h0:inW 1048576 x0) (h1:inW 1048576 x1) (h2:inW 1048576 x2) (he:eaE iY x0 x1 x2 w0 w1 w2=20):inV 1048576 (x0+w0) (x1+w1) (x2+w2)=false:=by
 cases hb:inV 1048576 (x0+w0) (x1+w1) (x2+w2) with
 | false=>rfl
 | true =>
  rw [tt] at hb;unfold eaE at he;rw [ai] at he
  ·exact absurd he zD
  ·unfold inW at *
   unfold fnI iY;omega
def mvG (g f:aS) (p q:Int) (i j:Nat):Int:=if j<6*i/\j%6<3 then f j+dwV f p q (j / 6) (j%6) else g j
theorem amQ (g f:aS) (p q:Int):mvG g f p q 0=g:=by
 funext j;unfold mvG;rw [ab zO]
theorem Qe {g f:aS} {p q:Int} {i j:Nat} (h:6*i<=j):mvG g f p q i j=g j:=by
 unfold mvG;rw [ab zO]
theorem acz {g f:aS} {p q:Int} {n j:Nat} (h:j<6*n) (hg:∀ j,j<6*n->g j=f j):mvG g f p q n j=mvF f p q j:=by
 unfold mvG mvF;by_cases c:j%6<3
 ·rw [ai ⟨h,c⟩,ai c]
 ·rw [ab zO,ab c];exact hg j h
theorem acA {g f:aS} {p q:Int} {i:Nat} {a b c:Int} (ha:a=f (6*i)+dwV f p q i 0) (hb:b=f (6*i+1)+dwV f p q i 1) (hc:c=f (6*i+2)+dwV f p q i 2):Bl (mvG g f p q i) (6*i) a b c=mvG g f p q (i+1):=by
 funext j;unfold Bl;by_cases c0:j=6*i
 ·rw [ai c0,ha];unfold mvG;rw [ai zO,c0,(zO:6*i / 6=i),(zO:6*i%6=0)]
 ·rw [ab c0];by_cases c1:j=6*i+1
  ·rw [ai c1,hb];unfold mvG;rw [ai zO,c1,(zO:(6*i+1) / 6=i),(zO:(6*i+1)%6=1)]
  ·rw [ab c1];by_cases c2:j=6*i+2
   ·rw [ai c2,hc];unfold mvG;rw [ai zO,c2,(zO:(6*i+2) / 6=i),(zO:(6*i+2)%6=2)]
   ·rw [ab c2];unfold mvG;by_cases c3:j<6*i/\j%6<3
    ·rw [ai c3,ai zO]
    ·rw [ab c3,ab zO]
def AL (nk:Nat) (st:Int) (n:Nat) (F:aS) (E:Int) (v:Value) (ns:bS):Prop:=∃ v0,Hl nk st n F v0 ns/\v=.tuple #[v0,.int .i64 E]
theorem Ps {b:Blk} {st:Int} {n:Nat} {F:aS} {E:Int} (v:Value) (ns:bS) (h:AL 1000 st n F E v ns):aN (cJ (λk=>k∈ak [(100,b)]) ns) v/\(∀ p∈ns,200<=p.1/\p.2.ids (cJ (λk=>k∈ak [(100,b)]) ns))/\(∀ k b c,(k,b)∈ns->(k,c)∈ns->b=c):=by
 obtain ⟨v0,hV,rfl⟩:=h;obtain ⟨f1,f2,f3⟩:=NQ (b:=b) v0 ns hV;refine ⟨?_,f2,f3⟩;obtain ⟨c,M,g,h1,h2,h3,rfl,rfl⟩:=hV;simp [aN,cp,aL,aR,cJ,ak]
end Go.Gy
namespace Go.Gy
open Go Go.RowKit Go.Proofs Go.Proofs.Tryz
theorem ou {p:Prop} (h:p:=by simp [okX,dk,eY,upd]):p:=h
theorem vG {p:Prop} (h:p:=by simp [gev,dk,upd]):p:=h
theorem E2 {p:Prop} (h:p:=by
 refine ⟨rfl,abm b st off n cap c2 M2 g2 2,0,dv _ 600 hC G0F (m0:=[(100,b)]) bQ zO ?_ ?_ ?_,⟨c2,M2,g2,2,hE,zO,rfl⟩⟩
 ·exact oh
 ·simp [bI,erB,aF,aL,aR,iZ,dom,Blk.fx_ids (dI _ _ _)]
 ·simp):p:=h
theorem DW {p:Prop} (h:p:=by
 refine ⟨by simp [eV],oh,zS,rfl,abm b st off n cap c2 M2 (mvG g2 f p q N) 20,0,dv _ 600 so G0F (m0:=[(100,b)]) bQ zO ?_ ?_ ?_,⟨c2,M2,mvG g2 f p q N,20,hE,zO,rfl⟩⟩
 ·simp [aN,cp,aL,aR,dom,eW]
 ·simp [bI,erB,aF,aL,aR,iZ,dom,eW,Blk.fx_ids (dI _ _ _)]
 ·simp [eW]):p:=h
def erB (E:Int):Blk:=⟨#[.int .i64 E],.ty 35⟩
def abm (b:Blk) (st:Int) (off n cap c M:Nat) (g:aS) (E:Int):GS :=
 ⟨tsL [(3,.pointer (some ⟨200,0,none⟩)),(6,.pointer (some ⟨208,0,none⟩)),(7,.pointer (some ⟨216,0,none⟩))],
 hpL G0 [(100,b),(200,bI st 100 off n cap),(208,bI st 248 0 n c),(216,erB E),(248,⟨fa M .i64 g,.ty 50⟩)],600,0⟩
def drM (st:Int) (n c M:Nat) (g f:aS) (p q:Int) (i:Nat):List (Nat×Blk):=[(208,bI st 248 0 n c),(216,erB 0),(224,jb i),(248,⟨fa M .i64 (mvG g f p q i),.ty 50⟩)]
theorem adk {M n:Nat} {g f:aS} {p q:Int} (hM:6*n<=M) {i:Nat} (hi:i<n) :
  (((fa M IntKind.i64 (mvG g f p q i)).setIfInBounds (i*6) (Value.int IntKind.i64 (iY (f (6*i)) (dwV f p q i 0)))).setIfInBounds (i*6+1) (Value.int IntKind.i64 (iY (f (6*i+1)) (dwV f p q i 1)))).setIfInBounds (i*6+1+1) (Value.int IntKind.i64 (iY (f (6*i+2)) (dwV f p q i 2)))=fa M IntKind.i64 (mvG g f p q (i+1)):=by
 have:=Zo M .i64 (mvG g f p q i) (6*i) (iY (f (6*i)) (dwV f p q i 0)) (iY (f (6*i+1)) (dwV f p q i 1)) (iY (f (6*i+2)) (dwV f p q i 2)) zO;rw [acA (a:=iY (f (6*i)) (dwV f p q i 0)) (b:=iY (f (6*i+1)) (dwV f p q i 1)) (c:=iY (f (6*i+2)) (dwV f p q i 2)) rfl rfl rfl] at this;rw [(zO:i*6=6*i)];simpa [gh] using this
theorem akZ {x0 x1 x2 w0 w1 w2:Int} (he:eaE iY x0 x1 x2 w0 w1 w2=0):i64 (iY x0 w0)/\i64 (iY x1 w1)/\i64 (iY x2 w2):=by
 unfold eaE at he;split at he
 ·rename_i h;obtain ⟨_,h0,h1,h2⟩:=h;unfold fnI at h0 h1 h2;exact ⟨⟨zO,zO⟩,⟨zO,zO⟩,⟨zO,zO⟩⟩
 ·cases he
theorem WX (z:Int):eaV 0 z=z:=by simp [eaV]
theorem SD {M n:Nat} {g f:aS} {p q:Int} (hM:6*n<=M) (hg:∀ j,j<6*n->g j=f j) {i:Nat} (hi:i<n):ft prog 48 ⟨fa M .i64 (mvG g f p q i),.ty 50⟩ (i*6)=some (.agg #[.int .i64 (f (6*i)),.int .i64 (f (6*i+1)),.int .i64 (f (6*i+2))]):=by
 have:=sY (P:=prog) (T:=48) (m:=3) (j:=6*i) (cO isAgg48) (aZ sizeOf48) zO (zi M (mvG g f p q i) (.ty 50)) zO;rw [(zO:i*6=0+6*i),this,MG,Qe zO,Qe zO,Qe zO,hg _ zO,hg _ zO,hg _ zO]
 rfl
theorem TA (b:Blk) (off n cap:Nat) (f:aS) (h:SB b off n f) (dS:n<=cap) (st p q:Int) (hs:i64 st) (hp:i64 p) (hq:i64 q) :
  FunS prog G0 47 #[.agg #[.int .i64 st,.slice (some ⟨100,off,none⟩) n cap],.int .i64 p,.int .i64 q] (hpL G0 [(100,b)]) (ak [(100,b)]) (AL 1000 st n (drF st f n p q) (drE st f n p q)):=by
 refine dJ (B:=200) G0F func47 rfl call47 (aH h.fx) ?_ Ps (by simp [ntmps47]) zO ?_
 ·exact bG
 intro C hC bQ hY;have hr:=λρ=>Blk.fx_rn h.fx ρ;have iZ:=λD=>Blk.fx_ids h.fx D;have Vx:=h.nn;refine fO ?_;refine nh 0 (λm s=>∃ (c M:Nat) (g:aS) (E:Int),drE st f n p q=E/\E≠0/\s=abm b st off n cap c M g E) rfl ?_ ?_
 ·rintro m _ ⟨c,M,g,E,hE,Jf,rfl⟩;have hF:drF st f n p q=f:=by unfold drF;rw [ab zO]
  rw [hF,hE];have cm:∀ (ts:eM) (hp:Hp) (v0:Value) (ns:bS),True:=λ_ _ _ _=>trivial;unfold abm bI erB;refine te ?_;refine yO follows ?_;simp only [Array.toList,fA,gP,Nat.reduceAdd]
  repeat' (first
   | refine eA [0,2] bd rfl (mA ?_ ?_)
   | refine eA [1,2] bd rfl (mA ?_ ?_)
   | refine eA [2,3] bd rfl (mA ?_ ?_)
   | refine eA [0] bd rfl (iv ?_)
   | refine eA [1] bd rfl (iv ?_)
   | refine eA [2] bd rfl (iv ?_)
   | refine eA [3] bd rfl (iv ?_)
   | refine eA [4] bd rfl (iv ?_)
   | refine Hc bd ?_
   | (
    refine gwo ?_;intro Q hQ;simp [hC,hY,dk,bW,bI,erB];apply hQ
    )
   | (
    refine lf (f:=.func 21) (cap:=#[]) hC (Ly 608 zO b off n cap f h dS st) rfl rfl rfl zS rfl rfl aJ aq zS ou vG (by simp [bW]) bn ?_ ?_
    ·rintro v ns ⟨c3,M3,g3,k1,k2,k3,rfl,rfl⟩;simp [ak]
    rintro v ns ⟨c3,M3,g3,k1,k2,k3,rfl,rfl⟩)
   )
  all_goals (
   refine fO ?_
   )
  all_goals (refine ⟨.inr trivial,G4 G0F,_,_,λk=>if k=1000 then 608 else k,⟨_,⟨c3,M3,g3,k1,k2,k3,rfl,rfl⟩,rfl⟩,λk hk=>ab zO,zS,zS,?_,?_⟩)
  all_goals first|(simp [results47,ren,aT,aw,aA];done)|simp [ic]
 ·intro pass;clear pass;refine fO ?_;refine gj ?_;refine n7 trivial ?_;refine bN (f:=.func 21) (cap:=#[]) hC (Ly 248 zO b off n cap f h dS st) rfl zS rfl rfl aJ aq zS aM aq zS bn ?_ ?_
  ·rintro v ns ⟨c2,M2,g2,h1,h2,h3,rfl,rfl⟩;simp [ak]
  rintro v ns ⟨c2,M2,g2,h1,h2,h3,rfl,rfl⟩;refine n7 trivial ?_;refine bH ?_;refine fO ?_
  cases c0:aV st f n with
  | false =>
   have hE:drE st f n p q=2:=by unfold drE;rw [c0];rfl
   repeat' first|refine cM ?_|((first|refine gwR [44] ?_|refine gwD [44] ?_);intro Q hQ _;(repeat first|simp [hC,hY,hp,c0]|refine az (iN b off n cap f h st hs) G0F (B:=200) (aH h.fx) (λk=>k) (λk hk=>rfl) ay zS cj ah ax ?_);refine cQ hQ ?_)|fail
   exact E2
  | true =>
   cases c1:iL p q with
   | false =>
    have hE:drE st f n p q=2:=by unfold drE;rw [c0,c1];rfl
    repeat' first|refine cM ?_|((first|refine gwR [44] ?_|refine gwD [44] ?_);intro Q hQ _;(repeat first|simp [hC,hY,hp,c0,c1]|refine az (iN b off n cap f h st hs) G0F (B:=200) (aH h.fx) (λk=>k) (λk hk=>rfl) ay zS cj ah ax ?_);refine cQ hQ ?_)|fail
    exact E2
   | true =>
    repeat' first|refine cM ?_|((first|refine gwR [44] ?_|refine gwD [44] ?_);intro Q hQ _;(repeat first|simp [hC,hY,hp,c0,c1]|refine az (iN b off n cap f h st hs) G0F (B:=200) (aH h.fx) (λk=>k) (λk hk=>rfl) ay zS cj ah ax ?_);refine cQ hQ ?_)|fail
    refine gj ?_;refine GU trivial ?_;refine bN (f:=.func 66) (cap:=#[]) hC (adN 360 zO b off n cap h.fx st p q) rfl zS rfl rfl aJ aq zS aM aq zS bn (λv ns hV k hk=>by have:=ZF hV k hk;omega) ?_;rintro v ns ⟨rfl,rfl⟩;refine bH ?_
    repeat' first|refine cM ?_|(refine g6 ?_;intro Q hQ _;simp [hC,hY,dk,bW,ue];refine cQ hQ ?_)|fail
    simp only [dk,bW,ue,Nat.reduceAdd];obtain ⟨N,hN,cA,cm⟩:=H4 (okB f p q) n;refine td (G:=G0) (f:=93) (rs:=[360,363,100,361,362]) (xs:=Pv f p q n) (bh:=#[.pointer (some ⟨360,0,none⟩),.pointer (some ⟨363,0,none⟩)]) (m0:=[(100,b)]) [100,200,360,361,362,363] G0F hC bQ hY zS ?_ ?_ (by simp [ntmps47]) [(6,.pointer (some ⟨208,0,none⟩)),(7,.pointer (some ⟨216,0,none⟩)),(8,.pointer (some ⟨224,0,none⟩))] [(3,.pointer (some ⟨200,0,none⟩))] (drM st n c2 M2 g2 f p q) 400 N (by rw [zH];exact hN) zO zS fY ?_ zS iT ?_ ?_ zS ?_ ?_
    ·refine pK (adO b off n cap f h st p q hp hq) G0F (Q5 h.fx st off n cap p q) (dnk 360 0) abh (by simp [aA,dnk]) (by simp [wyL,ak,dnk]) bn ?_ ?_
     ·simp [wyL,dnk,qY,Xf,tY,hr]
     ·simp [wyL,ak,dnk]
    ·intro x hx;simp [Pv] at hx;obtain ⟨i,_,rfl⟩:=hx;simp [dwA]
    ·intro k hk bb hb;simp only [al,aB,aC] at hk;rcases hk with rfl|rfl|rfl|rfl|rfl|rfl
     ·simp at hb;subst hb;exact iZ _
     all_goals (simp at hb;subst hb;simp [aF,aL,aR,bI,fnB,jb])
    ·simp [drM,amQ,erB,jb,bI]
    ·intro i hi;simp [drM,aN,cp,aL,aR,dom,aF,erB,jb,bI,Blk.fx_ids (dI _ _ _)]
    ·intro i x hi hx C1 l sR vl qS;have dR:i<n:=zO;rw [GN _ _ _ _ _ dR] at hx;simp only [bg] at hx;subst hx;clear hC hY;have hC:=sR;have hY:=qS;unfold drM bI erB dwA;refine dy @bC.eq_1 ?_;intro C2 oY Gx oZ;clear hC hY;have hC:=oY;have hY:=oZ;have cv:(i:Int)<n:=zO;have hz:(0:Int)<=i:=zO;have hs:Int.bmod ((i:Int)+1) 18446744073709551616=((i+1:Nat):Int):=fE;have hl:=SD (p:=p) (q:=q) h2 h3 dR;have XJ:=(ja c0 dR).1;have fJ:=cA i hi
     have he:eaE iY (f (6*i)) (f (6*i+1)) (f (6*i+2)) (dwV f p q i 0) (dwV f p q i 1) (dwV f p q i 2)=0:=by
      rcases WW iY (f (6*i)) (f (6*i+1)) (f (6*i+2)) (dwV f p q i 0) (dwV f p q i 1) (dwV f p q i 2) with e|e
      ·exact e
      ·have:=acL XJ.1 XJ.2.1 XJ.2.2 e;unfold okB at fJ;rw [this] at fJ;cases fJ
     have abS:inV 1048576 (iY (f (6*i)) (dwV f p q i 0)) (iY (f (6*i+1)) (dwV f p q i 1)) (iY (f (6*i+2)) (dwV f p q i 2))=true:=fJ;have hw:=tt.1 abS;have w0:i64 (iY (f (6*i)) (dwV f p q i 0)):=by have:=hw.1;unfold inW at this;exact ⟨zO,zO⟩
     have w1:i64 (iY (f (6*i+1)) (dwV f p q i 1)):=by have:=hw.2.1;unfold inW at this;exact ⟨zO,zO⟩
     have w2:i64 (iY (f (6*i+2)) (dwV f p q i 2)):=by have:=hw.2.2;unfold inW at this;exact ⟨zO,zO⟩
     have hM:i*6+3<=M2:=zO;refine dy (k14 @bC.eq_1 @jb.eq_1 cv hz hs hl he @WX abS w0 w1 w2 hM @GV) ?_;have agV:=adk (g:=g2) (f:=f) (p:=p) (q:=q) h2 dR;simp [agV,jb]
    ·by_cases pY:N=n
     ·subst pY
      left
      have hE:drE st f N p q=0:=by
       unfold drE;simp [c0,c1,zG.2 cA]
      have hF:drF st f N p q=mvF f p q:=by unfold drF;rw [ai hE]
      refine ⟨(zH _ _ _ _).symm,?_⟩;unfold drM bI erB
      repeat' first|refine cM ?_|(refine g6 ?_;intro Q hQ _;simp [hC,hY,eW,bq,bw];refine cQ hQ ?_)|fail
      rw [hE,hF];refine ⟨.inr trivial,dH G0F oH bn,_,_,λk=>if k=1000 then 248 else k,⟨_,⟨c2,M2,mvG g2 f p q N,h1,h2,λj hj=>acz hj h3,rfl,rfl⟩,rfl⟩,λk hk=>ab zO,zS,zS,?_,?_⟩
      ·simp [results47,ren,aT,aw,aA,eW]
      ·simp [ic,eW]
     ·right
      have dR:N<n:=zO;have fJ:=cm.resolve_left pY
      have hE:drE st f n p q=20:=by
       unfold drE;simp [c0,c1,afW dR fJ]
      refine ⟨_,GN _ _ _ _ _ dR,?_⟩;intro C1 l sR vl qS;have so:=hC;clear hC hY;have hC:=sR;have hY:=qS;unfold drM bI erB dwA;refine dy @bC.eq_1 ?_;intro C2 oY Gx oZ;clear hC hY;have hC:=oY;have hY:=oZ;have cv:(N:Int)<n:=zO;have hz:(0:Int)<=N:=zO;have hl:=SD (p:=p) (q:=q) h2 h3 dR;have XJ:=(ja c0 dR).1;have hM:N*6+3<=M2:=zO;rcases WW iY (f (6*N)) (f (6*N+1)) (f (6*N+2)) (dwV f p q N 0) (dwV f p q N 1) (dwV f p q N 2) with he|he
      ·have Gw:=he;have abS:inV 1048576 (iY (f (6*N)) (dwV f p q N 0)) (iY (f (6*N+1)) (dwV f p q N 1)) (iY (f (6*N+2)) (dwV f p q N 2))=false:=fJ;have hw:=akZ he;have w0:=hw.1;have w1:=hw.2.1;have w2:=hw.2.2;refine dy (k13 @bC.eq_1 @jb.eq_1 cv hz hl he @WX abS w0 w1 w2 hM @GV) ?_;exact DW
      ·
       refine dy (k9 @bC.eq_1 @jb.eq_1 cv hz hl he @WX hM @GV) ?_;exact DW
theorem lO {p:Prop} (h:p:=by simp [rnL,ic,h]):p:=h
theorem eN {p:Prop} (h:p:=by simp [ren,aT,aw,aA,h]):p:=h
theorem FY {p:Prop} (h:p:=by
 funext v ns;apply propext;constructor
 ·rintro ⟨v0,uo,⟨w,⟨c,M,g,h1,h2,h3,rfl,rfl⟩,rfl⟩,rfl,rfl⟩;exact ⟨_,⟨c,M,g,h1,h2,h3,rfl,lO⟩,eN⟩
 ·rintro ⟨w,⟨c,M,g,h1,h2,h3,rfl,rfl⟩,rfl⟩;exact ⟨_,_,⟨_,⟨c,M,g,h1,h2,h3,rfl,rfl⟩,rfl⟩,eN,lO⟩):p:=h
theorem Tz {nk tz n:Nat} {st E:Int} {F:aS} {ρ:cI} (h:ρ nk=tz):RR ρ (AL nk st n F E)=AL tz st n F E:=by
 exact FY
theorem Pt {nk n:Nat} {st E:Int} {F:aS} {v:Value} {ns:bS} (h:AL nk st n F E v ns):∀ k∈ak ns,k=nk:=by
 obtain ⟨w,⟨c,M,g,h1,h2,h3,rfl,rfl⟩,rfl⟩:=h;simp [ak]
def nn2 (nb nk k:Nat):Nat:=if k=100 then nb else if k=1000 then nk else k
theorem Lq {nb nk:Nat} (k:Nat) (hk:k<100):nn2 nb nk k=k:=by
 unfold nn2;exact fG
theorem Nz {nb nk:Nat}:nn2 nb nk 100=nb:=by simp [nn2]
theorem Ag {nb nk:Nat}:nn2 nb nk 1000=nk:=by simp [nn2]
theorem KP {nb:Nat} {b:Blk} (h:100<=nb) (k:Nat) (hk:k<100):hpL G0 [(nb,b)] k=G0 k:=by
 simp only [aW,dm];rw [ab zO]
theorem ZG {nk tz n:Nat} {G:aS} {ok:Bool} {ρ:cI} (h:ρ nk=tz):RR ρ (Mj nk n G ok)=Mj tz n G ok:=by
 funext v ns;apply propext;constructor
 ·rintro ⟨v0,uo,⟨w,hV,rfl⟩,rfl,rfl⟩;rcases hV with ⟨h1,rfl,rfl⟩|⟨c,g,h1,h2,h3,rfl,rfl⟩
  ·exact ⟨_,.inl ⟨h1,rfl,by simp [rnL]⟩,by simp [ren,aT,aw,aA]⟩
  ·exact ⟨_,.inr ⟨c,g,h1,h2,h3,rfl,by simp [rnL,ic,h]⟩,by simp [ren,aT,aw,aA,h]⟩
 ·rintro ⟨w,hV,rfl⟩;rcases hV with ⟨h1,rfl,rfl⟩|⟨c,g,h1,h2,h3,rfl,rfl⟩
  ·exact ⟨_,_,⟨_,.inl ⟨h1,rfl,rfl⟩,rfl⟩,by simp [ren,aT,aw,aA],by simp [rnL]⟩
  ·exact ⟨_,_,⟨_,.inr ⟨c,g,h1,h2,h3,rfl,rfl⟩,rfl⟩,by simp [ren,aT,aw,aA,h],by simp [rnL,ic,h]⟩
theorem rb {p:Prop} (h:p:=by simp [ren,aT,aw,aA,h0,h1]):p:=h
theorem we {p:Prop} (h:p:=by simp [cfB,aF,aL,aR,ak]):p:=h
theorem Gf {p:Prop} (h:p:=by
 intro k b c h1 h2;simp at h1 h2;rcases h1 with ⟨e1,rfl⟩|⟨e1,rfl⟩<;>rcases h2 with ⟨e2,rfl⟩|⟨e2,rfl⟩<;>first|rfl|omega):p:=h
theorem xp {p:Prop} (h:p:=by
 obtain ⟨rfl,rfl⟩:=h;intro k hk;simp [ak] at hk;omega):p:=h
@[simp] theorem axC:tM prog 125=true:=ae
def wiB (n lo hi:Int):Bool:=decide (lo<=n/\n<=hi)
theorem abc (n lo hi:Int):Ret prog G0 116 #[.int .i64 n,.int .i64 lo,.int .i64 hi] (.bool (wiB n lo hi)):=by
 refine ck G0F func116 rfl call116 rfl zS (by simp [ntmps116]) ?_;intro C hC bQ hY;unfold wiB;by_cases c0:lo<=n
 ·by_cases c1:n<=hi
  ·rw [bZ ⟨c0,c1⟩]
   (repeat' (first|refine cM ?_|(refine g6 ?_;intro Q hQ _;simp [hC,hY,c0,c1];refine cQ hQ ?_)|refine gwC ?_ ?_<;>intro hb))
   exact eR results116
  ·rw [aX zO]
   (repeat' (first|refine cM ?_|(refine g6 ?_;intro Q hQ _;simp [hC,hY,c0,c1];refine cQ hQ ?_)|refine gwC ?_ ?_<;>intro hb))
   exact eR results116
 ·rw [aX zO]
  (repeat' (first|refine cM ?_|(refine g6 ?_;intro Q hQ _;simp [hC,hY,c0];refine cQ hQ ?_)|refine gwC ?_ ?_<;>intro hb))
  exact eR results116
@[simp] theorem cwi (n lo hi:Int) (K:iQ):cu prog G0 116 #[.int .i64 n,.int .i64 lo,.int .i64 hi] K↔K (.bool (wiB n lo hi)):=aP G0W ae (abc n lo hi)
def SZ (nk:Nat) (a m:Int) (v:Value) (ns:bS):Prop:=v=.func (.func 115) #[] #[.pointer (some ⟨nk,0,none⟩),.pointer (some ⟨nk+1,0,none⟩)]/\ns=[(nk,jb a),(nk+1,jb m)]
theorem acG (a m:Int):FunS prog G0 114 #[.int .i64 a,.int .i64 m] (hpL G0 []) (ak []) (SZ 1000 a m):=by
 refine dJ (B:=200) G0F func114 rfl call114 ⟨zS,ah,zS⟩ ?_ ?_ (by simp [ntmps114]) zO ?_
 ·exact bG
 ·rintro v ns ⟨rfl,rfl⟩;refine ⟨dD,bF,?_⟩;exact Gf
 intro C hC bQ hY;refine fO ?_;refine ⟨.inr trivial,G4 G0F,_,_,λk=>if k=1000 then 200 else if k=1001 then 208 else k,⟨rfl,rfl⟩,λk hk=>?_,zS,zS,by simp [results114,ren,aT,aw,aA],?_⟩
 ·dsimp only;exact fG
 ·simp [tY];simp [jb]
theorem acF {nk tz:Nat} {a m:Int} {ρ:cI} (h0:ρ nk=tz) (h1:ρ (nk+1)=tz+1):RR ρ (SZ nk a m)=SZ tz a m:=by
 funext v ns;apply propext;constructor
 ·rintro ⟨v0,uo,⟨rfl,rfl⟩,rfl,rfl⟩;exact ⟨rb,by simp [rnL,tY,h0,h1]⟩
 ·rintro ⟨rfl,rfl⟩;exact ⟨_,_,⟨rfl,rfl⟩,rb,by simp [rnL,tY,h0,h1]⟩
def up2 (nk k:Nat):Nat:=if 1000<=k then (if k<1002 then k - 1000+nk else k) else k
theorem Ii (nk:Nat) (mZ:200<=nk) (a m:Int):FunS prog G0 114 #[.int .i64 a,.int .i64 m] (hpL G0 []) [] (SZ nk a m):=by
 have e2:∀ j,j<2->up2 nk (1000+j)=nk+j:=λj hj=>by unfold up2;rw [ai zO,ai zO];omega
 have mN:∀ v ns,SZ 1000 a m v ns->∀ k∈ak ns,∃ j,j<2/\k=1000+j:=by
  rintro v ns ⟨rfl,rfl⟩ k hk;simp [ak] at hk;rcases hk with rfl|rfl
  ·exact ⟨0,zO,rfl⟩
  ·exact ⟨1,zO,rfl⟩
 have h0:=(acG a m).rn (up2 nk) G0F jG.low (db:=hpL G0 []) (vz jG _ (λk hk=>by unfold up2;rw [ab zO]) jG.low zS ah) (λv ns hR k hk=>by
  obtain ⟨j,hj,rfl⟩:=mN v ns hR k hk;rw [e2 j hj];refine ⟨zO,λhd=>hd ?_⟩;simp [rst,ak];intro h4;omega) (λv ns hR k hk l hl e=>by
  obtain ⟨j,hj,rfl⟩:=mN v ns hR k hk;obtain ⟨i,hi,rfl⟩:=mN v ns hR l hl;rw [e2 j hj,e2 i hi] at e;omega)
 rw [acF (e2 0 zO) (e2 1 zO)] at h0;simpa [ak,ren,aT,aw,aA] using h0
theorem Ys {nk:Nat} {a m:Int} {v:Value} {ns:bS} (h:SZ nk a m v ns):∀ k∈ak ns,nk<=k/\k<nk+2:=by
 exact xp
theorem gv (a m:Int):Fun prog G0 115 #[.pointer (some ⟨100,0,none⟩),.pointer (some ⟨108,0,none⟩)] (hpL G0 [(100,jb a),(108,jb m)]) (ak [(100,jb a),(108,jb m)]) (.ret (.bool (wiB a 1 m)) []):=by
 refine de (B:=200) G0F func115 rfl call115 ⟨zS,ah,bF⟩ ?_ zS zS zS (by simp [ntmps115]) zO ?_
 ·exact bG
 intro C hC bQ hY;refine dy @jb.eq_1 ?_;refine ⟨.inr rfl,by simp [results115],dH G0F gX bn⟩
def cfB (sl:Value) (g bx tp nr md:Int):Blk:=⟨#[sl,.int .i64 g,.int .i64 bx,.int .i64 tp,.int .i64 nr,.int .i64 md],.ty 24⟩
def cfV (sl:Value) (g bx tp nr md:Int):Value:=.agg #[sl,.int .i64 g,.int .i64 bx,.int .i64 tp,.int .i64 nr,.int .i64 md]
theorem afP (m:Int):Ret prog G0 119 #[.int .i64 m] (.bool !(wiB m 1 1024)):=by
 refine ck G0F func119 rfl call119 rfl zS (by simp [ntmps119]) ?_;intro C hC bQ hY;refine fO ?_;exact eR results119
@[simp] theorem cm1 (m:Int) (K:iQ):cu prog G0 119 #[.int .i64 m] K↔K (.bool !(wiB m 1 1024)):=aP G0W ae (afP m)
structure MB (b:Blk) (off n:Nat) (f:aS):Prop where
 rd:rdI b off n f
 fx:b.fx
 i6:∀ j,j<n->i64 (f j)
 nn:n<=17592186044416
theorem MB.at {b:Blk} {off n:Nat} {f:aS} (h:MB b off n f) {i:Nat} (hi:i<n):ft prog 3 b (off+i)=some (.int .i64 (f i)):=by
 have abD:=Blk.fx_rd h.fx;exact Bf (P:=prog) (T:=3) (j:=i) (cO isAgg3) h.rd hi
def Rm (b:Blk) (off n cap:Nat) (i:Nat):GS :=
 ⟨tsL [(0,.slice (some ⟨100,off,none⟩) n cap),(1,.func (.func 119) #[] #[]),(7,.int .i64 n),(8,.int .i64 i)],hpL G0 [(100,b)],300,0⟩
def yx (f:aS) (n:Nat):Bool:=(List.range n).all λi=>wiB (f i) 1 1024
theorem Ro (b:Blk) (off n cap:Nat) (f:aS) (h:MB b off n f) (N:Nat) (hN:N<=n) (cA:∀ i,i<N->wiB (f i) 1 1024=true) (cm:N=n\/wiB (f N) 1 1024=false) :
  Fun prog G0 143 #[.slice (some ⟨100,off,none⟩) n cap,.func (.func 119) #[] #[]] (hpL G0 [(100,b)]) (ak [(100,b)]) (.ret (.int .i64 (if N=n then -1 else N)) []):=by
 refine de (B:=200) G0F func143 rfl call143 (aH h.fx) ?_ zS zS zS (by simp [ntmps143]) zO ?_
 ·exact bG
 intro C hC bQ hY;have Vx:=h.nn;have iZ:=λD=>Blk.fx_ids h.fx D;refine fO ?_;refine jQ N (Rm b off n cap) ?_ ?_ ?_
 ·refine dv _ 300 hC G0F (m0:=[(100,b)]) bQ zO ?_ ?_ ?_
  ·exact gb
  ·simp [iZ]
  ·simp
 ·intro i hi;have dR:i<n:=zO;have cv:(i:Int)<n:=zO;have hz:(0:Int)<=i:=zO;have hs:Int.bmod ((i:Int)+1) 18446744073709551616=((i+1:Nat):Int):=fE;have uk:=h.at dR;have hq:=cA i hi;unfold Rm;refine dy (k7 hi dR cv hz hs uk hq) ?_;refine dv _ 300 hC G0F (m0:=[(100,b)]) bQ zO ?_ ?_ ?_
  ·exact jz
  ·simp [iZ]
  ·simp
 ·by_cases pY:N=n
  ·subst pY;simp only [aU];unfold Rm;refine fO ?_;exact eS results143
  ·have dR:N<n:=zO;have cv:(N:Int)<n:=zO;have hz:(0:Int)<=N:=zO;have uk:=h.at dR;have hq:=cm.resolve_left pY;rw [ab pY];unfold Rm;refine dy (k5 dR cv hz uk hq) ?_;exact eS results143
theorem aa3 (b:Blk) (off n cap:Nat) (f:aS) (h:MB b off n f) :
  Fun prog G0 118 #[.slice (some ⟨100,off,none⟩) n cap,.func (.func 119) #[] #[]] (hpL G0 [(100,b)]) (ak [(100,b)]) (.ret (.bool !(yx f n)) []):=by
 refine de (B:=200) G0F func118 rfl call118 (aH h.fx) ?_ zS zS zS (by simp [ntmps118]) zO ?_
 ·exact bG
 intro C hC bQ hY;have hr:=λρ=>Blk.fx_rn h.fx ρ;obtain ⟨N,hN,cA,cm⟩:=H4 (λi=>wiB (f i) 1 1024) n;by_cases pY:N=n
 ·have e:yx f n=true:=by unfold yx;rw [<-pY];simpa using cA
  rw [e]
  repeat' first|refine cM ?_|((first|refine gwR [143] ?_|refine gwD [143] ?_);intro Q hQ _;(repeat first|simp [hC,hY,pY]|refine az (Ro b off n cap f h N hN cA cm) G0F (B:=200) (aH h.fx) (λk=>k) (λk hk=>rfl) ay zS cj ah ax ?_);refine cQ hQ ?_)|fail
  exact eS results118
 ·have e:yx f n=false:=by
   unfold yx;rw [List.all_eq_false];exact ⟨N,aE,by simpa using cm.resolve_left pY⟩
  have hz:(0:Int)<=N:=zO;rw [e]
  repeat' first|refine cM ?_|((first|refine gwR [143] ?_|refine gwD [143] ?_);intro Q hQ _;(repeat first|simp [hC,hY,pY,hz]|refine az (Ro b off n cap f h N hN cA cm) G0F (B:=200) (aH h.fx) (λk=>k) (λk hk=>rfl) ay zS cj ah ax ?_);refine cQ hQ ?_)|fail
  exact eS results118
def cmL (b:Blk) (off n cap:Nat) (g bx tp nr md:Int):List (Nat×Blk):=[(100,b),(108,cfB (.slice (some ⟨100,off,none⟩) n cap) g bx tp nr md)]
theorem tg {b:Blk} (hb:b.fx) (off n cap:Nat) (g bx tp nr md:Int):LOk (cmL b off n cap g bx tp nr md) 200:=⟨by simp [cmL],by simp [cmL,ak],by
 simp only [cmL,al,aB,aC,dC,bR];exact ⟨Blk.fx_ids hb _,we⟩⟩
theorem x5 (b:Blk) (off n cap:Nat) (f:aS) (h:MB b off n f) (g bx tp nr md:Int) :
  Fun prog G0 117 #[.pointer (some ⟨108,0,none⟩)] (hpL G0 (cmL b off n cap g bx tp nr md)) (ak (cmL b off n cap g bx tp nr md)) (.ret (.bool (yx f n)) []):=by
 refine de (B:=200) G0F func117 rfl call117 (tg h.fx off n cap g bx tp nr md) ?_ zS zS zS (by simp [ntmps117]) zO ?_
 ·simp [aN,cp,aL,aR,ak,cmL]
 intro C hC bQ hY;have hr:=λρ=>Blk.fx_rn h.fx ρ;unfold cmL cfB
 repeat' first|refine cM ?_|((first|refine gwR [118] ?_|refine gwD [118] ?_);intro Q hQ _;(repeat first|simp [hC,hY]|refine az (aa3 b off n cap f h) G0F (B:=200) (aH h.fx) (λk=>k) (λk hk=>rfl) ay zS cj ah ax ?_);refine cQ hQ ?_)|fail
 exact eS results117
theorem aa9 (b:Blk) (off n cap:Nat) (hb:b.fx) (g bx tp nr md:Int) :
  Fun prog G0 120 #[.pointer (some ⟨108,0,none⟩)] (hpL G0 (cmL b off n cap g bx tp nr md)) (ak (cmL b off n cap g bx tp nr md)) (.ret (.bool (wiB md 0 4)) []):=by
 refine de (B:=200) G0F func120 rfl call120 (tg hb off n cap g bx tp nr md) ?_ zS zS zS (by simp [ntmps120]) zO ?_
 ·simp [aN,cp,aL,aR,ak,cmL]
 intro C hC bQ hY;unfold cmL cfB;refine fO ?_;exact eS results120
theorem iS {p:Prop} (h:p:=by simp [mT]):p:=h
theorem CP {p:Prop} (h:p:=by rw [aj _ _ (λe=>zT.1 e.symm)];exact h.t1):p:=h
theorem Cw {p:Prop} (h:p:=by rw [aj _ _ (λe=>zT.2 e.symm)];exact h.t3):p:=h
theorem mc {p:Prop} (h:p:=by simp [ntmps90]):p:=h
theorem oN {p:Prop} (h:p:=by simpa using hi):p:=h
theorem ow {p:Prop} (h:p:=by simp [okT,f0,f1,hT0,jR]):p:=h
theorem gV {p:Prop} (h:p:=by simp [gev,f0,f1,hT0,jR]):p:=h
theorem oE {p:Prop} (h:p:=by simp [okX,eY,f0,f1,hT0,jR]):p:=h
theorem ma {p:Prop} (h:p:=by simp [mX]):p:=h
theorem bf {p:Prop} (h:p:=by simp [jR]):p:=h
theorem Fu {p:Prop} (h:p:=by
 have:=X9 sl n g bx tp nr p hp _ hm (.inr e);subst this;exact bj _ _ _):p:=h
theorem C3 {p:Prop} (h:p:=by
 exact absurd (congrArg (λx=>x.2.1) (X9 sl n g bx tp nr p hp _ hm (.inl e1))) e):p:=h
theorem EM {p:Prop} (h:p:=by
 by_cases e:p.2.1=t
 ·exact Fu
 ·rw [aj _ _ e];rcases jV hl with e1|h1
  ·exact C3
  ·exact h.tm p hp h1):p:=h
theorem Da {p:Prop} (h:p:=by
 obtain ⟨q,hq,e,h2⟩:=l2 p hp;refine ⟨q,hq,e,?_⟩;rw [fU,ab (λe=>Nn sl n g bx tp nr _ hm q hq e)];exact h2):p:=h
theorem Db {p:Prop} (h:p:=by
 rcases jV zv with e1|h2
 ·exact absurd e1.symm (Nn sl n g bx tp nr _ hm q hq)
 ·exact l3 q hq h2):p:=h
theorem mu {p:Prop} (h:p:=by
 simp [aN,cp,aL,aR,ak,cfV]):p:=h
theorem oV {p:Prop} (h:p:=by
 intro v ns hV k hk;have:=Ys hV k hk;omega):p:=h
abbrev nW := @List.map_id
def mT (sl:Value) (n:Nat) (g bx tp nr:Int):List (Nat×Nat×Value):=[(0,4,.map (some 224)),
  (1,5,.func (.func 114) #[] #[]),
  (2,6,.pointer (some ⟨200,0,none⟩)),
  (3,7,sl),
  (4,8,.int .i64 n),
  (5,9,.func (.func 115) #[] #[.pointer (some ⟨264,0,none⟩),.pointer (some ⟨265,0,none⟩)]),
  (7,10,.func (.func 117) #[] #[.pointer (some ⟨200,0,none⟩)]),
  (9,11,.func (.func 114) #[] #[]),
  (10,12,.pointer (some ⟨200,1,none⟩)),
  (11,13,.int .i64 g),
  (12,14,.func (.func 115) #[] #[.pointer (some ⟨320,0,none⟩),.pointer (some ⟨321,0,none⟩)]),
  (14,15,.func (.func 114) #[] #[]),
  (15,16,.pointer (some ⟨200,2,none⟩)),
  (16,17,.int .i64 bx),
  (17,18,.func (.func 115) #[] #[.pointer (some ⟨360,0,none⟩),.pointer (some ⟨361,0,none⟩)]),
  (19,19,.func (.func 114) #[] #[]),
  (20,20,.pointer (some ⟨200,3,none⟩)),
  (21,21,.int .i64 tp),
  (22,22,.func (.func 115) #[] #[.pointer (some ⟨400,0,none⟩),.pointer (some ⟨401,0,none⟩)]),
  (24,23,.func (.func 114) #[] #[]),
  (25,24,.pointer (some ⟨200,4,none⟩)),
  (26,25,.int .i64 nr),
  (27,26,.pointer (some ⟨200,2,none⟩)),
  (28,27,.int .i64 bx),
  (29,28,.int .i64 (Int.bmod (2*bx) 18446744073709551616)),
  (30,29,.func (.func 115) #[] #[.pointer (some ⟨464,0,none⟩),.pointer (some ⟨465,0,none⟩)]),
  (32,30,.func (.func 120) #[] #[.pointer (some ⟨200,0,none⟩)]),
  (34,31,.map (some 224)),
  (35,2,.map (some 224))]
def mI:List (Nat×ByteArray×Value):=[(6,⟨#[98,111,100,105,101,115]⟩,.func (.func 115) #[] #[.pointer (some ⟨264,0,none⟩),.pointer (some ⟨265,0,none⟩)]),
  (8,⟨#[109,97,115,115]⟩,.func (.func 117) #[] #[.pointer (some ⟨200,0,none⟩)]),
  (13,⟨#[99,111,110,115,116,97,110,116]⟩,.func (.func 115) #[] #[.pointer (some ⟨320,0,none⟩),.pointer (some ⟨321,0,none⟩)]),
  (18,⟨#[98,111,120]⟩,.func (.func 115) #[] #[.pointer (some ⟨360,0,none⟩),.pointer (some ⟨361,0,none⟩)]),
  (23,⟨#[116,111,112]⟩,.func (.func 115) #[] #[.pointer (some ⟨400,0,none⟩),.pointer (some ⟨401,0,none⟩)]),
  (31,⟨#[110,101,97,114]⟩,.func (.func 115) #[] #[.pointer (some ⟨464,0,none⟩),.pointer (some ⟨465,0,none⟩)]),
  (33,⟨#[109,101,116,104,111,100]⟩,.func (.func 120) #[] #[.pointer (some ⟨200,0,none⟩)])]
def mX (n:Nat) (g bx tp nr:Int):List (Nat×Nat×Blk):=[(5,264,jb (n:Int)),(5,265,jb 4),
  (12,320,jb g),(12,321,jb 1048576),
  (17,360,jb bx),(17,361,jb 1048576),
  (22,400,jb tp),(22,401,jb 65536),
  (30,464,jb nr),(30,465,jb (Int.bmod (2*bx) 18446744073709551616))]
structure MI (b:Blk) (sl:Value) (n:Nat) (g bx tp nr md:Int) (listed:Array Bool) (ts:eM) (hp:Hp):Prop where
 t1:ts 1=.pointer (some ⟨200,0,none⟩)
 t3:ts 3=.func (.func 114) #[] #[]
 tm:∀ p∈mT sl n g bx tp nr,listed[p.1]? = some true->ts p.2.1=p.2.2
 low:∀ k,k<100->hp k=G0 k
 b:hp 100=some b
 c:hp 200=some (cfB sl g bx tp nr md)
 bx:∀ q∈mX n g bx tp nr,listed[q.1]? = some true->hp q.2.1=some q.2.2
 mp:listed[0]? = some true->∃ l,hp 224=some (mpB l)/\(∀ p∈l,∃ q∈mI,p=q.2/\listed[q.1]? = some true)/\∀ q∈mI,listed[q.1]? = some true->gH q.2.1 l=some q.2.2
 i0:∀ q∈mI,listed[q.1]? = some true->listed[0]? = some true
theorem At {listed:Array Bool} {i j:Nat} (h:listed[j]? = some true):(listed.setIfInBounds i true)[j]? = some true:=by
 rw [fU];split
 ·split
  ·rfl
  ·rename_i e cA;subst e;exact absurd (a9.1 h).1 cA
 ·exact h
theorem jV {listed:Array Bool} {i j:Nat} (h:(listed.setIfInBounds i true)[j]? = some true):j=i\/listed[j]? = some true:=by
 rw [fU] at h;by_cases e:i=j
 ·exact .inl e.symm
 ·rw [ab e] at h;exact .inr h
theorem X9 (sl:Value) (n:Nat) (g bx tp nr:Int):∀ p∈mT sl n g bx tp nr,∀ q∈mT sl n g bx tp nr,p.1=q.1\/p.2.1=q.2.1->p=q:=by
 intro p hp q hq;simp only [mT,al,aB,aC] at hp hq;rcases hp with rfl|rfl|rfl|rfl|rfl|rfl|rfl|rfl|rfl|rfl|rfl|rfl|rfl|rfl|rfl|rfl|rfl|rfl|rfl|rfl|rfl|rfl|rfl|rfl|rfl|rfl|rfl|rfl|rfl<;>rcases hq with rfl|rfl|rfl|rfl|rfl|rfl|rfl|rfl|rfl|rfl|rfl|rfl|rfl|rfl|rfl|rfl|rfl|rfl|rfl|rfl|rfl|rfl|rfl|rfl|rfl|rfl|rfl|rfl|rfl<;>simp
theorem aeY (sl:Value) (n:Nat) (g bx tp nr:Int):∀ p∈mT sl n g bx tp nr,p.2.1≠1/\p.2.1≠3:=iS
theorem Nn (sl:Value) (n:Nat) (g bx tp nr:Int):∀ p∈mT sl n g bx tp nr,∀ q∈mI,p.1≠q.1:=by simp [mT,mI]
theorem ahr:∀ p∈mI,∀ q∈mI,p.1=q.1\/(p.2.1==q.2.1)=false:=by
 intro p hp q hq;simp only [mI,al,aB,aC] at hp hq;rcases hp with rfl|rfl|rfl|rfl|rfl|rfl|rfl<;>rcases hq with rfl|rfl|rfl|rfl|rfl|rfl|rfl<;>first|exact .inl rfl|(right;decide +kernel)
theorem ahs:∀ p∈mI,∀ q∈mI,p.1=q.1->p=q:=by
 intro p hp q hq;simp only [mI,al,aB,aC] at hp hq;rcases hp with rfl|rfl|rfl|rfl|rfl|rfl|rfl<;>rcases hq with rfl|rfl|rfl|rfl|rfl|rfl|rfl<;>simp
theorem acq:∀ p∈mI,(p.2.1==p.2.1)=true:=by
 intro p hp;simp only [mI,al,aB,aC] at hp;rcases hp with rfl|rfl|rfl|rfl|rfl|rfl|rfl<;>decide +kernel
section
variable {b:Blk} {sl:Value} {n:Nat} {g bx tp nr md:Int} {listed:Array Bool} {ts:eM} {hp:Hp}
theorem MI.tmp (h:MI b sl n g bx tp nr md listed ts hp) {i t:Nat} {v:Value} (hm:(i,t,v)∈mT sl n g bx tp nr) (hx:∀ q∈mX n g bx tp nr,q.1≠i) (hi:i≠0):MI b sl n g bx tp nr md (listed.setIfInBounds i true) (upd ts t v) hp:=by
 have zT:=aeY sl n g bx tp nr _ hm;refine ⟨CP,Cw,λp hp hl=>?_,h.low,h.b,h.c,λq hq hl=>?_,λhl=>?_,λq hq hl=>(jV hl).elim (λe1=>absurd e1.symm (Nn sl n g bx tp nr _ hm q hq)) λh1=>At (h.i0 q hq h1)⟩
 ·exact EM
 ·rcases jV hl with e1|h1
  ·exact absurd e1 (hx q hq)
  ·exact h.bx q hq h1
 ·rcases jV hl with e1|h1
  ·exact absurd e1.symm hi
  ·obtain ⟨l,l1,l2,l3⟩:=h.mp h1;refine ⟨l,l1,λp hp=>?_,λq hq zv=>?_⟩
   ·exact Da
   ·exact Db
theorem MI.mkm (h:MI b sl n g bx tp nr md listed ts hp) (h0:listed[0]? = some false):MI b sl n g bx tp nr md (listed.setIfInBounds 0 true) (upd ts 4 (.map (some 224))) (upd hp 224 (some (mpB []))):=by
 have hm:(0,4,Value.map (some 224))∈mT sl n g bx tp nr:=iS;refine ⟨by rw [aj _ _ zO];exact h.t1,by rw [aj _ _ zO];exact h.t3,λp hp hl=>?_,λk hk=>by rw [aj _ _ zO];exact h.low k hk,by rw [aj _ _ zO];exact h.b,by rw [aj _ _ zO];exact h.c,λq hq hl=>?_,λ_=>⟨[],bj _ _ _,zS,λq hq hl=>?_⟩,λq hq hl=>by simp [fU,(a9.1 h0).1]⟩
 ·by_cases e:p.2.1=4
  ·exact Fu
  ·rw [aj _ _ e];rcases jV hl with e1|h1
   ·exact C3
   ·exact h.tm p hp h1
 ·have RQ:q.1≠0/\q.2.1≠224:=(show ∀ q∈mX n g bx tp nr,q.1≠0/\q.2.1≠224 by simp [mX]) q hq;rw [aj _ _ RQ.2];rcases jV hl with e1|h1
  ·exact absurd e1 RQ.1
  ·exact h.bx q hq h1
 ·have RQ:q.1≠0:=(show ∀ q∈mI,q.1≠0 by simp [mI]) q hq;rcases jV hl with e1|h1
  ·exact absurd e1 RQ
  ·rw [h.i0 q hq h1] at h0;cases h0
theorem MI.call (h:MI b sl n g bx tp nr md listed ts hp) {i t nk:Nat} {v:Value} {a m:Int} (hm:(i,t,v)∈mT sl n g bx tp nr) (mZ:225<=nk) (hi:i≠0) (hx:∀ q∈mX n g bx tp nr,(q.1=i->(q.2.1=nk/\q.2.2=jb a)\/(q.2.1=nk+1/\q.2.2=jb m))/\(q.1≠i->q.2.1≠nk/\q.2.1≠nk+1)) :
  MI b sl n g bx tp nr md (listed.setIfInBounds i true) (upd ts t v) (upd (upd hp nk (some (jb a))) (nk+1) (some (jb m))):=by
 have zT:=aeY sl n g bx tp nr _ hm;refine ⟨CP,Cw,λp hp hl=>?_,λk hk=>by rw [aj _ _ zO,aj _ _ zO];exact h.low k hk,by rw [aj _ _ zO,aj _ _ zO];exact h.b,by rw [aj _ _ zO,aj _ _ zO];exact h.c,λq hq hl=>?_,λhl=>?_,λq hq hl=>(jV hl).elim (λe1=>absurd e1.symm (Nn sl n g bx tp nr _ hm q hq)) λh1=>At (h.i0 q hq h1)⟩
 ·exact EM
 ·by_cases e:q.1=i
  ·rcases (hx q hq).1 e with ⟨e1,e2⟩|⟨e1,e2⟩
   ·rw [e1,e2,aj _ _ zO,bj]
   ·rw [e1,e2,bj]
  ·obtain ⟨e1,e2⟩:=(hx q hq).2 e;rw [aj _ _ e2,aj _ _ e1];rcases jV hl with e3|h1
   ·exact absurd e3 e
   ·exact h.bx q hq h1
 ·rcases jV hl with e1|h1
  ·exact absurd e1.symm hi
  ·obtain ⟨l,l1,l2,l3⟩:=h.mp h1;refine ⟨l,by rw [aj _ _ zO,aj _ _ zO];exact l1,λp hp=>?_,λq hq zv=>?_⟩
   ·exact Da
   ·exact Db
theorem JI {s:ByteArray} {v:Value} {k:ByteArray}:∀ (l:List (ByteArray×Value)),gH k (l++[(s,v)])=match gH k l with|some u=>some u|none=>if (k==s)=true then some v else none
 | []=>rfl
 | p::l=>by
  simp only [bq,gH];split
  ·rfl
  ·exact JI l
theorem MI.fresh (h:MI b sl n g bx tp nr md listed ts hp) {i:Nat} (hi:listed[i]? = some false) {l:List (ByteArray×Value)} (hl:∀ p∈l,∃ q∈mI,p=q.2/\listed[q.1]? = some true):∀ q∈mI,q.1=i->gH q.2.1 l=none:=by
 rintro p hm rfl
 induction l with
 | nil=>rfl
 | cons c l ih =>
  simp only [gH];obtain ⟨q,hq,e,h2⟩:=hl c zS
  have:(p.2.1==c.1)=false:=by
   rw [e];refine (ahr _ hm q hq).resolve_left λe1=>?_;rw [<-e1,hi] at h2;cases h2
  rw [this];exact ih λp hp=>hl p (br _ hp)
theorem MI.ins (h:MI b sl n g bx tp nr md listed ts hp) {i:Nat} {s:ByteArray} {v:Value} (hm:(i,s,v)∈mI) (cA:i<listed.size) {l:List (ByteArray×Value)} (hl:∀ p∈l,∃ q∈mI,p=q.2/\listed[q.1]? = some true) (hf:∀ q∈mI,listed[q.1]? = some true->gH q.2.1 l=some q.2.2) (hn:gH s l=none) (h00:listed[0]? = some true) :
  MI b sl n g bx tp nr md (listed.setIfInBounds i true) ts (upd hp 224 (some (mpB (l++[(s,v)])))):=by
 refine ⟨h.t1,h.t3,λp hp hl=>?_,λk hk=>by rw [aj _ _ zO];exact h.low k hk,by rw [aj _ _ zO];exact h.b,by rw [aj _ _ zO];exact h.c,λq hq hl=>?_,λ_=>⟨_,bj _ _ _,λp hp=>?_,λq hq zv=>?_⟩,λq hq hl=>At h00⟩
 ·rcases jV hl with e1|h1
  ·exact absurd e1 (Nn sl n g bx tp nr p hp _ hm)
  ·exact h.tm p hp h1
 ·have RQ:q.2.1≠224:=(show ∀ q∈mX n g bx tp nr,q.2.1≠224 by simp [mX]) q hq;have hq3:∀ p∈mI,q.1≠p.1:=(show ∀ q∈mX n g bx tp nr,∀ p∈mI,q.1≠p.1 by simp [mX,mI]) q hq;rw [aj _ _ RQ];rcases jV hl with e1|h1
  ·exact absurd e1 (hq3 _ hm)
  ·exact h.bx q hq h1
 ·rcases cN.1 hp with hp|hp
  ·obtain ⟨q,hq,e,h2⟩:=hl p hp;refine ⟨q,hq,e,?_⟩;exact At h2
  ·simp only [bE] at hp;subst hp;refine ⟨_,hm,rfl,?_⟩;simp [fU,cA]
 ·rw [JI];rcases jV zv with e1|h2
  ·have:=ahs q hq _ hm e1;subst this;simp only [hn];rw [acq _ hm]
   rfl
  ·rw [hf q hq h2]
end
def mV (nk:Nat):List (ByteArray×Value):=[(⟨#[98,111,100,105,101,115]⟩,.func (.func 115) #[] #[.pointer (some ⟨nk+2,0,none⟩),.pointer (some ⟨nk+3,0,none⟩)]),
  (⟨#[109,97,115,115]⟩,.func (.func 117) #[] #[.pointer (some ⟨nk+1,0,none⟩)]),
  (⟨#[99,111,110,115,116,97,110,116]⟩,.func (.func 115) #[] #[.pointer (some ⟨nk+4,0,none⟩),.pointer (some ⟨nk+5,0,none⟩)]),
  (⟨#[98,111,120]⟩,.func (.func 115) #[] #[.pointer (some ⟨nk+6,0,none⟩),.pointer (some ⟨nk+7,0,none⟩)]),
  (⟨#[116,111,112]⟩,.func (.func 115) #[] #[.pointer (some ⟨nk+8,0,none⟩),.pointer (some ⟨nk+9,0,none⟩)]),
  (⟨#[110,101,97,114]⟩,.func (.func 115) #[] #[.pointer (some ⟨nk+10,0,none⟩),.pointer (some ⟨nk+11,0,none⟩)]),
  (⟨#[109,101,116,104,111,100]⟩,.func (.func 120) #[] #[.pointer (some ⟨nk+1,0,none⟩)])]
def mNs (nk:Nat) (l:List (ByteArray×Value)) (sl:Value) (n:Nat) (g bx tp nr md:Int):List (Nat×Blk):=[(nk,mpB l),(nk+1,cfB sl g bx tp nr md),(nk+2,jb (n:Int)),(nk+3,jb 4),(nk+4,jb g),(nk+5,jb 1048576),(nk+6,jb bx),(nk+7,jb 1048576),(nk+8,jb tp),(nk+9,jb 65536),(nk+10,jb nr),(nk+11,jb (Int.bmod (2*bx) 18446744073709551616))]
def Hj (nk:Nat) (sl:Value) (n:Nat) (g bx tp nr md:Int) (v:Value) (ns:bS):Prop:=∃ l,v=.map (some nk)/\ns=mNs nk l sl n g bx tp nr md/\(∀ p∈l,p∈mV nk)/\∀ q∈mV nk,gH q.1 l=some q.2
theorem A6 {s:ByteArray} {h:Value->Value}:∀ l:List (ByteArray×Value),gH s (l.map λp=>(p.1,h p.2))=(gH s l).map h
 | []=>rfl
 | p::l=>by
  simp only [bJ,gH];split
  ·rfl
  ·exact A6 l
theorem Yd (ρ:cI) (l:List (ByteArray×Value)):(mpB l).rn ρ=mpB (l.map λp=>(p.1,aw ρ p.2)):=by
 unfold mpB Blk.rn mpC;simp only [ff,List.map_flatMap,List.flatMap_map,bJ,dt]
 rfl
def mR (k:Nat):Nat:=if k=1000 then 224 else if k=1001 then 200 else if k=1002 then 264 else if k=1003 then 265 else if k=1004 then 320 else if k=1005 then 321 else if k=1006 then 360 else if k=1007 then 361 else if k=1008 then 400 else if k=1009 then 401 else if k=1010 then 464 else if k=1011 then 465 else k
def mS (k:Nat):Nat:=if k=224 then 1000 else if k=200 then 1001 else if k=264 then 1002 else if k=265 then 1003 else if k=320 then 1004 else if k=321 then 1005 else if k=360 then 1006 else if k=361 then 1007 else if k=400 then 1008 else if k=401 then 1009 else if k=464 then 1010 else if k=465 then 1011 else k
theorem Ug (b:Blk) (hb:b.fx) (off n cap:Nat) (g bx tp nr md:Int) :
  FunS prog G0 90 #[cfV (.slice (some ⟨100,off,none⟩) n cap) g bx tp nr md] (hpL G0 [(100,b)]) (ak [(100,b)]) (Hj 1000 (.slice (some ⟨100,off,none⟩) n cap) n g bx tp nr md):=by
 refine dJ (B:=200) G0F func90 rfl call90 (aH hb) ?_ ?_ mc zO ?_
 ·exact mu
 ·rintro v ns ⟨l,rfl,rfl,hl,_⟩
  have zv:∀ D:Nat->Prop,(∀ k,1000<=k->k<1012->D k)->(mpB l).ids D:=λD hD=>Ad.2 λp hp=>by
   have:=hl p hp;simp only [mV,al,aB,aC] at this;rcases this with rfl|rfl|rfl|rfl|rfl|rfl|rfl<;>simp [aL,aR,hD]
  refine ⟨by simp [aN,cp,aL,aR,cJ,ak,mNs],?_,?_⟩
  ·intro p hp;simp only [mNs,al,aB,aC] at hp
   have hD:∀ k,1000<=k->k<1012->cJ (λk=>k∈ak [(100,b)]) (mNs 1000 l (.slice (some ⟨100,off,none⟩) n cap) n g bx tp nr md) k:=λk nz mN=>.inr (by
    simp only [mNs,ak,bJ,dt,al,aB,aC];omega)
   rcases hp with rfl|rfl|rfl|rfl|rfl|rfl|rfl|rfl|rfl|rfl|rfl|rfl
   ·exact ⟨zO,zv _ hD⟩
   ·exact ⟨zO,by simp [cfB,aF,aL,aR,cJ,ak]⟩
   all_goals exact ⟨zO,bF⟩
  ·intro k b c h1 h2;simp only [mNs,al,aB,aC,dM] at h1 h2;rcases h1 with ⟨e1,rfl⟩|⟨e1,rfl⟩|⟨e1,rfl⟩|⟨e1,rfl⟩|⟨e1,rfl⟩|⟨e1,rfl⟩|⟨e1,rfl⟩|⟨e1,rfl⟩|⟨e1,rfl⟩|⟨e1,rfl⟩|⟨e1,rfl⟩|⟨e1,rfl⟩<;>rcases h2 with ⟨e2,rfl⟩|⟨e2,rfl⟩|⟨e2,rfl⟩|⟨e2,rfl⟩|⟨e2,rfl⟩|⟨e2,rfl⟩|⟨e2,rfl⟩|⟨e2,rfl⟩|⟨e2,rfl⟩|⟨e2,rfl⟩|⟨e2,rfl⟩|⟨e2,rfl⟩<;>first|rfl|omega
 intro C hC bQ hY;unfold cfV;refine fO ?_;refine yO follows ?_;simp only [Array.toList,fA,gP,Nat.reduceAdd];obtain ⟨sl,M5⟩:∃ sl,Value.slice (some ⟨100,off,none⟩) n cap=sl:=⟨_,rfl⟩
 refine Hb (MI b sl n g bx tp nr md) (λlisted ts hp hs hr hI=>?_) (λfuel listed ts hp i hs hi jX h hk=>?_) _ _ _ _ zS bd ?_
 ·have jK:=UK hs ae hr;have jK:∀ i,i<36->listed[i]? = some true:=λi hi=>jK i oN;obtain ⟨l,l1,l2,l3⟩:=hI.mp (jK 0 zO);have h2:=hI.tm (35,2,.map (some 224)) iS (jK 35 zO);have hinv:∀ q∈mI,aw mR (aw mS q.2.2)=q.2.2:=by simp [mI,aw,aA,mR,mS]
  have aqR:∀ q∈mI,(q.2.1,aw mS q.2.2)∈mV 1000:=by simp [mI,mV,aw,aA,mS]
  have alx:∀ q∈mV 1000,∃ p∈mI,p.2.1=q.1/\aw mS p.2.2=q.2/\p.1<36:=by
   intro q hq;simp only [mV,al,aB,aC] at hq;rcases hq with rfl|rfl|rfl|rfl|rfl|rfl|rfl
   all_goals simp [mI,aw,aA,mS]
  simp only [gK];refine VT ?_;refine ⟨.inr rfl,dH G0F (by simp [hI.b]) (λk hk=>(hI.low k hk).trans (cD zS hk).symm),_,_,mR,⟨l.map λp=>(p.1,aw mS p.2),rfl,rfl,λp hp=>?_,λq hq=>?_⟩,λk hk=>?_,?_,?_,?_,?_⟩
  ·obtain ⟨p0,hp0,rfl⟩:=aD.1 hp;obtain ⟨q,hq,rfl,_⟩:=l2 p0 hp0;exact aqR q hq
  ·obtain ⟨p,hp,e1,e2,cA⟩:=alx q hq;rw [A6,<-e1,l3 p hp (jK _ cA),<-e2]
   rfl
  ·unfold mR
   iterate 12 rw [ab zO]
  ·simp [mNs,mR]
  ·simp [mNs,mR]
  ·simp [results90,h2,ren,aT,aw,aA,mR]
   rfl
  ·subst M5;have zr:=hI.bx;simp [mX,jK] at zr
   have hm:(mpB (l.map λp=>(p.1,aw mS p.2))).rn mR=mpB l:=by
    rw [Yd,lx];congr 1
    conv=>rhs;rw [<-nW l]
    refine dK λp hp=>?_;obtain ⟨q,hq,rfl,_⟩:=l2 p hp;simp only [Function.comp_def,id];rw [hinv q hq]
   intro p hp;simp only [mNs,al,aB,aC] at hp;rcases hp with rfl|rfl|rfl|rfl|rfl|rfl|rfl|rfl|rfl|rfl|rfl|rfl
   ·show hp (mR 1000)=some ((mpB _).rn mR);rw [hm];exact l1
   ·show hp 200=some ((cfB _ g bx tp nr md).rn mR);rw [hI.c];simp [cfB,Blk.rn,aw,aA,mR]
   all_goals simp [mR,tY,zr]
 ·have cA:i<36:=by
   have:=(a9.1 hi).1;rw [hs] at this;exact cZ
  subst M5;have hT0:=h.tm;simp [mT] at hT0;have f0:=h.t1;have f1:=h.t3;obtain rfl|rfl|rfl|rfl|rfl|rfl|hj|hj:i=5\/i=12\/i=17\/i=22\/i=30\/i=0\/(i=6\/i=8\/i=13\/i=18\/i=23\/i=31\/i=33)\/i=1\/i=2\/i=3\/i=4\/i=7\/i=9\/i=10\/i=11\/i=14\/i=15\/i=16\/i=19\/i=20\/i=21\/i=24\/i=25\/i=26\/i=27\/i=28\/i=29\/i=32\/i=34\/i=35:=zO
  ·-- 5
   have jR:=jX _ rfl;simp [Region.binds] at jR;refine lf (f:=.tmp 5) (cap:=#[]) hC (Ii 264 zO (n:Int) 4) rfl hi rfl mc rfl rfl ow gV zS oE gV zS (λq hq=>(h.low q hq).symm▸zS) ?_ ?_
   ·exact oV
   rintro v ns ⟨rfl,rfl⟩;exact hk _ _ (h.call (i:=5) (t:=9) iS zO zO ma)
  ·-- 12
   have jR:=jX _ rfl;simp [Region.binds] at jR;refine lf (f:=.tmp 11) (cap:=#[]) hC (Ii 320 zO g 1048576) rfl hi rfl mc rfl rfl ow gV zS oE gV zS (λq hq=>(h.low q hq).symm▸zS) ?_ ?_
   ·exact oV
   rintro v ns ⟨rfl,rfl⟩;exact hk _ _ (h.call (i:=12) (t:=14) iS zO zO ma)
  ·-- 17
   have jR:=jX _ rfl;simp [Region.binds] at jR;refine lf (f:=.tmp 15) (cap:=#[]) hC (Ii 360 zO bx 1048576) rfl hi rfl mc rfl rfl ow gV zS oE gV zS (λq hq=>(h.low q hq).symm▸zS) ?_ ?_
   ·exact oV
   rintro v ns ⟨rfl,rfl⟩;exact hk _ _ (h.call (i:=17) (t:=18) iS zO zO ma)
  ·-- 22
   have jR:=jX _ rfl;simp [Region.binds] at jR;refine lf (f:=.tmp 19) (cap:=#[]) hC (Ii 400 zO tp 65536) rfl hi rfl mc rfl rfl ow gV zS oE gV zS (λq hq=>(h.low q hq).symm▸zS) ?_ ?_
   ·exact oV
   rintro v ns ⟨rfl,rfl⟩;exact hk _ _ (h.call (i:=22) (t:=22) iS zO zO ma)
  ·-- 30
   have jR:=jX _ rfl;simp [Region.binds] at jR;refine lf (f:=.tmp 23) (cap:=#[]) hC (Ii 464 zO nr (Int.bmod (2*bx) 18446744073709551616)) rfl hi rfl mc rfl rfl ow gV zS oE gV zS (λq hq=>(h.low q hq).symm▸zS) ?_ ?_
   ·exact oV
   rintro v ns ⟨rfl,rfl⟩;exact hk _ _ (h.call (i:=30) (t:=29) iS zO zO ma)
  ·-- 0 map
   refine uj (k2 f0 f1) ?_;exact hk _ _ (h.mkm hi)
  ·rcases hj with rfl|rfl|rfl|rfl|rfl|rfl|rfl
   all_goals
    have jR:=And.intro hi (jX _ rfl);simp [Region.binds] at jR;obtain ⟨l,l1,l2,l3⟩:=h.mp bf;have hn:=h.fresh hi l2;simp [mI] at hn;refine uj (k6 f0 f1 hT0 jR l1 hn) ?_;exact hk _ _ (h.ins (by simp [mI]) (a9.1 hi).1 l2 l3 hn bf)
  ·have fc:=h.c;unfold cfB at fc;rcases hj with rfl|rfl|rfl|rfl|rfl|rfl|rfl|rfl|rfl|rfl|rfl|rfl|rfl|rfl|rfl|rfl|rfl|rfl|rfl|rfl|rfl|rfl|rfl
   all_goals
    have jR:=And.intro hi (jX _ rfl);simp [Region.binds] at jR;refine uj (k5 f0 f1 fc hT0 jR) ?_;exact hk _ _ (h.tmp iS ma zO)
 ·have Vy:∀ j,(Array.replicate 36 false)[j]?≠some true:=λj=>by
   rw [jm];split<;>simp
  exact ⟨zS,zS,λp hp hl=>absurd hl (Vy _),λk hk=>by rw [aj _ _ zO];exact cD zS hk,zS,by simp [cfB,M5],λq hq hl=>absurd hl (Vy _),λhl=>absurd hl (Vy _),λq hq hl=>absurd hl (Vy _)⟩
def kx (n:Nat) (f:aS) (g bx tp nr md:Int):ByteArray :=
 if wiB n 1 4=false then ⟨#[98,111,100,105,101,115]⟩ else if yx f n=false then ⟨#[109,97,115,115]⟩ else if wiB g 1 1048576=false then ⟨#[99,111,110,115,116,97,110,116]⟩ else if wiB bx 1 1048576=false then ⟨#[98,111,120]⟩ else
  if wiB tp 1 65536=false then ⟨#[116,111,112]⟩ else if wiB nr 1 (Int.bmod (2*bx) 18446744073709551616)=false then ⟨#[110,101,97,114]⟩ else if wiB md 0 4=false then ⟨#[109,101,116,104,111,100]⟩ else ⟨#[]⟩
def mQ (nk k:Nat):Nat:=if 1000<=k then (if k<1012 then k - 1000+nk else k) else k
theorem tv {nk n:Nat} {sl:Value} {g bx tp nr md:Int} {v:Value} {ns:bS} (h:Hj nk sl n g bx tp nr md v ns):∀ k∈ak ns,nk<=k/\k<nk+12:=by
 obtain ⟨l,rfl,rfl,_⟩:=h;intro k hk;simp [ak,mNs] at hk;omega
theorem R6 (nk j:Nat) (hj:j<12):mQ nk (1000+j)=nk+j:=by
 unfold mQ;rw [ai zO,ai zO];omega
theorem Qb (nk k:Nat) (hk:k<1000):mQ nk k=k:=by
 unfold mQ;rw [ab zO]
theorem Nv {nk n off cap:Nat} {g bx tp nr md:Int} {v:Value} {ns:bS} (h:RR (mQ nk) (Hj 1000 (.slice (some ⟨100,off,none⟩) n cap) n g bx tp nr md) v ns):Hj nk (.slice (some ⟨100,off,none⟩) n cap) n g bx tp nr md v ns:=by
 obtain ⟨v0,uo,⟨l,rfl,rfl,hl,hf⟩,rfl,rfl⟩:=h;have e:=R6 nk;have e0:=e 0 zO;have e1:=e 1 zO;have e2:=e 2 zO;have e3:=e 3 zO;have e4:=e 4 zO;have e5:=e 5 zO;have e6:=e 6 zO;have e7:=e 7 zO;have e8:=e 8 zO;have e9:=e 9 zO;have e10:=e 10 zO;have e11:=e 11 zO;simp only [Nat.reduceAdd,dZ] at e0 e1 e2 e3 e4 e5 e6 e7 e8 e9 e10 e11;have g5:=Qb nk 100 zO
 have hmv:∀ q∈mV 1000,(q.1,aw (mQ nk) q.2)∈mV nk:=by
  simp [mV,aw,aA,e1,e2,e3,e4,e5,e6,e7,e8,e9,e10,e11]
 have hvm:∀ q∈mV nk,∃ p∈mV 1000,p.1=q.1/\aw (mQ nk) p.2=q.2:=by
  simp [mV,aw,aA,e1,e2,e3,e4,e5,e6,e7,e8,e9,e10,e11]
 refine ⟨l.map λp=>(p.1,aw (mQ nk) p.2),by simp [ren,aT,aw,aA,e0],?_,λp hp=>?_,λq hq=>?_⟩
 ·have hc:(cfB (.slice (some ⟨100,off,none⟩) n cap) g bx tp nr md).rn (mQ nk)=cfB (.slice (some ⟨100,off,none⟩) n cap) g bx tp nr md:=by simp [cfB,Blk.rn,aw,aA,g5]
  simp only [rnL,mNs,bJ,dt,Yd,tY,hc,Nat.reduceAdd,e0,e1,e2,e3,e4,e5,e6,e7,e8,e9,e10,e11]
 ·obtain ⟨p0,hp0,rfl⟩:=aD.1 hp;exact hmv _ (hl _ hp0)
 ·obtain ⟨p,hp,h1,h2⟩:=hvm q hq;rw [A6,<-h1,hf p hp,<-h2]
  rfl
theorem Yg (nk:Nat) (mZ:200<=nk) (b:Blk) (hb:b.fx) (off n cap:Nat) (g bx tp nr md:Int) :
  FunS prog G0 90 #[cfV (.slice (some ⟨100,off,none⟩) n cap) g bx tp nr md] (hpL G0 [(100,b)]) [100] (RR (mQ nk) (Hj 1000 (.slice (some ⟨100,off,none⟩) n cap) n g bx tp nr md)):=by
 have hr:=λρ=>Blk.fx_rn hb ρ;have g5:=Qb nk 100 zO;refine (Ug b hb off n cap g bx tp nr md).mvL G0F (aH hb) (mQ nk) (λk hk=>Qb nk k zO) (by simp [cfV,ren,aT,aw,aA,g5]) (by simp [ak,g5]) rfl (aH hb).low (by simp [g5,hr]) ah (λv ns hV k hk=>?_) (λv ns hV k hk l hl e=>?_)
 ·have h1:=tv hV k hk;obtain ⟨j,hj,rfl⟩:∃ j,j<12/\k=1000+j:=⟨k - 1000,zO,zO⟩
  rw [R6 nk j hj];simp;omega
 ·have h1:=tv hV k hk;have h2:=tv hV l hl;obtain ⟨j,hj,rfl⟩:∃ j,j<12/\k=1000+j:=⟨k - 1000,zO,zO⟩
  obtain ⟨i,hi,rfl⟩:∃ j,j<12/\l=1000+j:=⟨l - 1000,zO,zO⟩
  rw [R6 nk j hj,R6 nk i hi] at e;omega
theorem cX {p:Prop} (h:p:=by simp [tY]):p:=h
theorem kB {p:Prop} (h:p:=by simp [cmL,hr];simp [cfB,Blk.rn,aw,aA]):p:=h
theorem kF {p:Prop} (h:p:=by simp [ak,cmL]):p:=h
theorem kL {p:Prop} (h:p:=by simp [ak,cmL];rfl):p:=h
theorem oq {p:Prop} (h:p:=by simp [gev,cfV]):p:=h
theorem kG {p:Prop} (h:p:=by simp [mV]):p:=h
theorem Cy {p:Prop} (h:p:=by unfold kx;simp only [c0,c1,c2,c3,c4,c5,c6,fg,aU,bY,reduceCtorEq]):p:=h
theorem FE {p:Prop} (h:p:=by
 rw [e]
 repeat' first|refine cH ?_|refine dc ?_|refine cM ?_|((first|refine gwR [115,117,120] ?_|refine gwD [115,117,120] ?_);intro Q hQ _;(repeat first|simp [hC,hY,f0,f1,f2,f3,f4,f5,f6,c0,c1,c2,c3,c4,c5,c6,cnB]|(refine az (gv n 4) G0F (B:=200) ⟨zS,ah,bF⟩ (λk=>if k=100 then 226 else if k=108 then 227 else k) (λk hk=>(ab zO).trans (ab zO)) ?_ zS cX ah ax ?_;focus (simp [ren,aT,aw,aA];done))|(refine az (x5 b off n cap f h g bx tp nr md) G0F (B:=200) (tg h.fx off n cap g bx tp nr md) (λk=>if k=108 then 225 else k) (λk hk=>ab zO) ?_ zS kB kF kL ?_;focus (simp [ren,aT,aw,aA];done))|(refine az (gv g 1048576) G0F (B:=200) ⟨zS,ah,bF⟩ (λk=>if k=100 then 228 else if k=108 then 229 else k) (λk hk=>(ab zO).trans (ab zO)) ?_ zS cX ah ax ?_;focus (simp [ren,aT,aw,aA];done))|(refine az (gv bx 1048576) G0F (B:=200) ⟨zS,ah,bF⟩ (λk=>if k=100 then 230 else if k=108 then 231 else k) (λk hk=>(ab zO).trans (ab zO)) ?_ zS cX ah ax ?_;focus (simp [ren,aT,aw,aA];done))|(refine az (gv tp 65536) G0F (B:=200) ⟨zS,ah,bF⟩ (λk=>if k=100 then 232 else if k=108 then 233 else k) (λk hk=>(ab zO).trans (ab zO)) ?_ zS cX ah ax ?_;focus (simp [ren,aT,aw,aA];done))|(refine az (gv nr (Int.bmod (2*bx) 18446744073709551616)) G0F (B:=200) ⟨zS,ah,bF⟩ (λk=>if k=100 then 234 else if k=108 then 235 else k) (λk hk=>(ab zO).trans (ab zO)) ?_ zS cX ah ax ?_;focus (simp [ren,aT,aw,aA];done))|(refine az (aa9 b off n cap h.fx g bx tp nr md) G0F (B:=200) (tg h.fx off n cap g bx tp nr md) (λk=>if k=108 then 225 else k) (λk hk=>ab zO) ?_ zS kB kF kL ?_;focus (simp [ren,aT,aw,aA];done)));refine cQ hQ ?_)|fail
 exact eS results63):p:=h
abbrev fg := @Bool.true_eq_false
theorem adQ (b:Blk) (off n cap:Nat) (f:aS) (h:MB b off n f) (g bx tp nr md:Int) :
  Fun prog G0 63 #[cfV (.slice (some ⟨100,off,none⟩) n cap) g bx tp nr md] (hpL G0 [(100,b)]) (ak [(100,b)]) (.ret (.string (kx n f g bx tp nr md)) []):=by
 refine de (B:=200) G0F func63 rfl call63 (aH h.fx) ?_ zS zS zS (by simp [ntmps63]) zO ?_
 ·exact mu
 intro C hC bQ hY;have hr:=λρ=>Blk.fx_rn h.fx ρ;unfold cfV;refine fO ?_;refine gj ?_;refine n7 trivial ?_;refine VR 8 (f:=.func 90) (cap:=#[]) hC (Yg 224 zO b h.fx off n cap g bx tp nr md) rfl zS rfl rfl aJ aq zS aM oq zS bn (λv ns hV k hk=>by have:=tv (Nv hV) k hk;omega) ?_;intro v ns hV;obtain ⟨l,rfl,rfl,_,hf⟩:=Nv hV;refine n7 @mNs.eq_1 ?_;refine bH ?_;have f0:gH ⟨#[98,111,100,105,101,115]⟩ l=some (.func (.func 115) #[] #[.pointer (some ⟨226,0,none⟩),.pointer (some ⟨227,0,none⟩)]):=hf (⟨#[98,111,100,105,101,115]⟩,_) kG;have f1:gH ⟨#[109,97,115,115]⟩ l=some (.func (.func 117) #[] #[.pointer (some ⟨225,0,none⟩)]):=hf (⟨#[109,97,115,115]⟩,_) kG;have f2:gH ⟨#[99,111,110,115,116,97,110,116]⟩ l=some (.func (.func 115) #[] #[.pointer (some ⟨228,0,none⟩),.pointer (some ⟨229,0,none⟩)]):=hf (⟨#[99,111,110,115,116,97,110,116]⟩,_) kG;have f3:gH ⟨#[98,111,120]⟩ l=some (.func (.func 115) #[] #[.pointer (some ⟨230,0,none⟩),.pointer (some ⟨231,0,none⟩)]):=hf (⟨#[98,111,120]⟩,_) kG;have f4:gH ⟨#[116,111,112]⟩ l=some (.func (.func 115) #[] #[.pointer (some ⟨232,0,none⟩),.pointer (some ⟨233,0,none⟩)]):=hf (⟨#[116,111,112]⟩,_) kG;have f5:gH ⟨#[110,101,97,114]⟩ l=some (.func (.func 115) #[] #[.pointer (some ⟨234,0,none⟩),.pointer (some ⟨235,0,none⟩)]):=hf (⟨#[110,101,97,114]⟩,_) kG;have f6:gH ⟨#[109,101,116,104,111,100]⟩ l=some (.func (.func 120) #[] #[.pointer (some ⟨225,0,none⟩)]):=hf (⟨#[109,101,116,104,111,100]⟩,_) kG
 cases c0:wiB n 1 4 with
 | false =>
  have e:kx n f g bx tp nr md=⟨#[98,111,100,105,101,115]⟩:=by unfold kx;simp only [c0,fg,aU,bY,reduceCtorEq]
  rw [e]
  repeat' first|refine cH ?_|refine dc ?_|refine cM ?_|((first|refine gwR [115,117,120] ?_|refine gwD [115,117,120] ?_);intro Q hQ _;(repeat first|simp [hC,hY,f0,c0,cnB]|(refine az (gv n 4) G0F (B:=200) ⟨zS,ah,bF⟩ (λk=>if k=100 then 226 else if k=108 then 227 else k) (λk hk=>(ab zO).trans (ab zO)) ?_ zS cX ah ax ?_;focus (simp [ren,aT,aw,aA];done)));refine cQ hQ ?_)|fail
  exact eS results63
 | true =>
  cases c1:yx f n with
  | false =>
   have e:kx n f g bx tp nr md=⟨#[109,97,115,115]⟩:=by unfold kx;simp only [c0,c1,fg,aU,bY,reduceCtorEq]
   rw [e]
   repeat' first|refine cH ?_|refine dc ?_|refine cM ?_|((first|refine gwR [115,117,120] ?_|refine gwD [115,117,120] ?_);intro Q hQ _;(repeat first|simp [hC,hY,f0,f1,c0,c1,cnB]|(refine az (gv n 4) G0F (B:=200) ⟨zS,ah,bF⟩ (λk=>if k=100 then 226 else if k=108 then 227 else k) (λk hk=>(ab zO).trans (ab zO)) ?_ zS cX ah ax ?_;focus (simp [ren,aT,aw,aA];done))|(refine az (x5 b off n cap f h g bx tp nr md) G0F (B:=200) (tg h.fx off n cap g bx tp nr md) (λk=>if k=108 then 225 else k) (λk hk=>ab zO) ?_ zS kB kF kL ?_;focus (simp [ren,aT,aw,aA];done)));refine cQ hQ ?_)|fail
   exact eS results63
  | true =>
   cases c2:wiB g 1 1048576 with
   | false =>
    have e:kx n f g bx tp nr md=⟨#[99,111,110,115,116,97,110,116]⟩:=by unfold kx;simp only [c0,c1,c2,fg,aU,bY,reduceCtorEq]
    rw [e]
    repeat' first|refine cH ?_|refine dc ?_|refine cM ?_|((first|refine gwR [115,117,120] ?_|refine gwD [115,117,120] ?_);intro Q hQ _;(repeat first|simp [hC,hY,f0,f1,f2,c0,c1,c2,cnB]|(refine az (gv n 4) G0F (B:=200) ⟨zS,ah,bF⟩ (λk=>if k=100 then 226 else if k=108 then 227 else k) (λk hk=>(ab zO).trans (ab zO)) ?_ zS cX ah ax ?_;focus (simp [ren,aT,aw,aA];done))|(refine az (x5 b off n cap f h g bx tp nr md) G0F (B:=200) (tg h.fx off n cap g bx tp nr md) (λk=>if k=108 then 225 else k) (λk hk=>ab zO) ?_ zS kB kF kL ?_;focus (simp [ren,aT,aw,aA];done))|(refine az (gv g 1048576) G0F (B:=200) ⟨zS,ah,bF⟩ (λk=>if k=100 then 228 else if k=108 then 229 else k) (λk hk=>(ab zO).trans (ab zO)) ?_ zS cX ah ax ?_;focus (simp [ren,aT,aw,aA];done)));refine cQ hQ ?_)|fail
    exact eS results63
   | true =>
    cases c3:wiB bx 1 1048576 with
    | false =>
     have e:kx n f g bx tp nr md=⟨#[98,111,120]⟩:=by unfold kx;simp only [c0,c1,c2,c3,fg,aU,bY,reduceCtorEq]
     rw [e]
     repeat' first|refine cH ?_|refine dc ?_|refine cM ?_|((first|refine gwR [115,117,120] ?_|refine gwD [115,117,120] ?_);intro Q hQ _;(repeat first|simp [hC,hY,f0,f1,f2,f3,c0,c1,c2,c3,cnB]|(refine az (gv n 4) G0F (B:=200) ⟨zS,ah,bF⟩ (λk=>if k=100 then 226 else if k=108 then 227 else k) (λk hk=>(ab zO).trans (ab zO)) ?_ zS cX ah ax ?_;focus (simp [ren,aT,aw,aA];done))|(refine az (x5 b off n cap f h g bx tp nr md) G0F (B:=200) (tg h.fx off n cap g bx tp nr md) (λk=>if k=108 then 225 else k) (λk hk=>ab zO) ?_ zS kB kF kL ?_;focus (simp [ren,aT,aw,aA];done))|(refine az (gv g 1048576) G0F (B:=200) ⟨zS,ah,bF⟩ (λk=>if k=100 then 228 else if k=108 then 229 else k) (λk hk=>(ab zO).trans (ab zO)) ?_ zS cX ah ax ?_;focus (simp [ren,aT,aw,aA];done))|(refine az (gv bx 1048576) G0F (B:=200) ⟨zS,ah,bF⟩ (λk=>if k=100 then 230 else if k=108 then 231 else k) (λk hk=>(ab zO).trans (ab zO)) ?_ zS cX ah ax ?_;focus (simp [ren,aT,aw,aA];done)));refine cQ hQ ?_)|fail
     exact eS results63
    | true =>
     cases c4:wiB tp 1 65536 with
     | false =>
      have e:kx n f g bx tp nr md=⟨#[116,111,112]⟩:=by unfold kx;simp only [c0,c1,c2,c3,c4,fg,aU,bY,reduceCtorEq]
      rw [e]
      repeat' first|refine cH ?_|refine dc ?_|refine cM ?_|((first|refine gwR [115,117,120] ?_|refine gwD [115,117,120] ?_);intro Q hQ _;(repeat first|simp [hC,hY,f0,f1,f2,f3,f4,c0,c1,c2,c3,c4,cnB]|(refine az (gv n 4) G0F (B:=200) ⟨zS,ah,bF⟩ (λk=>if k=100 then 226 else if k=108 then 227 else k) (λk hk=>(ab zO).trans (ab zO)) ?_ zS cX ah ax ?_;focus (simp [ren,aT,aw,aA];done))|(refine az (x5 b off n cap f h g bx tp nr md) G0F (B:=200) (tg h.fx off n cap g bx tp nr md) (λk=>if k=108 then 225 else k) (λk hk=>ab zO) ?_ zS kB kF kL ?_;focus (simp [ren,aT,aw,aA];done))|(refine az (gv g 1048576) G0F (B:=200) ⟨zS,ah,bF⟩ (λk=>if k=100 then 228 else if k=108 then 229 else k) (λk hk=>(ab zO).trans (ab zO)) ?_ zS cX ah ax ?_;focus (simp [ren,aT,aw,aA];done))|(refine az (gv bx 1048576) G0F (B:=200) ⟨zS,ah,bF⟩ (λk=>if k=100 then 230 else if k=108 then 231 else k) (λk hk=>(ab zO).trans (ab zO)) ?_ zS cX ah ax ?_;focus (simp [ren,aT,aw,aA];done))|(refine az (gv tp 65536) G0F (B:=200) ⟨zS,ah,bF⟩ (λk=>if k=100 then 232 else if k=108 then 233 else k) (λk hk=>(ab zO).trans (ab zO)) ?_ zS cX ah ax ?_;focus (simp [ren,aT,aw,aA];done)));refine cQ hQ ?_)|fail
      exact eS results63
     | true =>
      cases c5:wiB nr 1 (Int.bmod (2*bx) 18446744073709551616) with
      | false =>
       have e:kx n f g bx tp nr md=⟨#[110,101,97,114]⟩:=by unfold kx;simp only [c0,c1,c2,c3,c4,c5,fg,aU,bY,reduceCtorEq]
       rw [e]
       repeat' first|refine cH ?_|refine dc ?_|refine cM ?_|((first|refine gwR [115,117,120] ?_|refine gwD [115,117,120] ?_);intro Q hQ _;(repeat first|simp [hC,hY,f0,f1,f2,f3,f4,f5,c0,c1,c2,c3,c4,c5,cnB]|(refine az (gv n 4) G0F (B:=200) ⟨zS,ah,bF⟩ (λk=>if k=100 then 226 else if k=108 then 227 else k) (λk hk=>(ab zO).trans (ab zO)) ?_ zS cX ah ax ?_;focus (simp [ren,aT,aw,aA];done))|(refine az (x5 b off n cap f h g bx tp nr md) G0F (B:=200) (tg h.fx off n cap g bx tp nr md) (λk=>if k=108 then 225 else k) (λk hk=>ab zO) ?_ zS kB kF kL ?_;focus (simp [ren,aT,aw,aA];done))|(refine az (gv g 1048576) G0F (B:=200) ⟨zS,ah,bF⟩ (λk=>if k=100 then 228 else if k=108 then 229 else k) (λk hk=>(ab zO).trans (ab zO)) ?_ zS cX ah ax ?_;focus (simp [ren,aT,aw,aA];done))|(refine az (gv bx 1048576) G0F (B:=200) ⟨zS,ah,bF⟩ (λk=>if k=100 then 230 else if k=108 then 231 else k) (λk hk=>(ab zO).trans (ab zO)) ?_ zS cX ah ax ?_;focus (simp [ren,aT,aw,aA];done))|(refine az (gv tp 65536) G0F (B:=200) ⟨zS,ah,bF⟩ (λk=>if k=100 then 232 else if k=108 then 233 else k) (λk hk=>(ab zO).trans (ab zO)) ?_ zS cX ah ax ?_;focus (simp [ren,aT,aw,aA];done))|(refine az (gv nr (Int.bmod (2*bx) 18446744073709551616)) G0F (B:=200) ⟨zS,ah,bF⟩ (λk=>if k=100 then 234 else if k=108 then 235 else k) (λk hk=>(ab zO).trans (ab zO)) ?_ zS cX ah ax ?_;focus (simp [ren,aT,aw,aA];done)));refine cQ hQ ?_)|fail
       exact eS results63
      | true =>
       cases c6:wiB md 0 4 with
       | false =>
        have e:kx n f g bx tp nr md=⟨#[109,101,116,104,111,100]⟩:=Cy;exact FE
       | true =>
        have e:kx n f g bx tp nr md=⟨#[]⟩:=Cy;exact FE
def eQ (n:Nat) (f:aS) (g bx tp nr md:Int):Bool:=wiB n 1 4&&(yx f n&&(wiB g 1 1048576&&(wiB bx 1 1048576&&(wiB tp 1 65536&&(wiB nr 1 (Int.bmod (2*bx) 18446744073709551616)&&(wiB md 0 4))))))
end Go.Gy
namespace Go.Gy
open Go Go.RowKit Go.Proofs Go.Proofs.Tryz
theorem cY {p:Prop} (h:p:=by simp [ren,aT,aw,aA,cfV]):p:=h
theorem Gc {p:Prop} (h:p:=by
 rw [hc] at df;unfold cfV
 repeat' first|refine cM ?_|((first|refine gwR [63] ?_|refine gwD [63] ?_);intro Q hQ _;(repeat first|simp [hC,hY,df]|refine az (adQ b off n cap f h g bx tp nr md) G0F (B:=200) (aH h.fx) (λk=>k) (λk hk=>rfl) cY zS cj ah ax ?_);refine cQ hQ ?_)|fail
 exact eS results43):p:=h
abbrev km := @Bool.eq_false_or_eq_true
abbrev kh := @Bool.false_and
abbrev iw := @Bool.true_and
def Nf:Value->Bool
 | .string _=>true
 | _=>false
def U3:Value->ByteArray
 | .string s=>s
 | _=>⟨#[]⟩
def Zn (a b:ByteArray):Bool:=!(a.toList==b.toList)
@[simp] theorem ao8 (s:ByteArray):Nf (.string s)=true:=rfl
@[simp] theorem aio (s:ByteArray):U3 (.string s)=s:=rfl
theorem Ng {v:Value} (h:Nf v=true):v=.string (U3 v):=by
 unfold Nf at h;split at h
 ·rfl
 ·cases h
@[simp] theorem akJ (P:Program) (op:BinOp) (T:TypeId) (a b:ByteArray):vc P op T (.string a) (.string b)=none:=by cases op<;>rfl
@[simp] theorem afF {dst:Option Tmp} {x y:Operand} {T:TypeId} {ps:String} {af:Array Edge} {g:Option (Nat×Bool)} {ts:eM} {hp:Hp} {C:Eff->Prop} (h:Nf (gev ts x)=true) (h2:Nf (gev ts y)=true) (hx:okX ts hp x) (hy:okX ts hp y) :
  Pb prog none ⟨dst,.binOp .neq 9 x y 9,T,ps,af,g⟩ ts hp C↔C (val (.bool (Zn (U3 (gev ts x)) (U3 (gev ts y)))) []):=by
 have e1:=Ng h;have e2:=Ng h2;refine Bj (K:=λv=>C (val v [])) ?_ rfl λW=>?_
 ·intro z hz;simp [Op.operands] at hz;rcases hz with rfl|rfl
  ·exact ⟨hx,by rw [e1];rfl⟩
  ·exact ⟨hy,by rw [e2];rfl⟩
 ·generalize U3 (gev ts x)=a at e1 |-;generalize U3 (gev ts y)=b at e2 |-;have hg:(eqGuard .neq 9 x y (.string a) (.string b)).run prog W=.ok () W:=rC;simp only [execOp,e1,e2,aY,hg,bD,binOp,Op.stringOp,cx,aio];simp [Zn]
theorem OF (n:Nat) (f:aS) (g bx tp nr md:Int):Zn (kx n f g bx tp nr md) ⟨#[]⟩=!(eQ n f g bx tp nr md):=by
 unfold kx eQ Zn;rcases km (wiB n 1 4) with c|c<;>simp only [c,kh,iw,aU,fg,bY,jo]<;>try decide +kernel
 rcases km (yx f n) with c|c<;>simp only [c,kh,iw,aU,fg,bY,jo]<;>try decide +kernel
 rcases km (wiB g 1 1048576) with c|c<;>simp only [c,kh,iw,aU,fg,bY,jo]<;>try decide +kernel
 rcases km (wiB bx 1 1048576) with c|c<;>simp only [c,kh,iw,aU,fg,bY,jo]<;>try decide +kernel
 rcases km (wiB tp 1 65536) with c|c<;>simp only [c,kh,iw,aU,fg,bY,jo]<;>try decide +kernel
 rcases km (wiB nr 1 (Int.bmod (2*bx) 18446744073709551616)) with c|c<;>simp only [c,kh,iw,aU,fg,bY,jo]<;>try decide +kernel
 rcases km (wiB md 0 4) with c|c<;>simp only [c,kh,iw,aU,fg,bY,jo]<;>try decide +kernel
theorem AV (b:Blk) (off n cap:Nat) (f:aS) (h:MB b off n f) (g bx tp nr md:Int) :
  Fun prog G0 43 #[cfV (.slice (some ⟨100,off,none⟩) n cap) g bx tp nr md] (hpL G0 [(100,b)]) (ak [(100,b)]) (.ret (.int .i64 (if eQ n f g bx tp nr md=true then 0 else 110)) []):=by
 refine de (B:=200) G0F func43 rfl call43 (aH h.fx) ?_ zS zS zS (by simp [ntmps43]) zO ?_
 ·exact mu
 intro C hC bQ hY;have hr:=λρ=>Blk.fx_rn h.fx ρ;have df:=OF n f g bx tp nr md
 cases hc:eQ n f g bx tp nr md with
 | true =>
  exact Gc
 | false =>
  exact Gc
theorem q9 {p:Prop} (h:p:=by simpa using JX):p:=h
theorem iV {p:Prop} (h:p:=by simp [hrm,hA]):p:=h
theorem jw {p:Prop} (h:p:=by simp [Gz,hS,df,mY]):p:=h
theorem dE {p:Prop} (h:p:=by
 simp [aN,cp,aL,aR,hT.ia,hT.ib,cfV]):p:=h
def pX (n n2:Nat) (okc rt:Bool):Bool:=decide (n=n2)&&(okc&&rt)
theorem RX (L:bS) (ks:Nat) (bm bs:Blk) (hT:LTwo G0 L ks bm bs) (off n cap ao n2 av:Nat) (fm fs:aS) (hm:MB bm off n fm) (cf:SB bs ao n2 fs) (g bx tp nr md st:Int) (hs:i64 st) :
  Fun prog G0 29 #[cfV (.slice (some ⟨100,off,none⟩) n cap) g bx tp nr md,.agg #[.int .i64 st,.slice (some ⟨ks,ao,none⟩) n2 av]] (hpL G0 L) (ak L) (.ret (.bool (pX n n2 (eQ n fm g bx tp nr md) (aV st fs n2))) []):=by
 refine de (B:=200) G0F func29 rfl call29 hT.ok ?_ zS zS zS (by simp [ntmps29]) zO ?_
 ·exact dE
 intro C hC bQ hY;have hA:=hT.a;have hS:=hT.s;have df:=hT.ne;have jW:=hT.low;have mY:=hT.k1;have nA:=hT.k2;have hrm:=λρ=>Blk.fx_rn hm.fx ρ;have Gz:=λρ=>Blk.fx_rn cf.fx ρ;have mW:=AV bm off n cap fm hm g bx tp nr md;have I0:=iN bs ao n2 av fs cf st hs;unfold pX;unfold cfV at mW |-;by_cases hn:n=n2
 ·have JX:(n:Int)=(n2:Int):=zO;have PT:((n:Int)==(n2:Int))=true:=q9;rw [bZ hn]
  cases hc:eQ n fm g bx tp nr md with
  | false =>
   rw [hc] at mW
   repeat' first|refine cM ?_|((first|refine gwR [43,44] ?_|refine gwD [43,44] ?_);intro Q hQ _;(repeat first|simp [hC,hY,hA,hS,df,JX,PT]|refine az mW G0F (B:=200) (aH hm.fx) (λk=>k) (λk hk=>rfl) cY zS iV ah ax ?_);refine cQ hQ ?_)|fail
   exact eT results29
  | true =>
   rw [hc] at mW
   repeat' first|refine cM ?_|((first|refine gwR [43,44] ?_|refine gwD [43,44] ?_);intro Q hQ _;(repeat first|simp [hC,hY,hA,hS,df,JX,PT]|refine az mW G0F (B:=200) (aH hm.fx) (λk=>k) (λk hk=>rfl) cY zS iV ah ax ?_|refine az I0 G0F (B:=200) (aH cf.fx) (λk=>if k=100 then ks else k) (λk hk=>ab zO) ay zS jw ah ax ?_);refine cQ hQ ?_)|fail
   exact eT results29
 ·have JX:¬(n:Int)=(n2:Int):=zO;have PT:((n:Int)==(n2:Int))=false:=q9;rw [aX hn];refine dy (k5 hA hS df JX PT) ?_;exact eT results29
end Go.Gy
namespace Go.Gy
open Go Go.RowKit Go.Proofs
def plo (N s:Int):Int:=isq (N / s)
def phi (N s:Int):Int:=if plo N s*plo N s*s=N then plo N s else plo N s+1
theorem Aw {a b:Int} (h0:0<=a) (h:a<=b):a*a<=b*b:=cU h h h0 zO
theorem Ir {N s:Int} (hN:0<=N) (hs:0<s):0<=plo N s/\plo N s*plo N s*s<=N/\N<(plo N s+1)*(plo N s+1)*s:=by
 have hq:0<=N / s:=gQ hN zO;obtain ⟨r0,r1,r2⟩:=sU (N / s) hq;have h1:=fy N s;have h2:=cy N (b:=s) zO;have h3:=cE N hs;unfold plo;generalize isq (N / s)=r at *
 generalize N / s=q at *
 refine ⟨r0,?_,?_⟩
 ·have:r*r*s<=q*s:=gM r1 zO;rw [cF q s] at this;omega
 ·have h4:(q+1)*s<=(r+1)*(r+1)*s:=gM zO zO;rw [fV,cF q s] at h4;omega
theorem ahS {N s h:Int} (hN:0<=N) (hs:0<s) (hh:0<=h):N<=h*h*s↔phi N s<=h:=by
 obtain ⟨r0,r1,r2⟩:=Ir hN hs;unfold phi;constructor
 ·intro h1;split
  ·rename_i e;refine aO λc=>?_;have h2:=Aw (a:=h+1) (b:=plo N s) zO zO
   have h3:h*h<plo N s*plo N s:=by
    have:(h+1)*(h+1)=h*h+2*h+1:=by rw [fV,fh];omega
    omega
   have h4:=uB h3 hs;omega
  ·rename_i e;refine aO λc=>?_;have h2:=Aw (a:=h) (b:=plo N s) hh zO;have h3:=gM h2 (zO:0<=s);omega
 ·intro h1;split at h1
  ·rename_i e;have h2:=Aw r0 h1;have h3:=gM h2 (zO:0<=s);omega
  ·have h2:=Aw (a:=plo N s+1) (b:=h) zO h1;have h3:=gM h2 (zO:0<=s);omega
theorem ahT {N s:Int} (hN:0<=N) (hs:0<s):0<=phi N s:=by
 obtain ⟨r0,_,_⟩:=Ir hN hs;unfold phi;split<;>omega
structure EIn (g m w q:Int):Prop where
 g0:1<=g
 g1:g<=1048576
 m0:1<=m
 m1:m<=1024
 w0:1<=w
 w1:w<=1024
 q0:0<=q
 q1:q<=13194139533312
def enA (g m w:Int):Int:=g*m*w*1048576
def KY (g m w q:Int):Int:=plo (enA g m w*enA g m w) q
def abn (g m w q:Int):Int:=phi (enA g m w*enA g m w) q
theorem amP {a b p q:Int} (h1:1<=a) (h2:a<=p) (h3:1<=b) (h4:b<=q):1<=a*b/\a*b<=p*q:=by
 constructor
 ·have:=cU (a:=1) (b:=1) (c:=a) (d:=b) h1 h3 zO zO;omega
 ·exact cU h2 h4 zO zO
theorem EIn.gm {g m w q:Int} (h:EIn g m w q):1<=g*m/\g*m<=1073741824:=amP h.g0 h.g1 h.m0 h.m1
theorem EIn.gmw {g m w q:Int} (h:EIn g m w q):1<=g*m*w/\g*m*w<=1099511627776:=amP h.gm.1 h.gm.2 h.w0 h.w1
theorem EIn.a {g m w q:Int} (h:EIn g m w q):1048576<=enA g m w/\enA g m w<=1152921504606846976:=by
 have:=h.gmw;unfold enA;omega
theorem EIn.aa {g m w q:Int} (h:EIn g m w q):0<=enA g m w*enA g m w/\enA g m w*enA g m w<=1329227995784915872903807060280344576:=by
 have h1:=h.a;exact ⟨cz zO zO,cU h1.2 h1.2 zO zO⟩
theorem WZ (g m w q:Int):abn g m w q=if KY g m w q*KY g m w q*q=enA g m w*enA g m w then KY g m w q else KY g m w q+1:=rfl
theorem EIn.holds {g m w q:Int} (h:EIn g m w q) (hq:0<q):KY g m w q*KY g m w q*q<=enA g m w*enA g m w/\enA g m w*enA g m w<=abn g m w q*abn g m w q*q/\(KY g m w q=abn g m w q↔KY g m w q*KY g m w q*q=enA g m w*enA g m w):=by
 refine ⟨(Ir h.aa.1 hq).2.1,(ahS h.aa.1 hq (ahT h.aa.1 hq)).2 (qD _),?_⟩;rw [WZ];split
 ·rename_i e;exact ⟨λ_=>e,λ_=>rfl⟩
 ·rename_i e;exact ⟨λh=>absurd h zO,λh=>absurd h e⟩
end Go.Gy
namespace Go.Gy
open Go Go.RowKit Go.Proofs Go.Proofs.Tryz
abbrev u7 := @Int.natAbs_mul
theorem Zw (x y:Int):Ret prog G0 186 #[.int .i64 x,.int .i64 y] (.int .i64 (Int.bmod (x - y) 18446744073709551616)):=by
 refine ck G0F func186 rfl call186 zS zS (by simp [ntmps186]) ?_;intro C hC bQ hY;refine fO ?_;exact eR results186
@[simp] theorem anR (x y:Int) (K:iQ):cu prog G0 186 #[.int .i64 x,.int .i64 y] K↔K (.int .i64 (Int.bmod (x - y) 18446744073709551616)):=aP G0W ae (Zw x y)
def ik (a b:Int):Int:=a - b
theorem ak8 {a b:Int} (h1:fnI a) (h2:fnI b):Int.bmod (a - b) 18446744073709551616=a - b:=by
 obtain ⟨h1,h3⟩:=h1;obtain ⟨h2,h4⟩:=h2;exact bm zO zO
theorem SK (a0 a1 a2 b0 b1 b2:Int):Ret prog G0 165 #[.agg #[.int .i64 a0,.int .i64 a1,.int .i64 a2],.agg #[.int .i64 b0,.int .i64 b1,.int .i64 b2]]
  (.tuple #[.agg #[.int .i64 (eaV (eaE ik a0 a1 a2 b0 b1 b2) (ik a0 b0)),.int .i64 (eaV (eaE ik a0 a1 a2 b0 b1 b2) (ik a1 b1)),.int .i64 (eaV (eaE ik a0 a1 a2 b0 b1 b2) (ik a2 b2))],.int .i64 (eaE ik a0 a1 a2 b0 b1 b2)]):=by
 refine ck G0F func165 rfl call165 zS zS (by simp [ntmps165]) ?_;intro C hC bQ hY;have he:=λK=>afr 186 ik (λx y K hx hy=>by rw [anR,ak8 hx hy];rfl) a0 a1 a2 b0 b1 b2 K;refine dy he ?_;exact eR results165
@[simp] theorem axZ (a0 a1 a2 b0 b1 b2:Int) (K:iQ):cu prog G0 165 #[.agg #[.int .i64 a0,.int .i64 a1,.int .i64 a2],.agg #[.int .i64 b0,.int .i64 b1,.int .i64 b2]] K ↔
  K (.tuple #[.agg #[.int .i64 (eaV (eaE ik a0 a1 a2 b0 b1 b2) (ik a0 b0)),.int .i64 (eaV (eaE ik a0 a1 a2 b0 b1 b2) (ik a1 b1)),.int .i64 (eaV (eaE ik a0 a1 a2 b0 b1 b2) (ik a2 b2))],.int .i64 (eaE ik a0 a1 a2 b0 b1 b2)]):=aP G0W ae (SK a0 a1 a2 b0 b1 b2)
def dtE (a0 a1 a2 b0 b1 b2:Int):Int:=if (fnI a0/\fnI a1/\fnI a2)/\fnI b0/\fnI b1/\fnI b2 then 0 else 20
def dtV (a0 a1 a2 b0 b1 b2:Int):Int:=if (fnI a0/\fnI a1/\fnI a2)/\fnI b0/\fnI b1/\fnI b2 then a0*b0+a1*b1+a2*b2 else 0
theorem PB {a b:Int} (h1:fnI a) (h2:fnI b):-288230376151711744<=a*b/\a*b<=288230376151711744:=by
 obtain ⟨h1,h3⟩:=h1;obtain ⟨h2,h4⟩:=h2
 have h5:(a*b).natAbs<=536870912*536870912:=by
  rw [u7];exact j0 zO zO
 omega
def dtS (a0 a1 a2 b0 b1 b2:Int):Nat->Int
 | 0=>0
 | 1=>a0*b0
 | 2=>a0*b0+a1*b1
 | _=>a0*b0+a1*b1+a2*b2
def dtL (a0 a1 a2 b0 b1 b2:Int) (i:Nat):List (Nat×Blk):=[(200,⟨#[.int .i64 a0,.int .i64 a1,.int .i64 a2],.ty 48⟩),(208,⟨#[.int .i64 b0,.int .i64 b1,.int .i64 b2],.ty 48⟩),(216,jb (dtS a0 a1 a2 b0 b1 b2 i))]
theorem abk (a0 a1 a2 b0 b1 b2:Int):Ret prog G0 166 #[.agg #[.int .i64 a0,.int .i64 a1,.int .i64 a2],.agg #[.int .i64 b0,.int .i64 b1,.int .i64 b2]]
  (.tuple #[.int .i64 (dtV a0 a1 a2 b0 b1 b2),.int .i64 (dtE a0 a1 a2 b0 b1 b2)]):=by
 refine ck G0F func166 rfl call166 zS zS (by simp [ntmps166]) ?_;intro C hC bQ hY;obtain ⟨v,hv⟩:∃ v:Bool,v=true↔(fnI a0/\fnI a1/\fnI a2)/\fnI b0/\fnI b1/\fnI b2:=⟨decide _,decide_eq_true_iff⟩
 cases v with
 | false =>
  have e:dtE a0 a1 a2 b0 b1 b2=20:=by unfold dtE;rw [ab];intro h;exact absurd (hv.2 h) zS
  have e2:dtV a0 a1 a2 b0 b1 b2=0:=by unfold dtV;rw [ab];intro h;exact absurd (hv.2 h) zS
  rw [e,e2]
  repeat' first|refine cM ?_|((first|refine gwR [122] ?_|refine gwD [122] ?_);intro Q hQ _;(repeat first|simp [hC,hY]|refine az (x6 a0 a1 a2 b0 b1 b2 _ hv) G0F (B:=200) ⟨zS,ah,kN⟩ (λk=>if k=100 then 248 else k) (λk hk=>ab zO) ay zS kO ah ax ?_);refine cQ hQ ?_)|fail
  exact eR results166
 | true =>
  have e:dtE a0 a1 a2 b0 b1 b2=0:=by unfold dtE;rw [ai];exact hv.1 rfl
  have e2:dtV a0 a1 a2 b0 b1 b2=a0*b0+a1*b1+a2*b2:=by unfold dtV;rw [ai];exact hv.1 rfl
  rw [e,e2]
  repeat' first|refine cM ?_|((first|refine gwR [122,74] ?_|refine gwD [122,74] ?_);intro Q hQ _;(repeat first|simp [hC,hY]|(first|(refine az (x6 a0 a1 a2 b0 b1 b2 _ hv) G0F (B:=200) ⟨zS,ah,kN⟩ (λk=>if k=100 then 248 else k) (λk hk=>ab zO) ay zS kO ah ax ?_)|refine eX (tQ 280 288 1 1 #[.int .i64 a0,.int .i64 a1,.int .i64 a2] zS zO zO zO zO) zS (λk hk=>cD zS hk) rU ?_));refine cQ hQ ?_)|fail
  obtain ⟨⟨f0,f1,f2⟩,g0,g1,g2⟩:=hv.1 rfl;have m0:=PB f0 g0;have m1:=PB f1 g1;have m2:=PB f2 g2;have s0:Int.bmod (a0*b0) 18446744073709551616=a0*b0:=bm zO zO;have s1:Int.bmod (a1*b1) 18446744073709551616=a1*b1:=bm zO zO;have s2:Int.bmod (a2*b2) 18446744073709551616=a2*b2:=bm zO zO;have s3:Int.bmod (a0*b0+a1*b1) 18446744073709551616=a0*b0+a1*b1:=bm zO zO;have s4:Int.bmod (a0*b0+a1*b1+a2*b2) 18446744073709551616=a0*b0+a1*b1+a2*b2:=bm zO zO;refine td (G:=G0) (f:=103) (rs:=[288,280]) (xs:=xsV 3 (vf a0 a1 a2)) (bh:=#[.pointer (some ⟨288,0,none⟩)]) (m0:=[]) [288,280] G0F hC bQ hY zS ?_ gW (by simp [ntmps166]) [(2,.pointer (some ⟨200,0,none⟩)),(3,.pointer (some ⟨208,0,none⟩)),(4,.pointer (some ⟨216,0,none⟩)),(5,.int .i64 0)] [] (dtL a0 a1 a2 b0 b1 b2) 400 3 gW zO zS fY ?_ zS zS (by simp [dtL,dtS,jb]) ?_ zS ?_ ?_
  ·refine pK (m:=tG a0 a1 a2) (B:=200) (qZ a0 a1 a2) G0F ⟨by simp [tG],kM,wx⟩ (λk=>if k=100 then 288 else if k=108 then 280 else k) (λk hk=>?_) ga kM bn ?_ ?_
   ·exact fG
   ·simp [tG,Blk.rn,aw,aA]
   ·exact kM
  ·exact EE
  ·intro i hi;simp [dtL,jb,aN,cp,aL,aR,dom,aF]
  ·intro i x hi hx C1 l sR vl qS;rw [Bu _ _ _ zO] at hx;simp only [bg] at hx;subst hx;clear hC hY;have hC:=sR;have hY:=qS;have:i=0\/i=1\/i=2:=zO;rcases this with rfl|rfl|rfl
   all_goals
    simp only [vf];unfold dtL
   all_goals
    repeat' first|refine cM ?_|(refine g6 ?_;intro Q hQ _;simp [hC,hY,bC,dtS,jb];refine cQ hQ ?_)|fail
   all_goals
    intro C2 oY Gx oZ;clear hC hY;have hC:=oY;have hY:=oZ
    repeat' first|refine cM ?_|(refine g6 ?_;intro Q hQ _;simp [hC,hY,bC,s0,s1,s2,s3,s4,dtS,jb];refine cQ hQ ?_)|fail
   all_goals simp [dtS,jb,s0,s1,s2,s3,s4]
  ·left
   refine ⟨gW,?_⟩;unfold dtL
   repeat' first|refine cM ?_|(refine g6 ?_;intro Q hQ _;simp [hC,hY,eW,bq,bw,dtS,jb];refine cQ hQ ?_)|fail
   exact eR results166
@[simp] theorem axY (a0 a1 a2 b0 b1 b2:Int) (K:iQ):cu prog G0 166 #[.agg #[.int .i64 a0,.int .i64 a1,.int .i64 a2],.agg #[.int .i64 b0,.int .i64 b1,.int .i64 b2]] K↔K (.tuple #[.int .i64 (dtV a0 a1 a2 b0 b1 b2),.int .i64 (dtE a0 a1 a2 b0 b1 b2)]):=aP G0W ae (abk a0 a1 a2 b0 b1 b2)
def f2E (a0 a1 a2 b0 b1 b2:Int):Int:=eaE ik a0 a1 a2 b0 b1 b2
def f2V (a0 a1 a2 b0 b1 b2:Int):Int:=if f2E a0 a1 a2 b0 b1 b2=0 then (a0 - b0)*(a0 - b0)+(a1 - b1)*(a1 - b1)+(a2 - b2)*(a2 - b2) else 0
theorem W6 (a0 a1 a2 b0 b1 b2:Int):Ret prog G0 147 #[.agg #[.int .i64 a0,.int .i64 a1,.int .i64 a2],.agg #[.int .i64 b0,.int .i64 b1,.int .i64 b2]]
  (.tuple #[.int .i64 (f2V a0 a1 a2 b0 b1 b2),.int .i64 (f2E a0 a1 a2 b0 b1 b2)]):=by
 refine ck G0F func147 rfl call147 zS zS (by simp [ntmps147]) ?_;intro C hC bQ hY;have eV0:∀ z,eaV 0 z=z:=λz=>by simp [eaV]
 by_cases h:((fnI a0/\fnI a1/\fnI a2)/\fnI b0/\fnI b1/\fnI b2)/\fnI (ik a0 b0)/\fnI (ik a1 b1)/\fnI (ik a2 b2)
 ·have he:eaE ik a0 a1 a2 b0 b1 b2=0:=by unfold eaE;rw [ai h]
  have hd:dtE (ik a0 b0) (ik a1 b1) (ik a2 b2) (ik a0 b0) (ik a1 b1) (ik a2 b2)=0:=by unfold dtE;rw [ai ⟨h.2,h.2⟩]
  have hv:dtV (ik a0 b0) (ik a1 b1) (ik a2 b2) (ik a0 b0) (ik a1 b1) (ik a2 b2)=f2V a0 a1 a2 b0 b1 b2:=by unfold dtV f2V f2E;rw [ai ⟨h.2,h.2⟩,he,ai rfl];rfl
  have hF:f2E a0 a1 a2 b0 b1 b2=0:=he;rw [hF];refine dy (k4 he eV0 hd hv) ?_;exact eR results147
 ·have he:eaE ik a0 a1 a2 b0 b1 b2=20:=by unfold eaE;rw [ab h]
  have hF:f2E a0 a1 a2 b0 b1 b2=20:=he;have hv:f2V a0 a1 a2 b0 b1 b2=0:=by unfold f2V;rw [hF,ab zO]
  rw [hF,hv];refine dy he ?_;exact eR results147
@[simp] theorem auO (a0 a1 a2 b0 b1 b2:Int) (K:iQ):cu prog G0 147 #[.agg #[.int .i64 a0,.int .i64 a1,.int .i64 a2],.agg #[.int .i64 b0,.int .i64 b1,.int .i64 b2]] K↔K (.tuple #[.int .i64 (f2V a0 a1 a2 b0 b1 b2),.int .i64 (f2E a0 a1 a2 b0 b1 b2)]):=aP G0W ae (W6 a0 a1 a2 b0 b1 b2)
theorem SB.vec {b:Blk} {off n:Nat} {f:aS} (h:SB b off n f) {i:Nat} (hi:i<n) {u:Nat} (hu:u+3<=6):ft prog 48 b (off+i*6+u)=some (.agg #[.int .i64 (f (6*i+u)),.int .i64 (f (6*i+u+1)),.int .i64 (f (6*i+u+2))]):=by
 have abD:=Blk.fx_rd h.fx;have:=sY (P:=prog) (T:=48) (m:=3) (j:=6*i+u) (cO isAgg48) (aZ sizeOf48) zO h.rd zO;rw [(zO:off+i*6+u=off+(6*i+u)),this,MG]
 rfl
theorem FC {p:Prop} (h:p:=by
 rw [hw];unfold OE cfB;refine dy (k6 h4 hg hx ht hn hd) ?_;exact eS results50):p:=h
theorem Gk {p:Prop} (h:p:=by
 rw [hc] at df
 repeat' first|refine cM ?_|((first|refine gwR [50] ?_|refine gwD [50] ?_);intro Q hQ _;(repeat first|simp [hC,hY,df]|refine az (Vd b off n cap f h g bx tp nr md) G0F (B:=200) (aH h.fx) (λk=>k) (λk hk=>rfl) cY zS cj ah ax ?_);refine cQ hQ ?_)|fail
 exact eS results32):p:=h
theorem adI (n lo hi:Int):Ret prog G0 71 #[.int .i64 n,.int .i64 lo,.int .i64 hi] (.bool (wiB n lo hi)):=by
 refine ck G0F func71 rfl call71 rfl zS (by simp [ntmps71]) ?_;intro C hC bQ hY;unfold wiB;by_cases c0:lo<=n
 ·by_cases c1:n<=hi
  ·rw [bZ ⟨c0,c1⟩]
   (repeat' (first|refine cM ?_|(refine g6 ?_;intro Q hQ _;simp [hC,hY,c0,c1];refine cQ hQ ?_)|refine gwC ?_ ?_<;>intro hb))
   exact eR results71
  ·rw [aX zO]
   (repeat' (first|refine cM ?_|(refine g6 ?_;intro Q hQ _;simp [hC,hY,c0,c1];refine cQ hQ ?_)|refine gwC ?_ ?_<;>intro hb))
   exact eR results71
 ·rw [aX zO]
  (repeat' (first|refine cM ?_|(refine g6 ?_;intro Q hQ _;simp [hC,hY,c0];refine cQ hQ ?_)|refine gwC ?_ ?_<;>intro hb))
  exact eR results71
@[simp] theorem w11 (n lo hi:Int) (K:iQ):cu prog G0 71 #[.int .i64 n,.int .i64 lo,.int .i64 hi] K↔K (.bool (wiB n lo hi)):=aP G0W ae (adI n lo hi)
def OE (b:Blk) (off n cap:Nat) (g bx tp nr md:Int) (i:Nat):GS :=
 ⟨tsL [(1,.pointer (some ⟨200,0,none⟩)),(3,.int .i64 i)],hpL G0 [(100,b),(200,cfB (.slice (some ⟨100,off,none⟩) n cap) g bx tp nr md)],400,0⟩
theorem Mk {f:aS} {n:Nat}:yx f n=true↔∀ i,i<n->wiB (f i) 1 1024=true:=by simp [yx]
theorem Vd (b:Blk) (off n cap:Nat) (f:aS) (h:MB b off n f) (g bx tp nr md:Int) :
  Fun prog G0 50 #[cfV (.slice (some ⟨100,off,none⟩) n cap) g bx tp nr md] (hpL G0 [(100,b)]) (ak [(100,b)]) (.ret (.string (kx n f g bx tp nr md)) []):=by
 refine de (B:=200) G0F func50 rfl call50 (aH h.fx) ?_ iT zS zS (by simp [ntmps50]) zO ?_
 ·exact mu
 intro C hC bQ hY;have iZ:=λD=>Blk.fx_ids h.fx D;unfold cfV
 cases h4:wiB n 1 4 with
 | false =>
  have hw:kx n f g bx tp nr md=⟨#[98,111,100,105,101,115]⟩:=by simp [kx,h4]
  rw [hw];refine dy h4 ?_;exact eS results50
 | true =>
  obtain ⟨N,hN,cA,cm⟩:=H4 (λi=>wiB (f i) 1 1024) n;refine dy h4 ?_;refine jQ N (OE b off n cap g bx tp nr md) ?_ ?_ ?_
  ·refine dv _ 400 hC G0F (m0:=[(100,b)]) bQ zO ?_ ?_ ?_
   ·exact gb
   ·simp [cfB,aF,aL,aR,iZ,dom]
   ·simp
  ·intro i hi;have cv:(i:Int)<n:=zO;have hz:(0:Int)<=i:=zO;have Vx:=h.nn;have hs:Int.bmod ((i:Int)+1) 18446744073709551616=((i+1:Nat):Int):=fE;have uk:=h.at (i:=i) zO;have hw:=cA i hi;unfold OE cfB;refine dy (k5 cv hz hs uk hw) ?_;refine dv _ 400 hC G0F (m0:=[(100,b)]) bQ zO ?_ ?_ ?_
   ·exact jz
   ·simp [cfB,aF,aL,aR,iZ,dom]
   ·simp
  ·by_cases pY:N=n
   ·have hNs:=pY.symm;subst hNs;have hm:yx f n=true:=Mk.2 cA
    cases hg:wiB g 1 1048576 with
    | false =>
     have hw:kx n f g bx tp nr md=⟨#[99,111,110,115,116,97,110,116]⟩:=by simp [kx,h4,hm,hg]
     rw [hw];unfold OE cfB;refine dy (k2 h4 hg) ?_;exact eS results50
    | true =>
     cases hx:wiB bx 1 1048576 with
     | false =>
      have hw:kx n f g bx tp nr md=⟨#[98,111,120]⟩:=by simp [kx,h4,hm,hg,hx]
      rw [hw];unfold OE cfB;refine dy (k3 h4 hg hx) ?_;exact eS results50
     | true =>
      cases ht:wiB tp 1 65536 with
      | false =>
       have hw:kx n f g bx tp nr md=⟨#[116,111,112]⟩:=by simp [kx,h4,hm,hg,hx,ht]
       rw [hw];unfold OE cfB;refine dy (k4 h4 hg hx ht) ?_;exact eS results50
      | true =>
       cases hn:wiB nr 1 (Int.bmod (2*bx) 18446744073709551616) with
       | false =>
        have hw:kx n f g bx tp nr md=⟨#[110,101,97,114]⟩:=by simp [kx,h4,hm,hg,hx,ht,hn]
        rw [hw];unfold OE cfB;refine dy (k5 h4 hg hx ht hn) ?_;exact eS results50
       | true =>
        cases hd:wiB md 0 4 with
        | false =>
         have hw:kx n f g bx tp nr md=⟨#[109,101,116,104,111,100]⟩:=by simp [kx,h4,hm,hg,hx,ht,hn,hd]
         exact FC
        | true =>
         have hw:kx n f g bx tp nr md=⟨#[]⟩:=by simp [kx,h4,hm,hg,hx,ht,hn,hd]
         exact FC
   ·have Xp:N<n:=zO;have cm:=cm.resolve_left pY
    have hm:yx f n=false:=by
     cases hm:yx f n with
     | false=>rfl
     | true=>have:=Mk.1 hm N Xp;rw [cm] at this;cases this
    have hw:kx n f g bx tp nr md=⟨#[109,97,115,115]⟩:=by simp [kx,h4,hm]
    rw [hw];have cv:(N:Int)<n:=zO;have hz:(0:Int)<=N:=zO;have uk:=h.at (i:=N) zO;unfold OE cfB;refine dy (k4 cv hz uk cm) ?_;exact eS results50
theorem x4 (b:Blk) (off n cap:Nat) (f:aS) (h:MB b off n f) (g bx tp nr md:Int) :
  Fun prog G0 32 #[cfV (.slice (some ⟨100,off,none⟩) n cap) g bx tp nr md] (hpL G0 [(100,b)]) (ak [(100,b)]) (.ret (.int .i64 (if eQ n f g bx tp nr md=true then 0 else 110)) []):=by
 refine de (B:=200) G0F func32 rfl call32 (aH h.fx) ?_ zS zS zS (by simp [ntmps32]) zO ?_
 ·exact mu
 intro C hC bQ hY;have hr:=λρ=>Blk.fx_rn h.fx ρ;have df:=OF n f g bx tp nr md;unfold cfV
 cases hc:eQ n f g bx tp nr md with
 | true =>
  exact Gk
 | false =>
  exact Gk
theorem Ve (g bx tp nr md:Int):Ret prog G0 50 #[.agg #[.slice none 0 0,.int .i64 g,.int .i64 bx,.int .i64 tp,.int .i64 nr,.int .i64 md]] (.string ⟨#[98,111,100,105,101,115]⟩):=by
 refine ck G0F func50 rfl call50 zS zS (by simp [ntmps50]) ?_;intro C hC bQ hY;have h4:wiB 0 1 4=false:=zD;refine dy h4 ?_;exact eR results50
@[simp] theorem asN (g bx tp nr md:Int) (K:iQ):cu prog G0 50 #[.agg #[.slice none 0 0,.int .i64 g,.int .i64 bx,.int .i64 tp,.int .i64 nr,.int .i64 md]] K↔K (.string ⟨#[98,111,100,105,101,115]⟩):=aP G0W ae (Ve g bx tp nr md)

theorem Ts (g bx tp nr md:Int):Ret prog G0 32 #[cfV (.slice none 0 0) g bx tp nr md] (.int .i64 110):=by
 unfold cfV;refine ck G0F func32 rfl call32 zS zS (by simp [ntmps32]) ?_;intro C hC bQ hY;have df:Zn ⟨#[98,111,100,105,101,115]⟩ ⟨#[]⟩=true:=bd;refine dy df ?_;exact eR results32
@[simp] theorem ap2 (g bx tp nr md:Int) (K:iQ):cu prog G0 32 #[.agg #[.slice none 0 0,.int .i64 g,.int .i64 bx,.int .i64 tp,.int .i64 nr,.int .i64 md]] K↔K (.int .i64 110):=aP G0W ae (Ts g bx tp nr md)
end Go.Gy
namespace Go.Gy
open Go Go.RowKit
theorem LU {C:Ctx} {G:Hp} {s:GS} {m L:bS} (ρ:cI) (l:List (Nat×Value)) (B:Nat) (hG:C.G=G) (cK:ct G) (hL:LOk L 200) (zV:∀ p∈L,p.2.fx) (h0:C.hp0=hpL G L) (hB:200<=B)
  (hl:∀ p∈l,s.ts p.1=ren ρ p.2/\s.ts p.1≠eY/\aN (dom (hpL G (m++L))) p.2)
  (hm:∀ p∈m,s.hp (ρ p.1)=some (p.2.rn ρ)/\p.2.ids (dom (hpL G (m++L)))/\200<=p.1/\p.1<B/\200<=ρ p.1)
  (hi:∀ p∈m,∀ q∈m,ρ p.1=ρ q.1->p.1=q.1) (iZ:∀ k,k<200->ρ k=k) (hk:∀ p∈L,s.hp p.1=some p.2):WeakR C ρ s ⟨tsL l,hpL G (m++L),B,s.yc⟩:=by
 refine pT ρ l B hG cK h0 zO hl (λp hp=>?_) (λp hp q hq e=>?_) (λk hk=>iZ k zO) (λp hp=>?_)
 ·rcases cN.1 hp with h|h
  ·have:=hm p h;exact ⟨this.1,this.2.1,zO,this.2.2.2.1,zO⟩
  ·have hb:=hL.big p h;rw [iZ p.1 hb.2,Blk.fx_rn (zV p h) ρ];exact ⟨hk p h,Blk.fx_ids (zV p h) _,hb.1,zO,hb.1⟩
 ·rcases cN.1 hp with h|h<;>rcases cN.1 hq with h'|h'
  ·exact hi p h q h' e
  ·have:=(hm p h).2.2.2.2;have hb:=hL.big q h';rw [iZ q.1 hb.2] at e;omega
  ·have:=(hm q h').2.2.2.2;have hb:=hL.big p h;rw [iZ p.1 hb.2] at e;omega
  ·rw [iZ p.1 (hL.big p h).2,iZ q.1 (hL.big q h').2] at e;exact e
 ·have hb:=hL.big p hp;exact ⟨hb.1,abj (aI.2 ⟨p,hp,rfl⟩),iZ p.1 hb.2⟩
end Go.Gy
namespace Go.Gy
open Go Go.RowKit Go.Proofs Go.Proofs.Tryz
theorem Tq {n:Nat} {f:aS} {g bx tp nr md:Int} (h:eQ n f g bx tp nr md=true) {i:Nat} (hi:i<n):1<=f i/\f i<=1024:=by
 unfold eQ at h;simp only [bO] at h;have h2:=h.2.1;unfold yx at h2;rw [dL] at h2;have:=h2 i oN;unfold wiB at this;exact cZ
theorem afL {n:Nat} {f:aS} {g bx tp nr md:Int} (h:eQ n f g bx tp nr md=true):1<=g/\g<=1048576:=by
 unfold eQ at h;simp only [bO] at h;have:=h.2.2.1;unfold wiB at this;exact cZ
theorem HI {n n2:Nat} {okc rt:Bool}:pX n n2 okc rt=true↔n=n2/\okc=true/\rt=true:=by
 unfold pX;simp
theorem IF {a m:Int} (h:inW m a):0<=a*a/\a*a<=m*m:=by
 obtain ⟨h0,h1,h2⟩:=h;by_cases c:0<=a
 ·exact ⟨cz c c,cU h2 h2 c h0⟩
 ·rw [<-jt];exact ⟨cz zO zO,cU zO zO zO h0⟩
theorem dV {b:Blk} {off n:Nat} {f:aS} (h:SB b off n f) (i:Nat) (hi:i<n) (o:Nat) (e:o=off+i*6):ft prog 50 b o=some (.agg #[.int .i64 (f (6*i)),.int .i64 (f (6*i+1)),.int .i64 (f (6*i+2)),.int .i64 (f (6*i+3)),.int .i64 (f (6*i+4)),.int .i64 (f (6*i+5))]):=by rw [e];exact h.body hi
theorem dX {b:Blk} {off n:Nat} {f:aS} (h:MB b off n f) (i:Nat) (hi:i<n) (o:Nat) (e:o=off+i):ft prog 3 b o=some (.int .i64 (f i)):=by rw [e];exact h.at hi
def ezB (cq:bV):Blk:=⟨cq,.raw 24 (0,0)⟩
theorem af0 {cq:bV} {ρ:cI}:(ezB cq).rn ρ=ezB cq:=rfl
theorem Rx {cq:bV} {D:gA}:(ezB cq).ids D:=trivial
theorem ak3 {cq:bV} {g:Int} (h1:cq[1]? = some (.int .i64 g)):ft prog 3 ⟨cq,.raw 24 (0,0)⟩ 1=some (.int .i64 g):=by
 unfold ft;simp [h1,bz,bP,mD]
theorem eIn {gr:List Nat} {f g:Hp} {k:Nat} (h:k∈gr):eW gr f g k=f k:=ai h
theorem eNi {gr:List Nat} {f g:Hp} {k:Nat} (h:k∉gr):eW gr f g k=g k:=ab h
theorem afX {G:Hp}:∀ {L:bS} {k:Nat},k∉ak L->hpL G L k=G k
 | [],_,_=>rfl
 | (q,c)::L,k,h=>by
  simp only [ak,bJ,al,not_or] at h;rw [aW,ab h.1];exact afX h.2
def d2F (f:aS) (i k:Nat):Int:=(f (6*i) - f (6*k))*(f (6*i) - f (6*k))+(f (6*i+1) - f (6*k+1))*(f (6*i+1) - f (6*k+1))+(f (6*i+2) - f (6*k+2))*(f (6*i+2) - f (6*k+2))
theorem QN (a b:Int):(a - b)*(a - b)=(b - a)*(b - a):=by
 rw [(zO:a - b=-(b - a)),jt]
theorem abd (f:aS) (i k:Nat):d2F f i k=d2F f k i:=by
 unfold d2F;rw [QN (f (6*i)),QN (f (6*i+1)),QN (f (6*i+2))]
theorem JH {a0 a1 a2 b0 b1 b2:Int} (h:inW 1048576 a0/\inW 1048576 a1/\inW 1048576 a2) (k:inW 1048576 b0/\inW 1048576 b1/\inW 1048576 b2):f2V a0 a1 a2 b0 b1 b2=(a0 - b0)*(a0 - b0)+(a1 - b1)*(a1 - b1)+(a2 - b2)*(a2 - b2):=by
 have e:f2E a0 a1 a2 b0 b1 b2=0:=by
  unfold f2E eaE ik fnI;unfold inW at h k;rw [ai zO]
 unfold f2V;rw [ai e]
end Go.Gy
namespace Go.Gy
open Go Go.RowKit Go.Proofs
end Go.Gy
namespace Go.Gy
open Go Go.RowKit Go.Proofs Go.Proofs.Tryz
def r2n (a nk k:Nat):Nat:=if k=100 then a else if k=1000 then nk else k
theorem Y4 {a nk:Nat}:r2n a nk 100=a:=rfl
theorem BY {a nk:Nat}:r2n a nk 1000=nk:=rfl
theorem adl {a nk:Nat} (k:Nat) (h:k<100):r2n a nk k=k:=by
 unfold r2n;exact fG
theorem FunS.own2 {fn:FuncId} {args fL:bV} {b:Blk} {R R':AI} (h:FunS prog G0 fn args (hpL G0 [(100,b)]) (ak [(100,b)]) R) (hb:b.fx) (a nk:Nat) (ha:100<=a) (hk:100<=nk) (df:a≠nk) (hR:∀ v ns,R v ns->∀ k∈ak ns,k=1000) (ea:args.map (ren (r2n a nk))=fL) (eR:RR (r2n a nk) R=R') :
  FunS prog G0 fn fL (hpL G0 [(a,b)]) [a] R':=by
 refine h.mvL G0F (aH hb) (r2n a nk) adl ea (by simp [ak,Y4]) eR (λk hk=>?_) ?_ ah (λv ns hV k hk=>?_) (λv ns hV k hk l hl _=>by rw [hR v ns hV k hk,hR v ns hV l hl])
 ·rw [aW,ab zO]
  rfl
 ·simp only [bE,bR];rw [Blk.fx_rn hb,Y4];exact ⟨ha,zS⟩
 ·rw [hR v ns hV k hk,BY];simp;exact ⟨zO,λe=>df e.symm⟩
theorem YH {nk:Nat} {ρ:cI} (h:ρ 1000=nk) (st:Int) (n:Nat) (f:aS):RR ρ (Hl 1000 st n f)=Hl nk st n f:=by
 funext v ns;apply propext;constructor
 ·rintro ⟨v0,uo,⟨c,M,g,h1,h2,h3,rfl,rfl⟩,rfl,rfl⟩;exact ⟨c,M,g,h1,h2,h3,eN,lO⟩
 ·rintro ⟨c,M,g,h1,h2,h3,rfl,rfl⟩;exact ⟨_,_,⟨c,M,g,h1,h2,h3,rfl,rfl⟩,eN,lO⟩
theorem vr {nk:Nat} {st:Int} {n:Nat} {f:aS} {v:Value} {ns:bS} (h:Hl nk st n f v ns):∀ k∈ak ns,k=nk:=λk hk=>by
 obtain ⟨c,M,g,h1,h2,h3,rfl,rfl⟩:=h;simpa [ak] using hk
def eqB (f g:aS) (i:Nat):Bool:=f (6*i)==g (6*i)&&(f (6*i+1)==g (6*i+1)&&(f (6*i+2)==g (6*i+2)&&(f (6*i+3)==g (6*i+3)&&(f (6*i+4)==g (6*i+4)&&f (6*i+5)==g (6*i+5)))))
def yL (st QO:Int) (n n':Nat) (f g:aS):Bool:=st==QO&&(n==n'&&(List.range n).all (eqB f g))
theorem Rw {f g:aS} {i:Nat}:eqB f g i=true↔∀ u,u<6->f (6*i+u)=g (6*i+u):=by
 unfold eqB;simp only [bO,beq_iff_eq];constructor
 ·rintro ⟨h0,h1,h2,h3,h4,h5⟩ u hu;obtain rfl|rfl|rfl|rfl|rfl|rfl:u=0\/u=1\/u=2\/u=3\/u=4\/u=5:=zO
  ·exact h0
  ·exact h1
  ·exact h2
  ·exact h3
  ·exact h4
  ·exact h5
 ·intro h;exact ⟨h 0 zO,h 1 zO,h 2 zO,h 3 zO,h 4 zO,h 5 zO⟩
theorem Wd {f g:aS} {n:Nat}:(List.range n).all (eqB f g)=true↔∀ j,j<6*n->f j=g j:=by
 simp only [dL,lH,Rw];constructor
 ·intro h j hj;have:=h (j / 6) zO (j%6) zO;rwa [(zO:6*(j / 6)+j%6=j)] at this
 ·intro h i hi u hu;exact h _ zO
theorem UT {st QO:Int} {n n':Nat} {f g:aS}:yL st QO n n' f g=true↔st=QO/\n=n'/\∀ j,j<6*n->f j=g j:=by
 unfold yL;rw [bO,bO,Wd,beq_iff_eq,beq_iff_eq]
theorem aih:∀ a b c d e f:Bool,(a&&(b&&(c&&(d&&(e&&f)))))=false->((!a||(!b||!c))||(!d||(!e||!f)))=true:=zD
def smL (b b':Blk):List (Nat×Blk):=[(100,b),(108,b')]
theorem sC {b b':Blk} (hb:b.fx) (Jh:b'.fx):LOk (smL b b') 200:=⟨by simp [smL],by simp [smL,ak],by
 simp only [smL,al,aB,aC,dC,bR];exact ⟨Blk.fx_ids hb _,Blk.fx_ids Jh _⟩⟩
def adt (b b':Blk) (st QO:Int) (off Ah n n' cap cW i:Nat):GS :=
 ⟨tsL [(2,.pointer (some ⟨200,0,none⟩)),(3,.pointer (some ⟨208,0,none⟩)),(5,.int .i64 i)],hpL G0 [(100,b),(108,b'),(200,⟨#[.int .i64 st,.slice (some ⟨100,off,none⟩) n cap],.ty 27⟩),(208,⟨#[.int .i64 QO,.slice (some ⟨108,Ah,none⟩) n' cW],.ty 27⟩)],400,0⟩
theorem Oh (b b':Blk) (off Ah n n' cap cW:Nat) (f g:aS) (h:SB b off n f) (h':SB b' Ah n' g) (st QO:Int) :
  Fun prog G0 9 #[.agg #[.int .i64 st,.slice (some ⟨100,off,none⟩) n cap],.agg #[.int .i64 QO,.slice (some ⟨108,Ah,none⟩) n' cW]] (hpL G0 (smL b b')) (ak (smL b b')) (.ret (.bool (yL st QO n n' f g)) []):=by
 refine de (B:=200) G0F func9 rfl call9 (sC h.fx h'.fx) ?_ zS zS zS (by simp [ntmps9]) zO ?_
 ·simp [aN,cp,aL,aR,ak,smL]
 intro C hC bQ hY;have Vx:=h.nn;have iZ:=λD=>Blk.fx_ids h.fx D;have alF:=λD=>Blk.fx_ids h'.fx D;unfold smL at bQ |-;by_cases cs:st=QO
 ·by_cases cn:n=n'
  ·subst cs cn;obtain ⟨N,hN,cA,cm⟩:=H4 (eqB f g) n
   have GC:yL st st n n f g=decide (N=n):=by
    unfold yL;simp only [beq_self_eq_true,iw];by_cases pY:N=n
    ·subst pY;rw [bZ rfl];simpa using cA
    ·rw [aX pY]
     cases hb:(List.range n).all (eqB f g) with
     | false=>rfl
     | true =>
      have:=dL.1 hb N aE;rw [cm.resolve_left pY] at this;cases this
   rw [GC];refine fO ?_;refine jQ N (adt b b' st st off Ah n n cap cW) ?_ ?_ ?_
   ·refine dv _ 400 hC G0F (m0:=[(100,b),(108,b')]) bQ zO ?_ ?_ ?_
    ·exact gb
    ·simp [aF,aL,aR,iZ,alF,dom]
    ·simp
   ·intro i hi;have dR:i<n:=zO;have cv:(i:Int)<n:=zO;have hz:(0:Int)<=i:=zO;have hs:Int.bmod ((i:Int)+1) 18446744073709551616=((i+1:Nat):Int):=fE;have uk:=h.body dR;have agL:=h'.body dR;have he:=Rw.1 (cA i hi);have e0:=he 0 zO;have e1:=he 1 zO;have e2:=he 2 zO;have e3:=he 3 zO;have e4:=he 4 zO;have e5:=he 5 zO;simp only [dZ] at e0;unfold adt;refine dy (k13 hi dR cv hz hs uk agL e0 e1 e2 e3 e4 e5) ?_;refine dv _ 400 hC G0F (m0:=[(100,b),(108,b')]) bQ zO ?_ ?_ ?_
    ·exact jz
    ·simp [aF,aL,aR,iZ,alF,dom]
    ·simp
   ·by_cases pY:N=n
    ·rw [bZ pY];subst pY;unfold adt;refine fO ?_;exact eS results9
    ·rw [aX pY];have dR:N<n:=zO;have cv:(N:Int)<n:=zO;have hz:(0:Int)<=N:=zO;have uk:=h.body dR;have agL:=h'.body dR;have df:=cm.resolve_left pY;unfold eqB at df;replace df:=aih _ _ _ _ _ _ df;unfold adt;refine dy (k6 dR cv hz uk agL df) ?_;exact eS results9
  ·have GC:yL st QO n n' f g=false:=by
    unfold yL;rw [show (n==n')=false by simpa using cn];simp
   rw [GC];subst cs;have cn':((n:Int)==(n':Int))=false:=aE;have cn2:(n==n')=false:=by simpa using cn
   have cn3:((n:Int) != (n':Int))=true:=by unfold bne;rw [cn'];rfl
   refine dy (k4 cn cn' cn2 cn3) ?_;exact eS results9
 ·have GC:yL st QO n n' f g=false:=by
   unfold yL;rw [show (st==QO)=false by simpa using cs];simp
  rw [GC];have WH:(st==QO)=false:=by simpa using cs
  have cs2:(st != QO)=true:=by unfold bne;rw [WH];rfl
  refine dy (k3 cs WH cs2) ?_;exact eS results9
end Go.Gy
