/-
  Lemmas of this claim, in their order (GyEU, GyEV, GyFD, GyFG, GyW1, GyU1, GyPU, GyJP, GyJQ, GyPD, GyFC, GyFE, GyRD, GyRE, GyRG, GyFJ, GyPB, GyFK, GyFN, GyFA, GyFO, GyFM, GyFP, GyJR).
  Conditions: those of each theorem.
-/
import Derived.Test.YtamodcpmplmaoaaGreatDoorGz07
set_option linter.unusedSimpArgs false
set_option linter.unusedVariables false
set_option maxRecDepth 8000
set_option maxHeartbeats 4000000
namespace Go.Gy
open Go Go.RowKit Go.Proofs Go.Proofs.Tryz
theorem nz {p:Prop} (h:p:=by simp [ntmps66]):p:=h
theorem FM {p:Prop} (h:p:=by
 obtain ⟨p,hp,rfl⟩:=aC.1 hk;exact IY (hT.ok.big p hp).2):p:=h
theorem G7 {p:Prop} (h:p:=by
 rcases aj.1 hm with e|hm
 ·exact h2 e
 ·rcases aj.1 hm with e|hm
  ·exact h3 e
  ·obtain ⟨p,hp,rfl⟩:=aC.1 hm;have:=(hT.ok.big p hp).2;omega):p:=h
theorem FY {p:Prop} (h:p:=by
 rw [hC];refine tX (Xg L ks bm bs hT off n cap au av fm fs hm fO fL Lj g bx tp nr md st) G0F (z7 hT off n cap au n av g bx tp nr md st) epr (λk hk=>IY zO) (by simp [aF,epr]) ?_ cF ?_ ?_
 ·show epr 200::epr 208::(ak L).map epr=_;rw [gK afZ];simp [epr]
 ·intro p hp;rcases aj.1 hp with rfl|hp
  ·simp [epr,cfB,Blk.rn,aw,aF,upd]
  ·rcases aj.1 hp with rfl|hp
   ·have h3:epr ks=ks:=IY n6;simp [cE,Blk.rn,aw,aF,upd,h3];simp [epr,upd]
   ·have HR:=hT.ok.big p hp;rw [IY HR.2,Blk.fx_rn (hT.fx p hp)];exact EK
 ·have key:∀ k∈ak (enM L ks off n cap au n av g bx tp nr md st),(k=200/\epr k=280)\/(k=208/\epr k=281)\/(k<200/\epr k=k):=λk hk=>by
   rcases aj.1 hk with rfl|hk
   ·exact .inl ⟨rfl,rfl⟩
   ·rcases aj.1 hk with rfl|hk
    ·exact .inr (.inl ⟨rfl,rfl⟩)
    ·obtain ⟨p,hp,rfl⟩:=aC.1 hk;have:=(hT.ok.big p hp).2;exact .inr (.inr ⟨this,IY this⟩)
  intro k hk l hl e;have:=key k hk;have:=key l hl;omega):p:=h
theorem FJ {p:Prop} (h:p:=by
 intro x hx;simp only [aK] at hx;obtain ⟨p,_,rfl⟩:=hx;simp [epV]):p:=h
theorem EC {p:Prop} (h:p:=by
 intro k hk;rcases aj.1 hk with rfl|hk
 ·simp [dom,upd]
 ·rcases aj.1 hk with rfl|hk
  ·simp [dom,upd]
  ·obtain ⟨p,hp,rfl⟩:=aC.1 hk;have HR:=hT.ok.big p hp;refine ⟨HR.1,?_⟩;unfold dom;dsimp only;simp (disch:=omega) only [gT,ao,bV,eH,ae,bH];rw [hT.mem p hp];simp):p:=h
theorem EL {p:Prop} (h:p:=by
 intro C0 h1 h2;refine cB _ 300 (h1.trans hC) G0F (m0:=[]) (ak4 C0 h2) zO ?_ ?_ ?_
 ·simp [HM,epM,aL,cQ,aI,aP,dom]
 ·simp [epM,Vj,spB,aM,aI,aP,dom,upd,ct]
  rfl
 ·simp):p:=h
theorem Ed {p:Prop} (h:p:=by
 intro k hk
 have h3:k=280\/k=281\/(100<=k/\k<200):=by
  rcases aj.1 hk with rfl|hk
  ·exact .inl rfl
  ·rcases aj.1 hk with rfl|hk
   ·exact .inr (.inl rfl)
   ·obtain ⟨p,hp,rfl⟩:=aC.1 hk;exact .inr (.inr (hT.ok.big p hp))
 rw [afz (λhm=>?_)]
 ·exact vz k zO
 ·simp [epM,ak] at hm;omega):p:=h
theorem EV {p:Prop} (h:p:=by
 have:=(YJ (Z:=λi k=>if lS fs i k=0 then 1 else 0) (λi k=>by by_cases c:lS fs i k=0<;>simp [c]) n).1 hz p.1 p.2 BC uH;simp [e] at this):p:=h
theorem Hw {p:Prop} (h:p:=by
 have hg:=Mr eM;have AP:=jN eM (i:=p.1) uH;have NG:=jN eM (i:=p.2) zO;have QI:EIn g (fm p.1) (fm p.2) (lS fs p.1 p.2):=⟨hg.1,hg.2,AP.1,AP.2,NG.1,NG.2,Qx.1,Qx.2⟩
 have P:=aau QI zO rfl rfl;have DV:=QI.lo zO;have QU:=QI.hi zO;have hld:=ais hq4;generalize pS (λi k=>lu g (fm i) (fm k) (lS fs i k)) ((l9 n).take j)=A at *
 generalize pS (λi k=>uE g (fm i) (fm k) (lS fs i k)) ((l9 n).take j)=H at *
 generalize lu g (fm p.1) (fm p.2) (lS fs p.1 p.2)=lo at *
 generalize uE g (fm p.1) (fm p.2) (lS fs p.1 p.2)=hi at *
 have il:i64 lo:=⟨zO,zO⟩
 have ih:i64 hi:=⟨zO,zO⟩
 have Ko:=hC;have wy:C1.G=G0:=Km.trans hC;unfold epV;clear hC hY;have hC:=wy;have hY:=Kq;unfold epM spB ezB;refine cA (k2 @bG.eq_1 @HM.eq_1) ?_;intro C2 tP Jd tQ;clear hC hY;have hC:C2.G=G0:=tP.trans Ko;have hY:=tQ;refine cA (k4 P hld il ih) ?_;refine ⟨λk=>k,hpL G0 (epM cq (A+lo) (H+hi)),λC0 h1 h2=>mC _ _ 300 (h1.trans Ko) G0F (m0:=[]) (ak4 C0 h2) zO ?_ ?_ ?_ ?_ ?_,rfl⟩
 ·simp [HM,epM,dom,fP,ren,aW,aw,aF,aL,cQ,aI,aP]
 ·simp [epM,akz,Vj,spB,Blk.rn,aw,aF,aM,aI,aP,dom]
  rfl
 ·simp [epM]
 ·intro k hk;rfl
 ·simp):p:=h
theorem F4 {p:Prop} (h:p:=by
 rcases aj.1 hk with rfl|hk
 ·exact .inl rfl
 ·rcases aj.1 hk with rfl|hk
  ·exact .inr (.inl rfl)
  ·obtain ⟨p,hp,rfl⟩:=aC.1 hk;exact .inr (.inr (hT.ok.big p hp))):p:=h
theorem FE {p:Prop} (h:p:=by
 rcases aj.1 Li with rfl|Li
 ·omega
 ·rcases aj.1 Li with rfl|Li
  ·omega
  ·obtain ⟨p,hp,rfl⟩:=aC.1 Li;have:=(hT.ok.big p hp).1;omega):p:=h
def aho (n n2:Nat) (Gt rt:Bool) (fs:aJ):Int:=if oB n n2 Gt rt=true then (if JO fs n2=0 then 0 else 30) else 2
theorem aax (L:cf) (ks:Nat) (bm bs:Blk) (hT:LTwo G0 L ks bm bs) (off n cap au n2 av:Nat) (fm fs:aJ) (hm:MB bm off n fm) (fO:SB bs au n2 fs) (g bx tp nr md st:Int) (hs:i64 st)
  (hf:oB n n2 (fk n fm g bx tp nr md) (aY st fs n2)=false) :
  Fun prog G0 66 #[cfV (.slice (some ⟨100,off,none⟩) n cap) g bx tp nr md,.agg #[.int .i64 st,.slice (some ⟨ks,au,none⟩) n2 av]] (hpL G0 L) (ak L) (.ret (.tuple #[spV 0 0,.int .i64 2]) []):=by
 refine cg (B:=200) G0F func66 rfl call66 hT.ok ?_ (bw iX) zS zS nz zO ?_
 ·exact Si
 intro C hC bA hY;have hA:=hT.a;have hS:=hT.s;have cW:=hT.ne;have jj:=hT.low;have pV:=hT.k1;have n6:=hT.k2;have eI:=AZ L ks bm bs hT off n cap au n2 av fm fs hm fO g bx tp nr md st hs;rw [hf] at eI;unfold cfV at eI |-
 repeat' first|refine cT ?_|((first|refine gwR [94] ?_|refine gwD [94] ?_);intro Q hQ _;(repeat first|simp [hC,hY,hA,hS,cW,ct]|refine cV eI hT.ok fS ?_);refine dq hQ ?_)|fail
 refine ⟨.inr rfl,by simp [results66,ct,spV],Aj G0F⟩
def spB (lo hi:Int):Blk:=⟨#[.int .u64 (wi lo 0),.int .u64 (wi lo 1),.int .u64 (wi lo 2),.int .u64 (wi lo 3),.int .u64 (wi hi 0),.int .u64 (wi hi 1),.int .u64 (wi hi 2),.int .u64 (wi hi 3)],.ty 32⟩
def HM:List (Nat×Value):=[(2,.pointer (some ⟨200,0,none⟩)),(4,.pointer (some ⟨216,0,none⟩)),(5,.pointer (some ⟨224,0,none⟩))]
def epM (cq:ca) (lo hi:Int):List (Nat×Blk):=[(200,ezB cq),(216,spB lo hi),(224,⟨#[.int .i64 0],.ty 41⟩)]
def epI (cq:ca) (F H:lX) (l:List (Nat×Nat)) (j:Nat) (h:Hp):Prop:=h=hpL G0 (epM cq (pS F (l.take j)) (pS H (l.take j)))
def epr (k:Nat):Nat:=if k=200 then 280 else if k=208 then 281 else k
theorem ap6 {L:cf} (hL:LOk L 200):(λk=>if k∈280::281::ak L then none else hpL G0 L k)=hpL G0 []:=by
 funext k;simp only [eH];split
 ·rename_i hm;rcases aj.1 hm with rfl|hm
  ·exact (vz _ zO).symm
  ·rcases aj.1 hm with rfl|hm
   ·exact (vz _ zO).symm
   ·obtain ⟨p,hp,rfl⟩:=aC.1 hm;exact (vz _ (hL.big p hp).1).symm
 ·rename_i hm;exact afz λh=>hm (aD _ (aD _ h))
theorem IY {k:Nat} (h:k<200):epr k=k:=by unfold epr;rw [ae zO,ae zO]
theorem aay (L:cf) (ks:Nat) (bm bs:Blk) (hT:LTwo G0 L ks bm bs) (off n cap au av:Nat) (fm fs:aJ) (hm:MB bm off n fm) (fO:SB bs au n fs) (fL:n<=av) (g bx tp nr md st:Int) (hs:i64 st)
  (eM:fk n fm g bx tp nr md=true) (jh:aY st fs n=true) (hz:JO fs n=0) :
  Fun prog G0 66 #[cfV (.slice (some ⟨100,off,none⟩) n cap) g bx tp nr md,.agg #[.int .i64 st,.slice (some ⟨ks,au,none⟩) n av]] (hpL G0 L) (ak L) (.ret (.tuple #[spV (zW g fm fs n) (zV g fm fs n),.int .i64 0]) []):=by
 refine cg (B:=200) G0F func66 rfl call66 hT.ok ?_ (bw iX) zS zS nz zO ?_
 ·exact Si
 intro C hC bA hY;have hA:=hT.a;have hS:=hT.s;have cW:=hT.ne;have jj:=hT.low;have pV:=hT.k1;have n6:=hT.k2;have eI:=AZ L ks bm bs hT off n cap au n av fm fs hm fO g bx tp nr md st hs;rw [kC.2 ⟨rfl,eM,jh⟩] at eI;have Lj:=(ji jh).2.1;have iZ:=K4 280 zO L ks bm bs hT off n cap au n av g bx tp nr md st;unfold cfV at eI iZ |-
 repeat' first|refine cT ?_|((first|refine gwR [94] ?_|refine gwD [94] ?_);intro Q hQ _;(repeat first|simp [hC,hY,hA,hS,cW,ct]|refine cV eI hT.ok fS ?_);refine dq hQ ?_)|fail
 refine gj ?_;refine By (k3 hA hS cW) ?_;refine cv (f:=.func 95) (cap:=#[]) hC iZ rfl zS rfl rfl aS aq zS aZ aq jB cF (λv ns hV k hk=>by have:=wj hV k hk;simp;omega) ?_;rintro v ns ⟨rfl,rfl⟩;refine cu ?_
 repeat' first|refine cT ?_|(refine iy ?_;intro Q hQ _;simp [hC,hY,cJ,bH,hA,hS,cW];refine dq hQ ?_)|fail
 simp only [cJ,bH];refine KS 200 (t:=24) (cs:=#[.slice (some ⟨100,off,none⟩) n cap,.int .i64 g,.int .i64 bx,.int .i64 tp,.int .i64 nr,.int .i64 md]) (by simp [cfB]) zO ?_;intro cq om Ss;have hq4:cq[1]? = some (.int .i64 g):=Ss 1 _ rfl rfl;have hq6:cq.size=6:=om
 have afZ:∀ k∈ak L,epr k=k:=λk hk=>by
  exact FM
 have XA:∀ k,200<=k->k≠280->k≠281->(k∈280::281::ak L)=False:=λk h1 h2 h3=>eq_false λhm=>by
  exact G7
 have ak4:∀ C0:Ctx,(C0.hp0=λk=>if k∈280::281::ak L then none else C.hp0 k)->C0.hp0=hpL G0 []:=λC0 h0=>by
  rw [h0,bA];exact ap6 hT.ok
 refine KT (f:=119) (rs:=280::281::ak L) (xs:=(l9 n).map λp=>epV fm fs p.1 p.2) (bF:=#[.pointer (some ⟨281,0,none⟩),.pointer (some ⟨280,0,none⟩)]) (280::281::ak L) hY zS ?_ ?_ nz (tsL HM) (tsL HM) (epI cq (λi k=>lu g (fm i) (fm k) (lS fs i k)) (λi k=>uE g (fm i) (fm k) (lS fs i k)) (l9 n)) (ow:=hpL G0 (epM cq 0 0)) 300 (l9 n).length zS (λk hk=>hk) ?_ ?_ ?_ ?_ ?_ (λ_=>.inl rfl) ?_ ?_
 ·exact FY
 ·exact FJ
 ·exact EC
 ·exact yN
 ·exact EL
 ·simp [epI,pS]
 ·exact Ed
 ·intro j x Vy hj hx hI C1 lb Km MJ Kq;unfold epI at hI;subst hI;rw [gG,gZ hj] at hx;simp only [g5,bf] at hx;subst hx;have t1:=Ig (λi k=>lu g (fm i) (fm k) (lS fs i k)) hj;have t2:=Ig (λi k=>uE g (fm i) (fm k) (lS fs i k)) hj;have MN:=mE hj;unfold epI;rw [t1,t2];clear t1 t2;generalize (l9 n)[j]=p at *
  obtain ⟨BC,uH⟩:=H2 MN;have Qx:=Mz jh (i:=p.1) (k:=p.2) uH zO
  have R8:¬lS fs p.1 p.2=0:=λe=>by
   exact EV
  exact Hw
 ·refine .inl ⟨zS,?_⟩;rintro hq hI
  have Xp:hq=hpL G0 (epM cq (zW g fm fs n) (zV g fm fs n)):=by
   rw [hI,List.take_length];unfold zW zV;rw [Bq _ Lj,Bq _ Lj]
  subst Xp;refine ⟨λk hk=>?_,?_⟩
  ·have h3:k=280\/k=281\/(100<=k/\k<200):=by
    exact F4
   refine ⟨?_,zO⟩;rw [afz (λhm=>?_)]
   ·exact vz k zO
   ·simp [epM,ak] at hm;omega
  have OG:=XA 216 zO zO zO;have OH:=XA 224 zO zO zO;unfold HM epM spB;refine cA (k3 @gT.eq_1 OG OH) ?_
  refine ⟨.inr rfl,by simp [results66,spV,gT,OG,OH],fU G0F (λp hp=>by
    have HR:=hT.ok.big p hp;have Li:p.1∈280::281::ak L:=aD _ (aD _ (aC.2 ⟨p,hp,rfl⟩));simp (disch:=omega) only [eIn Li,ao,bV,eH,ae,bH]) (λk hk=>by
    have Li:k∉280::281::ak L:=λLi=>by
     exact FE
    simp (disch:=omega) only [eNi Li,ao,bV,eH,ae,bH,jj])⟩
theorem Jc (t a:Int) {b nk:Nat} {hp:Hp} {K:Eff->Prop} (hb:100<=b) (h1:hp b=some (wb t)) (hK:K ((Res.ret (wd (t - a)) []).eff [b])) :
  qO prog G0 68 #[Value.agg #[.int .u64 (wi (a) 0),.int .u64 (wi (a) 1),.int .u64 (wi (a) 2),.int .u64 (wi (a) 3)],.pointer (some ⟨b,0,none⟩)] hp nk K :=
 aE (Xe t a) G0F (B:=200) ⟨zS,ai,pE⟩ (λk=>if k=100 then b else k) (λk hk=>ae zO) aN zS (by simp [wb,Blk.rn,aw,aF,hb,h1]) ai ai hK
theorem N8 (L:cf) (ks:Nat) (bm bs:Blk) (hT:LTwo G0 L ks bm bs) (off n cap au av:Nat) (fm fs:aJ) (hm:MB bm off n fm) (fO:SB bs au n fs) (eK:n<=cap) (fL:n<=av) (g bx tp nr md st:Int) (hs:i64 st)
  (eM:fk n fm g bx tp nr md=true) (jh:aY st fs n=true) (hz:JO fs n=0) :
  Fun prog G0 36 #[cfV (.slice (some ⟨100,off,none⟩) n cap) g bx tp nr md,.agg #[.int .i64 st,.slice (some ⟨ks,au,none⟩) n av]] (hpL G0 L) (ak L) (.ret (.tuple #[spV (KM fm fs n - zV g fm fs n) (KM fm fs n - zW g fm fs n),.int .i64 0]) []):=by
 refine cg (B:=200) G0F func36 rfl call36 hT.ok ?_ (bw iX) zS zS (by simp [ntmps36]) zO ?_
 ·exact Si
 intro C hC bA hY;have hA:=hT.a;have hS:=hT.s;have cW:=hT.ne;have jj:=hT.low;have pV:=hT.k1;have n6:=hT.k2;have hpo:=aay L ks bm bs hT off n cap au av fm fs hm fO fL g bx tp nr md st hs eM jh hz;have Zg:=akv L ks bm bs hT off n cap au n av fm fs hm fO eK fL g bx tp nr md st hs;unfold amd amc at Zg;rw [kC.2 ⟨rfl,eM,jh⟩,ag rfl,ag rfl] at Zg;unfold cfV spV at hpo;unfold cfV at Zg |-;generalize KM fm fs n=T at *
 generalize zW g fm fs n=lo at *
 generalize zV g fm fs n=hi at *
 repeat' first|refine cT ?_|((first|refine gwR [66,67,68] ?_|refine gwD [66,67,68] ?_);intro Q hQ _;(repeat first|simp [hC,hY,hA,hS,cW,ct]|refine cV hpo hT.ok fS ?_|refine cV Zg hT.ok fS ?_|(refine Jc T hi zS ?_ ?_;focus (simp [wb];done))|(refine Jc T lo zS ?_ ?_;focus (simp [wb];done)));refine dq hQ ?_)|fail
 refine ⟨.inr rfl,by simp [results36,spV],Aj G0F⟩
theorem Xf {g m w q:Int} (h:EIn g m w q) (hq:q=0) (K:fQ):bl prog G0 96 #[.int .i64 g,.int .i64 m,.int .i64 w,.int .i64 q] K↔K (.tuple #[.int .i64 0,.int .i64 0,.int .i64 30]):=ar G0W ah (afB h hq)
theorem Oi {P:Nat×Nat->Prop}:∀ {l:List (Nat×Nat)},(∃ p∈l,P p)->∃ N,∃ h:N<l.length,P l[N]/\∀ j,j<N->∀ h:j<l.length,¬P l[j]
 | [],h=>by obtain ⟨p,hp,_⟩:=h;cases hp
 | a::l,h=>by
  by_cases ha:P a
  ·exact ⟨0,zS,ha,λj hj=>zO⟩
  ·obtain ⟨p,hp,hP⟩:=h;rcases aj.1 hp with rfl|hp
   ·exact absurd hP ha
   ·obtain ⟨N,h1,h2,h3⟩:=Oi ⟨p,hp,hP⟩;refine ⟨N+1,sk,by simpa using h2,λj hj hl=>?_⟩
    cases j with
    | zero=>exact ha
    | succ j=>simpa using h3 j zO (by simpa using hl)
theorem ajx {F:lX}:∀ {l:List (Nat×Nat)},¬pS F l=0->∃ p∈l,¬F p.1 p.2=0
 | [],h=>absurd rfl h
 | p::l,h=>by
  by_cases hp:F p.1 p.2=0
  ·obtain ⟨q,hq,h2⟩:=ajx (F:=F) (l:=l) λe=>h (by simp only [pS];omega);exact ⟨q,aD _ hq,h2⟩
  ·exact ⟨p,zS,hp⟩
theorem afG {fs:aJ} {n:Nat} (hn:1<=n/\n<=4) (hz:¬JO fs n=0):∃ N,∃ h:N<(l9 n).length,lS fs (l9 n)[N].1 (l9 n)[N].2=0/\∀ j,j<N->∀ h:j<(l9 n).length,¬lS fs (l9 n)[j].1 (l9 n)[j].2=0:=by
 unfold JO at hz;rw [Bq _ hn] at hz;obtain ⟨p,hp,h⟩:=ajx hz;refine Oi (P:=λp=>lS fs p.1 p.2=0) ⟨p,hp,?_⟩;by_cases c:lS fs p.1 p.2=0
 ·exact c
 ·exact absurd (ae c) h
theorem Xi (L:cf) (ks:Nat) (bm bs:Blk) (hT:LTwo G0 L ks bm bs) (off n cap au av:Nat) (fm fs:aJ) (hm:MB bm off n fm) (fO:SB bs au n fs) (fL:n<=av) (g bx tp nr md st:Int) (hs:i64 st)
  (eM:fk n fm g bx tp nr md=true) (jh:aY st fs n=true) (hz:¬JO fs n=0) :
  Fun prog G0 66 #[cfV (.slice (some ⟨100,off,none⟩) n cap) g bx tp nr md,.agg #[.int .i64 st,.slice (some ⟨ks,au,none⟩) n av]] (hpL G0 L) (ak L) (.ret (.tuple #[spV 0 0,.int .i64 30]) []):=by
 refine cg (B:=200) G0F func66 rfl call66 hT.ok ?_ (bw iX) zS zS nz zO ?_
 ·exact Si
 intro C hC bA hY;have hA:=hT.a;have hS:=hT.s;have cW:=hT.ne;have jj:=hT.low;have pV:=hT.k1;have n6:=hT.k2;have eI:=AZ L ks bm bs hT off n cap au n av fm fs hm fO g bx tp nr md st hs;rw [kC.2 ⟨rfl,eM,jh⟩] at eI;have Lj:=(ji jh).2.1;obtain ⟨N,hN,hzN,aw3⟩:=afG Lj hz;have iZ:=K4 280 zO L ks bm bs hT off n cap au n av g bx tp nr md st;unfold cfV at eI iZ |-
 repeat' first|refine cT ?_|((first|refine gwR [94] ?_|refine gwD [94] ?_);intro Q hQ _;(repeat first|simp [hC,hY,hA,hS,cW,ct]|refine cV eI hT.ok fS ?_);refine dq hQ ?_)|fail
 refine gj ?_;refine By (k3 hA hS cW) ?_;refine cv (f:=.func 95) (cap:=#[]) hC iZ rfl zS rfl rfl aS aq zS aZ aq jB cF (λv ns hV k hk=>by have:=wj hV k hk;simp;omega) ?_;rintro v ns ⟨rfl,rfl⟩;refine cu ?_
 repeat' first|refine cT ?_|(refine iy ?_;intro Q hQ _;simp [hC,hY,cJ,bH,hA,hS,cW];refine dq hQ ?_)|fail
 simp only [cJ,bH];refine KS 200 (t:=24) (cs:=#[.slice (some ⟨100,off,none⟩) n cap,.int .i64 g,.int .i64 bx,.int .i64 tp,.int .i64 nr,.int .i64 md]) (by simp [cfB]) zO ?_;intro cq om Ss;have hq4:cq[1]? = some (.int .i64 g):=Ss 1 _ rfl rfl;have hq6:cq.size=6:=om
 have afZ:∀ k∈ak L,epr k=k:=λk hk=>by
  exact FM
 have XA:∀ k,200<=k->k≠280->k≠281->(k∈280::281::ak L)=False:=λk h1 h2 h3=>eq_false λhm=>by
  exact G7
 have ak4:∀ C0:Ctx,(C0.hp0=λk=>if k∈280::281::ak L then none else C.hp0 k)->C0.hp0=hpL G0 []:=λC0 h0=>by
  rw [h0,bA];exact ap6 hT.ok
 refine KT (f:=119) (rs:=280::281::ak L) (xs:=(l9 n).map λp=>epV fm fs p.1 p.2) (bF:=#[.pointer (some ⟨281,0,none⟩),.pointer (some ⟨280,0,none⟩)]) (280::281::ak L) hY zS ?_ ?_ nz (tsL HM) (tsL HM) (epI cq (λi k=>lu g (fm i) (fm k) (lS fs i k)) (λi k=>uE g (fm i) (fm k) (lS fs i k)) (l9 n)) (ow:=hpL G0 (epM cq 0 0)) 300 N aB (λk hk=>hk) ?_ ?_ ?_ ?_ ?_ (λ_=>.inl rfl) ?_ ?_
 ·exact FY
 ·exact FJ
 ·exact EC
 ·exact yN
 ·exact EL
 ·simp [epI,pS]
 ·exact Ed
 ·intro j x Vy hj0 hx hI C1 lb Km MJ Kq;have hj:j<(l9 n).length:=zO;have R8:=aw3 j hj0 hj;unfold epI at hI;subst hI;rw [gG,gZ hj] at hx;simp only [g5,bf] at hx;subst hx;have t1:=Ig (λi k=>lu g (fm i) (fm k) (lS fs i k)) hj;have t2:=Ig (λi k=>uE g (fm i) (fm k) (lS fs i k)) hj;have MN:=mE hj;unfold epI;rw [t1,t2];clear t1 t2;generalize (l9 n)[j]=p at *
  obtain ⟨BC,uH⟩:=H2 MN;have Qx:=Mz jh (i:=p.1) (k:=p.2) uH zO;exact Hw
 ·refine .inr ⟨epV fm fs (l9 n)[N].1 (l9 n)[N].2,by rw [gG,gZ hN];rfl,?_⟩;intro Vy hI C1 lb Km MJ Kq;unfold epI at hI;subst hI;have MN:=mE hN;generalize (l9 n)[N]=p at *
  obtain ⟨BC,uH⟩:=H2 MN;have Qx:=Mz jh (i:=p.1) (k:=p.2) uH zO;have hg:=Mr eM;have AP:=jN eM (i:=p.1) uH;have NG:=jN eM (i:=p.2) zO;have QI:EIn g (fm p.1) (fm p.2) (lS fs p.1 p.2):=⟨hg.1,hg.2,AP.1,AP.2,NG.1,NG.2,Qx.1,Qx.2⟩
  have P:=Xf QI hzN;have hld:=ais hq4;generalize pS (λi k=>lu g (fm i) (fm k) (lS fs i k)) ((l9 n).take N)=A at *
  generalize pS (λi k=>uE g (fm i) (fm k) (lS fs i k)) ((l9 n).take N)=H at *
  have Ko:=hC;have wy:C1.G=G0:=Km.trans hC;unfold epV;clear hC hY;have hC:=wy;have hY:=Kq;unfold epM spB ezB;refine cA (k2 @bG.eq_1 @HM.eq_1) ?_;intro C2 tP Jd tQ;clear hC hY;have hC:C2.G=G0:=tP.trans Ko;have hY:=tQ;refine cA (k3 P hld @ct) ?_;have OG:=XA 216 zO zO zO;have OH:=XA 224 zO zO zO;refine ⟨rfl,λt=>?_,λk hk=>?_,?_⟩
  ·rcases od (l:=[(2,.pointer (some ⟨200,0,none⟩)),(4,.pointer (some ⟨216,0,none⟩)),(5,.pointer (some ⟨224,0,none⟩))]) (t:=t) with h|h
   ·unfold HM;rw [h];simp [fP,aL,cQ,aI,aP]
   ·simp only [aj,az,ay,ij] at h;unfold HM;rcases h with ⟨_,h⟩|⟨_,h⟩|⟨_,h⟩<;>rw [h]<;>simp [aL,cQ,aI,aP,dom]
  ·have h3:k=280\/k=281\/(100<=k/\k<200):=by
    exact F4
   refine ⟨?_,zO⟩;simp (disch:=omega) only [ao,bV,eH,ae,bH];exact vz k zO
  ·
   refine cA (k3 @gT.eq_1 OG OH) ?_
   refine ⟨.inr rfl,by simp [results66,spV,gT,OG,OH,HM,ct],fU G0F (λp hp=>by
    have HR:=hT.ok.big p hp;have Li:p.1∈280::281::ak L:=aD _ (aD _ (aC.2 ⟨p,hp,rfl⟩));simp (disch:=omega) only [eIn Li,ao,bV,eH,ae,bH]) (λk hk=>by
    have Li:k∉280::281::ak L:=λLi=>by
     exact FE
    simp (disch:=omega) only [eNi Li,ao,bV,eH,ae,bH,jj])⟩
theorem CM (E:Int) (hE:¬E=0) (L:cf) (ks:Nat) (bm bs:Blk) (hT:LTwo G0 L ks bm bs) (off n cap au n2 av:Nat) (g bx tp nr md st:Int)
  (hpo:Fun prog G0 66 #[cfV (.slice (some ⟨100,off,none⟩) n cap) g bx tp nr md,.agg #[.int .i64 st,.slice (some ⟨ks,au,none⟩) n2 av]] (hpL G0 L) (ak L) (.ret (.tuple #[spV 0 0,.int .i64 E]) [])) :
  Fun prog G0 36 #[cfV (.slice (some ⟨100,off,none⟩) n cap) g bx tp nr md,.agg #[.int .i64 st,.slice (some ⟨ks,au,none⟩) n2 av]] (hpL G0 L) (ak L) (.ret (.tuple #[spV 0 0,.int .i64 E]) []):=by
 refine cg (B:=200) G0F func36 rfl call36 hT.ok ?_ (bw iX) zS zS (by simp [ntmps36]) zO ?_
 ·exact Si
 intro C hC bA hY;have hA:=hT.a;have hS:=hT.s;have cW:=hT.ne;have jj:=hT.low;have pV:=hT.k1;have n6:=hT.k2;have Rq:(E != 0)=true:=by simpa using hE
 have hEq:(E==0)=false:=by simpa using hE
 unfold cfV spV at hpo;unfold cfV
 repeat' first|refine cT ?_|((first|refine gwR [66] ?_|refine gwD [66] ?_);intro Q hQ _;(repeat first|simp [hC,hY,hA,hS,cW,ct,hE,Rq,hEq]|refine cV hpo hT.ok fS ?_);refine dq hQ ?_)|fail
 refine ⟨.inr rfl,by simp [results36,spV,ct],Aj G0F⟩
def eLo (E:Int) (g:Int) (fm fs:aJ) (n:Nat):Int:=if E=0 then KM fm fs n - zV g fm fs n else 0
def eHi (E:Int) (g:Int) (fm fs:aJ) (n:Nat):Int:=if E=0 then KM fm fs n - zW g fm fs n else 0
def enE (n n2:Nat) (fm fs:aJ) (g bx tp nr md st:Int):Int:=aho n n2 (fk n fm g bx tp nr md) (aY st fs n2) fs
def enV (n n2:Nat) (fm fs:aJ) (g bx tp nr md st:Int):Value:=.tuple #[spV (eLo (enE n n2 fm fs g bx tp nr md st) g fm fs n2) (eHi (enE n n2 fm fs g bx tp nr md st) g fm fs n2),.int .i64 (enE n n2 fm fs g bx tp nr md st)]
theorem N9 (n n2:Nat) (fm fs:aJ) (g bx tp nr md st:Int):bp (enV n n2 fm fs g bx tp nr md st)=true:=by simp [enV,spV]
theorem K3 (L:cf) (ks:Nat) (bm bs:Blk) (hT:LTwo G0 L ks bm bs) (off n cap au n2 av:Nat) (fm fs:aJ) (hm:MB bm off n fm) (fO:SB bs au n2 fs) (eK:n<=cap) (fL:n2<=av) (g bx tp nr md st:Int) (hs:i64 st) :
  Fun prog G0 36 #[cfV (.slice (some ⟨100,off,none⟩) n cap) g bx tp nr md,.agg #[.int .i64 st,.slice (some ⟨ks,au,none⟩) n2 av]] (hpL G0 L) (ak L) (.ret (enV n n2 fm fs g bx tp nr md st) []):=by
 unfold enV eLo eHi enE aho
 cases hf:oB n n2 (fk n fm g bx tp nr md) (aY st fs n2) with
 | false =>
  simp only [kP,cw,ae (show ¬(2:Int)=0 by decide)];exact CM 2 zD L ks bm bs hT off n cap au n2 av g bx tp nr md st (aax L ks bm bs hT off n cap au n2 av fm fs hm fO g bx tp nr md st hs hf)
 | true =>
  obtain ⟨rfl,eM,jh⟩:=kC.1 hf;by_cases hz:JO fs n=0
  ·simp only [aV,ag hz];exact N8 L ks bm bs hT off n cap au av fm fs hm fO eK fL g bx tp nr md st hs eM jh hz
  ·simp only [aV,ae hz,ae (show ¬(30:Int)=0 by decide)];exact CM 30 zD L ks bm bs hT off n cap au n av g bx tp nr md st (Xi L ks bm bs hT off n cap au av fm fs hm fO fL g bx tp nr md st hs eM jh hz)
end Go.Gy
namespace Go.Gy
open Go Go.RowKit Go.Proofs Go.Proofs.Tryz
abbrev G1:Hp:=G0
theorem G1F:c7 G1:=G0F
theorem WA (D:iH) (k:Nat) (b:Blk) (h:G1 k=some b):b.ids D:=qt D k b h
theorem G1W:∃ W,GOK G1 W:=G0W
theorem avP (W:World) (h:GOK G1 W):GOK G0 W:=h
end Go.Gy
namespace Go.Gy
open Go Go.RowKit
theorem Gh {p:Prop} (h:p:=by
 rw [pQ];obtain ⟨y,hy,rfl⟩:=eQ.1 hx;exact AW (λk hk=>h.dom hk) (ids y hy)):p:=h
section
variable {P:Program} {G G':Hp}
structure LOd (G:Hp) (m:cf) (B:Nat):Prop where
 big:∀ p∈m,100<=p.1/\p.1<B
 one:(ak m).Nodup
 ids:∀ p∈m,p.2.ids (dom (hpL G m))
theorem LOk.sub' {m:cf} (h1:(ak m).Nodup) (k:Nat) (hk:k∈ak m):dom (hpL G m) k:=by
 obtain ⟨p,hp,rfl⟩:=aC.1 hk;unfold dom;rw [LOk.at h1 p hp];simp
theorem LOd.low {m:cf} {B:Nat} (h:LOd G m B):∀ k,k<100->hpL G m k=G k:=λ_ hk=>dA (λp hp=>(h.big p hp).1) hk
theorem LOd.sub {m:cf} {B:Nat} (h:LOd G m B) (k:Nat) (hk:k∈ak m):dom (hpL G m) k:=LOk.sub' h.one k hk
theorem LOd.closed {m:cf} {B:Nat} (eg:c7 G) (h:LOd G m B) (k:Nat) (b:Blk) (hk:hpL G m k=some b):b.ids (dom (hpL G m)):=by
 rcases dE hk with h1|h1
 ·exact h.ids (k,b) h1
 ·exact Blk.flat_ids (eg k b h1).2
theorem LOd.free {m:cf} {B:Nat} (eg:c7 G) (hB:100<=B) (h:LOd G m B) (x:Nat) (hx:B<=x):hpL G m x=none:=by
 exact Hf
theorem afN {f:FuncId} {fn:Func} {c:Code} {args:ca} {m:cf} {v:Value} {ws:cf} {B:Nat} (eg:c7 G) (hf:P.funcs[f]? = some fn) (hb:fn.body=some c) (gC:∀ a w,(callFunc f a).run P w=.ok (.enter f a) w)
  (hm:LOk m B) (ha:∀ x∈args,aL (dom (hpL G m)) x) (hv:aL (λk=>k∈ak m) v) (hw:∀ p∈ws,p.1∈ak m/\p.2.ids (λk=>k∈ak m)) (Kw:∀ k b c,(k,b)∈ws->(k,c)∈ws->b=c) (hn:args.size<=fn.ntmps) (hB:100<=B)
  (h:∀ C:Ctx,C.G=G->C.hp0=hpL G m->C.Y=none->GW P C fn.ntmps [] none c ⟨λt=>args.getD t undef,hpL G m,B,0⟩ (am8 P fn (hpL G m) (.ret v ws))):Fun P G f args (hpL G m) (ak m) (.ret v ws):=by
 have e:=LOk.rst (m:=m) eg;refine wu (B:=B) eg hm.low hf hb gC (by rw [e];exact ha) pJ ⟨DF,λk hk=>?_,Kw,λp hp=>?_⟩ hn hB py (by rw [e];exact h)
 ·exact DY
 ·exact Dg
theorem Pn {f:FuncId} {fn:Func} {c:Code} {args:ca} {m:cf} {R:Ij} {B:Nat} (eg:c7 G) (hf:P.funcs[f]? = some fn) (hb:fn.body=some c) (gC:∀ a w,(callFunc f a).run P w=.ok (.enter f a) w)
  (hm:LOk m B) (ha:∀ x∈args,aL (dom (hpL G m)) x)
  (eI:∀ v ns,R v ns->aL (eo (dom (hpL G m)) ns) v/\(∀ p∈ns,B<=p.1/\p.2.ids (eo (dom (hpL G m)) ns))/\(∀ k b c,(k,b)∈ns->(k,c)∈ns->b=c))
  (hn:args.size<=fn.ntmps) (hB:100<=B)
  (h:∀ C:Ctx,C.G=G->C.hp0=hpL G m->C.Y=none->GW P C fn.ntmps [] none c ⟨λt=>args.getD t undef,hpL G m,B,0⟩ λe s=>(e=.normal\/e=.ret)/\(∀ k,dom (hpL G m) k->s.hp k=hpL G m k) /\
   ∃ v ns ρ,R v ns/\(∀ k,k<B->ρ k=k)/\(∀ p∈ns,B<=ρ p.1)/\(∀ p∈ns,∀ q∈ns,ρ p.1=ρ q.1->p.1=q.1)/\tB P fn.results.toList s.ts s.hp=some (ren ρ v)/\∀ p∈ns,s.hp (ρ p.1)=some (p.2.rn ρ)):FunS P G f args (hpL G m) (ak m) R:=by
 have e:=LOk.rst (m:=m) eg
 have dp:∀ k,dom (hpL G m) k->k<B:=λk hk=>by
  refine bu λh1=>hk (hm.free eg hB k zO)
 refine VV (B:=B) eg hm.low hf hb gC (by rw [e];exact ha) pJ (λv ns hR=>?_) hn hB py (λC h1 h2 h3=>?_)
 ·rw [e];obtain ⟨f1,f2,f3⟩:=eI v ns hR;refine ⟨f1,λk hk=>?_,f3,λp hp=>(f2 p hp).2⟩;exact Hq
 ·exact El
structure MvG (G G':Hp) (m m':cf) (ρ:dR):Prop where
 gf:c7 G
 gf':c7 G'
 ok:∃ B,LOk m B
 ok':∃ B,LOk m' B
 sub:∀ k b,G k=some b->G' k=some b/\ρ k=k
 at':∀ p∈m,∃ c,hpL G' m' (ρ p.1)=some c/\∀ r,c.obj r=(p.2.rn ρ).obj r
 inj:∀ k∈ak m,∀ l∈ak m,ρ k=ρ l->k=l
 far:∀ k∈ak m,∀ l b,G l=some b->ρ k≠l
theorem MvG.dom {m m':cf} {ρ:dR} (h:MvG G G' m m' ρ) {k:Nat} (hk:Gy.dom (hpL G m) k):Gy.dom (hpL G' m') (ρ k):=by
 unfold Gy.dom at hk
 cases hb:hpL G m k with
 | none=>exact absurd hb hk
 | some b =>
  rcases dE hb with h1|h1
  ·obtain ⟨c,h2,_⟩:=h.at' (k,b) h1;unfold Gy.dom;rw [show hpL G' m' (ρ k)=some c from h2];simp
  ·obtain ⟨h2,h3⟩:=h.sub k b h1;obtain ⟨B,ok'⟩:=h.ok';unfold Gy.dom;rw [h3,ok'.low k (h.gf k b h1).1,h2];simp
theorem MvG.run {m m':cf} {ρ:dR} (h:MvG G G' m m' ρ) (oM:∀ k b,hpL G m k=some b->b.ids (Gy.dom (hpL G m))) {r:dR} {W:World} (hg:GOK G' W) (hs:Sat r (Gy.dom (hpL G' m')) (hpL G' m') W) (hi:Inj r (Gy.dom (hpL G' m'))) (hl:∀ k,k<100->Gy.dom (hpL G' m') k->r k=k) :
  GOK G W/\Sat (λk=>r (ρ k)) (Gy.dom (hpL G m)) (hpL G m) W/\Inj (λk=>r (ρ k)) (Gy.dom (hpL G m))/\(∀ k,k<100->Gy.dom (hpL G m) k->r (ρ k)=k):=by
 obtain ⟨B',ok'⟩:=h.ok';obtain ⟨B,ok⟩:=h.ok;have hG:GOK G W:=λk b hk=>hg k b (h.sub k b hk).1
 have key:∀ k,Gy.dom (hpL G m) k->(k∈ak m/\100<=k)\/(∃ b,G k=some b/\k<100/\ρ k=k):=λk hk=>by
  unfold Gy.dom at hk
  cases hb:hpL G m k with
  | none=>exact absurd hb hk
  | some b =>
   rcases dE hb with h1|h1
   ·exact .inl ⟨aC.2 ⟨_,h1,rfl⟩,(ok.big _ h1).1⟩
   ·exact .inr ⟨b,h1,(h.gf k b h1).1,(h.sub k b h1).2⟩
 refine ⟨hG,λk b hk=>⟨?_,oM k b hk⟩,λk l hk KI e=>?_,λk hk hd=>?_⟩
 ·rcases dE hk with h1|h1
  ·obtain ⟨c,h2,h3⟩:=h.at' (k,b) h1;rw [(hs _ c h2).1,h3 r,Blk.rn_obj]
  ·obtain ⟨h2,h3⟩:=h.sub k b h1;have h4:=(h.gf k b h1).1;have h5:hpL G' m' k=some b:=by rw [ok'.low k h4,h2]
   have:=(hs k b h5).1;show W.heap[r (ρ k)]? = _;rw [h3,this];exact congrArg some (Blk.obj_congr (D:=λ_=>False) (λ_ hf=>hf.elim) (Blk.flat_ids (h.gf k b h1).2))
 ·have e2:ρ k=ρ l:=hi _ _ (h.dom hk) (h.dom KI) e;rcases key k hk with ⟨k1,_⟩|⟨b,k1,_,k2⟩<;>rcases key l KI with ⟨l1,_⟩|⟨c,l1,_,l2⟩
  ·exact h.inj k k1 l l1 e2
  ·exact absurd (e2.trans l2) (h.far k k1 l c l1)
  ·exact absurd (e2.symm.trans k2) (h.far l l1 k b k1)
  ·rw [<-k2,<-l2,e2]
 ·rcases key k hd with ⟨_,k1⟩|⟨b,k1,k3,k2⟩
  ·omega
  ·have:=hl k hk (by have:=h.dom hd;rwa [k2] at this);rw [k2,this]
theorem Fun.mvG {f:FuncId} {args gz:ca} {m m' ws:cf} {v:Value} {ρ:dR} (hi:Fun P G f args (hpL G m) (ak m) (.ret v ws)) (h:MvG G G' m m' ρ) (hw:∀ k∈ak ws,ρ k∈ak m') (ea:args.map (ren ρ)=gz) :
  Fun P G' f gz (hpL G' m') (ak m') (.ret (ren ρ v) (rnL ρ ws)):=by
 subst ea;have er:=LOk.rst (m:=m) h.gf;have pQ:=LOk.rst (m:=m') h.gf';obtain ⟨B',ok'⟩:=h.ok';obtain ⟨en,ids,closed,fits,run⟩:=hi;rw [er] at ids closed run;obtain ⟨f1,f2,f3,f4⟩:=fits;rw [er] at f1 f4;refine ⟨en,λx hx=>?_,λk b hb=>?_,⟨?_,λk hk=>?_,λk b c h1 h2=>?_,λp hp1=>?_⟩,λr W kE jU jk bC=>?_⟩
 ·exact Gh
 ·rw [pQ] at hb |-;exact ok'.closed h.gf' k b hb
 ·rw [pQ];exact AW (λk hk=>h.dom hk) f1
 ·obtain ⟨q,hq,rfl⟩:=wJ hk;have h1:=hw q hq;refine ⟨h1,ok'.sub _ h1,?_⟩;obtain ⟨p,hp,e⟩:=aC.1 h1;rw [<-e];exact (ok'.big p hp).1
 ·simp only [rnL,aK,ij] at h1 h2;obtain ⟨p,hp1,e1,rfl⟩:=h1;obtain ⟨q,om,e2,rfl⟩:=h2;have k1:=f2 p.1 (aC.2 ⟨p,hp1,rfl⟩);have k2:=f2 q.1 (aC.2 ⟨q,om,rfl⟩);have e3:=h.inj p.1 k1.1 q.1 k2.1 (e1.trans e2.symm);rw [f3 p.1 p.2 q.2 hp1 wX]
 ·simp only [rnL,aK] at hp1;obtain ⟨p,hp1,rfl⟩:=hp1;rw [pQ];exact Blk.ids_rn (λk hk=>h.dom hk) (f4 p hp1)
 ·rw [pQ] at jU jk bC;obtain ⟨s0,s1,s2,s3⟩:=h.run closed kE jU jk bC;have gU:=run (λk=>r (ρ k)) W s0 s1 s2 s3
  have ha:(args.map (ren ρ)).map (ren r)=args.map (ren λk=>r (ρ k)):=by
   exact tc
  rw [ha];refine gU.mono λe W' ⟨he,ht⟩=>⟨?_,ht.os,ht.tape,ht.output,ht.size,λk hk H6=>ht.same k hk λp hp1=>?_,λp hp1=>?_,zS,zS⟩
  ·rw [he,lx]
  ·exact Hm
  ·simp only [eP,rnL,aK] at hp1;obtain ⟨p,hp1,rfl⟩:=hp1;have hh:=ht.has p pG;refine ⟨by rw [Blk.rn_obj];exact hh.1,?_⟩;rw [pQ];exact Blk.ids_rn (λk hk=>hk.elim (λh1=>.inl (h.dom h1)) (λh1=>.inr (by simp [ak] at h1))) hh.2
theorem FunS.mvG {f:FuncId} {args gz:ca} {m m':cf} {R R':Ij} {ρ:dR} (hi:FunS P G f args (hpL G m) (ak m) R) (h:MvG G G' m m' ρ) (ea:args.map (ren ρ)=gz) (eR:RR ρ R=R')
  (Xy:∀ v ns,R v ns->∀ k∈ak ns,100<=ρ k/\¬dom (hpL G' m') (ρ k)) (Q0:∀ v ns,R v ns->∀ k∈ak ns,∀ l∈ak ns,ρ k=ρ l->k=l):FunS P G' f gz (hpL G' m') (ak m') R':=by
 subst ea eR;have er:=LOk.rst (m:=m) h.gf;have pQ:=LOk.rst (m:=m') h.gf';obtain ⟨B',ok'⟩:=h.ok';obtain ⟨en,ids,closed,fits,run⟩:=hi;rw [er] at ids closed run fits;have afX:∀ ns,∀ k,eo (dom (hpL G m)) ns k->eo (dom (hpL G' m')) (rnL ρ ns) (ρ k):=λns k hk=>hk.elim (λh1=>.inl (h.dom h1)) (λh1=>.inr (Bb h1));refine ⟨en,λx hx=>?_,λk b hb=>?_,λv' ns' Ry=>?_,λr W kE jU jk bC=>?_⟩
 ·exact Gh
 ·rw [pQ] at hb |-;exact ok'.closed h.gf' k b hb
 ·rw [pQ];obtain ⟨v,ns,hR,rfl,rfl⟩:=Ry;obtain ⟨f1,f2,f3,f4⟩:=fits v ns hR;exact GC
 ·rw [pQ] at jU jk bC |-;obtain ⟨s0,s1,s2,s3⟩:=h.run closed kE jU jk bC;have gU:=run (λk=>r (ρ k)) W s0 s1 s2 s3
  have ha:(args.map (ren ρ)).map (ren r)=args.map (ren λk=>r (ρ k)):=by
   exact tc
  rw [ha];refine gU.mono λe W' ⟨v,ns,r1,hR,Zj,he,ht⟩=>?_;obtain ⟨f1,f2,f3,f4⟩:=fits v ns hR;let r2:Nat->Nat:=λk'=>match (ak ns).find? (λk=>ρ k==k') with|some k=>r1 k|none=>r k'
  have e1:∀ k∈ak ns,r2 (ρ k)=r1 k:=λk hk=>by
   exact Gq
  have e2:∀ k,dom (hpL G' m') k->r2 k=r k:=λk hk=>by
   show (match (ak ns).find? (λl=>ρ l==k) with|some k=>r1 k|none=>r k)=r k
   cases hf:(ak ns).find? (λl=>ρ l==k) with
   | none=>rfl
   | some l =>
    have h1:=we hf;have h2:=vY hf;simp only [beq_iff_eq] at h1;exact absurd (h1▸hk) (Xy v ns hR l h2).2
  have e3:∀ k,eo (dom (hpL G m)) ns k->r2 (ρ k)=r1 k:=λk hk=>hk.elim (λh1=>by rw [e2 _ (h.dom h1),Zj k h1]) (λh1=>e1 k h1);refine ⟨ren ρ v,rnL ρ ns,r2,⟨v,ns,hR,rfl,rfl⟩,e2,?_,ht.os,ht.tape,ht.output,ht.size,λk hk H6=>ht.same k hk zS,λp hp1=>?_,λp hp1=>?_,λp hp1 q om hpq=>?_⟩
  ·rw [he,lx];exact congrArg _ (jQ (D:=eo (dom (hpL G m)) ns) (λk hk=>(e3 k hk).symm) f1)
  ·exact Hg
  ·exact Fo
  ·exact Hi
end
end Go.Gy
namespace Go.Gy
open Go Go.RowKit Go.Proofs Go.Proofs.Tryz
theorem Tp (N:Int) (v:aJ) (w0:wr (v 0)) (w1:wr (v 1)) (h0:v 0<=v 1) (h1:i64 (v 1 - v 0)):Ret prog G0 12 #[oA N v] (.tuple #[.int .i64 (v 1 - v 0),.bool true]):=by
 unfold oA fV;refine aU G0F func12 rfl call12 zS zS (by simp [ntmps12]) ?_;intro C hC bA hY;have hw:=λ(K:fQ)=>ar (K:=K) G0W ah (MA (v 0) (v 1) w0 w1 h0 h1);unfold spV at hw;refine cA hw ?_;exact eR results12
theorem AB {n:Nat} {f:aJ} {g bx tp nr md:Int} (h:fk n f g bx tp nr md=true):1<=n/\n<=4:=by
 unfold fk wiB at h;simp only [bn,db] at h;omega
def prC (ok:Bool) (n:Nat):Int:=if ok then (n*(n - 1) / 2:Nat) else 0
theorem XZ (b:Blk) (off n cap:Nat) (f:aJ) (h:MB b off n f) (g bx tp nr md:Int) :
  Fun prog G0 51 #[cfV (.slice (some ⟨100,off,none⟩) n cap) g bx tp nr md] (hpL G0 [(100,b)]) (ak [(100,b)]) (.ret (.int .i64 (prC (fk n f g bx tp nr md) n)) []):=by
 refine cg (B:=200) G0F func51 rfl call51 (aT h.fx) ?_ zS zS zS (by simp [ntmps51]) zO ?_
 ·exact Q3
 intro C hC bA hY;have hr:=λρ=>Blk.fx_rn h.fx ρ;have qY:=BO b off n cap f h g bx tp nr md;unfold prC
 cases hc:fk n f g bx tp nr md with
 | true =>
  rw [hc] at qY;have hn:=AB hc;have:n=1\/n=2\/n=3\/n=4:=zO;clear hc;unfold cfV at qY |-;rcases this with rfl|rfl|rfl|rfl
  all_goals
   repeat' first|refine cT ?_|((first|refine gwR [83] ?_|refine gwD [83] ?_);intro Q hQ _;(repeat first|simp [hC,hY]|refine aE qY G0F (B:=200) (aT h.fx) (λk=>k) (λk hk=>rfl) dI zS dx ai ax ?_);refine dq hQ ?_)|fail
   exact eS results51
 | false =>
  rw [hc] at qY;unfold cfV at qY |-
  repeat' first|refine cT ?_|((first|refine gwR [83] ?_|refine gwD [83] ?_);intro Q hQ _;(repeat first|simp [hC,hY]|refine aE qY G0F (B:=200) (aT h.fx) (λk=>k) (λk hk=>rfl) dI zS dx ai ax ?_);refine dq hQ ?_)|fail
  exact eS results51
theorem amS (ok:Bool) {n:Nat} (h:ok=true->n<=4):0<=prC ok n/\prC ok n<=6:=by
 unfold prC
 cases ok with
 | false=>simp
 | true =>
  have hn:=h rfl;have:n=0\/n=1\/n=2\/n=3\/n=4:=zO;rcases this with rfl|rfl|rfl|rfl|rfl<;>decide
theorem Pg (b:Blk) (off n cap:Nat) (f:aJ) (h:MB b off n f) (g bx tp nr md:Int) :
  Fun prog G0 20 #[cfV (.slice (some ⟨100,off,none⟩) n cap) g bx tp nr md] (hpL G0 [(100,b)]) (ak [(100,b)]) (.ret (.int .i64 (2*prC (fk n f g bx tp nr md) n)) []):=by
 refine cg (B:=200) G0F func20 rfl call20 (aT h.fx) ?_ zS zS zS (by simp [ntmps20]) zO ?_
 ·exact Q3
 intro C hC bA hY;have hr:=λρ=>Blk.fx_rn h.fx ρ;have iZ:=XZ b off n cap f h g bx tp nr md;have hb:=amS (fk n f g bx tp nr md) (n:=n) λh=>(AB h).2;generalize prC (fk n f g bx tp nr md) n=z at *
 have hs:Int.bmod (2*z) 18446744073709551616=2*z:=bm zO zO;unfold cfV at iZ |-
 repeat' first|refine cT ?_|((first|refine gwR [51] ?_|refine gwD [51] ?_);intro Q hQ _;(repeat first|simp [hC,hY,hs]|refine aE iZ G0F (B:=200) (aT h.fx) (λk=>k) (λk hk=>rfl) dI zS dx ai ax ?_);refine dq hQ ?_)|fail
 exact eS results20
theorem nH {p:Prop} (h:p:=by simp [cfV,ren,aW,aw,aF,Gy.mv2]):p:=h
theorem Du {p:Prop} (h:p:=by have:=qa u;have:=qb u;unfold sP;exact ⟨zO,zO⟩):p:=h
theorem DL {p:Prop} (h:p:=by have:=ra u;have:=rb u;unfold sL;exact ⟨zO,zO⟩):p:=h
theorem EU {p:Prop} (h:p:=by
 exact ⟨bm,hT.mem _ ha,λr=>by rw [Blk.fx_rn (hT.fx _ ha)]⟩):p:=h
def mv2 (ka kb k:Nat):Nat:=if k=100 then ka else if k=108 then kb else k
section
variable {L:cf} {ka kb:Nat} {bm ba:Blk}
theorem VT {k:Nat} (h:k<100):mv2 ka kb k=k:=by unfold mv2;rw [ae zO,ae zO]
theorem LAny.same (hT:LAny L) (ha:(ka,bm)∈L) (hb:(ka,ba)∈L):bm=ba:=by
 have h1:=hT.mem _ ha;have h2:=hT.mem _ hb;simp only at h1 h2;rw [h1] at h2;exact lj h2
theorem LAny.mv1 (hT:LAny L) (ha:(ka,bm)∈L):MvG G0 G0 [(100,bm)] L (mv2 ka kb):=by
 have hka:=(hT.ok.big _ ha).1;refine ⟨G0F,G0F,⟨200,aT (hT.fx _ ha)⟩,⟨200,hT.ok⟩,λk b hk=>⟨hk,VT (G0F k b hk).1⟩,?_,?_,?_⟩
 ·intro p hp;simp only [br] at hp;subst hp;exact EU
 ·intro k hk l hl e;simp [ak] at hk hl;omega
 ·intro k hk l b hl e;simp [ak] at hk;subst hk;have:=(G0F l b hl).1;unfold mv2 at e;rw [ag rfl] at e;simp only at hka;omega
theorem LAny.mv2 (hT:LAny L) (ha:(ka,bm)∈L) (hb:(kb,ba)∈L) (cW:ka≠kb):MvG G0 G0 [(100,bm),(108,ba)] L (mv2 ka kb):=by
 have hka:=(hT.ok.big _ ha).1;have hkb:=(hT.ok.big _ hb).1;refine ⟨G0F,G0F,⟨200,(LTwo.two (G:=G0) (hT.fx _ ha) (hT.fx _ hb)).ok⟩,⟨200,hT.ok⟩,λk b hk=>⟨hk,VT (G0F k b hk).1⟩,?_,?_,?_⟩
 ·intro p hp;simp only [aj,az,ay] at hp;rcases hp with rfl|rfl
  ·exact EU
  ·exact ⟨ba,hT.mem _ hb,λr=>by rw [Blk.fx_rn (hT.fx _ hb)]⟩
 ·intro k hk l hl e;simp [ak] at hk hl;unfold Gy.mv2 at e;rcases hk with rfl|rfl<;>rcases hl with rfl|rfl<;>simp at e<;>first|rfl|omega
 ·intro k hk l b hl e;simp [ak] at hk;have:=(G0F l b hl).1;unfold Gy.mv2 at e;simp only at hka hkb;rcases hk with rfl|rfl<;>simp at e<;>omega
theorem Au {f:FuncId} {off n cap au n2 av:Nat} {g bx tp nr md st:Int} {v:Value} (hv:bp v=true) (hT:LAny L) (ha:(ka,bm)∈L) (hb:(kb,ba)∈L)
  (h:∀ (L':cf) (ks:Nat),LTwo G0 L' ks bm ba->Fun prog G0 f #[cfV (.slice (some ⟨100,off,none⟩) n cap) g bx tp nr md,.agg #[.int .i64 st,.slice (some ⟨ks,au,none⟩) n2 av]] (hpL G0 L') (ak L') (.ret v [])) :
  Fun prog G0 f #[cfV (.slice (some ⟨ka,off,none⟩) n cap) g bx tp nr md,.agg #[.int .i64 st,.slice (some ⟨kb,au,none⟩) n2 av]] (hpL G0 L) (ak L) (.ret v []):=by
 by_cases cW:ka=kb
 ·subst cW;have:=hT.same ha hb;subst this;have h1:=(h _ _ (LTwo.one (hT.fx _ ha))).mvG (gz:=#[cfV (.slice (some ⟨ka,off,none⟩) n cap) g bx tp nr md,.agg #[.int .i64 st,.slice (some ⟨ka,au,none⟩) n2 av]]) (hT.mv1 (kb:=ka) ha) ai nH;rw [bS hv] at h1;exact h1
 ·have h1:=(h _ _ (LTwo.two (hT.fx _ ha) (hT.fx _ hb))).mvG (gz:=#[cfV (.slice (some ⟨ka,off,none⟩) n cap) g bx tp nr md,.agg #[.int .i64 st,.slice (some ⟨kb,au,none⟩) n2 av]]) (hT.mv2 ha hb cW) ai nH;rw [bS hv] at h1;exact h1
end
theorem SlI.at {L:cf} {k off:Nat} {b:Blk} (h:(k,b)∈L):SlI L (some ⟨k,off,none⟩):=λn cap=>by
 simp [aI,aP];exact aC.2 ⟨_,h,rfl⟩
theorem SlI.nil {L:cf}:SlI L none:=λn cap=>by simp [aI,aP]
theorem LTwo.any {L:cf} {ks:Nat} {b b2:Blk} (h:LTwo G0 L ks b b2):LAny L:=⟨h.ok,h.fx⟩
def zP (fs:aJ) (u i:Nat):Int:=if u=0 then fs (6*i+3) else if u=1 then fs (6*i+4) else fs (6*i+5)
def zL (fs:aJ) (u i:Nat):Int :=
 if u=0 then fs (6*i+1)*fs (6*i+5) - fs (6*i+2)*fs (6*i+4)
 else if u=1 then fs (6*i+2)*fs (6*i+3) - fs (6*i)*fs (6*i+5)
 else fs (6*i)*fs (6*i+4) - fs (6*i+1)*fs (6*i+3)
def sP (fm fs:aJ) (n u:Nat):Int:=dh (mzF fm (zP fs) u) n
def sL (fm fs:aJ) (n u:Nat):Int:=dh (mzF fm (zL fs) u) n
theorem zc {x v:Int} (hx:inW 1048576 x) (hv:inW 65536 v):-68719476736<=x*v/\x*v<=68719476736:=by
 obtain ⟨_,a,b⟩:=hx;obtain ⟨_,c,d⟩:=hv;have k:x.natAbs*v.natAbs<=1048576*65536:=jZ zO zO;rw [<-rT] at k;omega
theorem Sl {st:Int} {fs:aJ} {n:Nat} (hr:aY st fs n=true) (u i:Nat) (hi:i<n):-65536<=zP fs u i/\zP fs u i<=65536:=by
 obtain ⟨_,⟨_,a0,a1⟩,⟨_,b0,b1⟩,⟨_,c0,c1⟩⟩:=jy hr hi;unfold zP;split
 ·omega
 ·split<;>omega
theorem Sk {st:Int} {fs:aJ} {n:Nat} (hr:aY st fs n=true) (u i:Nat) (hi:i<n):-274877906944<=zL fs u i/\zL fs u i<=274877906944:=by
 obtain ⟨⟨x0,x1,x2⟩,v0,v1,v2⟩:=jy hr hi;have a:=zc x1 v2;have b:=zc x2 v1;have c:=zc x2 v0;have d:=zc x0 v2;have e:=zc x0 v1;have f:=zc x1 v0;unfold zL;split
 ·omega
 ·split<;>omega
theorem aaU {st:Int} {fs:aJ} {n i:Nat} (hr:aY st fs n=true) (hi:i<n):(fnI (fs (6*i))/\fnI (fs (6*i+1))/\fnI (fs (6*i+2)))/\fnI (fs (6*i+3))/\fnI (fs (6*i+4))/\fnI (fs (6*i+5)):=by
 obtain ⟨⟨⟨_,a0,a1⟩,⟨_,b0,b1⟩,⟨_,c0,c1⟩⟩,⟨_,d0,d1⟩,⟨_,e0,e1⟩,⟨_,f0,f1⟩⟩:=jy hr hi;unfold fnI;omega
section
variable {L:cf} {ks:Nat} {bm bs:Blk} {off n cap au av:Nat} {fm fs:aJ} {g bx tp nr md st:Int}
theorem ajl (hT:LTwo G0 L ks bm bs) (hm:MB bm off n fm) (fO:SB bs au n fs) (hs:i64 st) (eM:fk n fm g bx tp nr md=true) (jh:aY st fs n=true) :
  Fun prog G0 38 #[cfV (.slice (some ⟨100,off,none⟩) n cap) g bx tp nr md,.agg #[.int .i64 st,.slice (some ⟨ks,au,none⟩) n av]] (hpL G0 L) (ak L) (.ret (.tuple #[v3 (sP fm fs n 0) (sP fm fs n 1) (sP fm fs n 2),.int .i64 0]) []) :=
 asc hT.any (SlI.at hT.ka) (SlI.at hT.kb) (VS L ks bm bs hT off n cap au av fm fs hm fO g bx tp nr md st hs eM jh 71 (zP fs) (λi hi K=>asb _ _ _ _ _ _ K) (λu i hi=>by have:=Sl jh u i hi;omega))
theorem ajk (hT:LTwo G0 L ks bm bs) (hm:MB bm off n fm) (fO:SB bs au n fs) (hs:i64 st) (eM:fk n fm g bx tp nr md=true) (jh:aY st fs n=true) :
  Fun prog G0 39 #[cfV (.slice (some ⟨100,off,none⟩) n cap) g bx tp nr md,.agg #[.int .i64 st,.slice (some ⟨ks,au,none⟩) n av]] (hpL G0 L) (ak L) (.ret (.tuple #[v3 (sL fm fs n 0) (sL fm fs n 1) (sL fm fs n 2),.int .i64 0]) []) :=
 asa hT.any (SlI.at hT.ka) (SlI.at hT.kb) (VS L ks bm bs hT off n cap au av fm fs hm fO g bx tp nr md st hs eM jh 72 (zL fs) (λi hi K=>ar9 (aaU jh hi) K) (λu i hi=>Sk jh u i hi))
end
theorem CU {n:Nat} {fm:aJ} {g bx tp nr md:Int} (eM:fk n fm g bx tp nr md=true) {z:lX} (hz:∀ u i,i<n->-274877906944<=z u i/\z u i<=274877906944) (u:Nat):-1125899906842624<=dh (mzF fm z u) n/\dh (mzF fm z u) n<=1125899906842624:=by
 have h4:=(AB eM).2
 have:=M6 (f:=mzF fm z u) (n:=n) (λj hj=>by
  have Ty:=jN eM hj;have VD:=hz u j hj;exact JB Ty.1 Ty.2 VD.1 VD.2) n (aA _)
 omega
def lsE (ea eb:Int):Int:=if ea=0 then eb else ea
def lsW (ea eb:Int) (fm:aJ) (n:Nat) (g:Int) (fa fb:aJ):Nat->Int :=
 if ea=0/\eb=0 then lsN (eLo 0 g fm fb n - eHi 0 g fm fa n) (eHi 0 g fm fb n - eLo 0 g fm fa n) (sP fm fb n 0 - sP fm fa n 0) (sP fm fb n 1 - sP fm fa n 1) (sP fm fb n 2 - sP fm fa n 2) (sL fm fb n 0 - sL fm fa n 0) (sL fm fb n 1 - sL fm fa n 1) (sL fm fb n 2 - sL fm fa n 2)
 else λ_=>0
theorem Vh {n n2:Nat} {fm fs:aJ} {g bx tp nr md st:Int} (h:enE n n2 fm fs g bx tp nr md st=0):n=n2/\fk n fm g bx tp nr md=true/\aY st fs n2=true/\JO fs n2=0:=by
 unfold enE aho at h;split at h
 ·rename_i hf;obtain ⟨a,b,c⟩:=kC.1 hf;split at h
  ·rename_i hz;exact ⟨a,b,c,hz⟩
  ·cases h
 ·cases h
theorem Vw {L:cf} (hT:LAny L) {ka kb kc:Nat} {bm ba bb:Blk} (h1:(ka,bm)∈L) (h2:(kb,ba)∈L) (h3:(kc,bb)∈L) {off n cap amF na dj ag8 nb jT:Nat} {fm fa fb:aJ} (hm:MB bm off n fm) (hA:SB ba amF na fa) (hB:SB bb ag8 nb fb) (RC:n<=cap) (hca:na<=dj) (hcb:nb<=jT) {g bx tp nr md je vl:Int} (hsa:i64 je) (hsb:i64 vl) :
  Fun prog G0 10 #[cfV (.slice (some ⟨ka,off,none⟩) n cap) g bx tp nr md,.agg #[.int .i64 je,.slice (some ⟨kb,amF,none⟩) na dj],.agg #[.int .i64 vl,.slice (some ⟨kc,ag8,none⟩) nb jT]] (hpL G0 L) (ak L)
   (.ret (.tuple #[gA (lsW (enE n na fm fa g bx tp nr md je) (enE n nb fm fb g bx tp nr md vl) fm n g fa fb),.int .i64 (lsE (enE n na fm fa g bx tp nr md je) (enE n nb fm fb g bx tp nr md vl))]) []):=by
 have eA:=Au (av:=dj) (N9 n na fm fa g bx tp nr md je) hT h1 h2 λL' ks hL=>K3 L' ks bm ba hL off n cap amF na dj fm fa hm hA RC hca g bx tp nr md je hsa;have eB:=Au (av:=jT) (N9 n nb fm fb g bx tp nr md vl) hT h1 h3 λL' ks hL=>K3 L' ks bm bb hL off n cap ag8 nb jT fm fb hm hB RC hcb g bx tp nr md vl hsb;unfold enV at eA eB;by_cases ha:enE n na fm fa g bx tp nr md je=0
 ·rw [ha] at eA |-;obtain ⟨rfl,eM,ja,hza⟩:=Vh ha;by_cases hb:enE n nb fm fb g bx tp nr md vl=0
  ·rw [hb] at eB |-;obtain ⟨rfl,_,Ez,hzb⟩:=Vh hb;have pA:=Au (av:=dj) lN hT h1 h2 λL' ks hL=>ajl (cap:=cap) (av:=dj) hL hm hA hsa eM ja;have pB:=Au (av:=jT) lN hT h1 h3 λL' ks hL=>ajl (cap:=cap) (av:=jT) hL hm hB hsb eM Ez;have lA:=Au (av:=dj) lN hT h1 h2 λL' ks hL=>ajk (cap:=cap) (av:=dj) hL hm hA hsa eM ja;have lB:=Au (av:=jT) lN hT h1 h3 λL' ks hL=>ajk (cap:=cap) (av:=jT) hL hm hB hsb eM Ez;have qa:=λu=>CU eM (z:=zP fa) (λu i hi=>by have:=Sl ja u i hi;omega) u;have qb:=λu=>CU eM (z:=zP fb) (λu i hi=>by have:=Sl Ez u i hi;omega) u;have ra:=λu=>CU eM (z:=zL fa) (λu i hi=>Sk ja u i hi) u;have rb:=λu=>CU eM (z:=zL fb) (λu i hi=>Sk Ez u i hi) u;have dP:∀ u,i64 (sP fm fb n u - sP fm fa n u):=λu=>Du;have dL:∀ u,i64 (sL fm fb n u - sL fm fa n u):=λu=>DL;have gP:=Lh hT (SlI.at h1) (SlI.at h2) (SlI.at h3) (F:=38) zD (dP 0) (dP 1) (dP 2) pA pB;have gL:=Lh hT (SlI.at h1) (SlI.at h2) (SlI.at h3) (F:=39) zD (dL 0) (dL 1) (dL 2) lA lB;have h:=abw hT (SlI.at h1) (SlI.at h2) (SlI.at h3) eA eB gP gL;unfold lsW lsE;rw [ag ⟨rfl,rfl⟩,ag rfl];exact h
  ·have h:=Tx hT (SlI.at h1) (SlI.at h2) (SlI.at h3) hb eA eB;unfold lsW lsE;rw [ae (λh=>hb h.2),ag rfl];exact h
 ·have h:=Jg (vl:=vl) (pb:=some ⟨kc,ag8,none⟩) (nb:=nb) (jT:=jT) hT (SlI.at h1) (SlI.at h2) (SlI.at h3) ha eA;unfold lsW lsE;rw [ae (λh=>ha h.1),ae ha];exact h
end Go.Gy
namespace Go.Gy
open Go Go.RowKit Go.Proofs
end Go.Gy
namespace Go.Gy
open Go Go.RowKit Go.Proofs Go.Proofs.Tryz
end Go.Gy
namespace Go.Gy
open Go Go.RowKit Go.Proofs
end Go.Gy
namespace Go.Gy
open Go Go.RowKit Go.Proofs Go.Proofs.Tryz
def bt (z:Int):Nat->Int
 | 0=>0
 | i+1=>if wi z i=0 then bt z i else 64*i+bz (wi z i)
theorem apR (z:Int):bt z 4=bz (uz z):=by
 simp only [bt];by_cases h3:wi z 3=0
 ·by_cases h2:wi z 2=0
  ·by_cases h1:wi z 1=0
   ·rw [Us z h3 h2 h1];by_cases h0:wi z 0=0
    ·simp [h0,h1,h2,h3];rfl
    ·simp [h0,h1,h2,h3]
   ·rw [Ut z h3 h2 h1];simp [h1,h2,h3]
  ·rw [Uu z h3 h2];simp [h2,h3]
 ·rw [Uv z h3];simp [h3]
theorem avW (i j:Nat) (hi:i<4) (hj:j<64):Int.bmod (64*(i:Int)+(1+j)) 18446744073709551616=64*(i:Int)+(1+j):=bm zO zO
def akb (z:Int) (i:Nat):GS :=
 ⟨tsL [(1,.pointer (some ⟨200,0,none⟩)),(3,.int .i64 (bt z i)),(4,.int .i64 i)],hpL G0 [(200,⟨fa 4 .u64 (wi z),.ty 30⟩)],300,0⟩
def ZU (z:Int) (i j:Nat):GS :=
 ⟨tsL [(1,.pointer (some ⟨200,0,none⟩)),(3,.int .i64 (if j=0 then bt z i else 64*i+j)),(4,.int .i64 i),(5,.int .u64 (wi z i / 2^j)),(6,.int .i64 (1+j))],hpL G0 [(200,⟨fa 4 .u64 (wi z),.ty 30⟩)],300,0⟩
theorem VU:bz 0=0:=rfl
theorem ak3 (x:Int) (h0:0<=x):(∀ j:Nat,j<(bz x).toNat->0<x / 2^j)/\x / 2^(bz x).toNat=0:=by
 by_cases h:x=0
 ·subst h;rw [VU];simp
 ·obtain ⟨k,hk,k1,k2⟩:=oC (x:=x) zO;have e:(bz x).toNat=k+1:=zO;rw [e];have hp:=fw (n:=2) (m:=k+1) zD;refine ⟨λj hj=>?_,dU h0 k2⟩;have h3:(2:Int)^j<=2^k:=by exact_mod_cast ic zO (by omega:j<=k)
  have hpj:=fw (n:=2) (m:=j) zD
  have:1<=x / 2^j:=by
   rw [rr hpj];omega
  omega
theorem ZS (z:Int):Ret prog G0 155 #[wd z] (.int .i64 (bz (uz z))):=by
 refine aU G0F func155 rfl call155 rfl zS (by simp [ntmps155]) ?_;intro C hC bA hY;refine iI ?_;refine fD 4 (akb z) ?_ ?_ ?_
 ·refine cB _ 300 hC G0F (m0:=[]) bA zO ?_ ?_ ?_
  ·simp [aL,cQ,aI,aP,dom,bt]
  ·simp [Blk.ids,aI,aP,vn]
  ·simp
 ·intro i hi;have cS:(i:Int)<4:=zO;have hz:(0:Int)<=i:=zO;have hs:Int.bmod ((i:Int)+1) 18446744073709551616=((i+1:Nat):Int):=ee;unfold akb;refine cA (k5 hi cS hz hs @mw) ?_;have w0:=dJ z i;have w1:=eJ z i;have hN:=qm z i;obtain ⟨hh,hhN⟩:=ak3 (wi z i) w0
  have R4:(bz (wi z i)).toNat=0↔wi z i=0:=by
   refine ⟨λh=>?_,λh=>by rw [h,VU];rfl⟩;rw [h] at hhN;simpa using hhN
  have hbt:bt z (i+1)=if (bz (wi z i)).toNat=0 then bt z i else 64*i+((bz (wi z i)).toNat:Int):=by
   simp only [bt];by_cases h:wi z i=0
   ·rw [ag h,ag (R4.2 h)]
   ·rw [ae h,ae (λh'=>h (R4.1 h'))];omega
  generalize (bz (wi z i)).toNat=N at *
  have awW:N<=64:=by
   refine bu λhc=>?_;have:=hh 64 zO;rw [dU w0 zO] at this;omega
  refine fD N (ZU z i) ?_ ?_ ?_
  ·refine cB _ 300 hC G0F (m0:=[]) bA zO ?_ ?_ ?_
   ·exact lO
   ·simp [lv]
   ·simp
  ·intro j hj;have OL:=hh j hj;have hw:wi z i / 2^j<18446744073709551616:=fJ (rD _ w0) w1;have nU:Int.bmod (1+(j:Int)+1) 18446744073709551616=1+((j+1:Nat):Int):=pF;have VA:Int.bmod (64*(i:Int)) 18446744073709551616=64*(i:Int):=bm zO zO;have hs4:Int.bmod (64*(i:Int)+(1+j)) 18446744073709551616=64*(i:Int)+(1+j):=avW i j hi (iQ hj awW)
   have hd:(wi z i / 2^j).tdiv 2=wi z i / 2^(j+1):=by
    rw [hZ zO,jr (bW (fw zD)),iK]
   have Sp:wi z i / 2^(j+1)%18446744073709551616=wi z i / 2^(j+1):=by
    rw [<-hd,hZ zO];omega
   unfold ZU;refine cA (k6 OL nU VA hs4 hd Sp) ?_;refine cB _ 300 hC G0F (m0:=[]) bA zO ?_ ?_ ?_
   ·simp [aL,cQ,aI,aP,dom];omega
   ·simp [lv]
   ·simp
  ·unfold ZU;refine cA (Gy.k2 hhN hs) ?_;refine cB _ 300 hC G0F (m0:=[]) bA zO ?_ ?_ ?_
   ·simp [aL,cQ,aI,aP,dom,hbt,hs]
   ·simp [lv]
   ·simp
 ·unfold akb;refine cA @apR ?_;exact eR (Gy.k2 results155 @apR)
@[simp] theorem ayI (z:Int) (K:fQ):bl prog G0 155 #[Value.agg #[.int .u64 (wi (z) 0),.int .u64 (wi (z) 1),.int .u64 (wi (z) 2),.int .u64 (wi (z) 3)]] K↔K (.int .i64 (bz (uz z))):=ar G0W ah (ZS z)
theorem HB {p:Prop} (h:p:=by
 unfold aht;refine cA (k20 hn g1 g4 tq tm t4 QC t00 tb t3 m1 m2 @mw @qJ AU @wb.eq_1 Sa htt hm zz) ?_;refine cB _ 400 hC G0F (m0:=[]) bA zO ?_ ?_ ?_
 ·exact nv
 ·simp [wb,vn]
 ·simp [wb]):p:=h
theorem adx (a:Int) (K:Nat):∀ i,i<=K->∃ c,rp a K i=c*2^(K - i)
 | 0,_=>⟨0,by simp [rp]⟩
 | i+1,h=>by
  obtain ⟨c,hc⟩:=adx a K i zO;have e:K - i=(K - (i+1))+1:=zO;have e2:K - 1 - i=K - (i+1):=zO;rw [e,iK,bX _ 2,<-bD] at hc;unfold rp;rw [e2];split
  ·exact ⟨c*2+1,by rw [hc,eF,rP]⟩
  ·exact ⟨c*2,hc⟩
theorem amM (c:Int) (t r:Nat) (hr:r<64) (ht:t<4):fa 4 .u64 (upd (wi (c*2^(64*t+r+1))) t (jS .or .u64 (wi (c*2^(64*t+r+1)) t) (2^r)))=fa 4 .u64 (wi (c*2^(64*t+r+1)+2^(64*t+r))):=by
 refine nW λj hj=>?_;by_cases h:j=t
 ·subst h;rw [cY,adZ c j r hr]
 ·rw [ao _ _ h,Ki c t r j hr h]
def aht (a r:Int) (m:Int):GS :=
 ⟨tsL [(1,.pointer (some ⟨200,0,none⟩)),(2,.pointer (some ⟨208,0,none⟩)),(3,.int .i64 0),(4,.pointer (some ⟨248,0,none⟩)),(5,.int .i64 m)],
 hpL G0 [(200,wb a),(208,wb 0),(248,⟨fa 4 .u64 (wi r),.ty 30⟩)],400,0⟩
theorem PE (a:Int) (ha:wr a) (h0:0<=a):Ret prog G0 135 #[wd a] (.tuple #[wd (isq a),.int .i64 0]):=by
 refine aU G0F func135 rfl call135 zS zS (by simp [ntmps135]) ?_;intro C hC bA hY;have s1:¬dv (sz a) 0<0:=lE;have Sr:=pk 255 ha.2;have eu:uz a=a:=by unfold uz;have:=ha.2;omega
 have hinv:=No a (bz a / 2+1).toNat h0 (Jn a h0);have hdv:=adx a (bz a / 2+1).toNat;have alp:isq a=rp a (bz a / 2+1).toNat (bz a / 2+1).toNat:=rfl;have hM:0<=bz a / 2/\bz a / 2<=127:=zO;have td:(bz a).tdiv 2=bz a / 2:=hZ zO;have tb:Int.bmod (bz a / 2) 18446744073709551616=bz a / 2:=bm zO zO;refine cA (k4 s1 eu td tb) ?_;clear td tb;generalize bz a / 2=M at *
 generalize hK:(M+1).toNat=K at *
 refine fD K (λi=>aht a (rp a K i) (M - i)) ?_ ?_ ?_
 ·refine cB _ 400 hC G0F (m0:=[]) bA zO ?_ ?_ ?_
  ·exact lO
  ·simp [Blk.ids,aI,aP,vn,wb,rp,ct]
  ·simp
 ·intro i hi;obtain ⟨n,hn⟩:∃ n:Nat,M - (i:Int)=n:=⟨(M - i).toNat,zO⟩
  obtain ⟨r0,r1,r2⟩:=hinv i zO;obtain ⟨c,hc⟩:=hdv i zO;have en:K - 1 - i=n:=zO;have en1:K - i=n+1:=zO
  have Su:rp a K (i+1)=if (rp a K i+2^n)*(rp a K i+2^n)<=a then rp a K i+2^n else rp a K i:=by
   rw [rp,en]
  rw [en1] at hc;generalize rp a K i=r at *
  have ef:=ha.2;have hr:r<340282366920938463463374607431768211456:=Wm _ r0 zD zO;have hn2:(2:Int)^n<=2^127:=by exact_mod_cast ic zO (by omega:n<=127)
  have R4:=dV n;have t0:0<=r+2^n:=zO;have t1:r+2^n<680564733841876926926749214863536422912:=zO;have Sa:sz (r+2^n)=r+2^n:=tD t0 (rH t1 zD);have tt0:0<=(r+2^n)*(r+2^n):=bK t0 t0
  have hmul:tA (r+2^n) (r+2^n)=decide (¬((r+2^n)*(r+2^n)<57896044618658097711785492504343953926634992332820282019728792003956564819968)):=by
   exact Ec
  have QB:sz a=a:=gB ha;obtain ⟨t,q,hq,Kt⟩:∃ t q,q<64/\n=64*t+q:=⟨n / 64,n%64,zO,zO⟩
  have g1:(0:Int)<=n:=zO;have g4:Int.bmod ((n:Int) - 1) 18446744073709551616=M - ((i+1:Nat):Int):=pF;have tq:((n:Int)).tdiv 64=t:=pL;have tm:((n:Int)).tmod 64=q:=pD;have t4:t<4:=zO;have QC:(t:Int)<4:=zO;have t00:(0:Int)<=t:=zO;have tb:Int.bmod (t:Int) 18446744073709551616=t:=bm zO zO;have t3:t<=3:=rE t4;have m1:min q 64=q:=zO
  have m2:(2:Int)^q%18446744073709551616=2^q:=bP (bW (dV _)) (by
   have:(2:Int)^q<2^64:=by exact_mod_cast CB zO hq
   exact this)
  have AU:=amM c t q hq t4;rw [<-Kt,<-hc] at AU;rw [vn .u64 (wi (r+2^n))] at AU;simp only [Su];generalize htt:(r+2^n)*(r+2^n)=T at *
  by_cases AQ:T<57896044618658097711785492504343953926634992332820282019728792003956564819968
  ·have hm:tA (r+2^n) (r+2^n)=false:=by rw [hmul];simp [AQ]
   have szT:sz T=T:=tD tt0 AQ;by_cases hle:T<=a
   ·have zz:dv (sz T) (sz a)<=0:=by rw [szT,QB];unfold dv;split<;>(try split)<;>omega
    rw [ag hle];exact HB
   ·have zz:¬dv (sz T) (sz a)<=0:=by rw [szT,QB];unfold dv;split<;>(try split)<;>omega
    rw [ae hle];exact HB
  ·have hm:tA (r+2^n) (r+2^n)=true:=by rw [hmul];simp only [AQ,not_false_eq_true,decide_true]
   have hle:¬T<=a:=λh=>AQ (fJ h ef);rw [ae hle];unfold aht;refine cA (k19 hn g1 g4 tq tm t4 QC t00 tb t3 m1 m2 @mw @qJ AU @wb.eq_1 Sa htt hm) ?_;refine cB _ 400 hC G0F (m0:=[]) bA zO ?_ ?_ ?_
   ·exact nv
   ·simp [wb,vn]
   ·simp [wb]
 ·have g1:¬(K:Int)<=M:=zO;unfold aht;refine cA (k3 @wb.eq_1 g1 @vn) ?_;exact eR (k2 results135 alp)
@[simp] theorem avl (a:Int) (ha:wr a) (h0:0<=a) (K:fQ):bl prog G0 135 #[Value.agg #[.int .u64 (wi (a) 0),.int .u64 (wi (a) 1),.int .u64 (wi (a) 2),.int .u64 (wi (a) 3)]] K↔K (.tuple #[wd (isq a),.int .i64 0]):=ar G0W ah (PE a ha h0)
theorem Uf (a b:Int) (ha:wr a) (hB:wr b) (h0:0<=a) (kF:0<b):Ret prog G0 113 #[wd a,wd b] (.tuple #[wd (isq (a / b)),.int .i64 0]):=by
 refine aU G0F func113 rfl call113 zS zS (by simp [ntmps113]) ?_;intro C hC bA hY;have s1:¬dv (sz a) 0<0:=lE;have s2:¬dv (sz b) 0<0:=DC;have z1:=uA (L5 hB zO);have hd:=S6 ha h0 kF;have Sp:=hd.1;have zA:=hd.2;refine cA (k9 s1 s2 z1 ha h0 hB kF Sp zA) ?_;exact eR results113
@[simp] theorem ayH (a b:Int) (ha:wr a) (hB:wr b) (h0:0<=a) (kF:0<b) (K:fQ):bl prog G0 113 #[Value.agg #[.int .u64 (wi (a) 0),.int .u64 (wi (a) 1),.int .u64 (wi (a) 2),.int .u64 (wi (a) 3)],Value.agg #[.int .u64 (wi (b) 0),.int .u64 (wi (b) 1),.int .u64 (wi (b) 2),.int .u64 (wi (b) 3)]] K↔K (.tuple #[wd (isq (a / b)),.int .i64 0]):=ar G0W ah (Uf a b ha hB h0 kF)
theorem Nk (a b:Int) (ha:wr a) (hB:wr b) (h0:0<=a) (kF:0<b):Ret prog G0 216 #[wd a,wd b] (.tuple #[wd ((isq (a / b)+1) / 2),.int .i64 0]):=by
 refine aU G0F func216 rfl call216 zS zS (by simp [ntmps216]) ?_;intro C hC bA hY;have i1:=VE;have i2:i64 2:=zD;have hd:=S6 ha h0 kF;have hs:=al2 (a / b) hd.1 hd.2;have hp:=(tW (a / b) hd.2).1;have w2:wr 2:=⟨zD,zD⟩
 have w1:wr (isq (a / b)+1):=⟨cC zD (vN hp),rH (Int.add_lt_add_right hs.1 1) zD⟩
 have p1:0<=isq (a / b)+1:=vN hp;refine cA (k9 ha h0 hB kF i1 i2 w1 w2 p1) ?_;exact eR results216
@[simp] theorem asS (a b:Int) (ha:wr a) (hB:wr b) (h0:0<=a) (kF:0<b) (K:fQ):bl prog G0 216 #[Value.agg #[.int .u64 (wi (a) 0),.int .u64 (wi (a) 1),.int .u64 (wi (a) 2),.int .u64 (wi (a) 3)],Value.agg #[.int .u64 (wi (b) 0),.int .u64 (wi (b) 1),.int .u64 (wi (b) 2),.int .u64 (wi (b) 3)]] K↔K (.tuple #[wd ((isq (a / b)+1) / 2),.int .i64 0]):=ar G0W ah (Nk a b ha hB h0 kF)
theorem afF {a0 a1 a2:Int} (h:inV 536870912 a0 a1 a2=true):Fun prog G0 107 #[.slice (some ⟨100,0,none⟩) 1 1] (hpL G0 [(100,⟨#[.int .i64 a0,.int .i64 a1,.int .i64 a2],.ty 70⟩)]) (ak [(100,(⟨#[.int .i64 a0,.int .i64 a1,.int .i64 a2],.ty 70⟩:Blk))]) (.ret (.bool true) []):=by
 refine cg (B:=200) G0F func107 rfl call107 ⟨zS,ai,iY⟩ ?_ zS zS zS (by simp [ntmps107]) zO ?_
 ·exact RU
 intro C hC bA hY;have im:i64 536870912:=nI;refine qv (k2 h im) ?_;exact eS results107
theorem Vk {a0 a1 a2 b0 b1 b2:Int} (h:inV 536870912 a0 a1 a2=true) (k:inV 536870912 b0 b1 b2=true):Fun prog G0 107 #[.slice (some ⟨100,0,none⟩) 2 2] (hpL G0 [(100,⟨#[.int .i64 a0,.int .i64 a1,.int .i64 a2,.int .i64 b0,.int .i64 b1,.int .i64 b2],.ty 70⟩)]) (ak [(100,(⟨#[.int .i64 a0,.int .i64 a1,.int .i64 a2,.int .i64 b0,.int .i64 b1,.int .i64 b2],.ty 70⟩:Blk))]) (.ret (.bool true) []):=by
 refine cg (B:=200) G0F func107 rfl call107 ⟨zS,ai,iY⟩ ?_ zS zS zS (by simp [ntmps107]) zO ?_
 ·exact RU
 intro C hC bA hY;have im:i64 536870912:=nI;refine qv (k3 h k im) ?_;exact eS results107
theorem ahT {a0 a1 a2:Int} (h:inV 536870912 a0 a1 a2=true):Ret prog G0 204 #[.agg #[.int .i64 a0,.int .i64 a1,.int .i64 a2],.bool true] (.tuple #[.agg #[.int .i64 a0,.int .i64 a1,.int .i64 a2],.int .i64 0]):=by
 refine aU G0F func204 rfl call204 zS zS (by simp [ntmps204]) ?_;intro C hC bA hY
 repeat' first|refine cT ?_|((first|refine gwR [107] ?_|refine gwD [107] ?_);intro Q hQ _;(repeat first|simp [hC,hY]|(refine BZ (afF h) zS zS zS ?_ ?_;focus (simp;done)));refine dq hQ ?_)|fail
 exact eR results204
theorem ans {a0 a1 a2:Int} (h:inV 536870912 a0 a1 a2=true) (K:fQ):bl prog G0 204 #[.agg #[.int .i64 a0,.int .i64 a1,.int .i64 a2],.bool true] K↔K (.tuple #[.agg #[.int .i64 a0,.int .i64 a1,.int .i64 a2],.int .i64 0]):=ar G0W ah (ahT h)
theorem MV {m m' x y z:Int} (h:inW m x/\inW m y/\inW m z) (hm:m<=m'):inV m' x y z=true:=by
 refine AX.2 ?_;unfold inW at *
 omega
theorem Ck {m a b:Int} (h:inW m a) (k:inW m b):inW (2*m) (a - b):=by
 unfold inW at *
 omega
theorem PZ {a0 a1 a2 b0 b1 b2:Int} (h:inW 1048576 a0/\inW 1048576 a1/\inW 1048576 a2) (k:inW 1048576 b0/\inW 1048576 b1/\inW 1048576 b2):Ret prog G0 197 #[.agg #[.int .i64 a0,.int .i64 a1,.int .i64 a2],.agg #[.int .i64 b0,.int .i64 b1,.int .i64 b2]] (.tuple #[.agg #[.int .i64 (a0 - b0),.int .i64 (a1 - b1),.int .i64 (a2 - b2)],.int .i64 0]):=by
 refine aU G0F func197 rfl call197 zS zS (by simp [ntmps197]) ?_;intro C hC bA hY;have ha:=MV (m':=536870912) h zO;have QP:=MV (m':=536870912) k zO;have hd:=MV (m':=536870912) ⟨Ck h.1 k.1,Ck h.2.1 k.2.1,Ck h.2.2 k.2.2⟩ zO;have T:=ans hd;unfold inW at h k;have q0:Int.bmod (a0 - b0) 18446744073709551616=a0 - b0:=bm zO zO;have q1:Int.bmod (a1 - b1) 18446744073709551616=a1 - b1:=bm zO zO;have q2:Int.bmod (a2 - b2) 18446744073709551616=a2 - b2:=bm zO zO
 repeat' first|refine cT ?_|((first|refine gwR [107] ?_|refine gwD [107] ?_);intro Q hQ _;(repeat first|simp [hC,hY,q0,q1,q2,T]|(refine BZ (Vk ha QP) zS zS zS ?_ ?_;focus (simp;done)));refine dq hQ ?_)|fail
 exact eR results197
theorem atb {a0 a1 a2 b0 b1 b2:Int} (h:inW 1048576 a0/\inW 1048576 a1/\inW 1048576 a2) (k:inW 1048576 b0/\inW 1048576 b1/\inW 1048576 b2) (K:fQ):bl prog G0 197 #[.agg #[.int .i64 a0,.int .i64 a1,.int .i64 a2],.agg #[.int .i64 b0,.int .i64 b1,.int .i64 b2]] K↔K (.tuple #[.agg #[.int .i64 (a0 - b0),.int .i64 (a1 - b1),.int .i64 (a2 - b2)],.int .i64 0]):=ar G0W ah (PZ h k)
theorem aal {a0 a1 a2 b0 b1 b2:Int} (h:inW 2097152 a0/\inW 2097152 a1/\inW 2097152 a2):Ret prog G0 198 #[.agg #[.int .i64 a0,.int .i64 a1,.int .i64 a2],.agg #[.int .i64 a0,.int .i64 a1,.int .i64 a2]] (.tuple #[.int .i64 (a0*a0+a1*a1+a2*a2),.int .i64 0]):=by
 refine aU G0F func198 rfl call198 zS zS (by simp [ntmps198]) ?_;intro C hC bA hY;have ha:=MV (m':=536870912) h zO;have s0:=ug h.1;have s1:=ug h.2.1;have s2:=ug h.2.2;have q0:Int.bmod (a0*a0) 18446744073709551616=a0*a0:=bm zO zO;have q1:Int.bmod (a1*a1) 18446744073709551616=a1*a1:=bm zO zO;have q2:Int.bmod (a2*a2) 18446744073709551616=a2*a2:=bm zO zO;have q3:Int.bmod (a0*a0+a1*a1) 18446744073709551616=a0*a0+a1*a1:=bm zO zO;have q4:Int.bmod (a0*a0+a1*a1+a2*a2) 18446744073709551616=a0*a0+a1*a1+a2*a2:=bm zO zO
 repeat' first|refine cT ?_|((first|refine gwR [107] ?_|refine gwD [107] ?_);intro Q hQ _;(repeat first|simp [hC,hY,q0,q1,q2,q3,q4]|(refine BZ (Vk ha ha) zS zS zS ?_ ?_;focus (simp;done)));refine dq hQ ?_)|fail
 exact eR results198
theorem ap4 {a0 a1 a2:Int} (h:inW 2097152 a0/\inW 2097152 a1/\inW 2097152 a2) (K:fQ):bl prog G0 198 #[.agg #[.int .i64 a0,.int .i64 a1,.int .i64 a2],.agg #[.int .i64 a0,.int .i64 a1,.int .i64 a2]] K↔K (.tuple #[.int .i64 (a0*a0+a1*a1+a2*a2),.int .i64 0]):=ar G0W ah (aal (b0:=0) (b1:=0) (b2:=0) h)
theorem aaI {a0 a1 a2 b0 b1 b2:Int} (h:inW 1048576 a0/\inW 1048576 a1/\inW 1048576 a2) (k:inW 1048576 b0/\inW 1048576 b1/\inW 1048576 b2):Ret prog G0 186 #[.agg #[.int .i64 a0,.int .i64 a1,.int .i64 a2],.agg #[.int .i64 b0,.int .i64 b1,.int .i64 b2]] (.tuple #[.int .i64 ((a0 - b0)*(a0 - b0)+(a1 - b1)*(a1 - b1)+(a2 - b2)*(a2 - b2)),.int .i64 0]):=by
 refine aU G0F func186 rfl call186 zS zS (by simp [ntmps186]) ?_;intro C hC bA hY;have S:=atb h k;have T:=ap4 (a0:=a0 - b0) (a1:=a1 - b1) (a2:=a2 - b2) ⟨Ck h.1 k.1,Ck h.2.1 k.2.1,Ck h.2.2 k.2.2⟩;refine cA (k2 S T) ?_;exact eR results186
theorem aqb {a0 a1 a2 b0 b1 b2:Int} (h:inW 1048576 a0/\inW 1048576 a1/\inW 1048576 a2) (k:inW 1048576 b0/\inW 1048576 b1/\inW 1048576 b2) (K:fQ):bl prog G0 186 #[.agg #[.int .i64 a0,.int .i64 a1,.int .i64 a2],.agg #[.int .i64 b0,.int .i64 b1,.int .i64 b2]] K↔K (.tuple #[.int .i64 ((a0 - b0)*(a0 - b0)+(a1 - b1)*(a1 - b1)+(a2 - b2)*(a2 - b2)),.int .i64 0]):=ar G0W ah (aaI h k)
end Go.Gy
namespace Go.Gy
open Go Go.RowKit Go.Proofs
theorem ua {i n:Nat} (hi:i<n) (hn:n<=4):Int.bmod ((i:Int)+1) 18446744073709551616=((i+1:Nat):Int):=by
 rw [bm zO zO]
 rfl
end Go.Gy
namespace Go.Gy
open Go Go.RowKit Go.Proofs Go.Proofs.Tryz
theorem D2 {p:Prop} (h:p:=by
 cases a<;>cases b<;>cases e<;>((repeat' (first|refine cT ?_|(refine iy ?_;intro Q hQ _;simp [hC,hY,c,c0,c1,ha,hb,he];refine dq hQ ?_)|refine gwC ?_ ?_<;>intro hb<;>try (cases hb;done)));refine ⟨.inr trivial,?_⟩;simp [results25,c,c0])):p:=h
theorem Ul (lo hi a:Int):Ret prog G0 27 #[spV lo hi,wd a] (.bool (zQ lo hi a)):=by
 refine aU G0F func27 rfl call27 rfl zS (by simp [ntmps27]) ?_;intro C hC bA hY;unfold spV zQ;by_cases h1:dv (sz lo) (sz a)<=0
 ·rw [bg h1];refine cA h1 ?_;exact eR results27
 ·rw [aR h1];refine cA h1 ?_;exact eR results27
theorem Uq (lo hi:Int) (a b e:Bool) (ha:ng hi=a) (hb:ng lo=b) (he:ng (hi - lo)=e):Ret prog G0 25 #[spV lo hi] (.tuple #[.int .i64 (if i64 (sz (hi - lo))/\0<=sz (hi - lo)/\(a != b&&e != a)=false then sz (hi - lo) else 0),.bool (decide (i64 (sz (hi - lo))/\0<=sz (hi - lo)/\(a != b&&e != a)=false))]):=by
 refine aU G0F func25 rfl call25 zS zS (by simp [ntmps25]) ?_;intro C hC bA hY;unfold spV;by_cases c:i64 (sz (hi - lo))
 ·by_cases c0:0<=sz (hi - lo)
  ·have c1:¬sz (hi - lo)<0:=zO;exact D2
  ·have c1:sz (hi - lo)<0:=zO;exact D2
 ·cases a<;>cases b<;>cases e<;>((repeat' (first|refine cT ?_|(refine iy ?_;intro Q hQ _;simp [hC,hY,c,ha,hb,he];refine dq hQ ?_)|refine gwC ?_ ?_<;>intro hb<;>try (cases hb;done)));refine ⟨.inr trivial,?_⟩;simp [results25,c])
theorem sv {p:Prop} (h:p:=by simp [ntmps22]):p:=h
theorem Oj (L:cf) (ks:Nat) (bm bs:Blk) (hT:LTwo G0 L ks bm bs) (off n cap au n2 av:Nat) (fm fs:aJ) (hm:MB bm off n fm) (fO:SB bs au n2 fs) (g bx tp nr md st:Int) :
  Fun prog G0 22 #[cfV (.slice (some ⟨100,off,none⟩) n cap) g bx tp nr md,.agg #[.int .i64 st,.slice (some ⟨ks,au,none⟩) n2 av]] (hpL G0 L) (ak L) (.ret (.bool (oB n n2 (fk n fm g bx tp nr md) (aY st fs n2))) []):=by
 refine cg (B:=200) G0F func22 rfl call22 hT.ok ?_ zS zS zS sv zO ?_
 ·exact Si
 intro C hC bA hY;have hA:=hT.a;have hS:=hT.s;have cW:=hT.ne;have jj:=hT.low;have pV:=hT.k1;have n6:=hT.k2;have Qw:=λρ=>Blk.fx_rn hm.fx ρ;have Su:=λρ=>Blk.fx_rn fO.fx ρ;have qY:=tL bm off n cap fm hm g bx tp nr md;have HT:=lV bs au n2 av fs fO st;unfold oB;unfold cfV at qY |-
 cases hc:fk n fm g bx tp nr md with
 | false =>
  rw [hc] at qY;rw [show (decide (n=n2)&&(false&&aY st fs n2))=false by simp]
  repeat' first|refine cT ?_|((first|refine gwR [53,54] ?_|refine gwD [53,54] ?_);intro Q hQ _;(repeat first|simp [hC,hY,hA,hS,cW]|refine aE qY G0F (B:=200) (aT hm.fx) (λk=>k) (λk hk=>rfl) dI zS nM ai ax ?_);refine dq hQ ?_)|fail
  exact eT results22
 | true =>
  rw [hc] at qY
  cases hr:aY st fs n2 with
  | false =>
   rw [hr] at HT;rw [show (decide (n=n2)&&(true&&false))=false by simp]
   repeat' first|refine cT ?_|((first|refine gwR [53,54] ?_|refine gwD [53,54] ?_);intro Q hQ _;(repeat first|simp [hC,hY,hA,hS,cW]|refine aE qY G0F (B:=200) (aT hm.fx) (λk=>k) (λk hk=>rfl) dI zS nM ai ax ?_|refine aE HT G0F (B:=200) (aT fO.fx) (λk=>if k=100 then ks else k) (λk hk=>ae zO) aN zS nF ai ax ?_);refine dq hQ ?_)|fail
   exact eT results22
  | true =>
   rw [hr] at HT;by_cases hn:n=n2
   ·have Kt:(n:Int)=(n2:Int):=zO;have Sr:((n:Int)==(n2:Int))=true:=sa;rw [bg hn]
    repeat' first|refine cT ?_|((first|refine gwR [53,54] ?_|refine gwD [53,54] ?_);intro Q hQ _;(repeat first|simp [hC,hY,hA,hS,cW,Kt,Sr]|refine aE qY G0F (B:=200) (aT hm.fx) (λk=>k) (λk hk=>rfl) dI zS nM ai ax ?_|refine aE HT G0F (B:=200) (aT fO.fx) (λk=>if k=100 then ks else k) (λk hk=>ae zO) aN zS nF ai ax ?_);refine dq hQ ?_)|fail
    exact eT results22
   ·have Kt:¬(n:Int)=(n2:Int):=zO;have Sr:((n:Int)==(n2:Int))=false:=sa;rw [aR hn]
    repeat' first|refine cT ?_|((first|refine gwR [53,54] ?_|refine gwD [53,54] ?_);intro Q hQ _;(repeat first|simp [hC,hY,hA,hS,cW,Kt,Sr]|refine aE qY G0F (B:=200) (aT hm.fx) (λk=>k) (λk hk=>rfl) dI zS nM ai ax ?_|refine aE HT G0F (B:=200) (aT fO.fx) (λk=>if k=100 then ks else k) (λk hk=>ae zO) aN zS nF ai ax ?_);refine dq hQ ?_)|fail
    exact eT results22
end Go.Gy
namespace Go.Gy
open Go Go.RowKit Go.Proofs Go.Proofs.Tryz
theorem afH (b:Blk) (off n cap:Nat) (f:aJ) (h:SB b off n f) (g bx tp nr md st:Int):Fun prog G0 22 #[.agg #[.slice none 0 0,.int .i64 g,.int .i64 bx,.int .i64 tp,.int .i64 nr,.int .i64 md],.agg #[.int .i64 st,.slice (some ⟨100,off,none⟩) n cap]] (hpL G0 [(100,b)]) (ak [(100,b)]) (.ret (.bool false) []):=by
 refine cg (B:=200) G0F func22 rfl call22 (aT h.fx) ?_ zS zS zS sv zO ?_
 ·exact RU
 intro C hC bA hY;have hr:=λρ=>Blk.fx_rn h.fx ρ;refine iI ?_;exact eS results22
theorem afI (b:Blk) (off n cap:Nat) (f:aJ) (h:MB b off n f) (g bx tp nr md st:Int):Fun prog G0 22 #[.agg #[.slice (some ⟨100,off,none⟩) n cap,.int .i64 g,.int .i64 bx,.int .i64 tp,.int .i64 nr,.int .i64 md],.agg #[.int .i64 st,.slice none 0 0]] (hpL G0 [(100,b)]) (ak [(100,b)]) (.ret (.bool false) []):=by
 refine cg (B:=200) G0F func22 rfl call22 (aT h.fx) ?_ zS zS zS sv zO ?_
 ·exact RU
 intro C hC bA hY;have hr:=λρ=>Blk.fx_rn h.fx ρ;have qY:=tL b off n cap f h g bx tp nr md;unfold cfV at qY
 cases ok:fk n f g bx tp nr md with
 | false =>
  rw [ok] at qY;simp only [kP,cw] at qY
  repeat' first|refine cT ?_|((first|refine gwR [53] ?_|refine gwD [53] ?_);intro Q hQ _;(repeat first|simp [hC,hY]|refine aE qY G0F (B:=200) (aT h.fx) (λk=>k) (λk hk=>rfl) dI zS dx ai ax ?_);refine dq hQ ?_)|fail
  exact eS results22
 | true =>
  rw [ok] at qY;simp only [aV] at qY
  repeat' first|refine cT ?_|((first|refine gwR [53] ?_|refine gwD [53] ?_);intro Q hQ _;(repeat first|simp [hC,hY]|refine aE qY G0F (B:=200) (aT h.fx) (λk=>k) (λk hk=>rfl) dI zS dx ai ax ?_);refine dq hQ ?_)|fail
  exact eS results22
theorem xt {p:Prop} (h:p:=by simp [ak];try rfl):p:=h
theorem ab2 (b:Blk) (off n cap:Nat) (f:aJ) (h:MB b off n f) (g bx tp nr md st:Int):Fun prog G0 94 #[.agg #[.slice (some ⟨100,off,none⟩) n cap,.int .i64 g,.int .i64 bx,.int .i64 tp,.int .i64 nr,.int .i64 md],.agg #[.int .i64 st,.slice none 0 0]] (hpL G0 [(100,b)]) (ak [(100,b)]) (.ret (.bool false) []):=by
 refine cg (B:=200) G0F func94 rfl call94 (aT h.fx) ?_ (bw iX) zS zS (by simp [ntmps94]) zO ?_
 ·exact RU
 intro C hC bA hY;have hr:=λρ=>Blk.fx_rn h.fx ρ;have qY:=BO b off n cap f h g bx tp nr md;unfold cfV at qY;by_cases h0:n=0
 ·subst h0;rw [show fk 0 f g bx tp nr md=false from rfl] at qY
  repeat' first|refine cT ?_|((first|refine gwR [83] ?_|refine gwD [83] ?_);intro Q hQ _;(repeat first|simp [hC,hY]|refine aE qY G0F (B:=200) (aT h.fx) (λk=>k) (λk hk=>rfl) dI zS dx ai xt ?_);refine dq hQ ?_)|fail
  refine ⟨.inr rfl,by simp [results94,spV,ct],zR G0F⟩
 ·have h1:¬(n:Int)=0:=zO;have h2:((n:Int)==0)=false:=sk;have h3:((0:Int)==(n:Int))=false:=aB;have h4:¬(0:Int)=(n:Int):=zO;have h5:¬0=n:=zO;refine cA (k6 h0 h1 h2 h3 h4 h5) ?_;refine ⟨.inr rfl,by simp [results94,spV,ct],zR G0F⟩
theorem afC (b:Blk) (off n cap:Nat) (f:aJ) (h:MB b off n f) (g bx tp nr md st:Int):Fun prog G0 66 #[.agg #[.slice (some ⟨100,off,none⟩) n cap,.int .i64 g,.int .i64 bx,.int .i64 tp,.int .i64 nr,.int .i64 md],.agg #[.int .i64 st,.slice none 0 0]] (hpL G0 [(100,b)]) (ak [(100,b)]) (.ret (.tuple #[spV 0 0,.int .i64 2]) []):=by
 refine cg (B:=200) G0F func66 rfl call66 (aT h.fx) ?_ (bw iX) zS zS nz zO ?_
 ·exact RU
 intro C hC bA hY;have hr:=λρ=>Blk.fx_rn h.fx ρ;have hf:=ab2 b off n cap f h g bx tp nr md st
 repeat' first|refine cT ?_|((first|refine gwR [94] ?_|refine gwD [94] ?_);intro Q hQ _;(repeat first|simp [hC,hY,ct]|refine aE hf G0F (B:=200) (aT h.fx) (λk=>k) (λk hk=>rfl) dI zS dx ai xt ?_);refine dq hQ ?_)|fail
 refine ⟨.inr rfl,by simp [results66,spV,ct],zR G0F⟩
theorem aku (b:Blk) (off n cap:Nat) (f:aJ) (h:MB b off n f) (g bx tp nr md st:Int):Fun prog G0 36 #[.agg #[.slice (some ⟨100,off,none⟩) n cap,.int .i64 g,.int .i64 bx,.int .i64 tp,.int .i64 nr,.int .i64 md],.agg #[.int .i64 st,.slice none 0 0]] (hpL G0 [(100,b)]) (ak [(100,b)]) (.ret (.tuple #[spV 0 0,.int .i64 2]) []):=by
 refine cg (B:=200) G0F func36 rfl call36 (aT h.fx) ?_ (bw iX) zS zS (by simp [ntmps36]) zO ?_
 ·exact RU
 intro C hC bA hY;have hr:=λρ=>Blk.fx_rn h.fx ρ;have hf:=afC b off n cap f h g bx tp nr md st;unfold spV at hf
 repeat' first|refine cT ?_|((first|refine gwR [66] ?_|refine gwD [66] ?_);intro Q hQ _;(repeat first|simp [hC,hY,ct]|refine aE hf G0F (B:=200) (aT h.fx) (λk=>k) (λk hk=>rfl) dI zS dx ai xt ?_);refine dq hQ ?_)|fail
 refine ⟨.inr rfl,by simp [results36,spV,ct],zR G0F⟩
theorem lI {p:Prop} (h:p:=by simp [hkL]):p:=h
theorem I3 {l:List Value} {T:TypeId} (h:l.all bU=true):Blk.fx ⟨l.toArray,.ty T⟩:=λx hx=>cX.1 h x cG
def hkM:Blk:=⟨#[.int .i64 2],.ty 3⟩
def hkA:Blk:=⟨#[.int .i64 0,.int .i64 0,.int .i64 0,.int .i64 1,.int .i64 0,.int .i64 0],.ty 72⟩
def hkB:Blk:=⟨#[.int .i64 0,.int .i64 5,.int .i64 0,.int .i64 0,.int .i64 3,.int .i64 0],.ty 72⟩
def hkm (j:Nat):Int:=2
def hka (j:Nat):Int:=if j=3 then 1 else 0
def hkb (j:Nat):Int:=if j=1 then 5 else if j=4 then 3 else 0
theorem MM:MB hkM 0 1 hkm:=⟨λj hj=>by
 have:j=0:=zO;subst this;rfl,I3 rfl,λj hj=>(show i64 2 by decide),by omega⟩
theorem six {P:iH} (h0:P 0) (h1:P 1) (h2:P 2) (h3:P 3) (h4:P 4) (h5:P 5):∀ j,j<6*1->P j:=λj hj=>by
 exact E7
theorem Tu:SB hkA 0 1 hka:=⟨six (P:=λj=>hkA.c[0+j]? = some (.int .i64 (hka j))) rfl rfl rfl rfl rfl rfl,I3 rfl,six (P:=λj=>i64 (hka j)) zD zD zD zD zD zD,zO⟩
theorem Tv:SB hkB 0 1 hkb:=⟨six (P:=λj=>hkB.c[0+j]? = some (.int .i64 (hkb j))) rfl rfl rfl rfl rfl rfl,I3 rfl,six (P:=λj=>i64 (hkb j)) zD zD zD zD zD zD,zO⟩
def hkL:List (Nat×Blk):=[(100,hkM),(108,hkA),(116,hkB)]
theorem AN:LAny hkL:=by
 have f1:=MM.fx;have f2:=Tu.fx;have f3:=Tv.fx;refine ⟨⟨lI,by simp [hkL,ak],?_⟩,?_⟩
 ·simp only [hkL,aj,az,ay,dc,bN];exact ⟨Blk.fx_ids f1 _,Blk.fx_ids f2 _,Blk.fx_ids f3 _⟩
 ·simp only [hkL,aj,az,ay,dc,bN];exact ⟨f1,f2,f3⟩
theorem aq3:enE 1 1 hkm hka 1 100 10 1 0 0=0:=zD
theorem aq4:enE 1 1 hkm hkb 1 100 10 1 0 0=0:=zD
def hkl:Nat->Int:=lsN 8388608 8388608 (-2) 6 0 0 0 0
theorem axx:lsW 0 0 hkm 1 1 hka hkb=hkl:=by
 unfold lsW;rw [ag ⟨rfl,rfl⟩];unfold hkl;rw [show eLo 0 1 hkm hkb 1 - eHi 0 1 hkm hka 1=8388608 by decide,show eHi 0 1 hkm hkb 1 - eLo 0 1 hkm hka 1=8388608 by decide,show sP hkm hkb 1 0 - sP hkm hka 1 0=-2 by decide,show sP hkm hkb 1 1 - sP hkm hka 1 1=6 by decide,show sP hkm hkb 1 2 - sP hkm hka 1 2=0 by decide,show sL hkm hkb 1 0 - sL hkm hka 1 0=0 by decide,show sL hkm hkb 1 1 - sL hkm hka 1 1=0 by decide,show sL hkm hkb 1 2 - sL hkm hka 1 2=0 by decide]
theorem af3:Fun prog G0 10 #[cfV (.slice (some ⟨100,0,none⟩) 1 1) 1 100 10 1 0,.agg #[.int .i64 0,.slice (some ⟨108,0,none⟩) 1 1],.agg #[.int .i64 0,.slice (some ⟨116,0,none⟩) 1 1]] (hpL G0 hkL) (ak hkL) (.ret (.tuple #[gA hkl,.int .i64 0]) []):=by
 have h:=Vw AN (ka:=100) (kb:=108) (kc:=116) lI lI lI MM Tu Tv (cap:=1) (dj:=1) (jT:=1) zO zO zO (g:=1) (bx:=100) (tp:=10) (nr:=1) (md:=0) (je:=0) (vl:=0) zD zD;rw [aq3,aq4,axx] at h;exact h
theorem af5:Fun prog G0 10 #[cfV (.slice (some ⟨100,0,none⟩) 1 1) 1 100 10 1 0,.agg #[.int .i64 0,.slice none 0 0],.agg #[.int .i64 0,.slice (some ⟨116,0,none⟩) 1 1]] (hpL G0 hkL) (ak hkL) (.ret (.tuple #[gA λ_=>0,.int .i64 2]) []):=by
 have h:=(aku hkM 0 1 1 hkm MM 1 100 10 1 0 0).mvG (gz:=#[cfV (.slice (some ⟨100,0,none⟩) 1 1) 1 100 10 1 0,.agg #[.int .i64 0,.slice none 0 0]]) (AN.mv1 (ka:=100) (kb:=108) lI) ai nH;rw [bS iX] at h;exact Jg AN (SlI.at (b:=hkM) lI) SlI.nil (SlI.at (b:=hkB) lI) zD h
def hkw (i:Nat):Nat->Int:=if i=0 then hkl else λ_=>0
def hkv:Nat->Int
 | 1=>8388608
 | 2=>-2
 | 6=>6
 | _=>0
theorem abt:(P4 ⟨0,λ_=>0⟩ hkw 2).N=2/\∀ c,c<14->(P4 ⟨0,λ_=>0⟩ hkw 2).v c=hkv c:=zD
theorem af1:CR (P4 ⟨0,λ_=>0⟩ hkw 2)=oA 2 hkv:=by
 unfold CR oA;rw [abt.1,CQ abt.2]
theorem Lf:LsOk hkl:=⟨jl zD,jl zD,λc h1 h2=>by
 have:c=2\/c=3\/c=4\/c=5\/c=6\/c=7\/c=8\/c=9\/c=10\/c=11\/c=12\/c=13:=zO;rcases this with rfl|rfl|rfl|rfl|rfl|rfl|rfl|rfl|rfl|rfl|rfl|rfl<;>decide,λq hq=>by
 have:q=0\/q=1\/q=2:=zO;rcases this with rfl|rfl|rfl<;>decide⟩
theorem VC:LsOk λ_=>0:=⟨jl zD,jl zD,λc h1 h2=>zD,λq hq=>⟨rfl,rfl⟩⟩
theorem abr:HOk 2 hkv:=⟨zD,λc h1 h2=>by
 have:c=2\/c=3\/c=4\/c=5\/c=6\/c=7\/c=8\/c=9\/c=10\/c=11\/c=12\/c=13:=zO;rcases this with rfl|rfl|rfl|rfl|rfl|rfl|rfl|rfl|rfl|rfl|rfl|rfl<;>decide,jl zD,jl zD⟩
theorem MR (N:Int) (h:i64 N):HOk N λ_=>0:=⟨h,λc h1 h2=>zD,jl zD,jl zD⟩
theorem aqY:tT ⟨2,hkv⟩ hkl=true:=zD
theorem aqZ:tT ⟨0,λ_=>0⟩ hkl=false:=zD
theorem aq0:mr ⟨2,hkv⟩=true:=zD
theorem aq1:mr ⟨0,λ_=>0⟩=true:=zD
theorem aq2:mr ⟨-1,λ_=>0⟩=false:=zD
end Go.Gy
