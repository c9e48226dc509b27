/-
  Lemmas of this claim, in their order (GyJS, GyJT, GyJU, GyMA, GyMB, GyMC, GyMD, GyME, GyMF, GyMG, GyMH, GyMI, GyMJ, GyFB, GyFF, GyWO, GyPV, GyU2, GyU3, GyU4, GyU5, GyU6, GyU7, GyGB, GyGC, GyGA, GyGD, GyU8, GyGE, GyU9, GyUA, GyUG, GyUI, GyUJ, GyGP, GyGF, GyGG, GyGH, GyGI, GyGQ, GyWR, GyWP, GyWS, Gy1A, Gy1E, Gy1B, Gy1C).
  Conditions: those of each theorem.
-/
import Derived.Test.YtamodcpmplmaoaaGreatDoorGz08
set_option linter.unusedSimpArgs false
set_option linter.unusedVariables false
set_option maxRecDepth 100000
set_option maxHeartbeats 16000000
namespace Go.Gy
open Go Go.RowKit Go.Proofs Go.Proofs.Tryz
def hkr (k:Nat):Nat:=if k=100 then 208 else if k=108 then 256 else if k=116 then 312 else k
theorem Vv {k:Nat} (h:k<100):hkr k=k:=by unfold hkr;rw [ae zO,ae zO,ae zO]
theorem abq {hp:Hp} (a:hp 208=some hkM) (b:hp 256=some hkA) (c:hp 312=some hkB):∀ p∈hkL,100<=hkr p.1/\hp (hkr p.1)=some (p.2.rn hkr):=by
 have f1:=Blk.fx_rn MM.fx hkr;have f2:=Blk.fx_rn Tu.fx hkr;have f3:=Blk.fx_rn Tv.fx hkr;simp only [hkL,aj,az,ay,dc,bN,f1,f2,f3];exact ⟨⟨zD,a⟩,⟨zD,b⟩,zD,c⟩
def hkT:Blk:=⟨(fv 28 (pj hkw)),.ty 38⟩
theorem Tw:LB hkT 0 2 hkw:=⟨am1 28 (pj hkw) _,λx hx=>by
 obtain ⟨j,_,rfl⟩:=BV hx;unfold pj;exact Am _ _,λi q hq=>by
 unfold hkw;split
 ·exact Lf.r q hq
 ·exact VC.r q hq,λi hi c h1 h2=>by
 unfold hkw;split
 ·exact Lf.i c h1 h2
 ·exact VC.i c h1 h2,λi hi=>by
 unfold hkw;split
 ·exact ⟨Lf.w0,Lf.w1⟩
 ·exact ⟨VC.w0,VC.w1⟩,zO⟩
theorem aqX:(fv 28 (pj hkw))=#[.int .u64 (wi 8388608 0),.int .u64 (wi 8388608 1),.int .u64 (wi 8388608 2),.int .u64 (wi 8388608 3),.int .u64 (wi 8388608 0),.int .u64 (wi 8388608 1),.int .u64 (wi 8388608 2),.int .u64 (wi 8388608 3),.int .i64 (-2),.int .i64 6,.int .i64 0,.int .i64 0,.int .i64 0,.int .i64 0,.int .u64 0,.int .u64 0,.int .u64 0,.int .u64 0,.int .u64 0,.int .u64 0,.int .u64 0,.int .u64 0,.int .i64 0,.int .i64 0,.int .i64 0,.int .i64 0,.int .i64 0,.int .i64 0]:=by
 refine (I2 (N:=28) rfl λj hj=>?_).symm;have:j=0\/j=1\/j=2\/j=3\/j=4\/j=5\/j=6\/j=7\/j=8\/j=9\/j=10\/j=11\/j=12\/j=13\/j=14\/j=15\/j=16\/j=17\/j=18\/j=19\/j=20\/j=21\/j=22\/j=23\/j=24\/j=25\/j=26\/j=27:=zO;rcases this with rfl|rfl|rfl|rfl|rfl|rfl|rfl|rfl|rfl|rfl|rfl|rfl|rfl|rfl|rfl|rfl|rfl|rfl|rfl|rfl|rfl|rfl|rfl|rfl|rfl|rfl|rfl|rfl<;>simp [pj,Pa,hkw,hkl,lsN,ct]
theorem af4:Fun prog G0 20 #[cfV (.slice (some ⟨100,0,none⟩) 3 3) 1 1 1 1 0] (hpL G0 [(100,⟨#[.int .i64 1,.int .i64 1,.int .i64 1],.ty 3⟩)]) (ak [(100,(⟨#[.int .i64 1,.int .i64 1,.int .i64 1],.ty 3⟩:Blk))]) (.ret (.int .i64 6) []) :=
 Pg _ 0 3 3 (λ_=>1) ⟨λj hj=>by
  have:j=0\/j=1\/j=2:=zO;rcases this with rfl|rfl|rfl<;>rfl,I3 rfl,λj hj=>(show i64 1 by decide),by omega⟩ 1 1 1 1 0
theorem Qb:Ret prog G0 9 #[] (.bool true):=by
 refine aU G0F func9 rfl call9 rfl zS (by simp [ntmps9]) ?_;intro C hC bA hY;have lo:=af3;have ln:=af5;have tk:=Ld hkT 0 2 2 hkw Tw 0 (λ_=>0) (MR 0 zD);rw [af1] at tk;have mo:=af4;have wd:=λ(K:fQ)=>ar (K:=K) G0W ah (Tp 2 hkv (jl zD) (jl zD) zD zD);have h1:=λ(K:fQ)=>ar (K:=K) G0W ah (Aa 2 hkv hkl abr Lf);have h2:=λ(K:fQ)=>ar (K:=K) G0W ah (Aa 0 (λ_=>0) hkl (MR 0 zD) Lf);have r1:=λ(K:fQ)=>wz abr K;have r2:=λ(K:fQ)=>wz (MR 0 zD) K;have r3:=λ(K:fQ)=>wz (MR (-1) zD) K;rw [aqY] at h1;rw [aqZ] at h2;rw [aq0] at r1;rw [aq1] at r2;rw [aq2] at r3;unfold cfV gA at lo ln;unfold oA fV at tk wd h1 h2 r1 r2 r3;unfold gA at h1 h2;simp only [hkl,lsN,hkv,ct] at lo ln tk wd h1 h2 r1 r2 r3;unfold cfV at mo;have o1:i64 8388608:=zD;have fT:=Blk.fx_rn Tw.fx
 repeat' first|refine cT ?_|((first|refine gwR [10,16,20] ?_|refine gwD [10,16,20] ?_);intro Q hQ _;(repeat first|simp [hC,hY,o1,wd,h1,h2,r1,r2,r3,ct]|(refine aE lo G0F AN.ok hkr (λk hk=>Vv hk) ?_ zS (abq (by simp [hkM]) (by simp [hkA]) (by simp [hkB])) (by simp [ak,hkL,hkr]) (by simp [ak,hkL,hkr];rfl) ?_;focus (simp [ren,aW,aw,aF,hkr];done))|(refine aE ln G0F AN.ok hkr (λk hk=>Vv hk) ?_ zS (abq (by simp [hkM]) (by simp [hkA]) (by simp [hkB])) (by simp [ak,hkL,hkr]) (by simp [ak,hkL,hkr];rfl) ?_;focus (simp [ren,aW,aw,aF,hkr];done))|(refine aE tk G0F (B:=200) (aT Tw.fx) (λk=>if k=100 then 448 else k) (λk hk=>ae zO) ?_ zS (by simp [fT];simp [hkT,aqX];kernel_rfl) ai ax ?_;focus (simp [ren,aW,aw,aF];done))|(refine aE mo G0F (B:=200) (aT (I3 rfl)) (λk=>if k=100 then 1176 else k) (λk hk=>ae zO) ?_ zS km ai ax ?_;focus (simp [ren,aW,aw,aF];done)));refine dq hQ ?_)|fail
 exact eR results9
theorem LZ (K:fQ):bl prog G0 9 #[] K↔K (.bool true):=ar G0W ah Qb
section
variable {b:Blk} {off n:Nat} {w:lX}
theorem LB.int (h:LB b off n w) {i q:Nat} (hi:i<n) (hq:q<6):fB prog 3 b (off+i*14+(8+q))=some (.int .i64 (if q<3 then w i (2+q) else w i (5+q))):=by
 have Xs:=Blk.fx_rd h.fx
 have hv:pj w (14*i+(8+q))=.int .i64 (if q<3 then w i (2+q) else w i (5+q)):=by
  unfold pj;rw [show (14*i+(8+q)) / 14=i by omega,show (14*i+(8+q))%14=8+q by omega];have:q=0\/q=1\/q=2\/q=3\/q=4\/q=5:=zO;rcases this with rfl|rfl|rfl|rfl|rfl|rfl<;>rfl
 have:=amo (P:=prog) (T:=3) (j:=14*i+(8+q)) (cr isAgg3) h.rd zO (by rw [hv];rfl) (by rw [hv];rfl);rw [show off+i*14+(8+q)=off+(14*i+(8+q)) by omega,this,hv]
end
end Go.Gy
namespace Go.Gy
open Go Go.RowKit Go.Proofs Go.Proofs.Tryz
section
variable {L:cf} {p pa pb:qE} {n cap na dj nb jT:Nat} {g bx tp nr md je vl:Int}
end
theorem Np (lo hi:Int) (hl:wr lo) (hh:wr hi) (h0:lo<=hi) (h1:i64 (hi - lo)):Ret prog G0 25 #[spV lo hi] (.tuple #[.int .i64 (hi - lo),.bool true]):=by
 have w:=jl h1;have h:=Uq lo hi _ _ _ (L6 hh) (L6 hl) (Cb w zO);rw [gB w] at h
 have c:i64 (hi - lo)/\0<=hi - lo/\(decide (hi<0) != decide (lo<0)&&false != decide (hi<0))=false:=by
  refine ⟨h1,zO,?_⟩;by_cases a:hi<0
  ·have b:lo<0:=zO;simp [a,b]
  ·simp [a]
 rw [ag c,bg c] at h;exact h
theorem alI {lo hi:Int} (a:wr lo) (b:wr hi) (h:lo<=0) (h2:0<=hi):zQ lo hi 0=true:=by
 unfold zQ;rw [gB a,gB b,gB (show wr 0 by unfold wr;omega)];unfold dv
 have e1:(if lo<0 then (-1:Int) else if lo=0 then 0 else 1)<=0:=by
  split
  ·decide
  ·rw [ag zO];decide
 have e2:(if (0:Int)<hi then (-1:Int) else if 0=hi then 0 else 1)<=0:=by
  split
  ·decide
  ·rw [ag zO];decide
 rw [bg e1,bg e2]
 rfl
section
variable {L:cf} {p pa pb:qE} {n cap na dj nb jT:Nat} {g bx tp nr md je vl:Int}
end
section
variable {L:cf} {p pa pb:qE} {n cap na dj nb jT:Nat} {g bx tp nr md je vl:Int}
def hlB (lo hi p0 p1 p2 q0 q1 q2:Int):Blk:=⟨#[.int .u64 (wi lo 0),.int .u64 (wi lo 1),.int .u64 (wi lo 2),.int .u64 (wi lo 3),.int .u64 (wi hi 0),.int .u64 (wi hi 1),.int .u64 (wi hi 2),.int .u64 (wi hi 3),.int .i64 p0,.int .i64 p1,.int .i64 p2,.int .i64 q0,.int .i64 q1,.int .i64 q2],.ty 38⟩
theorem aly (lo hi p0 p1 p2 q0 q1 q2:Int):(hlB lo hi p0 p1 p2 q0 q1 q2).fx:=λx hx=>by
 simp only [hlB,eZ,aj,az,ay] at hx;exact FA
end
theorem Dd {p:Prop} (h:p:=by obtain ⟨k,off,b,fm,rfl,h1,_⟩:=h;exact SlI.at h1):p:=h
theorem nB {p:Prop} (h:p:=by cases hp):p:=h
def NS (p:qE) (n cap:Nat):Prop:=p=none/\n=0/\cap=0
def MS (L:cf) (p:qE) (n cap:Nat):Prop:=∃ k off b fm,p=some ⟨k,off,none⟩/\(k,b)∈L/\MB b off n fm/\n<=cap
def SS (L:cf) (p:qE) (n cap:Nat):Prop:=∃ k off b fs,p=some ⟨k,off,none⟩/\(k,b)∈L/\SB b off n fs/\n<=cap
theorem NS.sl {L:cf} {p:qE} {n cap:Nat} (h:NS p n cap):SlI L p:=by rw [h.1];exact SlI.nil
theorem MS.sl {L:cf} {p:qE} {n cap:Nat} (h:MS L p n cap):SlI L p:=Dd
theorem SS.sl {L:cf} {p:qE} {n cap:Nat} (h:SS L p n cap):SlI L p:=Dd
theorem LAny.mv0 {L:cf} (hT:LAny L):MvG G0 G0 [] L (λk=>k) :=
 ⟨G0F,G0F,⟨200,n7⟩,⟨200,hT.ok⟩,λk b hk=>⟨hk,rfl⟩,(λp hp=>nB),(λk hk=>by cases hk),(λk hk=>by cases hk)⟩
theorem aaL (g bx tp nr md st:Int):Fun prog G0 22 #[cfV (.slice none 0 0) g bx tp nr md,.agg #[.int .i64 st,.slice none 0 0]] (hpL G0 []) (ak []) (.ret (.bool false) []):=by
 unfold cfV;refine cg (B:=200) G0F func22 rfl call22 n7 ?_ zS zS zS sv zO ?_
 ·exact RU
 intro C hC bA hY;refine iI ?_;exact eS results22
section
variable {L:cf} {p pa pb:qE} {n cap na dj nb jT:Nat} {g bx tp nr md je vl:Int}
theorem Xk (hT:LAny L) (hp:NS p n cap\/MS L p n cap) (ha:NS pa na dj\/SS L pa na dj) (hn:NS p n cap\/NS pa na dj) :
  Fun prog G0 22 #[cfV (.slice p n cap) g bx tp nr md,.agg #[.int .i64 je,.slice pa na dj]] (hpL G0 L) (ak L) (.ret (.bool false) []):=by
 rcases hp with ⟨rfl,rfl,rfl⟩|⟨k,off,b,fm,rfl,hk,hm,hc⟩
 ·rcases ha with ⟨rfl,rfl,rfl⟩|⟨k,off,b,fs,rfl,hk,hm,hc⟩
  ·exact (aaL g bx tp nr md je).mvG (gz:=#[cfV (.slice none 0 0) g bx tp nr md,.agg #[.int .i64 je,.slice none 0 0]]) hT.mv0 (by simp [ak]) (by simp [cfV,ren,aW,aw,aF])
  ·exact (afH b off na dj fs hm g bx tp nr md je).mvG (gz:=#[cfV (.slice none 0 0) g bx tp nr md,.agg #[.int .i64 je,.slice (some ⟨k,off,none⟩) na dj]]) (hT.mv1 (kb:=k) hk) (by simp [ak]) (by simp [cfV,ren,aW,aw,aF,Gy.mv2])
 ·obtain ⟨rfl,rfl,rfl⟩:NS pa na dj:=by
   rcases hn with h|h
   ·cases h.1
   ·exact h
  exact (afI b off n cap fm hm g bx tp nr md je).mvG (gz:=#[cfV (.slice (some ⟨k,off,none⟩) n cap) g bx tp nr md,.agg #[.int .i64 je,.slice none 0 0]]) (hT.mv1 (kb:=k) hk) ai nH
end
theorem amT {n:Nat} (h:1<=n/\n<=4):(2*((l9 n).length:Int)=2*prC true n)/\Int.bmod ((n:Int) - 1) 18446744073709551616=(n:Int) - 1/\Int.bmod ((n:Int)*((n:Int) - 1)) 18446744073709551616=2*prC true n/\2*prC true n<=1000000:=by
 have:n=1\/n=2\/n=3\/n=4:=zO;rcases this with rfl|rfl|rfl|rfl<;>decide
theorem aaq {n n2:Nat} {fm fs:aJ} {g bx tp nr md st:Int} (hf:oB n n2 (fk n fm g bx tp nr md) (aY st fs n2)=true) (h:¬enE n n2 fm fs g bx tp nr md st=0):enE n n2 fm fs g bx tp nr md st=30:=by
 unfold enE aho at h |-;rw [ag hf] at h |-;split at h
 ·exact absurd rfl h
 ·rename_i hz;rw [ae hz]
theorem V8 {F H:lX}:∀ {l:List (Nat×Nat)},(∀ p∈l,0<=F p.1 p.2/\F p.1 p.2<=H p.1 p.2/\H p.1 p.2<=F p.1 p.2+1/\H p.1 p.2<=1152921504606846976)->0<=pS F l/\pS F l<=pS H l/\pS H l<=pS F l+l.length/\pS H l<=l.length*1152921504606846976
 | [],_=>by simp [pS]
 | p::l,h=>by
  have h1:=V8 (l:=l) λq hq=>h q (aD _ hq);have h2:=h p zS;simp only [pS,fH,vW,eF];omega
theorem ahp {n:Nat} {fm fs:aJ} {g bx tp nr md st:Int} (c:fk n fm g bx tp nr md=true) (r:aY st fs n=true) (hz:JO fs n=0):0<=zW g fm fs n/\zW g fm fs n<=zV g fm fs n/\zV g fm fs n<=zW g fm fs n+(l9 n).length/\zV g fm fs n<=6917529027641081856:=by
 have hn:=(ji r).2.1;unfold zW zV;rw [Bq _ hn,Bq _ hn]
 have h:=V8 (F:=λi k=>lu g (fm i) (fm k) (lS fs i k)) (H:=λi k=>uE g (fm i) (fm k) (lS fs i k)) (l:=l9 n) (λp hp=>by
  obtain ⟨BC,uH⟩:=H2 hp;have Qx:=Mz r (i:=p.1) (k:=p.2) uH zO
  have R8:¬lS fs p.1 p.2=0:=λe=>by
   exact EV
  have hg:=Mr c;have AP:=jN c (i:=p.1) uH;have NG:=jN c (i:=p.2) zO;have QI:EIn g (fm p.1) (fm p.2) (lS fs p.1 p.2):=⟨hg.1,hg.2,AP.1,AP.2,NG.1,NG.2,Qx.1,Qx.2⟩
  have DV:=QI.lo zO;have QU:=QI.hi zO;exact ⟨DV.1,QU.1,QU.2.1,QU.2.2⟩)
 have hl:=aas n;exact ⟨h.1,h.2.1,h.2.2.1,by have:=h.2.2.2;omega⟩
theorem agA {n:Nat} {fm fs:aJ} {g bx tp nr md st:Int} (c:fk n fm g bx tp nr md=true) (r:aY st fs n=true):0<=KM fm fs n/\KM fm fs n<=27670116110564327424:=by
 have hn:=(ji r).2.1;have h:=Br (f:=uJ fm fs) (lo:=0) (hi:=13194139533312) (n:=n) λi hi=>Ib c r hi;unfold KM;generalize dh (uJ fm fs) n=S at *
 have:n=1\/n=2\/n=3\/n=4:=zO;rcases this with rfl|rfl|rfl|rfl<;>omega
theorem aar {n:Nat} {fm fs:aJ} {g bx tp nr md st:Int} (c:fk n fm g bx tp nr md=true) (r:aY st fs n=true) (hz:JO fs n=0) :
  eLo 0 g fm fs n<=eHi 0 g fm fs n/\-1000000000000000000000000000000000000000000000000<=eLo 0 g fm fs n/\eHi 0 g fm fs n<=1000000000000000000000000000000000000000000000000/\eHi 0 g fm fs n - eLo 0 g fm fs n<=(l9 n).length:=by
 obtain ⟨a0,a1,a2,a3⟩:=ahp c r hz;obtain ⟨b0,b1⟩:=agA c r;unfold eLo eHi;rw [ag rfl,ag rfl];omega
end Go.Gy
namespace Go.Gy
open Go Go.RowKit Go.Proofs Go.Proofs.Tryz
def LW (L:cf) (p:qE) (n cap:Nat) (w:lX):Prop:=NS p n cap\/∃ k off b,p=some ⟨k,off,none⟩/\(k,b)∈L/\LB b off n w/\n<=cap
theorem LW.sl {L:cf} {p:qE} {n cap:Nat} {w:lX} (h:LW L p n cap w):SlI L p:=by
 rcases h with h|⟨k,off,b,rfl,h1,_⟩
 ·exact NS.sl h
 ·exact SlI.at h1
structure LA (A:ca) (C n:Nat) (w:lX):Prop where
 sz:A.size=14*C
 fl:∀ x∈A,bU x=true
 rd:∀ j,j<14*n->A[j]? = some (pj w j)
 le:n<=C
theorem XM {n:Nat} {w u:lX} {j:Nat}:pj (HY n w u) j=if j<14*n then pj w j else pj u (j - 14*n):=by
 unfold pj HY;by_cases h:j<14*n
 ·rw [ag h,ag zO]
 ·rw [ae h,ae zO,(zO:(j - 14*n) / 14=j / 14 - n),(zO:(j - 14*n)%14=j%14)]
theorem LA.zero:LA #[] 0 0 λ_ _=>0:=⟨rfl,zS,λj hj=>zO,aA _⟩
theorem LA.lb {A:ca} {C n:Nat} {w:lX} (h:LA A C n w) {T:TypeId} (ok:vh w) (hi:∀ i,i<n->∀ c,2<=c->c<14->i64 (w i c)) (hw:∀ i,i<n->wr (w i 0)/\wr (w i 1)) (hn:n<=1000):LB ⟨A,.ty T⟩ 0 n w :=
 ⟨λj hj=>by rw [cD];exact h.rd j hj,h.fl,ok,hi,hw,zO⟩
theorem LA.app {A B:ca} {C C' n m:Nat} {w u:lX} (h:LA A C n w) {nw rest:List Value} (hn:nw=(fv (14*m) (pj u)).toList) (hB:B.toList=A.toList.take (n*14)++nw++rest) (hs:B.size=14*C') (hr:∀ x∈rest,bU x=true) (hle:n+m<=C'):LA B C' (n+m) (HY n w u):=by
 have hl:A.toList.length=14*C:=by simp [h.sz]
 have h1:=h.le;refine ⟨hs,λx hx=>?_,λj hj=>?_,hle⟩
 ·have qy:x∈B.toList:=by simpa using hx
  rw [hB] at qy;rcases bh.1 qy with qy|qy
  ·rcases bh.1 qy with qy|qy
   ·exact h.fl x (by simpa using mH qy)
   ·rw [hn] at qy;obtain ⟨q,_,rfl⟩:=BV (by simpa using qy);exact Am _ _
  ·exact hr x qy
 ·rw [<-iP,hB,XM];have dp:(A.toList.take (n*14)).length=14*n:=by rw [Cs,hl];omega
  have hln:nw.length=14*m:=by rw [hn];simp
  by_cases c:j<14*n
  ·rw [ag c,gE,ig zO,fI,ag zO,iP];exact h.rd j c
  ·rw [ae c,gE,g8 zO,dp,ig zO,hn,iP,z8 _ _ zO]
section
variable {C:Ctx} {n:Nat} {d:List Deferred} {ro:Option Nat} {K:l6}
end
section
variable {L:cf} {pl pm:qE} {nl cl nm cm:Nat} {N:Int} {v:aJ}
end
section
variable {N X X' D:List (Nat×Nat)} {V:fp} {Bk:aa2} {jK ts:fp} {hp0 hp:Hp} {listed:Array Bool}
end
end Go.Gy
namespace Go.Gy
open Go Go.RowKit Go.Proofs
theorem HOk.tk {h:HS} (hk:HOk h.N h.v) (h0:0<=h.N) {w:lX} {n:Nat} (hn:h.N+n<=1073741824) (hw:∀ i,i<n->LsOk (w i)):HOk (h.tk w n).N (h.tk w n).v:=by
 rw [adR ⟨h0,zO⟩ n];refine hk.hq h0 (λi hi=>hw i (VM hi).1) _ ?_ ?_
 ·rw [ql];exact vI _ _
 ·have:=uC w n;unfold tkM;omega
structure HH (h:HS) (wl:lX) (nl:Nat) (wm:lX) (nm:Nat):Prop where
 ok:HOk h.N h.v
 r:mr h=true
 n:h.N<=1048576
 l:nl<=12
 m:nm<=12
 rl:vh wl
 rm:vh wm
 ll:∀ i,i<nl->LsOk (wl i)
 lm:∀ i,i<nm->LsOk (wm i)
section
variable {h:HS} {wl wm:lX} {nl nm:Nat}
theorem HH.n0 (H:HH h wl nl wm nm):0<=h.N:=(PI H.r).1
theorem HH.one (H:HH h wl nl wm nm):P4 h wl nl=h.tk wl nl/\mr (h.tk wl nl)=true/\HOk (h.tk wl nl).N (h.tk wl nl).v/\(h.tk wl nl).N=h.N+jc wl nl/\0<=(h.tk wl nl).N/\(h.tk wl nl).N<=1048588:=by
 have h0:=H.n0;have h1:=H.n;have h2:=H.l;have hc:=uC wl nl;have hN:=YM (h:=h) (w:=wl) (n:=nl) zO;exact ⟨ag H.r,UL H.r zO H.rl,H.ok.tk h0 zO H.ll,hN,zO,zO⟩
def HH.A (h:HS) (wl:lX) (nl:Nat) (wm:lX) (nm:Nat):HS:=(h.tk wl nl).tk wm nm
theorem HH.two (H:HH h wl nl wm nm):P4 (h.tk wl nl) wm nm=HH.A h wl nl wm nm/\mr (HH.A h wl nl wm nm)=true/\HOk (HH.A h wl nl wm nm).N (HH.A h wl nl wm nm).v/\(HH.A h wl nl wm nm).N=h.N+jc wl nl+jc wm nm/\0<=(HH.A h wl nl wm nm).N/\(HH.A h wl nl wm nm).N<=1048600:=by
 obtain ⟨a,b,c,d,e,f⟩:=H.one;have h2:=H.m;have hc:=uC wm nm;have hN:=YM (h:=h.tk wl nl) (w:=wm) (n:=nm) zO;unfold HH.A;exact ⟨ag b,UL b zO H.rm,c.tk e zO H.lm,zO,zO,zO⟩
theorem HH.A_eq (H:HH h wl nl wm nm):HH.A h wl nl wm nm=h.tk (HY nl wl wm) (nl+nm):=by unfold HH.A;rw [adQ]
theorem HH.row (H:HH h wl nl wm nm):vh (HY nl wl wm):=ahD H.rl H.rm
theorem HH.old (H:HH h wl nl wm nm) (hz:¬h.N=0):((HH.A h wl nl wm nm).v 0<=h.v 0/\h.v 0<=(HH.A h wl nl wm nm).v 1)/\((HH.A h wl nl wm nm).v 0<=h.v 1/\h.v 1<=(HH.A h wl nl wm nm).v 1):=by
 have h1:=H.n;have h2:=H.l;have h3:=H.m;rw [H.A_eq];exact anr H.r zO hz
end
end Go.Gy
namespace Go.Gy
open Go Go.RowKit Go.Proofs Go.Proofs.Tryz
theorem xf {p:Prop} (h:p:=by rw [hR v ns hV k hk,hR v ns hV l hl]):p:=h
theorem kj {p:Prop} (h:p:=by simp [ren,aW,aw,aF,h]):p:=h
theorem nf {p:Prop} (h:p:=by simp [rnL,jH,h]):p:=h
theorem sD {p:Prop} (h:p:=by simp [ren,aW,aw,aF,adl]):p:=h
def r2n (a nk k:Nat):Nat:=if k=100 then a else if k=1000 then nk else k
theorem adl {a nk:Nat}:r2n a nk 100=a:=rfl
theorem JT {a nk:Nat}:r2n a nk 1000=nk:=rfl
theorem ahr {a nk:Nat} (k:Nat) (h:k<100):r2n a nk k=k:=by
 unfold r2n;exact QR
theorem FunS.own2 {fn:FuncId} {args gz:ca} {b:Blk} {R R':Ij} (h:FunS prog G0 fn args (hpL G0 [(100,b)]) (ak [(100,b)]) R) (hb:b.fx) (a nk:Nat) (ha:100<=a) (hk:100<=nk) (cW:a≠nk) (hR:∀ v ns,R v ns->∀ k∈ak ns,k=1000) (ea:args.map (ren (r2n a nk))=gz) (eR:RR (r2n a nk) R=R') :
  FunS prog G0 fn gz (hpL G0 [(a,b)]) [a] R':=by
 refine h.mvL G0F (aT hb) (r2n a nk) ahr ea (by simp [ak,adl]) eR (λk hk=>?_) ?_ ai (λv ns hV k hk=>?_) (λv ns hV k hk l hl _=>xf)
 ·rw [bV,ae zO]
  rfl
 ·simp only [br,bN];rw [Blk.fx_rn hb,adl];exact ⟨ha,zS⟩
 ·rw [hR v ns hV k hk,JT];simp;exact ⟨zO,λe=>cW e.symm⟩
theorem acZ {nk:Nat} {ρ:dR} (h:ρ 1000=nk) (st:Int) (n:Nat) (f:aJ):RR ρ (HJ 1000 st n f)=HJ nk st n f:=by
 funext v ns;apply propext;constructor
 ·rintro ⟨v0,JF,⟨c,M,g,h1,h2,h3,rfl,rfl⟩,rfl,rfl⟩;exact ⟨c,M,g,h1,h2,h3,kj,nf⟩
 ·rintro ⟨c,M,g,h1,h2,h3,rfl,rfl⟩;exact ⟨_,_,⟨c,M,g,h1,h2,h3,rfl,rfl⟩,kj,nf⟩
theorem Bf {nk:Nat} {st:Int} {n:Nat} {f:aJ} {v:Value} {ns:cf} (h:HJ nk st n f v ns):∀ k∈ak ns,k=nk:=λk hk=>by
 obtain ⟨c,M,g,h1,h2,h3,rfl,rfl⟩:=h;simpa [ak] using hk
theorem acY (a nk:Nat) (ha:100<=a) (hk:100<=nk) (cW:a≠nk) (b:Blk) (off n cap:Nat) (f:aJ) (h:SB b off n f) (eK:n<=cap) (st:Int) :
  FunS prog G0 92 #[.agg #[.int .i64 st,.slice (some ⟨a,off,none⟩) n cap]] (hpL G0 [(a,b)]) [a] (HJ nk st n f) :=
 (Lx b off n cap f h eK st).own2 h.fx a nk ha hk cW (λv ns=>Bf) sD (acZ JT st n f)
def eqB (f g:aJ) (i:Nat):Bool:=f (6*i)==g (6*i)&&(f (6*i+1)==g (6*i+1)&&(f (6*i+2)==g (6*i+2)&&(f (6*i+3)==g (6*i+3)&&(f (6*i+4)==g (6*i+4)&&f (6*i+5)==g (6*i+5)))))
def Bl (st n9:Int) (n n':Nat) (f g:aJ):Bool:=st==n9&&(n==n'&&(List.range n).all (eqB f g))
theorem Vi {f g:aJ} {i:Nat}:eqB f g i=true↔∀ u,u<6->f (6*i+u)=g (6*i+u):=by
 unfold eqB;simp only [bn,beq_iff_eq];constructor
 ·rintro ⟨h0,h1,h2,h3,h4,h5⟩ u hu;obtain rfl|rfl|rfl|rfl|rfl|rfl:u=0\/u=1\/u=2\/u=3\/u=4\/u=5:=zO
  ·exact h0
  ·exact h1
  ·exact h2
  ·exact h3
  ·exact h4
  ·exact h5
 ·intro h;exact ⟨h 0 zO,h 1 zO,h 2 zO,h 3 zO,h 4 zO,h 5 zO⟩
theorem ZK {f g:aJ} {n:Nat}:(List.range n).all (eqB f g)=true↔∀ j,j<6*n->f j=g j:=by
 simp only [cX,mM,Vi];constructor
 ·intro h j hj;have:=h (j / 6) zO (j%6) zO;rwa [(zO:6*(j / 6)+j%6=j)] at this
 ·intro h i hi u hu;exact h _ zO
theorem Yy {st n9:Int} {n n':Nat} {f g:aJ}:Bl st n9 n n' f g=true↔st=n9/\n=n'/\∀ j,j<6*n->f j=g j:=by
 unfold Bl;rw [bn,bn,ZK,beq_iff_eq,beq_iff_eq]
theorem anh:∀ a b c d e f:Bool,(a&&(b&&(c&&(d&&(e&&f)))))=false->((!a||(!b||!c))||(!d||(!e||!f)))=true:=zD
def smL (b b':Blk):List (Nat×Blk):=[(100,b),(108,b')]
theorem anj {b b':Blk} (hb:b.fx) (Vr:b'.fx):LOk (smL b b') 200:=⟨by simp [smL],by simp [smL,ak],by
 simp only [smL,aj,az,ay,dc,bN];exact ⟨Blk.fx_ids hb _,Blk.fx_ids Vr _⟩⟩
def ahK (b b':Blk) (st n9:Int) (off Bd n n' cap cM i:Nat):GS :=
 ⟨tsL [(2,.pointer (some ⟨200,0,none⟩)),(3,.pointer (some ⟨208,0,none⟩)),(5,.int .i64 i)],hpL G0 [(100,b),(108,b'),(200,⟨#[.int .i64 st,.slice (some ⟨100,off,none⟩) n cap],.ty 27⟩),(208,⟨#[.int .i64 n9,.slice (some ⟨108,Bd,none⟩) n' cM],.ty 27⟩)],400,0⟩
theorem adA (b b':Blk) (off Bd n n' cap cM:Nat) (f g:aJ) (h:SB b off n f) (h':SB b' Bd n' g) (st n9:Int) :
  Fun prog G0 32 #[.agg #[.int .i64 st,.slice (some ⟨100,off,none⟩) n cap],.agg #[.int .i64 n9,.slice (some ⟨108,Bd,none⟩) n' cM]] (hpL G0 (smL b b')) (ak (smL b b')) (.ret (.bool (Bl st n9 n n' f g)) []):=by
 refine cg (B:=200) G0F func32 rfl call32 (anj h.fx h'.fx) ?_ zS zS zS (by simp [ntmps32]) zO ?_
 ·simp [aL,cQ,aI,aP,ak,smL]
 intro C hC bA hY;have Lk:=h.nn;have kL:=λD=>Blk.fx_ids h.fx D;have aqS:=λD=>Blk.fx_ids h'.fx D;unfold smL at bA |-;by_cases cs:st=n9
 ·by_cases cn:n=n'
  ·subst cs cn;obtain ⟨N,hN,dp,dk⟩:=Js (eqB f g) n
   have HV:Bl st st n n f g=decide (N=n):=by
    unfold Bl;simp only [beq_self_eq_true,jq];by_cases tF:N=n
    ·subst tF;rw [bg rfl];simpa using dp
    ·rw [aR tF]
     cases hb:(List.range n).all (eqB f g) with
     | false=>rfl
     | true =>
      have:=cX.1 hb N aB;rw [dk.resolve_left tF] at this;cases this
   rw [HV];refine iI ?_;refine fD N (ahK b b' st st off Bd n n cap cM) ?_ ?_ ?_
   ·refine cB _ 400 hC G0F (m0:=[(100,b),(108,b')]) bA zO ?_ ?_ ?_
    ·exact lO
    ·simp [aM,aI,aP,kL,aqS,dom]
    ·simp
   ·intro i hi;have ew:i<n:=zO;have cS:(i:Int)<n:=zO;have hz:(0:Int)<=i:=zO;have hs:Int.bmod ((i:Int)+1) 18446744073709551616=((i+1:Nat):Int):=ee;have hld:=h.body ew;have alz:=h'.body ew;have he:=Vi.1 (dp i hi);have e0:=he 0 zO;have e1:=he 1 zO;have e2:=he 2 zO;have e3:=he 3 zO;have e4:=he 4 zO;have e5:=he 5 zO;simp only [du] at e0;unfold ahK;refine cA (k13 hi ew cS hz hs hld alz e0 e1 e2 e3 e4 e5) ?_;refine cB _ 400 hC G0F (m0:=[(100,b),(108,b')]) bA zO ?_ ?_ ?_
    ·exact QW
    ·simp [aM,aI,aP,kL,aqS,dom]
    ·simp
   ·by_cases tF:N=n
    ·rw [bg tF];subst tF;unfold ahK;refine iI ?_;exact eS results32
    ·rw [aR tF];have ew:N<n:=zO;have cS:(N:Int)<n:=zO;have hz:(0:Int)<=N:=zO;have hld:=h.body ew;have alz:=h'.body ew;have cW:=dk.resolve_left tF;unfold eqB at cW;replace cW:=anh _ _ _ _ _ _ cW;unfold ahK;refine cA (k6 ew cS hz hld alz cW) ?_;exact eS results32
  ·have HV:Bl st n9 n n' f g=false:=by
    unfold Bl;rw [show (n==n')=false by simpa using cn];simp
   rw [HV];subst cs;have cn':((n:Int)==(n':Int))=false:=aB;have cn2:(n==n')=false:=by simpa using cn
   have cn3:((n:Int) != (n':Int))=true:=by unfold bne;rw [cn'];rfl
   refine cA (k4 cn cn' cn2 cn3) ?_;exact eS results32
 ·have HV:Bl st n9 n n' f g=false:=by
   unfold Bl;rw [show (st==n9)=false by simpa using cs];simp
  rw [HV];have Z7:(st==n9)=false:=by simpa using cs
  have cs2:(st != n9)=true:=by unfold bne;rw [Z7];rfl
  refine cA (k3 cs Z7 cs2) ?_;exact eS results32
theorem Fun.up1 {f:FuncId} {args:ca} {m ws:cf} {v:Value} {B:Nat} (h:Fun prog G0 f args (hpL G0 m) (ak m) (.ret v ws)) (ok:LOk m B):Fun prog G1 f args (hpL G1 m) (ak m) (.ret v ws):=h
theorem FunS.up1 {f:FuncId} {args:ca} {m:cf} {R:Ij} {B:Nat} (h:FunS prog G0 f args (hpL G0 m) (ak m) R) (ok:LOk m B):FunS prog G1 f args (hpL G1 m) (ak m) R:=h
structure LKa (L:cf) (ka ks:Nat) (b b2:Blk):Prop where
 ok:LOk L 200
 fx:∀ p∈L,p.2.fx
 kb:(ks,b2)∈L
 am:(ka,b)∈L
 k8:ks=100\/ks=108
 a8:ka=100\/ka=100
section
variable {L:cf} {ka ks:Nat} {b b2:Blk}
theorem LKa.any (h:LKa L ka ks b b2):LAny L:=⟨h.ok,h.fx⟩
theorem LKa.mem (h:LKa L ka ks b b2) (p:Nat×Blk) (hp:p∈L):hpL G1 L p.1=some p.2:=LOk.at h.ok.one p hp
theorem LKa.a (h:LKa L ka ks b b2):hpL G1 L ka=some b:=h.mem _ h.am
theorem LKa.s (h:LKa L ka ks b b2):hpL G1 L ks=some b2:=h.mem _ h.kb
theorem LKa.k1 (h:LKa L ka ks b b2):100<=ks:=(h.ok.big _ h.kb).1
theorem LKa.k2 (h:LKa L ka ks b b2):ks<200:=(h.ok.big _ h.kb).2
theorem LKa.a1 (h:LKa L ka ks b b2):100<=ka:=(h.ok.big _ h.am).1
theorem LKa.a2 (h:LKa L ka ks b b2):ka<200:=(h.ok.big _ h.am).2
theorem LKa.ne (h:LKa L ka ks b b2) (k:Nat) (hk:200<=k):(ks=k)=False:=by
 exact x8
theorem LKa.na (h:LKa L ka ks b b2) (k:Nat) (hk:200<=k):(ka=k)=False:=by
 have:=h.a2;simp only [jv,iff_false];omega
theorem LKa.low (h:LKa L ka ks b b2) (k:Nat) (hk:k<100):hpL G1 L k=G1 k:=h.ok.low k hk
theorem LKa.ia (h:LKa L ka ks b b2):dom (hpL G1 L) ka:=by unfold dom;rw [h.a];simp
theorem LKa.ib (h:LKa L ka ks b b2):dom (hpL G1 L) ks:=by unfold dom;rw [h.s];simp
theorem LKa.two {x y:Blk} (hx:x.fx) (hy:y.fx):LKa [(100,x),(108,y)] 100 108 x y:=by
 have h:=LTwo.two (G:=G0) hx hy;exact ⟨h.ok,h.fx,h.kb,h.ka,.inr rfl,.inl rfl⟩
theorem LKa.of {L:cf} {ks:Nat} {b b2:Blk} (h:LTwo G0 L ks b b2):LKa L 100 ks b b2:=⟨h.ok,h.fx,h.kb,h.ka,h.k8,.inl rfl⟩
theorem LKa.tw (h:LKa L 100 ks b b2):LTwo G0 L ks b b2:=⟨h.ok,h.fx,h.am,h.kb,h.k8⟩
end
end Go.Gy
namespace Go.Gy
open Go Go.RowKit Go.Proofs
def qg (n d g m x r:Int):Int :=
 if -2097152<=n/\n<=2097152/\1<=d/\d<=2097152/\1<=g/\g<=1048576/\1<=m/\m<=1024/\-2097152<=x/\x<=2097152/\0<=r/\r<=13194139533312 then (if r=0 then 30 else if x*x<=r then 0 else 2) else 2
def vv (x0 x1 x2:Int):Value:=.agg #[.int .i64 x0,.int .i64 x1,.int .i64 x2]
def vb (x0 x1 x2:Int):Blk:=⟨#[.int .i64 x0,.int .i64 x1,.int .i64 x2],.ty 70⟩
def inX (x:Int):Prop:=-2097152<=x/\x<=2097152
instance (x:Int):Decidable (inX x):=by unfold inX;infer_instance
theorem MU {x:Int} (h:inX x):0<=x*x/\x*x<=4398046511104:=by
 obtain ⟨h1,h2⟩:=h;by_cases h0:0<=x
 ·have h:x*x<=2097152*2097152:=cU zO zO h0 zO;exact ⟨bK h0 h0,zO⟩
 ·rw [<-lh];have h:-x*-x<=2097152*2097152:=cU zO zO zO zO;exact ⟨bK zO zO,zO⟩
theorem IterX.cast {pn:Option Value} {P:Program} {G:Hp} {f:FuncId} {bF u7:ca} {hp:Hp} {rs PN:List Nat} {xs:List (Array Value)} (h:IterX pn P G f bF hp rs xs) (e1:bF=u7) (e2:rs=PN):IterX pn P G f u7 hp PN xs:=by subst e1 e2;exact h
end Go.Gy
namespace Go.Gy
open Go Go.RowKit Go.Proofs Go.Proofs.Tryz
theorem ni {p:Prop} (h:p:=by have:=h.d0;omega):p:=h
theorem adG {c:ca} {T:TypeId} (hc:∀ x∈c,bU x=true) (b:Nat) (hb:100<=b):Rn (λk=>if k=100 then b else k) (hpL G1 [(100,⟨c,T⟩)]) (hpL G1 [(b,⟨c,T⟩)]) [100]:=by
 refine ⟨λk hk=>?_,?_,?_,?_⟩
 ·have h1:¬k=100:=zO;have h2:¬k=b:=zO;simp [h1,h2]
 ·simp [hb]
 ·simp [Blk.rn];exact (fi (λx hx=>fY (hc x hx))).symm
 ·simp
theorem Fun.sl {f:FuncId} {c:ca} {T:TypeId} {n:Nat} {v:Value} (h:Fun prog G1 f #[.slice (some ⟨100,0,none⟩) n n] (hpL G1 [(100,⟨c,T⟩)]) [100] (.ret v [])) (hc:∀ x∈c,bU x=true) (hv:bp v=true) (b:Nat) (hb:100<=b) :
  Fun prog G1 f #[.slice (some ⟨b,0,none⟩) n n] (hpL G1 [(b,⟨c,T⟩)]) [b] (.ret v []):=by
 have h':=h.rn (λk=>if k=100 then b else k) G1F (λk hk=>dA zS hk) (adG hc b hb);rw [bS hv] at h';simpa [ren,aW,aw,aF,rnL] using h'
theorem Ov {f:FuncId} {c:ca} {T:TypeId} {n nk b:Nat} {v:Value} {hp:Hp} {K:Eff->Prop} (h:Fun prog G1 f #[.slice (some ⟨100,0,none⟩) n n] (hpL G1 [(100,⟨c,T⟩)]) [100] (.ret v [])) (hc:∀ x∈c,bU x=true) (hv:bp v=true) (hb:100<=b)
  (h1:hp b=some ⟨c,T⟩) (hK:K ((Res.ret v []).eff [b])):qO prog G1 f #[.slice (some ⟨b,0,none⟩) n n] hp nk K :=
 iE (eG:=hpL G1 [(b,⟨c,T⟩)]) (h.sl hc hv b hb) (by simp [h1]) (λk hk=>dA aB hk) trivial hK
theorem BJ {a b p q:Int} (h1:-p<=a) (h2:a<=p) (h3:-q<=b) (h4:b<=q):-(p*q)<=a*b/\a*b<=p*q:=by
 have e1:a.natAbs<=p.natAbs:=zO;have e2:b.natAbs<=q.natAbs:=zO;have e3:=jZ e1 e2;rw [<-rT,<-rT] at e3;have e4:0<=p*q:=bK zO zO;omega
theorem oG (a:Int):0<=a*a:=by
 by_cases h:0<=a
 ·exact bK h h
 ·rw [<-lh];exact bK zO zO
def me (n d g m x r:Int):Int:=(isq (2*n*g*m*x*(2*n*g*m*x) / (d*d*r*r*r))+1) / 2
def iG (n d g m x r:Int):Int:=if n<0 then (if x<0 then me n d g m x r else -me n d g m x r) else (if x<0 then -me n d g m x r else me n d g m x r)
structure PIn (n d g m x r:Int):Prop where
 n0:-2097152<=n
 n1:n<=2097152
 d0:1<=d
 d1:d<=2097152
 g0:1<=g
 g1:g<=1048576
 m0:1<=m
 m1:m<=1024
 x0:-2097152<=x
 x1:x<=2097152
 r0:1<=r
 r1:r<=13194139533312
 xr:x*x<=r
theorem IS {n d g m x r:Int}:qg n d g m x r=0↔PIn n d g m x r:=by
 unfold qg;constructor
 ·intro h;split at h;rotate_left
  ·cases h
  rename_i hc;obtain ⟨f0,f1,f2,f3,f4,f5,f6,f7,f8,f9,f10,f11⟩:=hc;split at h
  ·cases h
  rename_i hr;split at h;rotate_left
  ·cases h
  rename_i hx;exact ⟨f0,f1,f2,f3,f4,f5,f6,f7,f8,f9,zO,f11,hx⟩
 ·rintro ⟨f0,f1,f2,f3,f4,f5,f6,f7,f8,f9,f10,f11,f12⟩;rw [ag ⟨f0,f1,f2,f3,f4,f5,f6,f7,f8,f9,zO,f11⟩,ae zO,ag f12]
section
variable {n d g m x r:Int} (h:PIn n d g m x r)
include h
theorem PIn.p1:-4194304<=2*n/\2*n<=4194304:=⟨by have:=h.n0;omega,by have:=h.n1;omega⟩
theorem PIn.p2:-4398046511104<=2*n*g/\2*n*g<=4398046511104:=by
 have:=BJ h.p1.1 h.p1.2 (b:=g) (q:=1048576) (by have:=h.g0;omega) h.g1;exact Rh
theorem PIn.p3:-4503599627370496<=2*n*g*m/\2*n*g*m<=4503599627370496:=by
 have:=BJ h.p2.1 h.p2.2 (b:=m) (q:=1024) (by have:=h.m0;omega) h.m1;exact Rh
theorem PIn.p4:-9444732965739290427392<=2*n*g*m*x/\2*n*g*m*x<=9444732965739290427392:=by
 have:=BJ h.p3.1 h.p3.2 h.x0 h.x1;exact Rh
theorem PIn.q1:1<=d*d/\d*d<=4398046511104:=by
 have h1:=BJ (p:=2097152) (q:=2097152) ni h.d1 ni h.d1;have h2:1*1<=d*d:=cU h.d0 h.d0 zO ni;omega
theorem PIn.q2:r<=d*d*r/\d*d*r<=4398046511104*13194139533312:=by
 refine ⟨?_,cU h.q1.2 h.r1 (by have:=h.r0;omega) zO⟩;have h2:1*r<=d*d*r:=fE h.q1.1 (by have:=h.r0;omega);omega
theorem PIn.q3:r<=d*d*r*r/\d*d*r*r<=4398046511104*13194139533312*13194139533312:=by
 have hr:=h.r0;have h1:=h.q2;refine ⟨?_,cU h1.2 h.r1 zO zO⟩;have h2:1*r<=d*d*r*r:=fE zO zO;omega
theorem PIn.q4:r<=d*d*r*r*r/\d*d*r*r*r<=4398046511104*13194139533312*13194139533312*13194139533312:=by
 have hr:=h.r0;have h1:=h.q3;refine ⟨?_,cU h1.2 h.r1 zO zO⟩;have h2:1*r<=d*d*r*r*r:=fE zO zO;omega
theorem PIn.a_le:2*n*g*m*x*(2*n*g*m*x)<=89202980794122492566142873090593446023921664:=by
 have:=(BJ h.p4.1 h.p4.2 h.p4.1 h.p4.2).2;exact Rh
theorem PIn.div_le:2*n*g*m*x*(2*n*g*m*x) / (d*d*r*r*r)<=20282409603651670423947251286016:=by
 have hr:=h.r0;have hB:=h.q4.1
 have h1:(2*n*g*m)*(2*n*g*m)<=20282409603651670423947251286016:=by
  have:=(BJ h.p3.1 h.p3.2 h.p3.1 h.p3.2).2;exact Rh
 have e:2*n*g*m*x*(2*n*g*m*x)=(2*n*g*m)*(2*n*g*m)*(x*x):=by
  rw [bD (2*n*g*m) x,rz x,<-bD]
 have h2:(2*n*g*m)*(2*n*g*m)*(x*x)<=20282409603651670423947251286016*r:=cU h1 h.xr (oG x) zO;have h3:20282409603651670423947251286016*r<=20282409603651670423947251286016*(d*d*r*r*r):=fg hB zO;rw [e];refine Int.le_of_lt_add_one (rV zO ?_);rw [eF];omega
theorem PIn.mag:0<=me n d g m x r/\me n d g m x r<=4503599627370496:=by
 have hB:0<d*d*r*r*r:=by have:=h.q4.1;have:=h.r0;omega
 have hA:=oG (2*n*g*m*x);obtain ⟨h1,h2,h3⟩:=tW (2*n*g*m*x*(2*n*g*m*x) / (d*d*r*r*r)) (gN hA zO);have h4:=h.div_le;have h5:=Wm 4503599627370497 h1 zD zO;unfold me;omega
end
end Go.Gy
namespace Go.Gy
open Go Go.RowKit Go.Proofs
def ib (n:Int):Blk:=⟨#[.int .i64 n],.ty 3⟩
end Go.Gy
namespace Go.Gy
open Go Go.RowKit Go.Proofs Go.Proofs.Tryz
def Pt (n i:Nat):List Nat:=(List.range n).filter λk=>k != i
end Go.Gy
namespace Go.Gy
open Go Go.RowKit Go.Proofs
theorem EP {p:Prop} (h:p:=by
 unfold me;simp only [v9,vJ,Int.zero_ediv];rw [Ai (r:=0) zD zD zD];decide):p:=h
theorem yE {p:Prop} (h:p:=by
 have:=h.mag;unfold iG
 (repeat' split)<;>omega):p:=h
theorem agC (n d g m x r:Int):me (-n) d g m x r=me n d g m x r:=by
 unfold me;have e:2*-n*g*m*x=-(2*n*g*m*x):=by simp only [jo,Int.neg_mul]
 rw [e,lh]
theorem ab5 (d g m x r:Int):me 0 d g m x r=0:=by
 exact EP
theorem agD (n d g m x r:Int):iG (-n) d g m x r=-iG n d g m x r:=by
 unfold iG;rw [agC];have h0:n=0->me n d g m x r=0:=λh=>by subst h;exact ab5 _ _ _ _ _
 generalize me n d g m x r=M at *
 (repeat' split)<;>omega
theorem Jr {n d g m x r:Int} (h:PIn n d g m x r):-4503599627370496<=iG n d g m x r/\iG n d g m x r<=4503599627370496:=by
 exact yE
def kpF (n d g:Int) (fm fs:aJ) (i u k:Nat):Int:=iG n d g (fm k) (fs (6*k+u) - fs (6*i+u)) (d2F fs k i)
def oS (F:aJ):List Nat->Int
 | []=>0
 | k::l=>F k+oS F l
theorem acM (F:aJ):∀ l m,oS F (l++m)=oS F l+oS F m
 | [],m=>by simp [oS]
 | p::l,m=>by
  simp only [bj,oS,acM F l m];omega
theorem ajq {F:aJ} {B:Int}:∀ {l:List Nat},(∀ k∈l,-B<=F k/\F k<=B)->-(l.length*B)<=oS F l/\oS F l<=l.length*B
 | [],_=>by simp [oS]
 | p::l,h=>by
  have h1:=ajq (l:=l) λq hq=>h q (aD _ hq);have h2:=h p zS;simp only [oS,fH,vW,eF];omega
theorem Pp {F H:aJ}:∀ {l:List Nat},(∀ k∈l,F k=H k)->oS F l=oS H l
 | [],_=>rfl
 | p::l,h=>by
  simp only [oS];rw [h p zS,Pp λq hq=>h q (aD _ hq)]
theorem acN {F H:aJ}:∀ {l:List Nat},(∀ k∈l,F k=-(H k))->oS F l=-(oS H l)
 | [],_=>rfl
 | p::l,h=>by
  simp only [oS];rw [h p zS,acN λq hq=>h q (aD _ hq)];omega
theorem Cd {n i k:Nat}:k∈Pt n i↔k<n/\k≠i:=by
 unfold Pt;rw [vS,mM];simp
theorem amN {n i:Nat} (hn:n<=4):(Pt n i).length<=4:=by
 unfold Pt;exact ju (List.length_filter_le _ _) (by rw [List.length_range];exact hn)
theorem JH (F:aJ) (i:Nat):∀ n:Nat,oS F (Pt n i)=dh (λk=>if k=i then 0 else F k) n
 | 0=>rfl
 | n+1=>by
  unfold dh;rw [<-JH F i n];unfold Pt;rw [vU,List.filter_append,acM];by_cases c:n=i
  ·simp [c,oS]
  ·simp [c,oS]
def kS (n d g:Int) (fm fs:aJ) (N i u:Nat):Int:=oS (kpF n d g fm fs i u) (Pt N i)
def kZ (fs:aJ) (N i:Nat):Bool:=(Pt N i).any λk=>decide (d2F fs k i=0)
theorem agy {fs:aJ} {N i:Nat}:kZ fs N i=false↔∀ k,k<N->k≠i->¬d2F fs k i=0:=by
 unfold kZ;rw [oV];exact ⟨λh k h1 h2=>by simpa using h k (Cd.2 ⟨h1,h2⟩),λh k hk=>by have:=Cd.1 hk;simpa using h k this.1 this.2⟩
def r5 (n d:Int):Bool:=decide (-2097152<=n/\n<=2097152/\1<=d/\d<=2097152)
theorem B5 {n d:Int}:r5 n d=true ↔ -2097152<=n/\n<=2097152/\1<=d/\d<=2097152:=by
 unfold r5;exact decide_eq_true_iff
def HW (fs:aJ) (N:Nat):Bool:=(List.range N).any λi=>kZ fs N i
theorem MY {fs:aJ} {N:Nat}:HW fs N=false↔∀ i,i<N->kZ fs N i=false:=by
 unfold HW;rw [oV];exact ⟨λh i hi=>by simpa using h i (by simpa using hi),λh i hi=>by simpa using h i (by simpa using hi)⟩
def kkF (n d g:Int) (fm fs:aJ) (N:Nat) (j:Nat):Int:=kS n d g fm fs N (j / 3) (j%3)
def kcF (n d g:Int) (fm fs:aJ) (N:Nat) (j:Nat):Int:=if j%6<3 then fs j else fs j+kS n d g fm fs N (j / 6) (j%6 - 3)
theorem ama {st:Int} {fs:aJ} {n:Nat} (hr:aY st fs n=true) {i k:Nat} (hi:i<n) (hk:k<n):0<=d2F fs k i/\d2F fs k i<=13194139533312/\∀ u,u<3->-2097152<=fs (6*k+u) - fs (6*i+u)/\fs (6*k+u) - fs (6*i+u)<=2097152/\(fs (6*k+u) - fs (6*i+u))*(fs (6*k+u) - fs (6*i+u))<=d2F fs k i:=by
 obtain ⟨⟨_,a0,a0'⟩,⟨_,a1,a1'⟩,⟨_,a2,a2'⟩⟩:=(jy hr hi).1;obtain ⟨⟨_,b0,b0'⟩,⟨_,b1,b1'⟩,⟨_,b2,b2'⟩⟩:=(jy hr hk).1;have s0:=ug (a:=fs (6*k) - fs (6*i)) (m:=2097152) ⟨zO,zO,zO⟩;have s1:=ug (a:=fs (6*k+1) - fs (6*i+1)) (m:=2097152) ⟨zO,zO,zO⟩;have s2:=ug (a:=fs (6*k+2) - fs (6*i+2)) (m:=2097152) ⟨zO,zO,zO⟩;unfold d2F;refine ⟨zO,zO,λu hu=>?_⟩;have:u=0\/u=1\/u=2:=zO;rcases this with rfl|rfl|rfl
 ·simp only [du];exact ⟨zO,zO,zO⟩
 ·exact ⟨zO,zO,zO⟩
 ·exact ⟨zO,zO,zO⟩
theorem O3 {n d g bx tp nr md st:Int} {fm fs:aJ} {N i k u:Nat} (eM:fk N fm g bx tp nr md=true) (hr:aY st fs N=true) (hp:r5 n d=true) (hi:i<N) (hk:k<N) (hu:u<3) (hz:¬d2F fs k i=0):PIn n d g (fm k) (fs (6*k+u) - fs (6*i+u)) (d2F fs k i):=by
 obtain ⟨h1,h2,h3⟩:=ama hr hi hk;obtain ⟨p1,p2,p3,p4⟩:=B5.1 hp;have hg:=Mr eM;have hm:=jN eM hk;have h4:=h3 u hu;exact ⟨p1,p2,p3,p4,hg.1,hg.2,hm.1,hm.2,h4.1,h4.2.1,zO,h2,h4.2.2⟩
theorem ar4 {n d g bx tp nr md st:Int} {fm fs:aJ} {N i u:Nat} (eM:fk N fm g bx tp nr md=true) (hr:aY st fs N=true) (hp:r5 n d=true) (hi:i<N) (hu:u<3) {l:List Nat} (hl:∀ k∈l,k<N/\¬d2F fs k i=0) (hl4:l.length<=4):-18014398509481984<=oS (kpF n d g fm fs i u) l/\oS (kpF n d g fm fs i u) l<=18014398509481984:=by
 have h:=ajq (F:=kpF n d g fm fs i u) (B:=4503599627370496) (l:=l) λk hk=>Jr (O3 eM hr hp hi (hl k hk).1 hu (hl k hk).2);omega
theorem aje {n d g bx tp nr md st:Int} {fm fs:aJ} {N i u:Nat} (eM:fk N fm g bx tp nr md=true) (hr:aY st fs N=true) (hp:r5 n d=true) (hi:i<N) (hu:u<3) (hz:kZ fs N i=false):-18014398509481984<=kS n d g fm fs N i u/\kS n d g fm fs N i u<=18014398509481984 :=
 ar4 eM hr hp hi hu (λk hk=>⟨(Cd.1 hk).1,agy.1 hz k (Cd.1 hk).1 (Cd.1 hk).2⟩) (amN (ji hr).2.1.2)
theorem al7 (n d g:Int) (fm fs:aJ) (N i u:Nat):kS (-n) d g fm fs N i u=-(kS n d g fm fs N i u):=acN λk _=>agD _ _ _ _ _ _
theorem O1 {n d g:Int} {fm fs fs':aJ} {N i u:Nat} (hi:i<N) (h:∀ k,k<N->∀ v,v<3->fs' (6*k+v)=fs (6*k+v)) (hu:u<3):kS n d g fm fs' N i u=kS n d g fm fs N i u:=by
 refine Pp λk hk=>?_;have hk:=(Cd.1 hk).1;have h0:=h k hk 0 zO;have g0:=h i hi 0 zO;unfold kpF d2F;rw [h k hk u hu,h i hi u hu,h k hk 1 zO,h k hk 2 zO,h i hi 1 zO,h i hi 2 zO];rw [du] at h0 g0;rw [h0,g0]
theorem TK (n d g:Int) (fm fs:aJ) (N:Nat) (k v:Nat) (hv:v<3):kcF n d g fm fs N (6*k+v)=fs (6*k+v):=by
 unfold kcF;rw [ag zO]
theorem TH (n d g:Int) (fm fs:aJ) (N:Nat) (k v:Nat) (hv:v<3):kcF n d g fm fs N (6*k+3+v)=fs (6*k+3+v)+kS n d g fm fs N k v:=by
 unfold kcF;rw [ae zO,(zO:(6*k+3+v) / 6=k),(zO:(6*k+3+v)%6 - 3=v)]
theorem ab1 (n d g:Int) (fm fs:aJ) (N:Nat) (j:Nat) (hj:j<6*N):kcF (-n) d g fm (kcF n d g fm fs N) N j=fs j:=by
 have hl:∀ k,k<N->∀ v,v<3->kcF n d g fm fs N (6*k+v)=fs (6*k+v):=λk _ v hv=>TK n d g fm fs N k v hv;by_cases c:j%6<3
 ·have e:j=6*(j / 6)+j%6:=zO;rw [e,TK _ _ _ _ _ _ _ _ c,TK _ _ _ _ _ _ _ _ c]
 ·have e:j=6*(j / 6)+3+(j%6 - 3):=zO;rw [e,TH _ _ _ _ _ _ _ _ zO,TH _ _ _ _ _ _ _ _ zO,O1 zO hl zO,al7];omega
end Go.Gy
namespace Go.Gy
open Go Go.RowKit Go.Proofs Go.Proofs.Tryz
theorem qh {T:TypeId} {M:Nat} {g:aJ} {q:Nat} (h:q<M):fB prog 3 ⟨fa M .i64 g,.ty T⟩ q=some (.int .i64 (g q)):=by
 have:=ze (P:=prog) (T:=3) (b:=⟨fa M .i64 g,.ty T⟩) (off:=0) (j:=q) (cr isAgg3) (uO M g _) h;rwa [cD] at this
theorem adj (f:aJ) (o:Nat) (a b c:Int):upd (upd (upd f o a) (o+1) b) (o+2) c=JQ f o a b c:=by
 funext j;unfold upd JQ;by_cases h0:j=o
 ·rw [ae zO,ae zO,ag h0,ag h0]
 ·by_cases h1:j=o+1
  ·rw [ae zO,ag h1,ae h0,ag h1]
  ·by_cases h2:j=o+2
   ·rw [ag h2,ae h0,ae h1,ag h2]
   ·rw [ae h2,ae h1,ae h0,ae h0,ae h1,ae h2]
def ae0 (f:aJ) (o:Nat) (a b c:Int):Nat->Int:=JQ f o (f o+a) (f (o+1)+b) (f (o+2)+c)
end Go.Gy
namespace Go.Gy
open Go Go.RowKit Go.Proofs
end Go.Gy
namespace Go.Gy
open Go Go.RowKit Go.Proofs
def eb (z:Int):Blk:=⟨#[.int .i64 z],.ty 41⟩
theorem amg {fs:aJ} (i k:Nat):(fs (6*k) - fs (6*i))*(fs (6*k) - fs (6*i))+(fs (6*k+1) - fs (6*i+1))*(fs (6*k+1) - fs (6*i+1))+(fs (6*k+2) - fs (6*i+2))*(fs (6*k+2) - fs (6*i+2))=d2F fs k i:=rfl
theorem ada (n d g m r:Int):me n d g m 0 r=0:=by
 unfold me;rw [v9,vJ,Int.zero_ediv,Ai (r:=0) zD zD zD];decide
structure MayP (n d g m x0 x1 x2:Int):Prop where
 i0:inX x0
 i1:inX x1
 i2:inX x2
 far:¬(x0=0/\x1=0/\x2=0)
 n0:-2097152<=n
 n1:n<=2097152
 d0:1<=d
 d1:d<=2097152
 g0:1<=g
 g1:g<=1048576
 m0:1<=m
 m1:m<=1024
theorem X6 (n d g m x r:Int):me n d g m (-x) r=me n d g m x r:=by
 unfold me;rw [jo,lh]
theorem ahn (d g m x r:Int):me 0 d g m x r=0:=by
 exact EP
theorem Ub (n d g m x r:Int):iG n d g m (-x) r=-iG n d g m x r:=by
 unfold iG;rw [X6];have h0:x=0->me n d g m x r=0:=λh=>by subst h;exact ada _ _ _ _ _
 generalize me n d g m x r=M at *
 (repeat' split)<;>omega
theorem PIn.val {n d g m x r:Int} (h:PIn n d g m x r):-4503599627370496<=iG n d g m x r/\iG n d g m x r<=4503599627370496:=by
 exact yE
theorem UA {q:Int} (h0:0<=q):(isq q+1) / 2=0↔q=0:=by
 obtain ⟨h1,h2,h3⟩:=tW q h0;constructor
 ·intro h;have h4:isq q=0:=zO;rw [h4] at h3;omega
 ·intro h;subst h;rw [Ai (r:=0) zD zD zD];decide
theorem PIn.zero {n d g m x r:Int} (h:PIn n d g m x r):iG n d g m x r=0↔2*n*g*m*x*(2*n*g*m*x)<d*d*r*r*r:=by
 have hB:0<d*d*r*r*r:=by have:=h.q4.1;have:=h.r0;omega
 have hA:=oG (2*n*g*m*x)
 have e1:iG n d g m x r=0↔me n d g m x r=0:=by
  exact yE
 rw [e1];unfold me;rw [UA (gN hA zO)];generalize 2*n*g*m*x*(2*n*g*m*x)=A at *
 generalize d*d*r*r*r=B at *
 constructor
 ·intro h;have e2:=bQ A hB;have e3:=kR A B;rw [h] at e3;omega
 ·intro h;exact dU hA h
end Go.Gy
namespace Go.Gy
open Go Go.RowKit Go.Proofs Go.Proofs.Tryz
theorem Nl (n a b:Int):Ret prog G1 212 #[.int .i64 n,.int .i64 a,.int .i64 b] (.bool (decide (a<=n)&&decide (n<=b))):=by
 refine aU G1F func212 rfl call212 rfl zS (by simp [ntmps212]) ?_;intro C hC bA hY;by_cases h:a<=n
 ·skip
  refine cA h ?_;exact eR (k2 results212 h)
 ·skip
  refine cA h ?_;exact eR (k2 results212 h)
@[simp] theorem asU (n a b:Int) (K:fQ):bl prog G1 212 #[.int .i64 n,.int .i64 a,.int .i64 b] K↔K (.bool (decide (a<=n)&&decide (n<=b))):=ar G1W ah (Nl n a b)
theorem PO (a:Int):Ret prog G1 214 #[wd a] (wd (sz a*sz a)):=by
 refine aU G1F func214 rfl call214 zS zS (by simp [ntmps214]) ?_;intro C hC bA hY;refine iI ?_;exact eR results214
@[simp] theorem avq (a:Int) (K:fQ):bl prog G1 214 #[Value.agg #[.int .u64 (wi (a) 0),.int .u64 (wi (a) 1),.int .u64 (wi (a) 2),.int .u64 (wi (a) 3)]] K↔K (wd (sz a*sz a)):=ar G1W ah (PO a)
theorem nL {p:Prop} (h:p:=by simp [vv]):p:=h
theorem DI {p:Prop} (h:p:=by have:=MU (x:=x) ⟨f8,f9⟩;omega):p:=h
theorem lQ {p:Prop} (h:p:=by
 exact eR results206):p:=h
theorem Se {p:Prop} (h:p:=by
 exact eR results213):p:=h
theorem Ep {p:Prop} (h:p:=by
 refine cA (k12 f0 f1 f2 f3 f4 f5 f6 f7 f8 f9 f10 f11) ?_;exact eR results213):p:=h
theorem Gl {p:Prop} (h:p:=by
 refine cA (RK f0 f1 f2 f3 f4 f5 f6 f7 f8 f9 f10 f11 Zj qy oL) ?_;exact eR results213):p:=h
theorem JZ (a0 a1 a2 a3 a4:Int) (hi:i64 a0/\i64 a1/\i64 a2/\i64 a3/\i64 a4) (hw:wr (a0)/\wr (a0*a1)/\wr (a0*a1*a2)/\wr (a0*a1*a2*a3)/\wr (a0*a1*a2*a3*a4)):Fun prog G1 215 #[.slice (some ⟨100,0,none⟩) 5 5] (hpL G1 [(100,⟨#[.int .i64 a0,.int .i64 a1,.int .i64 a2,.int .i64 a3,.int .i64 a4],.ty 3⟩)]) [100] (.ret (wd (a0*a1*a2*a3*a4)) []):=by
 have agi:rst (hpL G1 [(100,⟨#[.int .i64 a0,.int .i64 a1,.int .i64 a2,.int .i64 a3,.int .i64 a4],.ty 3⟩)]) [100]=hpL G1 [(100,⟨#[.int .i64 a0,.int .i64 a1,.int .i64 a2,.int .i64 a3,.int .i64 a4],.ty 3⟩)]:=qi G1F zS;have eU:∀ k,200<=k->hpL G1 [(100,⟨#[.int .i64 a0,.int .i64 a1,.int .i64 a2,.int .i64 a3,.int .i64 a4],.ty 3⟩)] k=none:=λk hk=>by simp [(zO:¬k=100),(zO:100<=k)]
 refine wu (B:=200) G1F (λk hk=>dA zS hk) func215 rfl call215 ?_ ?_ ⟨bw zS,ai,zS,zS⟩ (by simp [ntmps215]) zO ?_ ?_
 ·rw [agi];simp [dom]
 ·rw [agi];intro k c h;rcases dE h with h|h
  ·simp at h;rcases h with ⟨_,rfl⟩
   simp
  ·exact WA _ _ _ h
 ·rw [agi];exact eU
 ·intro C hC bA hY;rw [agi] at bA |-;obtain ⟨i0,i1,i2,i3,i4⟩:=hi;obtain ⟨w0,w1,w2,w3,w4⟩:=hw;have s0:=gB w0;have s1:=gB w1;have s2:=gB w2;have s3:=gB w3;have s4:=gB w4;have t1:=gB (jl i1);have t2:=gB (jl i2);have t3:=gB (jl i3);have t4:=gB (jl i4);have j1:=VE;have e1:sz 1=1:=zD
  repeat' first|refine GWL_start ?_|refine GWL_step ?_|refine cT ?_|(refine iy ?_;intro Q hQ _;simp [hC,hY,j1,e1,rP,i0,i1,i2,i3,i4,s0,s1,s2,s3,s4,t1,t2,t3,t4];refine dq hQ ?_)|fail
  refine ⟨.inr rfl,by simp [results215],λk hk=>?_⟩;have Ks:k<200:=bu λh=>hk (eU k zO);simp (disch:=omega) only [Nv]
  rfl
theorem Ug (x0 x1 x2:Int) (h0:inX x0) (h1:inX x1) (h2:inX x2):Ret prog G1 206 #[vv x0 x1 x2] (.tuple #[.int .i64 (x0*x0+x1*x1+x2*x2),.int .i64 0]):=by
 refine aU G1F func206 rfl call206 nL nL (by simp [ntmps206]) ?_;intro C hC bA hY;have z0:=MU h0;have z1:=MU h1;have z2:=MU h2;obtain ⟨l0,u0⟩:=h0;obtain ⟨l1,u1⟩:=h1;obtain ⟨l2,u2⟩:=h2;have b0:Int.bmod (x0*x0) 18446744073709551616=x0*x0:=bm zO zO;have b1:Int.bmod (x1*x1) 18446744073709551616=x1*x1:=bm zO zO;have b2:Int.bmod (x2*x2) 18446744073709551616=x2*x2:=bm zO zO;have b3:Int.bmod (x0*x0+x1*x1) 18446744073709551616=x0*x0+x1*x1:=bm zO zO;have b4:Int.bmod (x0*x0+x1*x1+x2*x2) 18446744073709551616=x0*x0+x1*x1+x2*x2:=bm zO zO;refine qv (k12 @vv.eq_1 l0 u0 l1 u1 l2 u2 b0 b1 b2 b3 b4) ?_;exact lQ
theorem PF (x0 x1 x2:Int) (h:¬(inX x0/\inX x1/\inX x2)):Ret prog G1 206 #[vv x0 x1 x2] (.tuple #[.int .i64 0,.int .i64 2]):=by
 refine aU G1F func206 rfl call206 nL nL (by simp [ntmps206]) ?_;intro C hC bA hY;by_cases l0:-2097152<=x0;rotate_left
 ·skip
  refine qv (k2 @vv.eq_1 l0) ?_;exact lQ
 by_cases u0:x0<=2097152;rotate_left
 ·skip
  refine qv (k3 @vv.eq_1 l0 u0) ?_;exact lQ
 by_cases l1:-2097152<=x1;rotate_left
 ·skip
  refine qv (k4 @vv.eq_1 l0 u0 l1) ?_;exact lQ
 by_cases u1:x1<=2097152;rotate_left
 ·skip
  refine qv (k5 @vv.eq_1 l0 u0 l1 u1) ?_;exact lQ
 by_cases l2:-2097152<=x2;rotate_left
 ·skip
  refine qv (k6 @vv.eq_1 l0 u0 l1 u1 l2) ?_;exact lQ
 by_cases u2:x2<=2097152;rotate_left
 ·skip
  refine qv (k7 @vv.eq_1 l0 u0 l1 u1 l2 u2) ?_;exact lQ
 exact absurd ⟨⟨l0,u0⟩,⟨l1,u1⟩,⟨l2,u2⟩⟩ h
theorem adv (n d g m x r:Int):Ret prog G1 213 #[.int .i64 n,.int .i64 d,.int .i64 g,.int .i64 m,.int .i64 x,.int .i64 r] (.int .i64 (qg n d g m x r)):=by
 refine aU G1F func213 rfl call213 zS zS (by simp [ntmps213]) ?_;intro C hC bA hY;by_cases f0:-2097152<=n;rotate_left
 ·have hE:qg n d g m x r=2:=ae zO;rw [hE];refine cA f0 ?_;exact Se
 by_cases f1:n<=2097152;rotate_left
 ·have hE:qg n d g m x r=2:=ae zO;rw [hE];refine cA (k2 f0 f1) ?_;exact Se
 by_cases f2:1<=d;rotate_left
 ·have hE:qg n d g m x r=2:=ae zO;rw [hE];refine cA (k3 f0 f1 f2) ?_;exact Se
 by_cases f3:d<=2097152;rotate_left
 ·have hE:qg n d g m x r=2:=ae zO;rw [hE];refine cA (k4 f0 f1 f2 f3) ?_;exact Se
 by_cases f4:1<=g;rotate_left
 ·have hE:qg n d g m x r=2:=ae zO;rw [hE];refine cA (k5 f0 f1 f2 f3 f4) ?_;exact Se
 by_cases f5:g<=1048576;rotate_left
 ·have hE:qg n d g m x r=2:=ae zO;rw [hE];refine cA (k6 f0 f1 f2 f3 f4 f5) ?_;exact Se
 by_cases f6:1<=m;rotate_left
 ·have hE:qg n d g m x r=2:=ae zO;rw [hE];refine cA (k7 f0 f1 f2 f3 f4 f5 f6) ?_;exact Se
 by_cases f7:m<=1024;rotate_left
 ·have hE:qg n d g m x r=2:=ae zO;rw [hE];refine cA (k8 f0 f1 f2 f3 f4 f5 f6 f7) ?_;exact Se
 by_cases f8:-2097152<=x;rotate_left
 ·have hE:qg n d g m x r=2:=ae zO;rw [hE];refine cA (k9 f0 f1 f2 f3 f4 f5 f6 f7 f8) ?_;exact Se
 by_cases f9:x<=2097152;rotate_left
 ·have hE:qg n d g m x r=2:=ae zO;rw [hE];refine cA (CT f0 f1 f2 f3 f4 f5 f6 f7 f8 f9) ?_;exact Se
 by_cases f10:0<=r;rotate_left
 ·have hE:qg n d g m x r=2:=ae zO;rw [hE];refine cA (Kx f0 f1 f2 f3 f4 f5 f6 f7 f8 f9 f10) ?_;exact Se
 by_cases f11:r<=13194139533312;rotate_left
 ·have hE:qg n d g m x r=2:=ae zO;rw [hE];exact Ep
 have iJ:qg n d g m x r=(if r=0 then 30 else if x*x<=r then 0 else 2):=ag ⟨f0,f1,f2,f3,f4,f5,f6,f7,f8,f9,f10,f11⟩;rw [iJ];by_cases hr:r=0
 ·rw [ag hr];subst hr;exact Ep
 have Zj:(r==0)=false:=by simpa using hr
 rw [ae hr];have oL:Int.bmod (x*x) 18446744073709551616=x*x:=bm DI DI;by_cases hx:x*x<=r
 ·have qy:¬r<x*x:=zO;rw [ag hx];exact Gl
 ·have qy:r<x*x:=zO;rw [ae hx];exact Gl
@[simp] theorem aEJ (n d g m x r:Int) (K:fQ):bl prog G1 213 #[.int .i64 n,.int .i64 d,.int .i64 g,.int .i64 m,.int .i64 x,.int .i64 r] K↔K (.int .i64 (qg n d g m x r)):=ar G1W ah (adv n d g m x r)
def Pq (n d g m x r:Int):Int:=if qg n d g m x r=0 then iG n d g m x r else 0
theorem ahC (n d g m x r:Int) (h:PIn n d g m x r):Ret prog G1 207 #[.int .i64 n,.int .i64 d,.int .i64 g,.int .i64 m,.int .i64 x,.int .i64 r] (.tuple #[.int .i64 (iG n d g m x r),.int .i64 0]):=by
 refine aU G1F func207 rfl call207 zS zS (by simp [ntmps207]) ?_;intro C hC bA hY;have p1:=h.p1;have p2:=h.p2;have p3:=h.p3;have p4:=h.p4;have q1:=h.q1;have q2:=h.q2;have q3:=h.q3;have q4:=h.q4;have r0:=h.r0
 have t1:=JZ 2 n g m x ⟨zD,⟨by have:=h.n0;omega,by have:=h.n1;omega⟩,⟨by have:=h.g0;omega,by have:=h.g1;omega⟩,⟨by have:=h.m0;omega,by have:=h.m1;omega⟩,⟨by have:=h.x0;omega,by have:=h.x1;omega⟩⟩
  ⟨⟨zD,zD⟩,⟨zO,zO⟩,⟨zO,zO⟩,⟨zO,zO⟩,⟨zO,zO⟩⟩
 have t2:=JZ d d r r r ⟨⟨ni,by have:=h.d1;omega⟩,⟨ni,by have:=h.d1;omega⟩,⟨zO,by have:=h.r1;omega⟩,⟨zO,by have:=h.r1;omega⟩,⟨zO,by have:=h.r1;omega⟩⟩
  ⟨⟨ni,by have:=h.d1;omega⟩,⟨zO,zO⟩,⟨zO,zO⟩,⟨zO,zO⟩,⟨zO,zO⟩⟩
 have wA:wr (2*n*g*m*x):=⟨zO,zO⟩
 have sA:=gB wA;have aCy:=h.a_le;have hA0:=oG (2*n*g*m*x);have wA2:wr (2*n*g*m*x*(2*n*g*m*x)):=⟨zO,zO⟩
 have wB:wr (d*d*r*r*r):=⟨zO,zO⟩
 have hB0:0<d*d*r*r*r:=zO;have hm:=h.mag;have hmw:wr (me n d g m x r):=⟨zO,zO⟩
 have sM:=gB hmw;have iM:i64 (me n d g m x r):=⟨zO,zO⟩
 have hmb:Int.bmod (-me n d g m x r) 18446744073709551616=-me n d g m x r:=bm zO zO;have hpm:(isq (2*n*g*m*x*(2*n*g*m*x) / (d*d*r*r*r))+1) / 2=me n d g m x r:=rfl;have hE:qg n d g m x r=0:=IS.2 h
 have hv:iG n d g m x r=if (n<0/\0<x)\/(0<n/\x<0) then -me n d g m x r else me n d g m x r:=by
  have z1:x=0->me n d g m x r=0:=λe=>by subst e;exact ada n d g m r
  have z2:n=0->me n d g m x r=0:=λe=>by subst e;exact ahn d g m x r
  unfold iG
  (repeat' split)<;>omega
 rw [hv];by_cases n1:n<0<;>by_cases n2:0<n<;>by_cases x1:x<0<;>by_cases x2:0<x
 all_goals first|(exfalso;omega)|skip
 all_goals simp only [n1,n2,x1,x2,and_self,and_true,true_and,and_false,false_and,or_self,ru,j8,ay,false_or,aV,cw]
 all_goals
  repeat' first|refine cT ?_|((first|refine gwR [215] ?_|refine gwD [215] ?_);intro Q hQ _;(repeat first|simp [hC,hY,hE,sA,wA2,wB,hA0,hB0,hpm,sM,iM,hmb,n1,n2,x1,x2]|(refine Ov t1 zS zS zO ?_ ?_;focus (simp;done))|(refine Ov t2 zS zS zO ?_ ?_;focus (simp;done)));refine dq hQ ?_)|fail
 all_goals
  exact eR results207
theorem adw (n d g m x r:Int) (h:qg n d g m x r≠0):Ret prog G1 207 #[.int .i64 n,.int .i64 d,.int .i64 g,.int .i64 m,.int .i64 x,.int .i64 r] (.tuple #[.int .i64 0,.int .i64 (qg n d g m x r)]):=by
 refine aU G1F func207 rfl call207 zS zS (by simp [ntmps207]) ?_;intro C hC bA hY;have hcb:(qg n d g m x r != 0)=true:=jz;refine cA hcb ?_;exact eR results207
@[simp] theorem aEK (n d g m x r:Int) (K:fQ):bl prog G1 207 #[.int .i64 n,.int .i64 d,.int .i64 g,.int .i64 m,.int .i64 x,.int .i64 r] K↔K (.tuple #[.int .i64 (Pq n d g m x r),.int .i64 (qg n d g m x r)]):=by
 unfold Pq;by_cases h:qg n d g m x r=0
 ·rw [ag h,h];exact ar G1W (by kernel_rfl) (ahC n d g m x r (IS.1 h))
 ·rw [ae h];exact ar G1W (by kernel_rfl) (adw n d g m x r h)
instance inBdec (x:Int):Decidable (inX x):=by unfold inX;infer_instance
def sqV (x0 x1 x2:Int):Int:=if inX x0/\inX x1/\inX x2 then x0*x0+x1*x1+x2*x2 else 0
def sqE (x0 x1 x2:Int):Int:=if inX x0/\inX x1/\inX x2 then 0 else 2
theorem ayN (x0 x1 x2:Int) (K:fQ):bl prog G1 206 #[.agg #[.int .i64 x0,.int .i64 x1,.int .i64 x2]] K↔K (.tuple #[.int .i64 (sqV x0 x1 x2),.int .i64 (sqE x0 x1 x2)]):=by
 unfold sqV sqE;by_cases h:inX x0/\inX x1/\inX x2
 ·rw [ag h,ag h];exact ar G1W (by kernel_rfl) (Ug x0 x1 x2 h.1 h.2.1 h.2.2)
 ·rw [ae h,ae h];exact ar G1W (by kernel_rfl) (PF x0 x1 x2 h)
theorem ahk {n d g m x0 x1 x2:Int} (h0:inX x0) (h1:inX x1) (h2:inX x2) (h:PIn n d g m x0 (x0*x0+x1*x1+x2*x2)):PIn n d g m x1 (x0*x0+x1*x1+x2*x2)/\PIn n d g m x2 (x0*x0+x1*x1+x2*x2):=by
 have s0:=oG x0;have s1:=oG x1;have s2:=oG x2;exact ⟨{ h with x0:=h1.1,x1:=h1.2,xr:=by omega },{ h with x0:=h2.1,x1:=h2.2,xr:=by omega }⟩
theorem ady (n d g m x0 x1 x2:Int) (h:inX x0/\inX x1/\inX x2) (k0:PIn n d g m x0 (x0*x0+x1*x1+x2*x2)):Ret prog G1 201 #[.int .i64 n,.int .i64 d,.int .i64 g,.int .i64 m,vv x0 x1 x2] (.tuple #[vv (iG n d g m x0 (x0*x0+x1*x1+x2*x2)) (iG n d g m x1 (x0*x0+x1*x1+x2*x2)) (iG n d g m x2 (x0*x0+x1*x1+x2*x2)),.int .i64 0]):=by
 refine aU G1F func201 rfl call201 nL nL (by simp [ntmps201]) ?_;intro C hC bA hY;have k:=ahk h.1 h.2.1 h.2.2 k0;have e0:sqV x0 x1 x2=x0*x0+x1*x1+x2*x2:=ag h;have e1:sqE x0 x1 x2=0:=ag h;have f0:=IS.2 k0;have f1:=IS.2 k.1;have f2:=IS.2 k.2;generalize x0*x0+x1*x1+x2*x2=r at *
 have g0:Pq n d g m x0 r=iG n d g m x0 r:=ag f0;have g1:Pq n d g m x1 r=iG n d g m x1 r:=ag f1;have g2:Pq n d g m x2 r=iG n d g m x2 r:=ag f2;refine qv (CT @vv.eq_1 @ayN e0 e1 f0 f1 f2 g0 g1 g2) ?_;exact eR (k2 results201 @vv.eq_1)
theorem xe {p:Prop} (h:p:=by rw [Ns,ae e];rfl):p:=h
theorem DE {p:Prop} (h:p:=by rcases hT.k8 with h8|h8<;>rcases hT.a8 with h9|h9<;>subst h8<;>subst h9<;>kernel_rfl):p:=h
theorem yt {p:Prop} (h:p:=by
 simp [aL,cQ,aI,aP,dom,hA,hS,cW,gu]):p:=h
theorem FD {p:Prop} (h:p:=by
 refine uY _ 1000 hC G1F hT.ok hT.fx bA zO ?_ ?_ fS
 ·simp [aL,cQ,aI,aP,dom,hA,hS,cW,gu,pZ]
 ·simp [aM,aI,aP,dom,hA,hS,cW,gu]):p:=h
theorem La (L:cf) (ka ks:Nat) (bm bs:Blk) (hT:LKa L ka ks bm bs) (off n cap au n2 av:Nat) (fm fs:aJ) (hm:MB bm off n fm) (fO:SB bs au n2 fs) (g bx tp nr md st:Int) :
  Fun prog G1 22 #[cfV (.slice (some ⟨ka,off,none⟩) n cap) g bx tp nr md,.agg #[.int .i64 st,.slice (some ⟨ks,au,none⟩) n2 av]] (hpL G1 L) (ak L) (.ret (.bool (oB n n2 (fk n fm g bx tp nr md) (aY st fs n2))) []):=by
 rcases hT.a8 with e|e<;>(subst e;exact (Oj L ks bm bs hT.tw off n cap au n2 av fm fs hm fO g bx tp nr md st).up1 hT.ok)
theorem T6 (n d:Int):Ret prog G1 200 #[.int .i64 n,.int .i64 d] (.bool (r5 n d)):=by
 refine aU G1F func200 rfl call200 zS zS (by simp [ntmps200]) ?_;intro C hC bA hY
 cases QP:r5 n d with
 | true =>
  obtain ⟨p1,p2,p3,p4⟩:=B5.1 QP;refine cA (k4 p1 p2 p3 p4) ?_;exact eR results200
 | false =>
  have kF:¬(-2097152<=n/\n<=2097152/\1<=d/\d<=2097152):=λh=>by rw [B5.2 h] at QP;cases QP
  have cs:¬ -2097152<=n\/(-2097152<=n/\¬n<=2097152)\/(-2097152<=n/\n<=2097152/\¬1<=d)\/(-2097152<=n/\n<=2097152/\1<=d/\¬d<=2097152):=zO;rcases cs with c1|⟨c1,c2⟩|⟨c1,c2,c3⟩|⟨c1,c2,c3,c4⟩
  ·
   refine cA c1 ?_;exact eR results200
  ·
   refine cA (Gy.k2 c1 c2) ?_;exact eR results200
  ·
   refine cA (k3 c1 c2 c3) ?_;exact eR results200
  ·
   refine cA (k4 c1 c2 c3 c4) ?_;exact eR results200
@[simp] theorem ayv (n d:Int) (K:fQ):bl prog G1 200 #[.int .i64 n,.int .i64 d] K↔K (.bool (r5 n d)):=ar G1W ah (T6 n d)
theorem ata {a0 a1 a2 b0 b1 b2:Int} (h:inW 1048576 a0/\inW 1048576 a1/\inW 1048576 a2) (k:inW 1048576 b0/\inW 1048576 b1/\inW 1048576 b2) (K:fQ):bl prog G1 197 #[.agg #[.int .i64 a0,.int .i64 a1,.int .i64 a2],.agg #[.int .i64 b0,.int .i64 b1,.int .i64 b2]] K↔K (.tuple #[.agg #[.int .i64 (a0 - b0),.int .i64 (a1 - b1),.int .i64 (a2 - b2)],.int .i64 0]):=ar G1W ah ((PZ h k).up avP)
theorem Yu {n d g m x0 x1 x2 r:Int} (hr:x0*x0+x1*x1+x2*x2=r) (k0:PIn n d g m x0 r) (k1:PIn n d g m x1 r) (k2:PIn n d g m x2 r) (K:fQ):bl prog G1 201 #[.int .i64 n,.int .i64 d,.int .i64 g,.int .i64 m,.agg #[.int .i64 x0,.int .i64 x1,.int .i64 x2]] K ↔
  K (.tuple #[.agg #[.int .i64 (iG n d g m x0 r),.int .i64 (iG n d g m x1 r),.int .i64 (iG n d g m x2 r)],.int .i64 0]):=by
 subst hr;exact ar G1W ah (ady n d g m x0 x1 x2 ⟨⟨k0.x0,k0.x1⟩,⟨k1.x0,k1.x1⟩,⟨k2.x0,k2.x1⟩⟩ k0)
def ahB (L:cf) (ka ks off n cap au av:Nat) (g bx tp nr md st p q z:Int) (F:lX) (i k:Nat):GS :=
 ⟨tsL [(2,.int .i64 p),(3,.int .i64 q),(4,.int .i64 z),(5,.pointer (some ⟨200,0,none⟩)),(6,.pointer (some ⟨208,0,none⟩)),(10,.pointer (some ⟨216,0,none⟩)),(11,.int .i64 0),(12,.pointer (some ⟨400,0,none⟩)),(13,.int .i64 k)],
 hpL G1 ([(200,cfB (.slice (some ⟨ka,off,none⟩) n cap) g bx tp nr md),(208,cE st ks au n av),(216,vb 0 0 0),(400,vb (dh (λk=>if k=i then 0 else F 0 k) k) (dh (λk=>if k=i then 0 else F 1 k) k) (dh (λk=>if k=i then 0 else F 2 k) k))]++L),1000,0⟩
theorem Ns {F:aJ} {i k:Nat}:dh (λk=>if k=i then 0 else F k) (k+1)=dh (λk=>if k=i then 0 else F k) k+if k=i then 0 else F k:=rfl
theorem ab4 {n d g bx tp nr md st:Int} {fm fs:aJ} {N i u k:Nat} (eM:fk N fm g bx tp nr md=true) (hr:aY st fs N=true) (hp:r5 n d=true) (hi:i<N) (hu:u<3) (hk:k<=N) (hz:∀ j,j<k->j≠i->¬d2F fs j i=0):-18014398509481984<=dh (λk=>if k=i then 0 else kpF n d g fm fs i u k) k/\dh (λk=>if k=i then 0 else kpF n d g fm fs i u k) k<=18014398509481984:=by
 have hn:=(ji hr).2.1
 have h:=Br (f:=λk=>if k=i then 0 else kpF n d g fm fs i u k) (n:=k) (lo:=-4503599627370496) (hi:=4503599627370496) λj hj=>by
  by_cases e:j=i
  ·simp [e]
  ·have:=Jr (O3 (u:=u) eM hr hp hi (zO:j<N) hu (hz j hj e));simp only [ae e];exact this
 omega
theorem Ys (L:cf) (ka ks:Nat) (bm bs:Blk) (hT:LKa L ka ks bm bs) (off n cap au av:Nat) (fm fs:aJ) (hm:MB bm off n fm) (fO:SB bs au n fs) (g bx tp nr md st:Int) (hs:i64 st) (p q z:Int) (eM:fk n fm g bx tp nr md=true) (jh:aY st fs n=true) (hp:r5 p q=true) (i:Nat) (hi:i<n) (hiz:(i:Int)=z) (hz:kZ fs n i=false) :
  Fun prog G1 189 #[cfV (.slice (some ⟨ka,off,none⟩) n cap) g bx tp nr md,.agg #[.int .i64 st,.slice (some ⟨ks,au,none⟩) n av],.int .i64 p,.int .i64 q,.int .i64 z] (hpL G1 L) (ak L) (.ret (.tuple #[.agg #[.int .i64 (kS p q g fm fs n i 0),.int .i64 (kS p q g fm fs n i 1),.int .i64 (kS p q g fm fs n i 2)],.int .i64 0]) []):=by
 refine afN (B:=200) G1F func189 rfl call189 hT.ok ?_ (bw zS) zS zS (by simp [ntmps189]) zO ?_
 ·exact Si
 intro C hC bA hY;have hA:=hT.a;have hS:=hT.s;have cW:=hT.ne;have gu:=hT.na;have jj:=hT.low;have pV:=hT.k1;have n6:=hT.k2;have eI:=La L ka ks bm bs hT off n cap au n av fm fs hm fO g bx tp nr md st;rw [kC.2 ⟨rfl,eM,jh⟩] at eI;have Lj:=(ji jh).2.1;have c1:¬z<0:=zO;have c2:¬(n:Int)<=z:=zO;have z0:0<=z:=zO;have zn:z<n:=zO;have zt:z.toNat=i:=zO;have zi:z.toNat<n:=zO;unfold cfV at eI |-
 repeat' first|refine cT ?_|((first|refine gwR [22] ?_|refine gwD [22] ?_);intro Q hQ _;(repeat first|simp [hC,hY,hA,hS,cW,gu,c1,c2,hp]|refine cV eI hT.ok fS ?_);refine dq hQ ?_)|fail
 refine fD n (ahB L ka ks off n cap au av g bx tp nr md st p q z (kpF p q g fm fs i) i) ?_ ?_ ?_
 ·refine uY _ 1000 hC G1F hT.ok hT.fx bA zO ?_ ?_ fS
  ·exact yt
  ·simp [cfB,cE,vb,dh,aM,aI,aP,dom,hA,hS,cW,gu]
 ·intro k Vu;have hk:k<n:=zO;have pf:(k:Int)<n:=zO;have qx:(0:Int)<=k:=zO;have pZ:=ua hk Lj.2;have Jh:∀ j,j<k->j≠i->¬d2F fs j i=0:=λj hj ej=>agy.1 hz j zO ej;by_cases e:k=i
  ·have es0:dh (λk=>if k=i then 0 else kpF p q g fm fs i 0 k) (k+1)=dh (λk=>if k=i then 0 else kpF p q g fm fs i 0 k) k:=by rw [Ns,ag e];omega
   have es1:dh (λk=>if k=i then 0 else kpF p q g fm fs i 1 k) (k+1)=dh (λk=>if k=i then 0 else kpF p q g fm fs i 1 k) k:=by rw [Ns,ag e];omega
   have es2:dh (λk=>if k=i then 0 else kpF p q g fm fs i 2 k) (k+1)=dh (λk=>if k=i then 0 else kpF p q g fm fs i 2 k) k:=by rw [Ns,ag e];omega
   unfold ahB;rw [es0,es1,es2];subst e;subst hiz;unfold cfB cE vb;refine cA (k8 hA hS cW gu hk pf qx pZ) ?_;exact FD
  ·have ez:¬(k:Int)=z:=zO;have ez':((k:Int)==z)=false:=by simpa using ez
   have R8:=agy.1 hz k hk e;have u0:=ab4 (u:=0) eM jh hp hi zO (rL hk) Jh;have u1:=ab4 (u:=1) eM jh hp hi zO (rL hk) Jh;have u2:=ab4 (u:=2) eM jh hp hi zO (rL hk) Jh;have P0:=O3 (u:=0) eM jh hp hi hk zO R8;have P1:=O3 (u:=1) eM jh hp hi hk zO R8;have P2:=O3 (u:=2) eM jh hp hi hk zO R8;have y0:=Jr P0;have y1:=Jr P1;have y2:=Jr P2;have P:=λK=>Yu (amg i k) P0 P1 P2 K;have S:=λK=>ata (jy jh hk).1 (jy jh hi).1 K;have bk:=fO.vec hk (u:=0) zO;have bi:=fO.vec hi (u:=0) zO;have mk:=hm.at hk;simp only [du,cD] at y0 P bk bi;have es0:dh (λk=>if k=i then 0 else kpF p q g fm fs i 0 k) (k+1)=dh (λk=>if k=i then 0 else kpF p q g fm fs i 0 k) k+iG p q g (fm k) (fs (6*k) - fs (6*i)) (d2F fs k i):=xe;have es1:dh (λk=>if k=i then 0 else kpF p q g fm fs i 1 k) (k+1)=dh (λk=>if k=i then 0 else kpF p q g fm fs i 1 k) k+iG p q g (fm k) (fs (6*k+1) - fs (6*i+1)) (d2F fs k i):=xe;have es2:dh (λk=>if k=i then 0 else kpF p q g fm fs i 2 k) (k+1)=dh (λk=>if k=i then 0 else kpF p q g fm fs i 2 k) k+iG p q g (fm k) (fs (6*k+2) - fs (6*i+2)) (d2F fs k i):=xe;unfold ahB;rw [es0,es1,es2];clear es0 es1 es2 P0 P1 P2;generalize dh (λk=>if k=i then 0 else kpF p q g fm fs i 0 k) k=A0 at *
   generalize dh (λk=>if k=i then 0 else kpF p q g fm fs i 1 k) k=A1 at *
   generalize dh (λk=>if k=i then 0 else kpF p q g fm fs i 2 k) k=A2 at *
   generalize iG p q g (fm k) (fs (6*k) - fs (6*i)) (d2F fs k i)=a0 at *
   generalize iG p q g (fm k) (fs (6*k+1) - fs (6*i+1)) (d2F fs k i)=a1 at *
   generalize iG p q g (fm k) (fs (6*k+2) - fs (6*i+2)) (d2F fs k i)=a2 at *
   have q0:Int.bmod (A0+a0) 18446744073709551616=A0+a0:=Go.Gy.bm zO zO;have q1:Int.bmod (A1+a1) 18446744073709551616=A1+a1:=Go.Gy.bm zO zO;have q2:Int.bmod (A2+a2) 18446744073709551616=A2+a2:=Go.Gy.bm zO zO;unfold cfB cE vb
   repeat' first|refine GWL_start ?_|refine GWL_step ?_|refine cT ?_|(refine iy ?_;intro Q hQ hP;simp [hC,hY,hA,hS,cW,gu,hk,pf,qx,pZ,ez,ez',z0,zn,zt,zi,P,S,bk,bi,mk,q0,q1,q2];(first|refine hQ _ _ _ _ DE ?_|refine hP _ _ DE λ_=>?_))|fail
   exact FD
 ·have e0:dh (λk=>if k=i then 0 else kpF p q g fm fs i 0 k) n=kS p q g fm fs n i 0:=(JH _ i n).symm;have e1:dh (λk=>if k=i then 0 else kpF p q g fm fs i 1 k) n=kS p q g fm fs n i 1:=(JH _ i n).symm;have e2:dh (λk=>if k=i then 0 else kpF p q g fm fs i 2 k) n=kS p q g fm fs n i 2:=(JH _ i n).symm;unfold ahB;rw [e0,e1,e2];unfold cfB cE vb
  repeat' first|refine cT ?_|refine Bz ?_|fail
  refine ⟨.inr rfl,by simp [results189],Aj G1F⟩
end Go.Gy
namespace Go.Gy
open Go Go.RowKit Go.Proofs
def KkV (i:Nat) (F:aJ) (sl:Value) (nl:cf):Prop:=(i=0/\sl=.slice none 0 0/\nl=[])\/∃ (c:Nat) (g:aJ),0<i/\i<=c/\(∀ j,j<3*i->g j=F j)/\sl=.slice (some ⟨224,0,none⟩) i c/\nl=[(224,⟨fa (3*c) .i64 g,.ty 70⟩)]
def A5 (ka ks off n cap au av:Nat) (g bx tp nr md st:Int):List (Nat×Blk):=[(200,cfB (.slice (some ⟨ka,off,none⟩) n cap) g bx tp nr md),(208,cE st ks au n av)]
def Iu (nk n:Nat) (F:aJ) (v:Value) (ns:cf):Prop:=∃ (c:Nat) (g:aJ),n<=c/\(∀ j,j<3*n->g j=F j)/\v=.tuple #[.slice (some ⟨nk,0,none⟩) n c,.int .i64 0]/\ns=[(nk,⟨fa (3*c) .i64 g,.ty 70⟩)]
theorem VL {nk n:Nat} {F:aJ} {v:Value} {ns:cf} (h:Iu nk n F v ns):∀ k∈ak ns,k=nk:=λk hk=>by
 obtain ⟨c,g,h1,h2,rfl,rfl⟩:=h;simpa [ak] using hk
theorem agB {D:iH} {n:Nat} {F:aJ} (v:Value) (ns:cf) (h:Iu 1000 n F v ns):aL (eo D ns) v/\(∀ p∈ns,200<=p.1/\p.2.ids (eo D ns))/\(∀ k b c,(k,b)∈ns->(k,c)∈ns->b=c):=by
 obtain ⟨c,g,h1,h2,rfl,rfl⟩:=h;exact te
theorem ame {nk:Nat} {ρ:dR} (h:ρ 1000=nk) (n:Nat) (F:aJ):RR ρ (Iu 1000 n F)=Iu nk n F:=by
 funext v ns;apply propext;constructor
 ·rintro ⟨v0,JF,⟨c,g,h1,h2,rfl,rfl⟩,rfl,rfl⟩;exact ⟨c,g,h1,h2,kj,nf⟩
 ·rintro ⟨c,g,h1,h2,rfl,rfl⟩;exact ⟨_,_,⟨c,g,h1,h2,rfl,rfl⟩,kj,nf⟩
theorem ab3 (p q g:Int) (fm fs:aJ) (n i:Nat) {u:Nat} (hu:u<3):kkF p q g fm fs n (3*i+u)=kS p q g fm fs n i u:=by
 unfold kkF;rw [(zO:(3*i+u) / 3=i),(zO:(3*i+u)%3=u)]
end Go.Gy
namespace Go.Gy
open Go Go.RowKit Go.Proofs Go.Proofs.Tryz
theorem A6 {n M:Nat} {g F:aJ} (hM:6*n<=M) (hg:∀ j,j<6*n->g j=F j) (hF:∀ j,j<6*n->i64 (F j)) (hn:n<=2932031007402):SB ⟨fa M .i64 g,.ty 72⟩ 0 n F :=
 ⟨λj hj=>by rw [<-hg j hj];exact uO M g _ j zO,fy _ _ _,hF,hn⟩
def jF (f G:aJ) (i:Nat) (j:Nat):Int:=if j<6*i/\3<=j%6 then f j+G (3*(j / 6)+(j%6 - 3)) else f j
theorem ZI (f G:aJ):jF f G 0=f:=by
 funext j;unfold jF;rw [ae zO]
theorem qe (f G:aJ) (i:Nat) {u:Nat} (hu:u<3):jF f G i (6*i+3+u)=f (6*i+3+u):=by
 unfold jF;rw [ae zO]
theorem ZJ (f G:aJ) (i:Nat):ae0 (jF f G i) (6*i+3) (G (3*i)) (G (3*i+1)) (G (3*i+2))=jF f G (i+1):=by
 funext j;have a0:jF f G i (6*i+3)=f (6*i+3):=qe f G i (u:=0) zO;have a1:jF f G i (6*i+3+1)=f (6*i+3+1):=qe f G i zO;have a2:jF f G i (6*i+3+2)=f (6*i+3+2):=qe f G i zO;unfold ae0 JQ;rw [a0,a1,a2];by_cases h0:j=6*i+3
 ·subst h0;unfold jF;rw [ag rfl,ag zO,show 3*((6*i+3) / 6)+((6*i+3)%6 - 3)=3*i by omega]
 ·rw [ae h0];by_cases h1:j=6*i+3+1
  ·subst h1;unfold jF;rw [ag rfl,ag zO,show 3*((6*i+3+1) / 6)+((6*i+3+1)%6 - 3)=3*i+1 by omega]
  ·rw [ae h1];by_cases h2:j=6*i+3+2
   ·subst h2;unfold jF;rw [ag rfl,ag zO,show 3*((6*i+3+2) / 6)+((6*i+3+2)%6 - 3)=3*i+2 by omega]
   ·rw [ae h2];unfold jF;by_cases c:j<6*i/\3<=j%6
    ·rw [ag c,ag zO]
    ·rw [ae c,ae zO]
def WS (nk:Nat) (st:Int) (n:Nat) (f:aJ) (e:Int) (v:Value) (ns:cf):Prop:=∃ w,HJ nk st n f w ns/\v=.tuple #[w,.int .i64 e]
theorem ac0 {nk:Nat} {st:Int} {n:Nat} {f:aJ} {e:Int} {v:Value} {ns:cf} (h:WS nk st n f e v ns):∀ k∈ak ns,k=nk:=by
 obtain ⟨w,h,rfl⟩:=h;exact Bf h
theorem Pu {D:iH} {st:Int} {n:Nat} {f:aJ} {e:Int} (v:Value) (ns:cf) (h:WS 1000 st n f e v ns):aL (eo D ns) v/\(∀ p∈ns,200<=p.1/\p.2.ids (eo D ns))/\(∀ k b c,(k,b)∈ns->(k,c)∈ns->b=c):=by
 obtain ⟨w,⟨c,M,g,h1,h2,h3,rfl,rfl⟩,rfl⟩:=h;exact te
theorem V5 {nk:Nat} {ρ:dR} (h:ρ 1000=nk) (st:Int) (n:Nat) (f:aJ) (e:Int):RR ρ (WS 1000 st n f e)=WS nk st n f e:=by
 funext v ns;apply propext;constructor
 ·rintro ⟨v0,JF,⟨w,⟨c,M,g,h1,h2,h3,rfl,rfl⟩,rfl⟩,rfl,rfl⟩;exact ⟨_,⟨c,M,g,h1,h2,h3,rfl,nf⟩,kj⟩
 ·rintro ⟨w,⟨c,M,g,h1,h2,h3,rfl,rfl⟩,rfl⟩;exact ⟨_,_,⟨_,⟨c,M,g,h1,h2,h3,rfl,rfl⟩,rfl⟩,kj,nf⟩
def r1n (nk k:Nat):Nat:=if k=1000 then nk else k
theorem FunS.nmL {fn:FuncId} {args:ca} {L:cf} {R R':Ij} (h:FunS prog G1 fn args (hpL G1 L) (ak L) R) (hL:LOk L 200) (vq:∀ p∈L,p.2.fx) (nk:Nat) (rY:200<=nk) (hR:∀ v ns,R v ns->∀ k∈ak ns,k=1000) (ea:args.map (ren (r1n nk))=args) (eR:RR (r1n nk) R=R') :
  FunS prog G1 fn args (hpL G1 L) (ak L) R':=by
 have bC:∀ k,k<1000->r1n nk k=k:=λk hk=>ae zO
 have kL:∀ k∈ak L,r1n nk k=k:=λk hk=>by
  obtain ⟨p,hp,rfl⟩:=aC.1 hk;have:=hL.big p hp;exact bC _ zO
 have qw:r1n nk 1000=nk:=ag rfl;refine h.mvL (eG:=hpL G1 L) (PN:=ak L) G1F hL (r1n nk) (λk hk=>bC k zO) ea ?_ eR hL.low ?_ ?_ (λv ns hV k hk=>?_) (λv ns hV k hk l hl e=>xf)
 ·rw [gK kL];simp
 ·intro p hp;have hb:=hL.big p hp;rw [bC p.1 zO,Blk.fx_rn (vq p hp)];exact ⟨hb.1,LOk.at hL.one p hp⟩
 ·exact pN
 ·rw [hR v ns hV k hk,qw];refine ⟨zO,λh=>?_⟩;exact s7
theorem kG (a nk:Nat) (ha:100<=a) (hk:100<=nk) (cW:a≠nk) (b:Blk) (off n cap:Nat) (f:aJ) (h:SB b off n f) (eK:n<=cap) (st:Int) :
  FunS prog G1 92 #[.agg #[.int .i64 st,.slice (some ⟨a,off,none⟩) n cap]] (hpL G1 [(a,b)]) [a] (HJ nk st n f) :=
 FunS.up1 (m:=[(a,b)]) (B:=a+1) (acY a nk ha hk cW b off n cap f h eK st) ⟨by simp [ha],ai,by simpa using Blk.fx_ids h.fx _⟩
theorem al9 {st:Int} {fs:aJ} {n:Nat} (h:aY st fs n=true) {j:Nat} (hj:j<6*n):-1048576<=fs j/\fs j<=1048576:=by
 obtain ⟨⟨⟨_,a0,a0'⟩,⟨_,a1,a1'⟩,⟨_,a2,a2'⟩⟩,⟨_,b0,b0'⟩,⟨_,b1,b1'⟩,⟨_,b2,b2'⟩⟩:=jy h (i:=j / 6) zO;have:j%6=0\/j%6=1\/j%6=2\/j%6=3\/j%6=4\/j%6=5:=zO;rcases this with c|c|c|c|c|c
 ·rw [(zO:j=6*(j / 6))];exact ⟨zO,zO⟩
 ·rw [(zO:j=6*(j / 6)+1)];exact ⟨zO,zO⟩
 ·rw [(zO:j=6*(j / 6)+2)];exact ⟨zO,zO⟩
 ·rw [(zO:j=6*(j / 6)+3)];exact ⟨zO,zO⟩
 ·rw [(zO:j=6*(j / 6)+4)];exact ⟨zO,zO⟩
 ·rw [(zO:j=6*(j / 6)+5)];exact ⟨zO,zO⟩
end Go.Gy
namespace Go.Gy
open Go Go.RowKit Go.Proofs
end Go.Gy
namespace Go.Gy
open Go Go.RowKit Go.Proofs Go.Proofs.Tryz
theorem gQ {p:Prop} (h:p:=by simp [hS,cW,bH]):p:=h
theorem sI {p:Prop} (h:p:=by simp [arn]):p:=h
theorem Dj {p:Prop} (h:p:=by simp [results158,ren,aW,aw,aF,bH]):p:=h
theorem xY {p:Prop} (h:p:=by
 have hf1:=λD=>Blk.fx_ids (fy (3*c1) g1 70) D;have AP:=λρ=>nY (fy (3*c1) g1 70) ρ;refine Ik (s:=GS.mk _ _ _ 0) _ _ 400 hC G1F hT.ok hT.fx bA zD ?_ ?_ ?_ ?_ fS
 ·simp [A5,dom,fP,ren,aW,aw,aF,aL,cQ,aI,aP,pZ,hA,hS,cW,gu]
 ·simp [A5,cfB,cE,Blk.rn,aw,aF,aM,aI,aP,dom,hf1,AP,hA,hS,cW,gu]
 ·simp [A5]
 ·intro x hx;(try dsimp only);rw [ae (Nat.ne_of_lt (Nat.lt_trans hx zD))]):p:=h
theorem EX {p:Prop} (h:p:=by
 intro v ns hV k hk;rw [Bf hV k hk];omega):p:=h
theorem QM {p:Prop} (h:p:=by
 exact ⟨zO,zO⟩):p:=h
theorem Ra {p:Prop} (h:p:=by
 simp [jH,bH]):p:=h
def rkO (L:cf) (ka ks off n cap au av:Nat) (g bx tp nr md st p q:Int) (i:Nat) (sl:Value) (nl:cf):GS :=
 ⟨tsL [(2,.int .i64 p),(3,.int .i64 q),(4,.pointer (some ⟨200,0,none⟩)),(5,.pointer (some ⟨208,0,none⟩)),(10,sl),(11,.int .i64 i)],hpL G1 ((A5 ka ks off n cap au av g bx tp nr md st++nl)++L),400,0⟩
def rkI (L:cf) (ka ks off n cap au av:Nat) (g bx tp nr md st p q:Int) (fm fs:aJ) (m:Nat) (s:GS):Prop:=∃ i sl nl,i+m=n/\KkV i (kkF p q g fm fs n) sl nl/\(∀ b,b<i->kZ fs n b=false)/\s=rkO L ka ks off n cap au av g bx tp nr md st p q i sl nl
theorem Yr (L:cf) (ka ks:Nat) (bm bs:Blk) (hT:LKa L ka ks bm bs) (off n cap au av:Nat) (fm fs:aJ) (hm:MB bm off n fm) (fO:SB bs au n fs) (g bx tp nr md st:Int) (hs:i64 st) (p q:Int) (eM:fk n fm g bx tp nr md=true) (jh:aY st fs n=true) (Zi:r5 p q=true) (Ac:HW fs n=false) :
  FunS prog G1 176 #[cfV (.slice (some ⟨ka,off,none⟩) n cap) g bx tp nr md,.agg #[.int .i64 st,.slice (some ⟨ks,au,none⟩) n av],.int .i64 p,.int .i64 q] (hpL G1 L) (ak L) (Iu 1000 n (kkF p q g fm fs n)):=by
 refine Pn (B:=200) G1F func176 rfl call176 hT.ok ?_ agB (by simp [ntmps176]) zO ?_
 ·exact Si
 intro C hC bA hY;have hA:=hT.a;have hS:=hT.s;have cW:=hT.ne;have gu:=hT.na;have jj:=hT.low;have pV:=hT.k1;have n6:=hT.k2;have eI:=La L ka ks bm bs hT off n cap au n av fm fs hm fO g bx tp nr md st;have hf:oB n n (fk n fm g bx tp nr md) (aY st fs n)=true:=kC.2 ⟨rfl,eM,jh⟩;rw [hf] at eI;have Lj:=(ji jh).2.1;unfold cfV at eI |-
 repeat' first|refine cT ?_|((first|refine gwR [22] ?_|refine gwD [22] ?_);intro Q hQ _;(repeat first|simp [hC,hY,hA,hS,cW,gu]|refine cV eI hT.ok fS ?_);refine dq hQ ?_)|fail
 refine jL (rkI L ka ks off n cap au av g bx tp nr md st p q fm fs) (m0:=n) (s0:=rkO L ka ks off n cap au av g bx tp nr md st p q 0 (.slice none 0 0) []) ?_ ⟨0,_,_,zO,.inl ⟨rfl,rfl,rfl⟩,λb QP=>zO,rfl⟩ ?_
 ·refine uY _ 400 hC G1F hT.ok hT.fx bA zO ?_ ?_ fS
  ·simp [A5,aL,cQ,aI,aP,dom,hA,hS,cW,gu]
  ·simp [A5,cfB,cE,aM,aI,aP,dom,hA,hS,cW,gu]
 rintro m _ ⟨i,sl,nl,zM,hV,hnz,rfl⟩;by_cases vw:m=0
 ·obtain rfl:i=n:=zO;rcases hV with ⟨h0,rfl,rfl⟩|⟨c,g0,h0,hc,hg0,rfl,rfl⟩
  ·omega
  ·unfold rkO A5 cfB cE
   repeat' first|refine cT ?_|refine Bz ?_|fail
   refine ⟨.inr trivial,Aj G1F,_,_,λk=>if k=1000 then 224 else k,⟨c,g0,hc,hg0,rfl,rfl⟩,λk hk=>ae zO,zS,zS,by simp [results176,ren,aW,aw,aF],?_⟩;simp [jH]
 ·have hi:i<n:=zO;have hi4:i<4:=zO;have cS:(i:Int)<n:=zO;have hz9:(0:Int)<=i:=Int.natCast_nonneg i;have pZ:=ua hi Lj.2;have Q8:=MY.1 Ac i hi;have alJ:=Ys L ka ks bm bs hT off n cap au  av fm fs hm fO g bx tp nr md st hs p q i eM jh Zi i hi rfl Q8;unfold cfV at alJ;have dk:i+1+(m - 1)=n:=zO;have ak8:m - 1<m:=zO;have OL:0<i+1:=Nat.succ_pos _;have aqA:(i+1)*(8*3)<=140737488355328:=zO
  have alG:∀ b,b<i+1->kZ fs n b=false:=λb QP=>by
   by_cases e:b=i
   ·rw [e];exact Q8
   ·exact hnz b zO
  rcases hV with ⟨h0,rfl,rfl⟩|⟨c,g0,h0,hc,hg0,rfl,rfl⟩
  ·subst h0;unfold rkO A5 cfB cE
   repeat' first|refine cT ?_|((first|refine gwR [189] ?_|refine gwD [189] ?_);intro Q hQ _;(repeat first|simp [hC,hY,hA,hS,cW,gu,hi,cS,hz9]|refine cV alJ hT.ok fS ?_);refine dq hQ ?_)|fail
   refine gj ?_;refine On (k4 hA hS cW gu) ?_;refine vA .i64 (m:=3) (i:=0) (j:=568) (o9:=24) (z:=.agg #[.int .i64 0,.int .i64 0,.int .i64 0]) (T2:=.ty 70) (G:=kkF p q g fm fs n) (ev:=λu=>kkF p q g fm fs n (3*0+u)) rfl zS rfl underlying167 (aG sizeOf70) ah ah zO cZ cZ zO zO (.inl ⟨rfl,zS⟩) zS (by simp [HO,kkF]) (λu hu=>rfl) aqA ?_;rintro k1 c1 g1 pf axw hc1 hg1
   obtain rfl:k1=576:=by
    rcases pf with h9|⟨c,h9⟩
    ·exact h9
    ·simp at h9
   refine qM trivial ?_;refine cu ?_;refine cA pZ ?_;refine ⟨λx=>if x=224 then 576 else x,rkO L ka ks off n cap au av g bx tp nr md st p q (0+1) (.slice (some ⟨224,0,none⟩) (0+1) c1) [(224,⟨fa (3*c1) .i64 g1,.ty 70⟩)],m - 1,?_,⟨0+1,_,_,dk,.inr ⟨c1,g1,OL,hc1,hg1,rfl,rfl⟩,alG,rfl⟩,ak8⟩;exact xY
  ·unfold rkO A5 cfB cE
   repeat' first|refine cT ?_|((first|refine gwR [189] ?_|refine gwD [189] ?_);intro Q hQ _;(repeat first|simp [hC,hY,hA,hS,cW,gu,hi,cS,hz9]|refine cV alJ hT.ok fS ?_);refine dq hQ ?_)|fail
   refine gj ?_;refine On (k4 hA hS cW gu) ?_;refine vA .i64 (m:=3) (i:=i) (j:=568) (o9:=24) (z:=.agg #[.int .i64 0,.int .i64 0,.int .i64 0]) (T2:=.ty 70) (G:=kkF p q g fm fs n) (ev:=λu=>kS p q g fm fs n i u) rfl zS rfl underlying167 (aG sizeOf70) ah ah zO cZ cZ zO zO (.inr ⟨224,c,g0,zD,zS,zS,hc,hg0⟩) zS (by simp [HO]) (λu hu=>(ab3 p q g fm fs n i hu).symm) aqA ?_;rintro k1 c1 g1 pf axw hc1 hg1
   have Xv:k1=576\/k1=224:=by
    rcases pf with h9|⟨c,h9⟩
    ·exact .inl h9
    ·simp at h9;exact .inr h9.1.symm
   rcases Xv with rfl|rfl
   ·
    refine qM trivial ?_;refine cu ?_;refine cA pZ ?_;refine ⟨λx=>if x=224 then 576 else x,rkO L ka ks off n cap au av g bx tp nr md st p q (i+1) (.slice (some ⟨224,0,none⟩) (i+1) c1) [(224,⟨fa (3*c1) .i64 g1,.ty 70⟩)],m - 1,?_,⟨i+1,_,_,dk,.inr ⟨c1,g1,OL,hc1,hg1,rfl,rfl⟩,alG,rfl⟩,ak8⟩;exact xY
   ·
    refine qM trivial ?_;refine cu ?_;refine cA pZ ?_;refine ⟨λx=>if x=224 then 224 else x,rkO L ka ks off n cap au av g bx tp nr md st p q (i+1) (.slice (some ⟨224,0,none⟩) (i+1) c1) [(224,⟨fa (3*c1) .i64 g1,.ty 70⟩)],m - 1,?_,⟨i+1,_,_,dk,.inr ⟨c1,g1,OL,hc1,hg1,rfl,rfl⟩,alG,rfl⟩,ak8⟩;exact xY
def ahu (L:cf) (ka ks off n cap au av c c2 M:Nat) (g bx tp nr md st p q:Int) (gg f:aJ) (i:Nat):GS :=
 ⟨tsL [(2,.int .i64 p),(3,.int .i64 q),(4,.pointer (some ⟨200,0,none⟩)),(5,.pointer (some ⟨208,0,none⟩)),(8,.pointer (some ⟨216,0,none⟩)),(10,.slice (some ⟨264,0,none⟩) n c),(11,.int .i64 0),(12,.pointer (some ⟨344,0,none⟩)),(13,.int .i64 i)],
 hpL G1 ([(200,cfB (.slice (some ⟨ka,off,none⟩) n cap) g bx tp nr md),(208,cE st ks au n av),(216,⟨#[.int .i64 0,.slice none 0 0],.ty 27⟩),(264,⟨fa (3*c) .i64 gg,.ty 70⟩),(336,⟨fa M .i64 (jF f gg i),.ty 72⟩),(344,cE st 336 0 n c2)]++L),2000,0⟩
theorem adu (L:cf) (ka ks:Nat) (bm bs:Blk) (hT:LKa L ka ks bm bs) (off n cap au av:Nat) (fm fs:aJ) (hm:MB bm off n fm) (fO:SB bs au n fs) (fL:n<=av) (g bx tp nr md st:Int) (hs:i64 st) (p q:Int) (eM:fk n fm g bx tp nr md=true) (jh:aY st fs n=true) (Zi:r5 p q=true) (Ac:HW fs n=false) {ok:Bool} (hF:aY st (kcF p q g fm fs n) n=ok) :
  FunS prog G1 158 #[cfV (.slice (some ⟨ka,off,none⟩) n cap) g bx tp nr md,.agg #[.int .i64 st,.slice (some ⟨ks,au,none⟩) n av],.int .i64 p,.int .i64 q] (hpL G1 L) (ak L) (WS 1000 st n (if ok then kcF p q g fm fs n else fs) (if ok then 0 else 20)):=by
 refine Pn (B:=200) G1F func158 rfl call158 hT.ok ?_ Pu (by simp [ntmps158]) zO ?_
 ·exact Si
 intro C hC bA hY;have hA:=hT.a;have hS:=hT.s;have cW:=hT.ne;have gu:=hT.na;have jj:=hT.low;have pV:=hT.k1;have n6:=hT.k2;have Lj:=(ji jh).2.1;have hk:=(Yr L ka ks bm bs hT off n cap au av fm fs hm fO g bx tp nr md st hs p q eM jh Zi Ac).nmL hT.ok hT.fx 264 zO (λv ns=>VL) (by have hl:r1n 264 ka=ka:=ae (by have:=hT.a2;omega);have uH:r1n 264 ks=ks:=ae zO;simp [cfV,ren,aW,aw,aF,hl,uH]) (ame (ρ:=r1n 264) (nk:=264) rfl n (kkF p q g fm fs n));unfold cfV at hk |-
 repeat' first|refine cT ?_|refine Bz ?_|fail
 refine gj ?_;refine Sf (k4 hA hS cW gu) ?_;refine cv (f:=.func 176) (cap:=#[]) hC hk rfl zS rfl rfl aS aq zS aZ aq jB cF ?_ ?_
 ·intro v ns hV k hk;rw [VL hV k hk];omega
 rintro v ns ⟨c,gg,hc,hgg,rfl,rfl⟩;refine Y6 trivial ?_;refine cu ?_
 repeat' first|refine cT ?_|(refine iy ?_;intro Q hQ _;simp [hC,hY,cJ,bH,hA,hS,cW,gu];refine dq hQ ?_)|fail
 have apZ:=kG ks 336 zO zO zO bs au n av fs fO fL st;refine gj ?_;refine qM (k4 hA hS cW gu) ?_;refine cv (f:=.func 92) (cap:=#[]) hC apZ rfl zS rfl rfl aS aq zS aZ aq gQ cF ?_ ?_
 ·exact EX
 rintro v ns ⟨ZW,vC,zw,azk,atN,anK,rfl,rfl⟩;refine By trivial ?_;refine cu ?_;have lY:∀ j,j<6*n->-1048576<=zw j/\zw j<=1048576:=λj hj=>by rw [anK j hj];exact al9 jh hj
 have oL:∀ j,j<3*n->-18014398509481984<=gg j/\gg j<=18014398509481984:=λj hj=>by
  rw [hgg j hj];exact aje eM jh Zi zO zO (MY.1 Ac _ zO)
 have Rs:∀ j,j<6*n->jF zw gg n j=kcF p q g fm fs n j:=λj hj=>by
  unfold jF kcF;by_cases c3:j%6<3
  ·rw [ag c3,ae zO,anK j hj]
  ·rw [ae c3,ag zO,anK j hj,hgg _ zO,ab3 _ _ _ _ _ _ _ zO]
 have kL:=λD=>Blk.fx_ids (fy (3*c) gg 70) D;have ML:=λf D=>Blk.fx_ids (fy vC f 72) D;have arn:=λf ρ=>Blk.fx_rn (fy vC f 72) ρ
 repeat' first|refine cT ?_|(refine iy ?_;intro Q hQ _;simp [hC,hY,cJ,bH,hA,hS,cW,gu];refine dq hQ ?_)|fail
 refine fD n (ahu L ka ks off n cap au av c ZW vC g bx tp nr md st p q gg zw) ?_ ?_ ?_
 ·refine uY _ 2000 hC G1F hT.ok hT.fx bA zO ?_ ?_ fS
  ·simp [aL,cQ,aI,aP,dom,hA,hS,cW,gu,cJ]
  ·simp [cfB,cE,ZI,aM,aI,aP,dom,kL,ML,hA,hS,cW,gu,cJ,bH]
 ·intro i hi;have cS:(i:Int)<n:=zO;have Ze:i<ZW:=zO;have hi3:(i:Int)<ZW:=zO;have hz:(0:Int)<=i:=zO;have pZ:=ua hi Lj.2;have e0:jF zw gg i (6*i+3)=zw (6*i+3):=qe zw gg i (u:=0) zO;have e1:jF zw gg i (6*i+3+1)=zw (6*i+3+1):=qe zw gg i (u:=1) zO;have e2:jF zw gg i (6*i+3+2)=zw (6*i+3+2):=qe zw gg i (u:=2) zO;have b0:=lY (6*i+3) zO;have b1:=lY (6*i+3+1) zO;have b2:=lY (6*i+3+2) zO;have d0:=oL (3*i) zO;have d1:=oL (3*i+1) zO;have d2:=oL (3*i+2) zO;have VA:=ZJ zw gg i;unfold ae0 at VA;rw [<-adj] at VA;unfold ahu cfB cE;rw [<-VA];clear VA;generalize jF zw gg i=F at *
  have q0:Int.bmod (F (6*i+3)+gg (3*i)) 18446744073709551616=F (6*i+3)+gg (3*i):=by rw [e0];exact Go.Gy.bm zO zO
  have q1:Int.bmod (F (6*i+3+1)+gg (3*i+1)) 18446744073709551616=F (6*i+3+1)+gg (3*i+1):=by rw [e1];exact Go.Gy.bm zO zO
  have q2:Int.bmod (F (6*i+3+2)+gg (3*i+2)) 18446744073709551616=F (6*i+3+2)+gg (3*i+2):=by rw [e2];exact Go.Gy.bm zO zO
  have ho:i*6=6*i:=zO;have ho3:i*3=3*i:=zO;have l0:=qh (T:=72) (M:=vC) (g:=F) (q:=6*i+3) zO;have l1:=qh (T:=72) (M:=vC) (g:=upd F (6*i+3) (F (6*i+3)+gg (3*i))) (q:=6*i+3+1) zO;have l2:=qh (T:=72) (M:=vC) (g:=upd (upd F (6*i+3) (F (6*i+3)+gg (3*i))) (6*i+3+1) (F (6*i+3+1)+gg (3*i+1))) (q:=6*i+3+2) zO;rw [ao _ _ zO] at l1;rw [ao _ _ zO,ao _ _ zO] at l2;have v0:=qh (T:=70) (M:=3*c) (g:=gg) (q:=3*i) zO;have v1:=qh (T:=70) (M:=3*c) (g:=gg) (q:=3*i+1) zO;have v2:=qh (T:=70) (M:=3*c) (g:=gg) (q:=3*i+2) zO;have m0:6*i+3<vC:=zO;have m1:6*i+3+1<vC:=zO;have m2:6*i+3+2<vC:=zO;have m0':6*i+3+1<=vC:=zO;have m1':6*i+3+1+1<=vC:=zO;have m2':6*i+3+2+1<=vC:=zO;have s0:=λx=>qJ vC .i64 F (6*i+3) x;have s1:=λx=>qJ vC .i64 (upd F (6*i+3) (F (6*i+3)+gg (3*i))) (6*i+3+1) x;have s2:=λx=>qJ vC .i64 (upd (upd F (6*i+3) (F (6*i+3)+gg (3*i))) (6*i+3+1) (F (6*i+3+1)+gg (3*i+1))) (6*i+3+2) x
  repeat' first|refine GWL_start ?_|refine GWL_step ?_|refine cT ?_|(refine iy ?_;intro Q hQ hP;simp [hC,hY,hA,hS,cW,gu,hi,cS,Ze,hi3,hz,pZ,ho,ho3,l0,l1,l2,v0,v1,v2,m0,m1,m2,m0',m1',m2',q0,q1,q2,s0,s1,s2];(first|refine hQ _ _ _ _ de ?_|refine hP _ _ de λ_=>?_))|fail
  refine uY _ 2000 hC G1F hT.ok hT.fx bA zO ?_ ?_ fS
  ·simp [aL,cQ,aI,aP,dom,hA,hS,cW,gu,pZ]
  ·simp [aM,aI,aP,dom,kL,ML,hA,hS,cW,gu]
 ·have HT:=(lV ⟨fa vC .i64 (jF zw gg n),.ty 72⟩ 0 n ZW (kcF p q g fm fs n) (A6 atN Rs (λj hj=>by
   rw [<-Rs j hj];have b0:=lY j hj;unfold jF;split
   ·have d0:=oL (3*(j / 6)+(j%6 - 3)) zO;exact QM
   ·exact ⟨zO,zO⟩) zO) st).up1 (aT (fy _ _ _))
  cases ok
  ·rw [hF] at HT;unfold ahu cfB cE
   repeat' first|refine cT ?_|((first|refine gwR [54] ?_|refine gwD [54] ?_);intro Q hQ _;(repeat first|simp [hC,hY,hA,hS,cW,gu]|refine aE HT G1F (B:=200) (aT (fy _ _ _)) (λk=>if k=100 then 336 else k) (λk hk=>ae zO) aN zS sI ai ax ?_);refine dq hQ ?_)|fail
   have akl:=kG ks 2064 zO zO zO bs au n av fs fO fL st;refine gj ?_;refine qM (k4 hA hS cW gu) ?_;refine cv (f:=.func 92) (cap:=#[]) hC akl rfl zS rfl rfl aS aq zS aZ aq gQ cF ?_ ?_
   ·exact EX
   rintro v ns ⟨apT,apw,aqf,atL,atM,atQ,rfl,rfl⟩;refine By trivial ?_;refine cu ?_
   repeat' first|refine cT ?_|(refine iy ?_;intro Q hQ _;simp [hC,hY,cJ,bH,hA,hS,cW,gu];refine dq hQ ?_)|fail
   refine ⟨.inr trivial,Aj G1F,_,_,λk=>if k=1000 then 2064 else k,⟨_,⟨apT,apw,aqf,atL,atM,atQ,rfl,rfl⟩,rfl⟩,λk hk=>ae zO,zS,zS,Dj,?_⟩;exact Ra
  ·rw [hF] at HT;unfold ahu cfB cE
   repeat' first|refine cT ?_|((first|refine gwR [54] ?_|refine gwD [54] ?_);intro Q hQ _;(repeat first|simp [hC,hY,hA,hS,cW,gu]|refine aE HT G1F (B:=200) (aT (fy _ _ _)) (λk=>if k=100 then 336 else k) (λk hk=>ae zO) aN zS sI ai ax ?_);refine dq hQ ?_)|fail
   refine ⟨.inr trivial,Aj G1F,_,_,λk=>if k=1000 then 336 else k,⟨_,⟨ZW,vC,_,azk,atN,Rs,rfl,rfl⟩,rfl⟩,λk hk=>ae zO,zS,zS,Dj,?_⟩;exact Ra
theorem qq {c n:Nat} {g:aJ} (hc:n<=c) {i:Nat} (hi:i<n) {u:Nat} (hu:u<3):fB prog 3 ⟨fa (3*c) .i64 g,.ty 70⟩ (i*3+u)=some (.int .i64 (g (3*i+u))):=by
 have:=ze (P:=prog) (T:=3) (j:=3*i+u) (cr isAgg3) (uO (3*c) g (.ty 70)) zO;rw [(zO:i*3+u=0+(3*i+u)),this]
end Go.Gy
namespace Go.Gy
open Go Go.RowKit Go.Proofs
theorem akr {st:Int} {f:aJ} {n:Nat} {p q:Int} (h:aY st f n=true) (hp:iC p q=true) (hk:∀ i,i<n->okB f p q i=true):drE st f n p q=0:=by
 unfold drE;rw [h,hp,IV.2 hk]
 rfl
theorem aam {st:Int} {f:aJ} {n:Nat} {p q:Int} (h:drE st f n p q=0):drF st f n p q=mvF f p q:=by unfold drF;rw [ag h]
theorem uk (f:aJ) (p q:Int) (i u:Nat) (hu:u<3):qd f p q (3*i+u)=dwV f p q i u:=by
 exact yv
end Go.Gy
namespace Go.Gy
open Go Go.RowKit Go.Proofs Go.Proofs.Tryz
theorem xK {p:Prop} (h:p:=by simp [results157,ren,aW,aw,aF]):p:=h
theorem xP {p:Prop} (h:p:=by
 rintro v ns ⟨w,hV,rfl⟩ k hk;rw [qU hV k hk];omega):p:=h
theorem yP {p:Prop} (h:p:=by
 rintro v ns ⟨c3,M3,g3,k1,k2,k3,rfl,rfl⟩;simp [ak]):p:=h
theorem YS (nb nk:Nat) (lY:100<=nb) (pf:100<=nk) (hbk:nb≠nk) (b:Blk) (off n cap:Nat) (f:aJ) (h:SB b off n f) (st p q:Int) (hp:i64 p) (hq:i64 q) :
  FunS prog G0 175 #[.agg #[.int .i64 st,.slice (some ⟨nb,off,none⟩) n cap],.int .i64 p,.int .i64 q] (hpL G0 [(nb,b)]) [nb] (Iz nk n (qd f p q) (aY st f n&&iC p q)):=by
 have hr:=λρ=>Blk.fx_rn h.fx ρ;refine (UO b off n cap f h st p q hp hq).mvL G0F (aT h.fx) (nn2 nb nk) VY (by simp [ren,aW,aw,aF,Lu]) (by simp [ak,Lu]) (Qf VX) (ZQ lY) (by simp [Lu,hr,lY]) ai (λv ns hV k hk=>?_) (λv ns hV k hk l hl _=>?_)
 ·obtain ⟨w,hV,rfl⟩:=hV;rw [qU hV k hk,VX];simp;exact ⟨pf,λe=>hbk e.symm⟩
 ·obtain ⟨w,hV,rfl⟩:=hV;rw [qU hV k hk,qU hV l hl]
theorem PB {M n:Nat} {g f:aJ} {p q:Int} (hM:6*n<=M) {i:Nat} (hi:i<n) :
  (((fa M IntKind.i64 (mvG g f p q i)).setIfInBounds (i*6) (Value.int IntKind.i64 (f (6*i)+dwV f p q i 0))).setIfInBounds (i*6+1) (Value.int IntKind.i64 (f (6*i+1)+dwV f p q i 1))).setIfInBounds (i*6+1+1) (Value.int IntKind.i64 (f (6*i+2)+dwV f p q i 2))=fa M IntKind.i64 (mvG g f p q (i+1)):=ahq hM hi
theorem PM {M n:Nat} {g f:aJ} {p q:Int} (hM:6*n<=M) {i:Nat} (hi:i<n):fB prog 70 ⟨fa M .i64 (mvG g f p q (i+1)),.ty 72⟩ (i*6)=some (.agg #[.int .i64 (f (6*i)+dwV f p q i 0),.int .i64 (f (6*i+1)+dwV f p q i 1),.int .i64 (f (6*i+2)+dwV f p q i 2)]):=by
 have:=tZ (P:=prog) (T:=70) (m:=3) (j:=6*i) (cr isAgg70) (aG sizeOf70) zO (uO M (mvG g f p q (i+1)) (.ty 72)) zO;rw [(zO:i*6=0+6*i),this,HO]
 have e0:mvG g f p q (i+1) (6*i+0)=f (6*i)+dwV f p q i 0:=by
  unfold mvG;rw [ag zO,(zO:(6*i+0) / 6=i),(zO:(6*i+0)%6=0)]
  rfl
 have e1:mvG g f p q (i+1) (6*i+1)=f (6*i+1)+dwV f p q i 1:=by
  unfold mvG;rw [ag zO,(zO:(6*i+1) / 6=i),(zO:(6*i+1)%6=1)]
 have e2:mvG g f p q (i+1) (6*i+2)=f (6*i+2)+dwV f p q i 2:=by
  unfold mvG;rw [ag zO,(zO:(6*i+2) / 6=i),(zO:(6*i+2)%6=2)]
 simp only [e0,e1,e2]
def Vd (b:Blk) (st:Int) (off n cap c M cl:Nat) (g f gl:aJ) (p q:Int) (i:Nat):GS :=
 ⟨tsL [(3,.pointer (some ⟨200,0,none⟩)),(6,.pointer (some ⟨208,0,none⟩)),(8,.slice (some ⟨248,0,none⟩) n cl),(10,.pointer (some ⟨328,0,none⟩)),(11,.int .i64 i)],
 hpL G0 [(100,b),(200,cE st 100 off n cap),(208,⟨#[.int .i64 0,.slice none 0 0],.ty 27⟩),(248,⟨fa (3*cl) .i64 gl,.ty 70⟩),(320,⟨fa M .i64 (mvG g f p q i),.ty 72⟩),(328,cE st 320 0 n c)],400,0⟩
theorem N7 (b:Blk) (off n cap:Nat) (f:aJ) (h:SB b off n f) (eK:n<=cap) (st p q:Int) (hs:i64 st) (hp:i64 p) (hq:i64 q) :
  FunS prog G0 157 #[.agg #[.int .i64 st,.slice (some ⟨100,off,none⟩) n cap],.int .i64 p,.int .i64 q] (hpL G0 [(100,b)]) (ak [(100,b)]) (Zo 1000 st n (drF st f n p q) (drE st f n p q)):=by
 refine eW (B:=200) G0F func157 rfl call157 (aT h.fx) ?_ S7 (by simp [ntmps157]) zO ?_
 ·exact RU
 intro C hC bA hY;have hr:=λρ=>Blk.fx_rn h.fx ρ;have kL:=λD=>Blk.fx_ids h.fx D;have Lk:=h.nn;have dW:=YS 100 248 zO zO zO b off n cap f h st p q hp hq
 cases c2:(aY st f n&&iC p q) with
 | false =>
  have hE:drE st f n p q=2:=by unfold drE;rw [c2];rfl
  have hF:drF st f n p q=f:=by unfold drF;rw [ae zO]
  rw [hE,hF];rw [c2] at dW;refine iI ?_;refine gj ?_;refine On trivial ?_;refine cv (f:=.func 175) (cap:=#[]) hC dW rfl zS rfl rfl aS aq zS aZ aq zS bO ?_ ?_
  ·exact xP
  rintro v ns ⟨w,hV,rfl⟩;rcases hV with ⟨_,rfl,rfl⟩|⟨cd,gd,kd0,_⟩
  rotate_left
  ·simp at kd0
  refine Y6 trivial ?_;refine cu ?_;refine iI ?_;refine gj ?_;refine qM trivial ?_;refine cv (f:=.func 92) (cap:=#[]) hC (wO 320 zO b off n cap f h eK st) rfl zS rfl rfl aS aq zS aZ aq zS bO ?_ ?_
  ·exact yP
  rintro v ns ⟨c3,M3,g3,k1,k2,k3,rfl,rfl⟩;refine On trivial ?_;refine cu ?_;refine iI ?_;refine ⟨.inr trivial,zR G0F,_,_,λk=>if k=1000 then 320 else k,⟨_,⟨c3,M3,g3,k1,k2,k3,rfl,rfl⟩,rfl⟩,λk hk=>ae zO,zS,zS,?_,?_⟩
  ·exact xK
  ·exact iu
 | true =>
  obtain ⟨c0,c1⟩:aY st f n=true/\iC p q=true:=by simpa using c2
  obtain ⟨_,⟨n1,n4⟩,_⟩:=ji c0;rw [c2] at dW;refine iI ?_;refine gj ?_;refine On trivial ?_;refine cv (f:=.func 175) (cap:=#[]) hC dW rfl zS rfl rfl aS aq zS aZ aq zS bO ?_ ?_
  ·exact xP
  rintro v ns ⟨w,hV,rfl⟩;rcases hV with ⟨h1,_⟩|⟨cd,gd,kd0,Zm,Gg,rfl,rfl⟩
  ·simp at h1;omega
  simp only [aV] at kd0 Zm Gg;refine Y6 trivial ?_;refine cu ?_;refine iI ?_;refine gj ?_;refine qM trivial ?_;refine cv (f:=.func 92) (cap:=#[]) hC (wO 320 zO b off n cap f h eK st) rfl zS rfl rfl aS aq zS aZ aq zS bO ?_ ?_
  ·exact yP
  rintro v ns ⟨c3,M3,g3,k1,k2,k3,rfl,rfl⟩;refine By trivial ?_;refine cu ?_;refine iI ?_;obtain ⟨N,hN,dp,dk⟩:=Js (okB f p q) n;refine fD N (Vd b st off n cap c3 M3 cd g3 f gd p q) ?_ ?_ ?_
  ·refine cB _ 400 hC G0F (m0:=[(100,b)]) bA zO ?_ ?_ ?_
   ·exact lO
   ·simp [cE,aM,aI,aP,kL,dom,asl,Blk.fx_ids (fy _ _ _)]
   ·simp
  ·intro i hi;have ew:i<n:=zO;have cS:(i:Int)<n:=zO;have hz:(0:Int)<=i:=zO;have hs:Int.bmod ((i:Int)+1) 18446744073709551616=((i+1:Nat):Int):=ee;have hl:=Wi (p:=p) (q:=q) k2 k3 ew;have uH:=PM (g:=g3) (f:=f) (p:=p) (q:=q) k2 ew;have TA:=PB (g:=g3) (f:=f) (p:=p) (q:=q) k2 ew;have eM:=dp i hi;unfold okB at eM;have hM:i*6+3<=M3:=zO;have d0:=qq (g:=gd) Zm ew (u:=0) zO;have d1:=qq (g:=gd) Zm ew (u:=1) zO;have d2:=qq (g:=gd) Zm ew (u:=2) zO;rw [Gg _ zO,uk f p q i 0 zO,du] at d0;rw [Gg _ zO,uk f p q i 1 zO] at d1;rw [Gg _ zO,uk f p q i 2 zO] at d2;have hw:=AX.1 eM;unfold inW at hw;have b0:Int.bmod (f (6*i)+dwV f p q i 0) 18446744073709551616=f (6*i)+dwV f p q i 0:=bm zO zO;have b1:Int.bmod (f (6*i+1)+dwV f p q i 1) 18446744073709551616=f (6*i+1)+dwV f p q i 1:=bm zO zO;have b2:Int.bmod (f (6*i+2)+dwV f p q i 2) 18446744073709551616=f (6*i+2)+dwV f p q i 2:=bm zO zO;unfold Vd cE;refine cA (k17 hi ew cS hz hs hl uH TA eM hM d0 d1 d2 b0 b1 b2 @MT) ?_;refine cB _ 400 hC G0F (m0:=[(100,b)]) bA zO ?_ ?_ ?_
   ·exact QW
   ·simp [cE,aM,aI,aP,kL,dom,Blk.fx_ids (fy _ _ _),TA]
   ·simp
  ·by_cases tF:N=n
   ·subst tF;have hE:drE st f N p q=0:=akr c0 c1 dp;rw [aam hE,hE];unfold Vd cE;refine iI ?_;refine ⟨.inr trivial,zR G0F,_,_,λk=>if k=1000 then 320 else k,⟨_,⟨c3,M3,mvG g3 f p q N,k1,k2,λj hj=>agU hj k3,rfl,rfl⟩,rfl⟩,λk hk=>ae zO,zS,zS,?_,?_⟩
    ·exact xK
    ·exact iu
   ·have ew:N<n:=zO;have eM:=dk.resolve_left tF
    have hE:drE st f n p q=20:=by
     unfold drE;simp [c0,c1,aks ew eM]
    have hF:drF st f n p q=f:=by unfold drF;rw [ae zO]
    rw [hE,hF];have cS:(N:Int)<n:=zO;have hz:(0:Int)<=N:=zO;have hl:=Wi (p:=p) (q:=q) k2 k3 ew;have uH:=PM (g:=g3) (f:=f) (p:=p) (q:=q) k2 ew;have TA:=PB (g:=g3) (f:=f) (p:=p) (q:=q) k2 ew;unfold okB at eM;have hM:N*6+3<=M3:=zO;have d0:=qq (g:=gd) Zm ew (u:=0) zO;have d1:=qq (g:=gd) Zm ew (u:=1) zO;have d2:=qq (g:=gd) Zm ew (u:=2) zO;rw [Gg _ zO,uk f p q N 0 zO,du] at d0;rw [Gg _ zO,uk f p q N 1 zO] at d1;rw [Gg _ zO,uk f p q N 2 zO] at d2;obtain ⟨⟨x0,x1,x2⟩,v0,v1,v2⟩:=jy c0 ew
    have bd:∀ u,u<3->-2251799813685248<=dwV f p q N u/\dwV f p q N u<=2251799813685248:=λu hu=>by
     have hv:inW 65536 (f (6*N+3+u)):=by
      obtain rfl|rfl|rfl:u=0\/u=1\/u=2:=zO
      ·exact v0
      ·exact v1
      ·exact v2
     rw [LH c0 c1 ew hu];unfold inW at hv;exact (Z9 c1 zO zO).2
    have e0:=bd 0 zO;have e1:=bd 1 zO;have e2:=bd 2 zO;unfold inW at x0 x1 x2;have b0:Int.bmod (f (6*N)+dwV f p q N 0) 18446744073709551616=f (6*N)+dwV f p q N 0:=bm zO zO;have b1:Int.bmod (f (6*N+1)+dwV f p q N 1) 18446744073709551616=f (6*N+1)+dwV f p q N 1:=bm zO zO;have b2:Int.bmod (f (6*N+2)+dwV f p q N 2) 18446744073709551616=f (6*N+2)+dwV f p q N 2:=bm zO zO;unfold Vd cE;refine cA (RK ew cS hz hl uH TA eM hM d0 d1 d2 b0 b1 b2 @MT) ?_;refine gj ?_;refine qM trivial ?_;refine cv (f:=.func 92) (cap:=#[]) hC (wO 816 zO b off n cap f h eK st) rfl zS rfl rfl aS aq zS aZ aq zS bO ?_ ?_
    ·rintro v ns ⟨c4,M4,g4,l1,l2,l3,rfl,rfl⟩;simp [ak]
    rintro v ns ⟨c4,M4,g4,l1,l2,l3,rfl,rfl⟩;refine By trivial ?_;refine cu ?_;refine iI ?_;refine ⟨.inr trivial,zR G0F,_,_,λk=>if k=1000 then 816 else k,⟨_,⟨c4,M4,g4,l1,l2,l3,rfl,rfl⟩,rfl⟩,λk hk=>ae zO,zS,zS,?_,?_⟩
    ·exact xK
    ·exact iu
end Go.Gy
namespace Go.Gy
open Go Go.RowKit Go.Proofs
def Eq6 (n:Nat) (f h:aJ):Prop:=∀ j,j<6*n->f j=h j
theorem Eq6.rfl' {n:Nat} {f:aJ}:Eq6 n f f:=λ_ _=>rfl
theorem Eq6.symm {n:Nat} {f h:aJ} (e:Eq6 n f h):Eq6 n h f:=λj hj=>(e j hj).symm
theorem Eq6.trans {n:Nat} {f h l:aJ} (e:Eq6 n f h) (e2:Eq6 n h l):Eq6 n f l:=λj hj=>(e j hj).trans (e2 j hj)
def opF (k p q g:Int) (fm:aJ) (n:Nat) (fs:aJ) (j:Nat):Int :=
 if k=1 then (if j%6<3 then fs j+fC (fs (j+3)*p) q else fs j)
 else if k=2 then kcF p q g fm fs n j
 else if j%6<3 then fs j else fs j+fC (fs (j - 3)*p) q
theorem Lw {k p q g:Int} {fm:aJ} {n:Nat} {f h:aJ} (e:Eq6 n f h):Eq6 n (opF k p q g fm n f) (opF k p q g fm n h):=λj hj=>by
 have e0:=e j hj;unfold opF;by_cases k1:k=1
 ·simp only [ag k1];by_cases c:j%6<3
  ·simp only [ag c];rw [e0,e (j+3) zO]
  ·simp only [ae c];exact e0
 ·simp only [ae k1];by_cases k2:k=2
  ·simp only [ag k2];unfold kcF;by_cases c:j%6<3
   ·simp only [ag c];exact e0
   ·simp only [ae c];rw [e0,O1 (fs:=h) (fs':=f) zO (λk hk v hv=>e _ zO) zO]
  ·simp only [ae k2];by_cases c:j%6<3
   ·simp only [ag c];exact e0
   ·simp only [ae c];rw [e0,e (j - 3) zO]
theorem acS {k p q g:Int} {fm:aJ} {n:Nat} {f:aJ} (hq:0<q):Eq6 n (opF k (-p) q g fm n (opF k p q g fm n f)) f:=λj hj=>by
 by_cases k1:k=1
 ·unfold opF;simp only [ag k1];by_cases c:j%6<3
  ·simp only [ag c,ae (zO:¬(j+3)%6<3)];rw [jo,Ca hq];omega
  ·simp only [ae c]
 ·by_cases k2:k=2
  ·unfold opF;simp only [ae k1,ag k2];exact ab1 p q g fm f n j hj
  ·unfold opF;simp only [ae k1,ae k2];by_cases c:j%6<3
   ·simp only [ag c]
   ·simp only [ae c,ag (zO:(j - 3)%6<3)];rw [jo,Ca hq];omega
def paF (k p q:aJ) (g:Int) (fm:aJ) (n:Nat) (fs:aJ):Nat->Nat->Int
 | 0=>fs
 | i+1=>opF (k i) (p i) (q i) g fm n (paF k p q g fm n fs i)
theorem ac3 {k p q:aJ} {g:Int} {fm:aJ} {n m:Nat} {f:aJ} (hq:∀ i,i<m->0<q i) :
  Eq6 n (paF (λi=>k (m - 1 - i)) (λi=>-p (m - 1 - i)) (λi=>q (m - 1 - i)) g fm n (paF k p q g fm n f m) m) f:=by
 have key:∀ i,i<=m->Eq6 n (paF (λi=>k (m - 1 - i)) (λi=>-p (m - 1 - i)) (λi=>q (m - 1 - i)) g fm n (paF k p q g fm n f m) i) (paF k p q g fm n f (m - i)):=by
  intro i
  induction i with
  | zero=>exact λ_=>Eq6.rfl'
  | succ i ih =>
   intro hi;have h1:=ih zO;have e:m - i=m - 1 - i+1:=zO;rw [e] at h1;have h2:=(Lw (k:=k (m - 1 - i)) (p:=-p (m - 1 - i)) (q:=q (m - 1 - i)) (g:=g) (fm:=fm) h1).trans (acS (hq _ zO));rw [(zO:m - (i+1)=m - 1 - i)];exact h2
 have:=key m (aA _);rwa [Nat.sub_self] at this
theorem amf {n d g:Int} {fm fs:aJ} {u i k:Nat} (h:fm i=fm k):kpF n d g fm fs i u k=-kpF n d g fm fs k u i:=by
 unfold kpF;rw [Ve fs k i,h,show fs (6*k+u) - fs (6*i+u)=-(fs (6*i+u) - fs (6*k+u)) by omega,Ub]
theorem al8 {p q g:Int} {fm fs:aJ} {n u:Nat} (hn:n<=4) (h:∀ i,i<n->fm i=fm 0):dh (λi=>kS p q g fm fs n i u) n=0:=by
 have e:∀ i k,i<n->k<n->kpF p q g fm fs i u k=-kpF p q g fm fs k u i:=λi k hi hk=>amf ((h i hi).trans (h k hk).symm);have hs:∀ i,kS p q g fm fs n i u=dh (λk=>if k=i then 0 else kpF p q g fm fs i u k) n:=λi=>JH _ i n;simp only [hs];obtain rfl|rfl|rfl|rfl|rfl:n=0\/n=1\/n=2\/n=3\/n=4:=zO
 ·rfl
 ·rfl
 ·have:=e 0 1 zO zO;simp [dh];omega
 ·have:=e 0 1 zO zO;have:=e 0 2 zO zO;have:=e 1 2 zO zO;simp [dh];omega
 ·have:=e 0 1 zO zO;have:=e 0 2 zO zO;have:=e 0 3 zO zO;have:=e 1 2 zO zO;have:=e 1 3 zO zO;have:=e 2 3 zO zO;simp [dh];omega
theorem ahc {k p q g:Int} {fm fs:aJ} {n u:Nat} (hu:u<3) (hn:n<=4) (h:∀ i,i<n->fm i=fm 0) (hk:k=1\/k=2) :
  dh (λi=>opF k p q g fm n fs (6*i+3+u)) n=dh (λi=>fs (6*i+3+u)) n:=by
 rcases hk with rfl|rfl
 ·refine uU λi _=>?_;unfold opF;rw [ag rfl,ae zO]
 ·rw [uU (g:=λi=>fs (6*i+3+u)+kS p q g fm fs n i u) λi _=>by
   unfold opF;rw [ae zD,ag rfl,TH _ _ _ _ _ _ _ _ hu],P3,al8 hn h]
  omega
theorem V9 {k p q:aJ} {g:Int} {fm fs:aJ} {n u:Nat} (hu:u<3) (hn:n<=4) (h:∀ i,i<n->fm i=fm 0):∀ m,(∀ i,i<m->k i=1\/k i=2) ->
  dh (λi=>paF k p q g fm n fs m (6*i+3+u)) n=dh (λi=>fs (6*i+3+u)) n
 | 0,_=>rfl
 | m+1,hk=>(ahc hu hn h (hk m zO)).trans (V9 hu hn h m λi hi=>hk i zO)
theorem Wq (c:Int) (F:aJ):∀ n,dh (λi=>c*F i) n=c*dh F n
 | 0=>by simp [dh]
 | n+1=>by simp only [dh,Wq c F n,dH]
theorem PU {fm fs:aJ} {n u:Nat} (hu:u<3) (h:∀ i,i<n->fm i=fm 0):sP fm fs n u=fm 0*dh (λi=>fs (6*i+3+u)) n:=by
 unfold sP;rw [<-Wq];refine uU λi hi=>?_;unfold mzF zP;rw [h i hi];obtain rfl|rfl|rfl:u=0\/u=1\/u=2:=zO
 ·simp
 ·simp
 ·simp
end Go.Gy
namespace Go.Gy
open Go Go.RowKit Go.Proofs Go.Proofs.Tryz
theorem DQ {p:Prop} (h:p:=by simp [HO,dwV,dwE,aip,aiq,air,akp,akq,ap3]):p:=h
theorem ir {p:Prop} (h:p:=by cases e):p:=h
def dn3 (f:aJ) (j:Nat):Int:=f (j - 3)
theorem BQ (f:aJ) (i u:Nat):dn3 f (6*i+3+u)=f (6*i+u):=by
 unfold dn3;rw [(zO:6*i+3+u - 3=6*i+u)]
theorem aip (f:aJ) (i:Nat):dn3 f (6*i+3)=f (6*i):=BQ f i 0
theorem aiq (f:aJ) (i:Nat):dn3 f (6*i+4)=f (6*i+1):=BQ f i 1
theorem air (f:aJ) (i:Nat):dn3 f (6*i+5)=f (6*i+2):=BQ f i 2
theorem akp (f:aJ) (i:Nat):dn3 f (6*i+3+1)=f (6*i+1):=BQ f i 1
theorem akq (f:aJ) (i:Nat):dn3 f (6*i+3+2)=f (6*i+2):=BQ f i 2
theorem ap3 (f:aJ):dn3 f 3=f 0/\dn3 f 4=f 1/\dn3 f 5=f 2:=⟨rfl,rfl,rfl⟩
theorem O7 (b:Blk) (off n cap:Nat) (f:aJ) (h:SB b off n f) (st p q:Int) (hp:i64 p) (hq:i64 q) (c0:aY st f n=true) (c1:iC p q=true) :
  FunS prog G0 177 #[.agg #[.int .i64 st,.slice (some ⟨100,off,none⟩) n cap],.int .i64 p,.int .i64 q] (hpL G0 [(100,b)]) (ak [(100,b)]) (Iz 1000 n (qd (dn3 f) p q) true):=by
 refine eW (B:=200) G0F func177 rfl call177 (aT h.fx) ?_ (L4 zO) (by simp [ntmps177]) zO ?_
 ·exact RU
 intro C hC bA hY;have hr:=λρ=>Blk.fx_rn h.fx ρ;have kL:=λD=>Blk.fx_ids h.fx D;have Lk:=h.nn
 repeat' first|refine cT ?_|((first|refine gwR [54] ?_|refine gwD [54] ?_);intro Q hQ _;(repeat first|simp [hC,hY,hp,c0,c1]|refine aE (lV b off n cap f h st) G0F (B:=200) (aT h.fx) (λk=>k) (λk hk=>rfl) aN zS dx ai ax ?_);refine dq hQ ?_)|fail
 refine jL (atx b st off n cap p q (qd (dn3 f) p q)) (m0:=n) (s0:=r8 b st off n cap p q 0 (.slice none 0 0) []) ?_ ⟨0,_,_,zO,.inl ⟨rfl,rfl,rfl⟩,rfl⟩ ?_
 ·exact FW
 rintro m _ ⟨i,sl,ns,zM,hV,rfl⟩;by_cases hm:m=0
 ·obtain rfl:i=n:=zO;rcases hV with ⟨rfl,rfl,rfl⟩|⟨c,g,ma,H5,hg,rfl,rfl⟩
  ·unfold r8 cE;refine iI ?_;refine ⟨.inr trivial,zR G0F,_,_,λk=>k,⟨_,.inl ⟨zS,rfl,rfl⟩,rfl⟩,λ_ _=>rfl,zS,zS,by simp [results177,ren,aW,aw,aF],zS⟩
  ·unfold r8 cE;refine iI ?_;refine ⟨.inr trivial,zR G0F,_,_,λk=>if k=1000 then 208 else k,⟨_,.inr ⟨c,g,by simpa using ma,by simpa using H5,by simpa using hg,px,rfl⟩,rfl⟩,λk hk=>ae zO,zS,zS,by simp [results177,ren,aW,aw,aF],iu⟩
 ·have ew:i<n:=zO;have cS:(i:Int)<n:=zO;have hz:(0:Int)<=i:=zO;have hs:Int.bmod ((i:Int)+1) 18446744073709551616=((i+1:Nat):Int):=ee;have hl:=h.vec ew (u:=0) zO;have i3:=h.i ew 0 zO;have i4:=h.i ew 1 zO;have i5:=h.i ew 2 zO;simp only [du] at hl i3;rcases hV with ⟨rfl,rfl,rfl⟩|⟨c,g,ma,H5,hg,rfl,rfl⟩
  ·simp only [Nat.zero_mul,fF,du,cD] at hl i3 i4 i5;unfold r8 cE;refine cA (CT ew cS hz hs hl i3 i4 i5 hp hq) ?_;refine gj ?_;refine On trivial ?_;refine uu (m:=3) (i:=0) (j:=476) (o9:=24) (z:=.agg #[.int .i64 0,.int .i64 0,.int .i64 0]) (T2:=.ty 70) (G:=qd (dn3 f) p q) (ev:=λu=>dwV (dn3 f) p q 0 u) rfl zS rfl underlying167 (aG sizeOf70) ah ah zO cZ cZ zO zO (.inl ⟨rfl,zS⟩) zS DQ (λu hu=>?_) zO ?_
   ·unfold qd;rw [(zO:(3*0+u) / 3=0),(zO:(3*0+u)%3=u)]
   ·exact Hu
  ·unfold r8 cE;refine cA (CT ew cS hz hs hl i3 i4 i5 hp hq) ?_;refine gj ?_;refine On trivial ?_;refine uu (m:=3) (i:=i) (j:=476) (o9:=24) (z:=.agg #[.int .i64 0,.int .i64 0,.int .i64 0]) (T2:=.ty 70) (G:=qd (dn3 f) p q) (ev:=λu=>dwV (dn3 f) p q i u) rfl zS rfl underlying167 (aG sizeOf70) ah ah zO cZ cZ zO zO (.inr ⟨208,c,g,zO,zS,zS,H5,hg⟩) zS DQ (λu hu=>?_) zO ?_
   ·exact yv
   ·exact G4

def OpR (nk:Nat) (st:Int) (n:Nat) (T:(Nat->Int)->Prop) (v:Value) (ns:cf):Prop:=∃ F E,WS nk st n F E v ns/\(∀ j,j<6*n->i64 (F j))/\(E=0->T F)
theorem zf {nk:Nat} {st:Int} {n:Nat} {T:(Nat->Int)->Prop} {v:Value} {ns:cf} (h:OpR nk st n T v ns):∀ k∈ak ns,k=nk:=by
 obtain ⟨F,E,h,_⟩:=h;exact ac0 h
theorem uL {D:iH} {st:Int} {n:Nat} {T:(Nat->Int)->Prop} (v:Value) (ns:cf) (h:OpR 1000 st n T v ns):aL (eo D ns) v/\(∀ p∈ns,200<=p.1/\p.2.ids (eo D ns))/\(∀ k b c,(k,b)∈ns->(k,c)∈ns->b=c):=by
 obtain ⟨F,E,h,_⟩:=h;exact Pu v ns h
theorem wK {nk:Nat} {ρ:dR} (h:ρ 1000=nk) (st:Int) (n:Nat) (T:(Nat->Int)->Prop):RR ρ (OpR 1000 st n T)=OpR nk st n T:=by
 funext v ns;apply propext;constructor
 ·rintro ⟨v0,JF,⟨F,E,h1,h2⟩,rfl,rfl⟩;exact ⟨F,E,(V5 h st n F E)▸⟨_,_,h1,rfl,rfl⟩,h2⟩
 ·rintro ⟨F,E,h1,h2⟩;rw [<-V5 h st n F E] at h1;obtain ⟨v0,JF,h3,e1,e2⟩:=h1;exact ⟨v0,JF,⟨F,E,h3,h2⟩,e1,e2⟩
def lfF (f:aJ) (p q:Int) (j:Nat):Int:=if j%6<3 then f j else f j+fC (f (j - 3)*p) q
theorem ahY {st:Int} {f:aJ} {n:Nat} {p q:Int} (c0:aY st f n=true) (c1:iC p q=true) {i u:Nat} (hi:i<n) (hu:u<3):qd (dn3 f) p q (3*i+u)=fC (f (6*i+u)*p) q/\(-2251799813685248<=fC (f (6*i+u)*p) q/\fC (f (6*i+u)*p) q<=2251799813685248):=by
 obtain ⟨⟨x0,y0,z0⟩,⟨x1,y1,z1⟩,x2,y2,z2⟩:=(jy c0 hi).1
 have hd:∀ v,-1048576<=v->v<=1048576->d1E v p q=0/\d1V v p q=fC (v*p) q/\(-2251799813685248<=fC (v*p) q/\fC (v*p) q<=2251799813685248):=λv h1 h2=>by
  unfold d1E d1V;rw [ag ⟨c1,zO,zO⟩,ag ⟨c1,zO,zO⟩];exact ⟨rfl,rfl,(Z9 c1 zO zO).2⟩
 have h0:=hd _ y0 z0;have h1:=hd _ y1 z1;have h2:=hd _ y2 z2
 have e:dwE (dn3 f) p q i=0:=by
  unfold dwE;rw [show dn3 f (6*i+3)=f (6*i) from aip f i,show dn3 f (6*i+4)=f (6*i+1) from aiq f i,show dn3 f (6*i+5)=f (6*i+2) from air f i,ad8 h0.1 h1.1];exact h2.1
 unfold qd dwV;rw [(zO:(3*i+u) / 3=i),(zO:(3*i+u)%3=u),e,eaV,ag rfl,BQ];obtain rfl|rfl|rfl:u=0\/u=1\/u=2:=zO
 ·exact h0.2
 ·exact h1.2
 ·exact h2.2
theorem ayM {M:Nat} {F:aJ} {i:Nat} (hM:6*i+6<=M):fB prog 70 ⟨fa M .i64 F,.ty 72⟩ (i*6+3)=some (.agg #[.int .i64 (F (6*i+3)),.int .i64 (F (6*i+4)),.int .i64 (F (6*i+5))]):=by
 have:=tZ (P:=prog) (T:=70) (m:=3) (j:=6*i+3) (cr isAgg70) (aG sizeOf70) zO (uO M F (.ty 72)) zO;rw [(zO:i*6+3=0+(6*i+3)),this,HO]
theorem asR {M:Nat} {F:aJ} {i:Nat} {x0 x1 x2:Int} (hM:6*i+6<=M) :
  (((fa M IntKind.i64 F).setIfInBounds (i*6+3) (Value.int IntKind.i64 x0)).setIfInBounds (i*6+3+1) (Value.int IntKind.i64 x1)).setIfInBounds (i*6+3+1+1) (Value.int IntKind.i64 x2)=fa M IntKind.i64 (JQ F (6*i+3) x0 x1 x2):=by
 have:=PW M .i64 F (6*i+3) x0 x1 x2 zO;rw [(zO:i*6+3=6*i+3)];simpa [gv] using this
def amk (b:Blk) (st:Int) (off n cap c M cl:Nat) (g gl:aJ) (i:Nat):GS :=
 ⟨tsL [(3,.pointer (some ⟨200,0,none⟩)),(6,.pointer (some ⟨208,0,none⟩)),(8,.slice (some ⟨248,0,none⟩) n cl),(10,.pointer (some ⟨312,0,none⟩)),(11,.int .i64 i)],
 hpL G0 [(100,b),(200,cE st 100 off n cap),(208,⟨#[.int .i64 0,.slice none 0 0],.ty 27⟩),(248,⟨fa (3*cl) .i64 gl,.ty 70⟩),(304,⟨fa M .i64 (jF g gl i),.ty 72⟩),(312,cE st 304 0 n c)],400,0⟩
theorem TP (b:Blk) (off n cap:Nat) (f:aJ) (h:SB b off n f) (eK:n<=cap) (st p q:Int) (hs:i64 st) (hp:i64 p) (hq:i64 q) (c0:aY st f n=true) (c1:iC p q=true) :
  FunS prog G0 159 #[.agg #[.int .i64 st,.slice (some ⟨100,off,none⟩) n cap],.int .i64 p,.int .i64 q] (hpL G0 [(100,b)]) (ak [(100,b)]) (OpR 1000 st n λF=>Eq6 n F (lfF f p q)):=by
 refine eW (B:=200) G0F func159 rfl call159 (aT h.fx) ?_ uL (by simp [ntmps159]) zO ?_
 ·exact RU
 intro C hC bA hY;have hr:=λρ=>Blk.fx_rn h.fx ρ;have kL:=λD=>Blk.fx_ids h.fx D;have Lk:=h.nn;obtain ⟨_,⟨n1,n4⟩,_⟩:=ji c0
 have dW:FunS prog G0 177 #[.agg #[.int .i64 st,.slice (some ⟨100,off,none⟩) n cap],.int .i64 p,.int .i64 q] (hpL G0 [(100,b)]) [100] (Iz 248 n (qd (dn3 f) p q) true):=by
  refine (O7 b off n cap f h st p q hp hq c0 c1).mvL G0F (aT h.fx) (nn2 100 248) VY (by simp [ren,aW,aw,aF,Lu]) (by simp [ak,Lu]) (Qf VX) (ZQ zO) (by simp [Lu,hr]) ai (λv ns hV k hk=>?_) (λv ns hV k hk l hl _=>?_)
  ·obtain ⟨w,hV,rfl⟩:=hV;rw [qU hV k hk,VX];simp
  ·obtain ⟨w,hV,rfl⟩:=hV;rw [qU hV k hk,qU hV l hl]
 refine iI ?_;refine gj ?_;refine On trivial ?_;refine cv (f:=.func 177) (cap:=#[]) hC dW rfl zS rfl rfl aS aq zS aZ aq zS bO ?_ ?_
 ·exact xP
 rintro v ns ⟨w,hV,rfl⟩;rcases hV with ⟨h1,_⟩|⟨cd,gd,kd0,Zm,Gg,rfl,rfl⟩
 ·simp at h1;omega
 simp only [aV] at kd0 Zm Gg;refine Y6 trivial ?_;refine cu ?_;refine iI ?_;refine gj ?_;refine qM trivial ?_;refine cv (f:=.func 92) (cap:=#[]) hC (wO 304 zO b off n cap f h eK st) rfl zS rfl rfl aS aq zS aZ aq zS bO ?_ ?_
 ·exact yP
 rintro v ns ⟨c3,M3,g3,k1,k2,k3,rfl,rfl⟩;refine By trivial ?_;refine cu ?_;refine iI ?_
 have hg:∀ i u,i<n->u<3->gd (3*i+u)=fC (f (6*i+u)*p) q/\(-2251799813685248<=gd (3*i+u)/\gd (3*i+u)<=2251799813685248):=λi u hi hu=>by
  have:=ahY c0 c1 hi hu;rw [Gg _ zO,this.1];exact ⟨rfl,this.2⟩
 have lY:∀ j,j<6*n->-1048576<=g3 j/\g3 j<=1048576:=λj hj=>by rw [k3 j hj];exact al9 c0 hj
 have Rs:∀ j,j<6*n->jF g3 gd n j=lfF f p q j:=λj hj=>by
  unfold jF lfF;by_cases c3:j%6<3
  ·rw [ag c3,ae zO,k3 j hj]
  ·rw [ae c3,ag zO,k3 j hj,(hg (j / 6) (j%6 - 3) zO zO).1,(zO:6*(j / 6)+(j%6 - 3)=j - 3)]
 have aqp:∀ j,j<6*n->i64 (lfF f p q j):=λj hj=>by
  rw [<-Rs j hj];have b0:=lY j hj;unfold jF;split
  ·have d0:=(hg (j / 6) (j%6 - 3) zO zO).2;exact QM
  ·exact QM
 have ML:=λf D=>Blk.fx_ids (fy M3 f 72) D;have arn:=λf ρ=>Blk.fx_rn (fy M3 f 72) ρ;have aqT:=λD=>Blk.fx_ids (fy (3*cd) gd 70) D;refine fD n (amk b st off n cap c3 M3 cd g3 gd) ?_ ?_ ?_
 ·refine cB _ 400 hC G0F (m0:=[(100,b)]) bA zO ?_ ?_ ?_
  ·exact lO
  ·simp [cE,aM,aI,aP,kL,ML,aqT,dom,ZI]
  ·simp
 ·intro i ew;have cS:(i:Int)<n:=zO;have hi3:i<c3:=zO;have hi4:(i:Int)<c3:=zO;have hz:(0:Int)<=i:=zO;have hs:=ua ew n4;have b0:=lY (6*i+3) zO;have b1:=lY (6*i+4) zO;have b2:=lY (6*i+5) zO;have d0:=(hg i 0 ew zO).2;have d1:=(hg i 1 ew zO).2;have d2:=(hg i 2 ew zO).2;rw [du] at d0;have e0:jF g3 gd i (6*i+3)=g3 (6*i+3):=qe g3 gd i (u:=0) zO;have e1:jF g3 gd i (6*i+4)=g3 (6*i+4):=qe g3 gd i (u:=1) zO;have e2:jF g3 gd i (6*i+5)=g3 (6*i+5):=qe g3 gd i (u:=2) zO;have VA:=ZJ g3 gd i;have es:ae0 (jF g3 gd i) (6*i+3) (gd (3*i)) (gd (3*i+1)) (gd (3*i+2))=JQ (jF g3 gd i) (6*i+3) (jF g3 gd i (6*i+3)+gd (3*i)) (jF g3 gd i (6*i+4)+gd (3*i+1)) (jF g3 gd i (6*i+5)+gd (3*i+2)):=rfl;rw [es] at VA;have hl:=ayM (F:=jF g3 gd i) (zO:6*i+6<=M3);have TA:=λx0 x1 x2=>asR (F:=jF g3 gd i) (x0:=x0) (x1:=x1) (x2:=x2) (zO:6*i+6<=M3);have hM:i*6+3+3<=M3:=zO;have v0:=qq (g:=gd) Zm ew (u:=0) zO;have v1:=qq (g:=gd) Zm ew (u:=1) zO;have v2:=qq (g:=gd) Zm ew (u:=2) zO;rw [du,du] at v0;have q0:Int.bmod (jF g3 gd i (6*i+3)+gd (3*i)) 18446744073709551616=jF g3 gd i (6*i+3)+gd (3*i):=by rw [e0];exact Go.Gy.bm zO zO
  have q1:Int.bmod (jF g3 gd i (6*i+4)+gd (3*i+1)) 18446744073709551616=jF g3 gd i (6*i+4)+gd (3*i+1):=by rw [e1];exact Go.Gy.bm zO zO
  have q2:Int.bmod (jF g3 gd i (6*i+5)+gd (3*i+2)) 18446744073709551616=jF g3 gd i (6*i+5)+gd (3*i+2):=by rw [e2];exact Go.Gy.bm zO zO
  clear e0 e1 e2 es b0 b1 b2 d0 d1 d2;unfold amk cE;refine cA (RK ew cS hi3 hi4 hz hs hl TA hM v0 v1 v2 q0 q1 q2) ?_;refine cB _ 400 hC G0F (m0:=[(100,b)]) bA zO ?_ ?_ ?_
  ·exact QW
  ·simp [cE,aM,aI,aP,kL,dom,ML,aqT,TA,VA]
  ·simp
 ·have HT:=lV ⟨fa M3 .i64 (jF g3 gd n),.ty 72⟩ 0 n c3 (lfF f p q) (A6 k2 Rs aqp zO) st;unfold amk cE
  cases cR:aY st (lfF f p q) n with
  | true =>
   rw [cR] at HT
   repeat' first|refine cT ?_|((first|refine gwR [54] ?_|refine gwD [54] ?_);intro Q hQ _;(repeat first|simp [hC,hY]|refine aE HT G0F (B:=200) (aT (fy _ _ _)) (λk=>if k=100 then 304 else k) (λk hk=>ae zO) aN zS sI ai ax ?_);refine dq hQ ?_)|fail
   refine ⟨.inr trivial,zR G0F,_,_,λk=>if k=1000 then 304 else k,⟨lfF f p q,0,⟨_,⟨c3,M3,_,k1,k2,Rs,rfl,rfl⟩,rfl⟩,aqp,λ_=>Eq6.rfl'⟩,λk hk=>ae zO,zS,zS,?_,?_⟩
   ·simp [results159,ren,aW,aw,aF]
   ·exact iu
  | false =>
   rw [cR] at HT
   repeat' first|refine cT ?_|((first|refine gwR [54] ?_|refine gwD [54] ?_);intro Q hQ _;(repeat first|simp [hC,hY]|refine aE HT G0F (B:=200) (aT (fy _ _ _)) (λk=>if k=100 then 304 else k) (λk hk=>ae zO) aN zS sI ai ax ?_);refine dq hQ ?_)|fail
   refine gj ?_;refine qM trivial ?_;refine cv (f:=.func 92) (cap:=#[]) hC (wO 464 zO b off n cap f h eK st) rfl zS rfl rfl aS aq zS aZ aq zS bO ?_ ?_
   ·rintro v ns ⟨c4,M4,g4,l1,l2,l3,rfl,rfl⟩;simp [ak]
   rintro v ns ⟨c4,M4,g4,l1,l2,l3,rfl,rfl⟩;refine By trivial ?_;refine cu ?_;refine iI ?_;refine ⟨.inr trivial,zR G0F,_,_,λk=>if k=1000 then 464 else k,⟨f,20,⟨_,⟨c4,M4,g4,l1,l2,l3,rfl,rfl⟩,rfl⟩,h.i6,λe=>ir⟩,λk hk=>ae zO,zS,zS,?_,?_⟩
   ·simp [results159,ren,aW,aw,aF]
   ·exact iu
structure L3 (L:cf) (ka ks:Nat) (bm bs:Blk):Prop where
 any:LAny L
 am:(ka,bm)∈L
 kb:(ks,bs)∈L
section
variable {L:cf} {ka ks:Nat} {b b2:Blk}
theorem L3.ok (h:L3 L ka ks b b2):LOk L 200:=h.any.ok
theorem L3.fx (h:L3 L ka ks b b2):∀ p∈L,p.2.fx:=h.any.fx
theorem L3.mem (h:L3 L ka ks b b2) (p:Nat×Blk) (hp:p∈L):hpL G0 L p.1=some p.2:=h.any.mem p hp
theorem L3.a (h:L3 L ka ks b b2):hpL G0 L ka=some b:=h.mem _ h.am
theorem L3.s (h:L3 L ka ks b b2):hpL G0 L ks=some b2:=h.mem _ h.kb
theorem L3.k1 (h:L3 L ka ks b b2):100<=ks:=(h.ok.big _ h.kb).1
theorem L3.k2 (h:L3 L ka ks b b2):ks<200:=(h.ok.big _ h.kb).2
theorem L3.a1 (h:L3 L ka ks b b2):100<=ka:=(h.ok.big _ h.am).1
theorem L3.a2 (h:L3 L ka ks b b2):ka<200:=(h.ok.big _ h.am).2
theorem L3.ne (h:L3 L ka ks b b2) (k:Nat) (hk:200<=k):(ks=k)=False:=by
 exact x8
theorem L3.na (h:L3 L ka ks b b2) (k:Nat) (hk:200<=k):(ka=k)=False:=by
 have:=h.a2;simp only [jv,iff_false];omega
theorem L3.low (h:L3 L ka ks b b2) (k:Nat) (hk:k<100):hpL G0 L k=G0 k:=h.ok.low k hk
theorem L3.ia (h:L3 L ka ks b b2):ka∈ak L:=aC.2 ⟨_,h.am,rfl⟩
theorem L3.ib (h:L3 L ka ks b b2):ks∈ak L:=aC.2 ⟨_,h.kb,rfl⟩
end
theorem ahW {f:FuncId} {L:cf} {ka ks:Nat} {bm bs:Blk} {off n cap au n2 av:Nat} {g bx tp nr md st:Int} {xs:ca} {R:Ij} (zE:∀ ρ,xs.map (ren ρ)=xs) (hT:L3 L ka ks bm bs)
  (hk:∀ v ns,R v ns->∀ k∈ak ns,k=1000) (hR:∀ ρ:Nat->Nat,ρ 1000=1000->RR ρ R=R)
  (h:∀ (L':cf) (ks:Nat),LTwo G0 L' ks bm bs->FunS prog G0 f (#[cfV (.slice (some ⟨100,off,none⟩) n cap) g bx tp nr md,.agg #[.int .i64 st,.slice (some ⟨ks,au,none⟩) n2 av]]++xs) (hpL G0 L') (ak L') R) :
  FunS prog G0 f (#[cfV (.slice (some ⟨ka,off,none⟩) n cap) g bx tp nr md,.agg #[.int .i64 st,.slice (some ⟨ks,au,none⟩) n2 av]]++xs) (hpL G0 L) (ak L) R:=by
 have aqI:∀ v ns,R v ns->∀ k∈ak ns,100<=mv2 ka ks k/\¬dom (hpL G0 L) (mv2 ka ks k):=λv ns hV k jR=>by
  rw [hk v ns hV k jR];have e:mv2 ka ks 1000=1000:=rfl;rw [e];exact ⟨zO,λhd=>hd (hT.ok.free G0F zO 1000 zO)⟩
 have Q0:∀ v ns,R v ns->∀ k∈ak ns,∀ l∈ak ns,mv2 ka ks k=mv2 ka ks l->k=l:=λv ns hV k jR l hl _=>by rw [hk v ns hV k jR,hk v ns hV l hl]
 by_cases cW:ka=ks
 ·subst cW;have:=hT.any.same hT.am hT.kb;subst this;exact (h _ _ (LTwo.one (hT.fx _ hT.am))).mvG (hT.any.mv1 (kb:=ka) hT.am) (by rw [vP,zE];simp [cfV,ren,aW,aw,aF,Gy.mv2]) (hR _ rfl) aqI Q0
 ·exact (h _ _ (LTwo.two (hT.fx _ hT.am) (hT.fx _ hT.kb))).mvG (hT.any.mv2 hT.am hT.kb cW) (by rw [vP,zE];simp [cfV,ren,aW,aw,aF,Gy.mv2]) (hR _ rfl) aqI Q0
def shK (nk k:Nat):Nat:=if 1000<=k then k - 1000+nk else k
theorem qp {nk k:Nat} (h:k<1000):shK nk k=k:=ae zO
theorem FunS.sh {fn:FuncId} {args:ca} {L:cf} {R R':Ij} (h:FunS prog G0 fn args (hpL G0 L) (ak L) R) (hL:LAny L) (nk:Nat) (rY:200<=nk) (hR:∀ v ns,R v ns->∀ k∈ak ns,1000<=k) (ea:args.map (ren (shK nk))=args) (eR:RR (shK nk) R=R') :
  FunS prog G0 fn args (hpL G0 L) (ak L) R':=by
 have kL:∀ k∈ak L,shK nk k=k:=λk hk=>by
  obtain ⟨p,hp,rfl⟩:=aC.1 hk;have:=hL.ok.big p hp;exact qp zO
 refine h.mvL (eG:=hpL G0 L) (PN:=ak L) G0F hL.ok (shK nk) (λk hk=>qp zO) ea ?_ eR hL.ok.low ?_ ?_ (λv ns hV k hk=>?_) (λv ns hV k hk l hl e=>?_)
 ·rw [gK kL];simp
 ·intro p hp;have hb:=hL.ok.big p hp;rw [qp zO,Blk.fx_rn (hL.fx p hp)];exact ⟨hb.1,LOk.at hL.ok.one p hp⟩
 ·exact pN
 ·have:=hR v ns hV k hk;unfold shK;rw [ag this];refine ⟨zO,λh=>?_⟩;obtain ⟨p,hp,e⟩:=aC.1 h;have:=hL.ok.big p hp;omega
 ·have:=hR v ns hV k hk;have:=hR v ns hV l hl;unfold shK at e;rw [ag zO,ag zO] at e;omega
section
variable {P:Program} {C:Ctx} {n:Nat} {d:List Deferred} {ro:Option Nat} {K:l6}
theorem apv {ops:Array Oper} {o:Oper} {post:og} {base k:Nat} {ts:fp} {hp:Hp} {yc:Nat} (hw:gp ops o ts=some true) (h:GL P C n d ro ops base k ({ o with guard:=none }::post) ts hp yc K):GL P C n d ro ops base k (o::post) ts hp yc K:=by
 intro r a W hi hf hb hG hR;have h1:=h r a W hi hf hb hG hR;unfold wpListIn at h1 |-;rw [mB hi.rel hw];simp only [aV];have e:Region.wanted { o with guard:=none } (yielded ops a.tmps)=true:=rfl;rw [e] at h1;simp only [aV] at h1;exact h1
end
theorem FunS.impL {f:FuncId} {args:ca} {L:cf} {R R':Ij} (h:FunS prog G0 f args (hpL G0 L) (ak L) R) (hL:LOk L 200)
  (eI:∀ v ns,R' v ns->aL (eo (λk=>k∈ak L) ns) v/\(∀ p∈ns,200<=p.1/\p.2.ids (eo (λk=>k∈ak L) ns))/\(∀ k b c,(k,b)∈ns->(k,c)∈ns->b=c)) (hi:∀ v ns,R v ns->R' v ns):FunS prog G0 f args (hpL G0 L) (ak L) R':=by
 have e:=LOk.rst (m:=L) G0F;have ext:∀ ns k,eo (λk=>k∈ak L) ns k->eo (dom (hpL G0 L)) ns k:=λns k hk=>hk.imp (λh1=>hL.sub k h1) id;refine ⟨h.enter,h.ids,h.closed,λv ns hR=>?_,λr W h1 h2 h3 h4=>(h.run r W h1 h2 h3 h4).mono λe W' ⟨v,ns,r',q1,q2⟩=>⟨v,ns,r',hi v ns q1,q2⟩⟩;rw [e];obtain ⟨f1,f2,f3⟩:=eI v ns hR;refine ⟨jd (ext ns) f1,λk hk=>?_,f3,λp hp=>Blk.ids_mono (ext ns) (f2 p hp).2⟩;obtain ⟨p,hp,rfl⟩:=aC.1 hk;have:=(f2 p hp).1;exact ⟨zO,λhd=>hd (hL.free G0F zO _ this)⟩
theorem AJ {L:cf} {ka ks:Nat} {bm bs:Blk} (hT:L3 L ka ks bm bs) {off n cap au n2 av:Nat} {fm fs:aJ} (hm:MB bm off n fm) (fO:SB bs au n2 fs) (g bx tp nr md st:Int) :
  Fun prog G0 22 #[cfV (.slice (some ⟨ka,off,none⟩) n cap) g bx tp nr md,.agg #[.int .i64 st,.slice (some ⟨ks,au,none⟩) n2 av]] (hpL G0 L) (ak L) (.ret (.bool (oB n n2 (fk n fm g bx tp nr md) (aY st fs n2))) []) :=
 Au rfl hT.any hT.am hT.kb λL' ks h=>Oj L' ks bm bs h off n cap au n2 av fm fs hm fO g bx tp nr md st
theorem amb {L:cf} {ks:Nat} {bm bs:Blk} (hT:LTwo G0 L ks bm bs) {off n cap au av:Nat} {fm fs:aJ} (hm:MB bm off n fm) (fO:SB bs au n fs) (fL:n<=av) {g bx tp nr md st:Int} (hs:i64 st) {p q:Int} (eM:fk n fm g bx tp nr md=true) (jh:aY st fs n=true) (Zi:r5 p q=true) (Ac:HW fs n=false) :
  FunS prog G0 158 (#[cfV (.slice (some ⟨100,off,none⟩) n cap) g bx tp nr md,.agg #[.int .i64 st,.slice (some ⟨ks,au,none⟩) n av]]++#[.int .i64 p,.int .i64 q]) (hpL G0 L) (ak L) (OpR 1000 st n λF=>Eq6 n F (kcF p q g fm fs n)):=by
 have hi:∀ j,j<6*n->i64 (kcF p q g fm fs n j):=λj hj=>by
  have h1:=al9 jh hj;unfold kcF;split
  ·exact QM
  ·have:=aje (i:=j / 6) (u:=j%6 - 3) eM jh Zi zO zO (MY.1 Ac _ zO);exact QM
 refine (adu L 100 ks bm bs (LKa.of hT) off n cap au av fm fs hm fO fL g bx tp nr md st hs p q eM jh Zi Ac rfl).impL hT.ok uL λv ns h=>?_
 cases hF:aY st (kcF p q g fm fs n) n with
 | true =>
  rw [hF] at h;exact ⟨_,_,h,hi,λ_=>Eq6.rfl'⟩
 | false =>
  rw [hF] at h;exact ⟨_,_,h,fO.i6,λe=>ir⟩
theorem agz {L:cf} {ka ks:Nat} {bm bs:Blk} (hT:L3 L ka ks bm bs) {off n cap au av:Nat} {fm fs:aJ} (hm:MB bm off n fm) (fO:SB bs au n fs) (fL:n<=av) {g bx tp nr md st:Int} (hs:i64 st) {p q:Int} (eM:fk n fm g bx tp nr md=true) (jh:aY st fs n=true) (Zi:r5 p q=true) (Ac:HW fs n=false) :
  FunS prog G0 158 (#[cfV (.slice (some ⟨ka,off,none⟩) n cap) g bx tp nr md,.agg #[.int .i64 st,.slice (some ⟨ks,au,none⟩) n av]]++#[.int .i64 p,.int .i64 q]) (hpL G0 L) (ak L) (OpR 1000 st n λF=>Eq6 n F (kcF p q g fm fs n)) :=
 ahW (λρ=>aN) hT (λv ns h=>zf h) (λρ e=>wK e st n _) λL' ks h=>amb h hm fO fL hs eM jh Zi Ac
theorem tK {n:Nat} {f:aJ} {g bx tp nr md:Int} (h:fk n f g bx tp nr md=true):(1<=bx/\bx<=1048576)/\(1<=tp/\tp<=65536)/\(1<=nr/\nr<=2097152)/\0<=md/\md<=4:=by
 unfold fk at h;simp only [bn,wiB,db] at h;obtain ⟨_,_,_,hb,ht,hn,hm⟩:=h;rw [bm (x:=2*bx) zO zO] at hn;omega
theorem DB {p:Prop} (h:p:=by exact .inl ⟨h0,aN,by simp [rnL]⟩):p:=h
theorem xc {p:Prop} (h:p:=by simp [results156,ren,aW,aw,aF]):p:=h
theorem wW {p:Prop} (h:p:=by simp [Qw,hA,gu,hka]):p:=h
theorem sU {p:Prop} (h:p:=by simp [cfV,ren,aW,aw,aF,qp (zO:ka<1000),qp (zO:ks<1000)]):p:=h
theorem ta {p:Prop} (h:p:=by
 intro k b c h1 h2;simp at h1 h2;rw [h1.2,h2.2]):p:=h
theorem Er {p:Prop} (h:p:=by
 simp [jH,Wn,QS,aM,aI,aP,dom,BB,kL];simp [cE,aM,aI,aP,dom]):p:=h
theorem DT {p:Prop} (h:p:=by
 rcases Xv with e|⟨c,e⟩
 ·exact .inl e
 ·simp at e<;>exact .inr e.1.symm):p:=h
theorem GV {p:Prop} (h:p:=by
 simp [dom,fP,ren,aW,aw,aF,aL,cQ,aI,aP,pZ,hA,hS,cW,gu]):p:=h
def KB (nk t:Nat) (p:aJ) (v:Value) (ns:cf):Prop:=(t=0/\v=.slice none 0 0/\ns=[])\/∃ c,0<t/\t<=c/\v=.slice (some ⟨nk,0,none⟩) t c/\ns=[(nk,⟨fa (3*c) .i64 p,.ty 201⟩)]
theorem Bh {nk t:Nat} {p:aJ} {v:Value} {ns:cf} (h:KB nk t p v ns):∀ k∈ak ns,k=nk:=by
 rcases h with ⟨_,_,rfl⟩|⟨c,_,_,_,rfl⟩<;>simp [ak]
theorem Px {D:iH} {nk t:Nat} {p:aJ} {v:Value} {ns:cf} (hn:200<=nk) (h:KB nk t p v ns):aL (eo D ns) v/\(∀ p∈ns,200<=p.1/\p.2.ids (eo D ns))/\(∀ k b c,(k,b)∈ns->(k,c)∈ns->b=c):=by
 rcases h with ⟨_,rfl,rfl⟩|⟨c,_,_,rfl,rfl⟩
 ·simp
 ·refine ⟨sn,?_,?_⟩
  ·simp only [br,bN];exact ⟨hn,Blk.fx_ids (fy _ _ _) _⟩
  ·exact ta
theorem V7 {nk t:Nat} {p:aJ} {ρ:dR} (h:ρ 1000=nk) {v:Value} {ns:cf} (hv:KB 1000 t p v ns):KB nk t p (ren ρ v) (rnL ρ ns):=by
 rcases hv with ⟨h0,rfl,rfl⟩|⟨c,h1,h2,rfl,rfl⟩
 ·exact DB
 ·exact .inr ⟨c,h1,h2,by simp [ren,aW,aw,aF,h],by simp [rnL,jH,h]⟩
def PC (f:aJ) (n i0 k0 t:Nat) (p:aJ):Prop:=∀ i k,i<k->k<n->(i<i0\/(i=i0/\k<k0))->∃ m,m<t/\p (3*m+2)=d2F f i k
def ZD (nk:Nat) (f:aJ) (n:Nat) (v:Value) (ns:cf):Prop:=∃ t p,t<=20/\PC f n n 0 t p/\KB nk t p v ns
def pa0 (b:Blk) (st:Int) (off n cap i:Nat) (sl:Value) (ns:cf):GS :=
 ⟨tsL [(1,.pointer (some ⟨200,0,none⟩)),(2,.slice none 0 0),(3,sl),(4,.int .i64 i)],hpL G0 ((200,cE st 100 off n cap)::(100,b)::ns),300,0⟩
def pa1 (b:Blk) (st:Int) (off n cap i k:Nat) (sl:Value) (ns:cf):GS :=
 ⟨tsL [(1,.pointer (some ⟨200,0,none⟩)),(2,.slice none 0 0),(3,sl),(4,.int .i64 i),(5,.int .i64 k)],hpL G0 ((200,cE st 100 off n cap)::(100,b)::ns),300,0⟩
def paI (b:Blk) (st:Int) (off n cap:Nat) (f:aJ) (m:Nat) (s:GS):Prop:=∃ i t p sl ns,i+m=n/\t<=4*i/\PC f n i 0 t p/\KB 208 t p sl ns/\s=pa0 b st off n cap i sl ns
def paJ (b:Blk) (st:Int) (off n cap:Nat) (f:aJ) (i m:Nat) (s:GS):Prop:=∃ k t p sl ns,k+m=n/\i<k/\t<=4*i+k/\PC f n i k t p/\KB 208 t p sl ns/\s=pa1 b st off n cap i k sl ns
theorem LC {C:Ctx} {b:Blk} {st:Int} {off n cap t:Nat} {p:aJ} {sl:Value} {ns:cf} {s:GS} (hC:C.G=G0) (bA:C.hp0=hpL G0 [(100,b)]) (hb:b.fx) (hV:KB 208 t p sl ns) (l:List (Nat×Value)) (hy:s.yc=0)
  (h2:∀ q∈l,s.ts q.1=q.2) (hl:∀ q∈l,q.2=sl\/q.2=.pointer (some ⟨200,0,none⟩)\/bp q.2=true) (awH:s.hp 200=some (cE st 100 off n cap)) (nZ:s.hp 100=some b) (awI:∀ q∈ns,s.hp q.1=some q.2):Weak C s ⟨tsL l,hpL G0 ((200,cE st 100 off n cap)::(100,b)::ns),300,s.yc⟩:=by
 have kL:=λD=>Blk.fx_ids hb D;refine cB _ 300 hC G0F (m0:=[(100,b)]) bA zO (λq hq=>⟨h2 q hq,?_⟩) ?_ ?_
 ·rcases hl q hq with e|e|e
  ·rw [e];rcases hV with ⟨_,rfl,rfl⟩|⟨c,_,_,rfl,rfl⟩<;>simp [dom]
  ·rw [e];simp [dom]
  ·exact bw e
 ·intro q hq;simp only [aj] at hq;rcases hq with rfl|rfl|hq
  ·exact ⟨awH,by simp [cE,aM,aI,aP,dom],zO,zO⟩
  ·exact ⟨nZ,kL _,zO,zO⟩
  ·refine ⟨awI q hq,?_⟩;rcases hV with ⟨_,rfl,rfl⟩|⟨c,_,_,rfl,rfl⟩
   ·cases hq
   ·simp only [br] at hq;subst hq;exact ⟨Blk.fx_ids (fy _ _ _) _,zO,zO⟩
 ·simp [nZ]
theorem Py (b:Blk) (off n cap:Nat) (f:aJ) (h:SB b off n f) (st:Int) (c0:aY st f n=true) :
  FunS prog G0 174 #[.agg #[.int .i64 st,.slice (some ⟨100,off,none⟩) n cap]] (hpL G0 [(100,b)]) (ak [(100,b)]) (ZD 1000 f n):=by
 refine eW (B:=200) G0F func174 rfl call174 (aT h.fx) ?_ (λv ns ⟨t,p,_,_,hV⟩=>Px zO hV) (by simp [ntmps174]) zO ?_
 ·exact RU
 intro C hC bA hY;have hr:=λρ=>Blk.fx_rn h.fx ρ;have kL:=λD=>Blk.fx_ids h.fx D;obtain ⟨_,⟨n1,n4⟩,_⟩:=ji c0
 repeat' first|refine cT ?_|((first|refine gwR [54] ?_|refine gwD [54] ?_);intro Q hQ _;(repeat first|simp [hC,hY,c0]|refine aE (lV b off n cap f h st) G0F (B:=200) (aT h.fx) (λk=>k) (λk hk=>rfl) aN zS dx ai ax ?_);refine dq hQ ?_)|fail
 refine jL (paI b st off n cap f) (m0:=n) (s0:=pa0 b st off n cap 0 (.slice none 0 0) []) ?_ ⟨0,0,λ_=>0,_,_,zO,zO,λi k h1 h2 h3=>zO,.inl ⟨rfl,rfl,rfl⟩,rfl⟩ ?_
 ·exact LC (t:=0) (p:=λ_=>0) hC bA h.fx (.inl ⟨rfl,rfl,rfl⟩) _ rfl zS zS (by simp [cE]) zS zS
 rintro m _ ⟨i,t,p,sl,ns,zM,ht,hp,hV,rfl⟩;by_cases hm:m=0
 ·obtain rfl:i=n:=zO;rcases hV with ⟨h0,rfl,rfl⟩|⟨c,h0,hc,rfl,rfl⟩
  ·unfold pa0 cE;refine iI ?_;refine ⟨.inr trivial,zR G0F,_,_,λk=>k,⟨t,p,zO,hp,.inl ⟨h0,rfl,rfl⟩⟩,λ_ _=>rfl,zS,zS,by simp [results174,ren,aW,aw,aF],zS⟩
  ·unfold pa0 cE;refine iI ?_;refine ⟨.inr trivial,zR G0F,_,_,λk=>if k=1000 then 208 else k,⟨t,p,zO,hp,.inr ⟨c,h0,hc,rfl,rfl⟩⟩,λk hk=>ae zO,zS,zS,by simp [results174,ren,aW,aw,aF],iu⟩
 ·have ew:i<n:=zO;have cS:(i:Int)<n:=zO;have hs:=ua ew n4;unfold pa0 cE;refine cA (k2 cS hs) ?_;refine jL (paJ b st off n cap f i) (m0:=n - (i+1)) (s0:=pa1 b st off n cap i (i+1) sl ns) ?_ ⟨i+1,t,p,_,_,zO,zO,zO,λa k h1 h2 h3=>hp a k h1 h2 zO,hV,rfl⟩ ?_
  ·refine LC hC bA h.fx hV _ rfl (by simp [hs]) zS (by simp [cE]) zS ?_;rcases hV with ⟨_,rfl,rfl⟩|⟨c,_,_,rfl,rfl⟩<;>simp
  clear hV hp ht;rintro m2 _ ⟨k,t,p,sl,ns,hkm,RZ,ht,hp,hV,rfl⟩;by_cases NG:m2=0
  ·obtain rfl:k=n:=zO;unfold pa1 cE;refine cA hs ?_;refine ⟨λx=>x,pa0 b st off k cap (i+1) sl ns,k - (i+1),?_,⟨i+1,t,p,_,_,zO,zO,λa q h1 h2 h3=>hp a q h1 h2 zO,hV,rfl⟩,zO⟩;have QS:=λρ=>Blk.fx_rn h.fx ρ;have BB:=λD c=>Blk.fx_ids (fy (3*c) p 201) D;rcases hV with ⟨_,rfl,rfl⟩|⟨c,_,_,rfl,rfl⟩
   all_goals
    refine mC (s:=GS.mk _ _ _ 0) _ _ 300 hC G0F (m0:=[(100,b)]) bA zO ?_ ?_ ?_ ?_ ?_
    ·exact s9
    ·exact Er
    ·simp
    ·intro k hk;rfl
    ·exact nv
  ·have R1:k<n:=zO;have jR:(k:Int)<n:=zO;have hz:(0:Int)<=i:=zO;have hzk:(0:Int)<=k:=zO;have hsk:=ua R1 n4;have li:=h.vec ew (u:=0) zO;have lk:=h.vec R1 (u:=0) zO;simp only [du] at li lk;have F9:=λK=>aqb (jy c0 ew).1 (jy c0 R1).1 K;have ed:(f (6*i) - f (6*k))*(f (6*i) - f (6*k))+(f (6*i+1) - f (6*k+1))*(f (6*i+1) - f (6*k+1))+(f (6*i+2) - f (6*k+2))*(f (6*i+2) - f (6*k+2))=d2F f i k:=rfl
   have aiV:PC f n i (k+1) (t+1) (λq=>if q<3*t then p q else if q=3*t then i else if q=3*t+1 then k else d2F f i k):=λa q h1 h2 h3=>by
    by_cases e:a=i/\q=k
    ·obtain ⟨rfl,rfl⟩:=e;exact ⟨t,zO,by simp only [ae (zO:¬3*t+2<3*t),ae (zO:¬3*t+2=3*t),ae (zO:¬3*t+2=3*t+1)]⟩
    ·obtain ⟨m,AP,NG⟩:=hp a q h1 h2 zO;exact ⟨m,zO,by simp only [ag (zO:3*m+2<3*t)];exact NG⟩
   have QS:=λρ=>Blk.fx_rn h.fx ρ;generalize hG:(λq=>if q<3*t then p q else if q=3*t then (i:Int) else if q=3*t+1 then (k:Int) else d2F f i k)=G at aiV
   have hGe:∀ u,u<3->(λu:Nat=>if u=0 then (i:Int) else if u=1 then (k:Int) else d2F f i k) u=G (3*t+u):=λu hu=>by
    subst hG;obtain rfl|rfl|rfl:u=0\/u=1\/u=2:=zO
    ·simp
    ·simp;intro e;omega
    ·simp;intro e;omega
   have hGp:∀ j,j<3*t->p j=G j:=λj hj=>by subst hG;exact (ag hj).symm
   rcases hV with ⟨h0,rfl,rfl⟩|⟨c,h0,hc,rfl,rfl⟩
   all_goals
    unfold pa1 cE;refine cA (Kx ew cS R1 jR hz hzk hsk li lk F9 ed) ?_;refine gj ?_;refine Rl trivial ?_;refine uu (m:=3) (i:=t) (j:=524) (o9:=24) (z:=.agg #[.int .i64 0,.int .i64 0,.int .i64 0]) (T2:=.ty 201) (G:=G) (ev:=λu=>if u=0 then (i:Int) else if u=1 then (k:Int) else d2F f i k) rfl zS rfl underlying187 (aG sizeOf201) ah ah zO cZ cZ zO zO ?_ zS (by simp [HO]) hGe zO ?_
    ·first|(refine .inl ⟨h0,?_⟩;simp;done)|(refine .inr ⟨208,c,p,?_,?_,?_,hc,hGp⟩<;>first|omega|simp)
    rintro k' c' g' Xv zN qX Oy
    have eG:PC f n i (k+1) (t+1) g':=λa q h1 h2 h3=>by
     obtain ⟨m,AP,hm3⟩:=aiV a q h1 h2 h3;exact ⟨m,AP,(Oy _ zO).trans hm3⟩
    have Tt:k'=532\/k'=208:=by
     exact DT
    obtain ⟨κ,hκ⟩:∃ κ,k'=κ:=⟨_,rfl⟩
    rcases Tt with rfl|rfl
    all_goals
     refine qM trivial ?_;refine cu ?_;refine cA hsk ?_;refine ⟨λx=>if x=208 then κ else x,pa1 b st off n cap i (k+1) (.slice (some ⟨208,0,none⟩) (t+1) c') [(208,⟨fa (3*c') .i64 g',.ty 201⟩)],n - (k+1),?_,⟨k+1,t+1,g',_,_,zO,zO,zO,eG,.inr ⟨c',zO,qX,rfl,rfl⟩,rfl⟩,zO⟩;subst hκ;have BB:=λD=>Blk.fx_ids (fy (3*c') g' 201) D;refine mC (s:=GS.mk _ _ _ 0) _ _ 300 hC G0F (m0:=[(100,b)]) bA zO ?_ ?_ ?_ ?_ ?_
     ·simp [dom,fP,ren,aW,aw,aF,aL,cQ,aI,aP,hsk]
     ·exact Er
     ·simp
     ·exact QX
     ·exact nv
theorem ac4 (ks nk:Nat) (pV:100<=ks) (hk:200<=nk) (cW:ks<nk) (b:Blk) (off n cap:Nat) (f:aJ) (h:SB b off n f) (st:Int) (c0:aY st f n=true) :
  FunS prog G0 174 #[.agg #[.int .i64 st,.slice (some ⟨ks,off,none⟩) n cap]] (hpL G0 [(ks,b)]) [ks] (ZD nk f n):=by
 refine (Py b off n cap f h st c0).own2 h.fx ks nk pV zO zO (λv ns ⟨t,p,_,_,hV⟩=>Bh hV) sD ?_;funext v ns;apply propext;constructor
 ·rintro ⟨v0,JF,⟨t,p,h1,h2,hV⟩,rfl,rfl⟩;exact ⟨t,p,h1,h2,V7 JT hV⟩
 ·rintro ⟨t,p,h1,h2,hV⟩;rcases hV with ⟨h0,rfl,rfl⟩|⟨c,h3,h4,rfl,rfl⟩
  ·exact ⟨_,_,⟨t,p,h1,h2,.inl ⟨h0,rfl,rfl⟩⟩,by simp [ren,aW,aw,aF],by simp [rnL]⟩
  ·exact ⟨_,_,⟨t,p,h1,h2,.inr ⟨c,h3,h4,rfl,rfl⟩⟩,by simp [ren,aW,aw,aF,JT],by simp [rnL,jH,JT]⟩
theorem Ka {i t:Nat} (h:i<t) (ht:t<=20):Int.bmod ((i:Int)+1) 18446744073709551616=((i+1:Nat):Int):=by
 rw [bm zO zO]
 rfl
theorem ast {n:Nat} {f:aJ} {g bx tp nr md:Int} (h:fk n f g bx tp nr md=true):Int.bmod (nr*nr) 18446744073709551616=nr*nr:=by
 obtain ⟨_,_,⟨n0,n1⟩,_⟩:=tK h;have:=ug (a:=nr) (m:=2097152) ⟨zO,zO,zO⟩;exact bm zO zO
def aid (nk:Nat) (f:aJ) (n:Nat) (nr:Int) (v:Value) (ns:cf):Prop:=∃ t p,(t=0->∀ i k,i<k->k<n->¬d2F f i k<nr*nr)/\KB nk t p v ns
def Pm (L:cf) (ka ks off n cap au av:Nat) (g bx tp nr md st:Int) (t:Nat) (c:Nat) (p:aJ) (i:Nat) (sl:Value) (ns:cf):GS :=
 ⟨tsL [(2,.pointer (some ⟨200,0,none⟩)),(3,.pointer (some ⟨208,0,none⟩)),(4,.slice none 0 0),(5,sl),(6,.slice (some ⟨240,0,none⟩) t c),(7,.int .i64 i)],
 hpL G0 (([(200,cfB (.slice (some ⟨ka,off,none⟩) n cap) g bx tp nr md),(208,cE st ks au n av),(240,⟨fa (3*c) .i64 p,.ty 201⟩)]++ns)++L),400,0⟩
def neI (L:cf) (ka ks off n cap au av:Nat) (g bx tp nr md st:Int) (t:Nat) (c:Nat) (p:aJ) (m:Nat) (s:GS):Prop:=∃ i t2 p2 sl ns,i+m=t/\t2<=i/\(t2=0->∀ j,j<i->¬p (3*j+2)<nr*nr)/\KB 248 t2 p2 sl ns/\s=Pm L ka ks off n cap au av g bx tp nr md st t c p i sl ns
theorem ahj {c:Nat} {p:aJ} {i:Nat} (hi:i<c):fB prog 201 ⟨fa (3*c) .i64 p,.ty 201⟩ (i*3)=some (.agg #[.int .i64 (p (3*i)),.int .i64 (p (3*i+1)),.int .i64 (p (3*i+2))]):=by
 have:=tZ (P:=prog) (T:=201) (m:=3) (j:=3*i) (cr isAgg201) (aG sizeOf201) zO (uO (3*c) p (.ty 201)) zO;rw [(zO:i*3=0+3*i),this,HO];simp only [du]
theorem TY {L:cf} {ka ks:Nat} {bm bs:Blk} (hT:L3 L ka ks bm bs) (off n cap au av:Nat) (fm fs:aJ) (hm:MB bm off n fm) (fO:SB bs au n fs) (g bx tp nr md st:Int) (eM:fk n fm g bx tp nr md=true) (jh:aY st fs n=true) :
  FunS prog G0 156 #[cfV (.slice (some ⟨ka,off,none⟩) n cap) g bx tp nr md,.agg #[.int .i64 st,.slice (some ⟨ks,au,none⟩) n av]] (hpL G0 L) (ak L) (aid 1000 fs n nr):=by
 refine eW (B:=200) G0F func156 rfl call156 hT.ok ?_ (λv ns ⟨t,p,_,hV⟩=>Px zO hV) (by simp [ntmps156]) zO ?_
 ·exact Si
 intro C hC bA hY;have hA:=hT.a;have hS:=hT.s;have cW:=hT.ne;have gu:=hT.na;have jj:=hT.low;have pV:=hT.k1;have n6:=hT.k2;have hka:=hT.a1;have Je:=hT.a2;have Qw:=λρ=>Blk.fx_rn hm.fx ρ;have qY:=tL bm off n cap fm hm g bx tp nr md;rw [eM] at qY;obtain ⟨_,_,⟨n0,n1⟩,_⟩:=tK eM;have dP:=ac4 ks 240 zO zO zO bs au n av fs fO st jh;unfold cfV at qY |-
 repeat' first|refine cT ?_|refine Bz ?_|fail
 refine gj ?_;refine qM (k4 hA hS cW gu) ?_;refine cv (f:=.func 174) (cap:=#[]) hC dP rfl zS rfl rfl aS aq zS aZ aq gQ cF ?_ ?_
 ·rintro v ns ⟨t,p,_,_,hV⟩ k hk;rw [Bh hV k hk];omega
 rintro v ns ⟨t,p,ht,hp,hV⟩;rcases hV with ⟨h0,rfl,rfl⟩|⟨c,h0,hc,rfl,rfl⟩
 ·
  refine qM trivial ?_;refine cu ?_
  repeat' first|refine cT ?_|refine Bz ?_|fail
  refine fD 0 (λ_=>⟨tsL [(2,.pointer (some ⟨200,0,none⟩)),(3,.pointer (some ⟨208,0,none⟩)),(4,.slice none 0 0),(5,.slice none 0 0),(6,.slice none 0 0),(7,.int .i64 0)],hpL G0 ([(200,cfB (.slice (some ⟨ka,off,none⟩) n cap) g bx tp nr md),(208,cE st ks au n av)]++L),400,0⟩) ?_ (λi hi=>zO) ?_
  ·refine uY _ 400 hC G0F hT.ok hT.fx bA zO ?_ ?_ fS
   ·exact yt
   ·simp [cfB,cE,aM,aI,aP,dom,hA,hS,cW,gu]
  ·unfold cfB cE
   repeat' first|refine cT ?_|refine Bz ?_|fail
   refine ⟨.inr trivial,Aj G0F,_,_,λk=>k,⟨0,p,λ_ i k h1 h2=>by obtain ⟨m,AP,_⟩:=hp i k h1 h2 zO;omega,.inl ⟨rfl,rfl,rfl⟩⟩,λ_ _=>rfl,zS,zS,xc,zS⟩
 ·have alg:=λD=>Blk.fx_ids (fy (3*c) p 201) D;refine qM trivial ?_;refine cu ?_
  repeat' first|refine cT ?_|refine Bz ?_|fail
  refine jL (neI L ka ks off n cap au av g bx tp nr md st t c p) (m0:=t) (s0:=Pm L ka ks off n cap au av g bx tp nr md st t c p 0 (.slice none 0 0) []) ?_ ⟨0,0,λ_=>0,_,_,zO,zO,λ_ j hj=>zO,.inl ⟨rfl,rfl,rfl⟩,rfl⟩ ?_
  ·refine uY _ 400 hC G0F hT.ok hT.fx bA zO ?_ ?_ fS
   ·exact yt
   ·simp [cfB,cE,aM,aI,aP,dom,alg,hA,hS,cW,gu]
  rintro m _ ⟨i,t2,p2,sl,ns,zM,ht2,hq,hV,rfl⟩;by_cases vw:m=0
  ·obtain rfl:i=t:=zO
   have iJ:t2=0->∀ a k,a<k->k<n->¬d2F fs a k<nr*nr:=λe a k h1 h2=>by
    obtain ⟨m,AP,NG⟩:=hp a k h1 h2 zO;rw [<-NG];exact hq e m AP
   rcases hV with ⟨H3,rfl,rfl⟩|⟨c2,H3,RB,rfl,rfl⟩
   ·unfold Pm cfB cE
    repeat' first|refine cT ?_|refine Bz ?_|fail
    refine ⟨.inr trivial,Aj G0F,_,_,λk=>k,⟨t2,p2,iJ,.inl ⟨H3,rfl,rfl⟩⟩,λ_ _=>rfl,zS,zS,xc,zS⟩
   ·unfold Pm cfB cE
    repeat' first|refine cT ?_|refine Bz ?_|fail
    refine ⟨.inr trivial,Aj G0F,_,_,λk=>if k=1000 then 248 else k,⟨t2,p2,iJ,.inr ⟨c2,H3,RB,rfl,rfl⟩⟩,λk hk=>ae zO,zS,zS,xc,iu⟩
  ·have pT:i<t:=zO;have H5:i<c:=zO;have cS:(i:Int)<t:=zO;have hz:(0:Int)<=i:=zO;have lp:=ahj (p:=p) H5;have l2:=qh (T:=201) (M:=3*c) (g:=p) (q:=3*i+2) zO;rw [(zO:3*i+2=i*3+2)] at l2;have l2':fB prog 3 ⟨fa (3*c) .i64 p,.ty 201⟩ (i*3+2)=some (.int .i64 (p (3*i+2))):=by rw [(zO:3*i+2=i*3+2)];exact l2
   clear l2;by_cases hd:p (3*i+2)<nr*nr;rotate_left
   ·have wE:t2=0->∀ j,j<i+1->¬p (3*j+2)<nr*nr:=λe j hj=>by
     by_cases ej:j=i
     ·subst ej;exact hd
     ·exact hq e j zO
    have hV0:=hV;have alf:=λρ=>nY (show Blk.fx ⟨fa (3*c) .i64 p,.ty 201⟩ from fy _ _ _) ρ;have ML:=λD c2=>Blk.fx_ids (fy (3*c2) p2 201) D;have abn:=λρ c2=>nY (show Blk.fx ⟨fa (3*c2) .i64 p2,.ty 201⟩ from fy _ _ _) ρ;rcases hV with ⟨H3,rfl,rfl⟩|⟨c2,H3,RB,rfl,rfl⟩
    all_goals
     unfold Pm cfB cE;have qn:=ast eM;have pZ:=Ka pT ht
     repeat' first|refine cT ?_|((first|refine gwR [53] ?_|refine gwD [53] ?_);intro Q hQ _;(repeat first|simp [hC,hY,cS,hz,pZ,l2',qn,hd,pT,H5,hA,hS,cW,gu]|refine aE qY G0F (B:=200) (aT hm.fx) (λk=>if k=100 then ka else k) (λk hk=>ae zO) dI zS wW ai ax ?_);refine dq hQ ?_)|fail
     clear qn pZ;refine ⟨λx=>x,Pm L ka ks off n cap au av g bx tp nr md st t c p (i+1) _ _,t - (i+1),?_,⟨i+1,t2,p2,_,_,zO,zO,wE,hV0,rfl⟩,zO⟩;have pZ:=Ka pT ht;refine Ik (s:=GS.mk _ _ _ 0) _ _ 400 hC G0F hT.ok hT.fx bA zO ?_ ?_ ?_ ?_ fS
     ·exact GV
     ·simp [cfB,cE,Blk.rn,aw,aF,aM,aI,aP,dom,alg,alf,ML,abn,hA,hS,cW,gu]
     ·simp
     ·intro x hx;rfl
   ·generalize hG:(λq=>if q<3*t2 then p2 q else p (3*i+(q - 3*t2)))=G
    have hGe:∀ u,u<3->(λu:Nat=>p (3*i+u)) u=G (3*t2+u):=λu hu=>by
     subst hG;simp only [ae (zO:¬3*t2+u<3*t2),(zO:3*t2+u - 3*t2=u)]
    have hGp:∀ j,j<3*t2->p2 j=G j:=λj hj=>by subst hG;exact (ag hj).symm
    have alf:=λρ=>nY (show Blk.fx ⟨fa (3*c) .i64 p,.ty 201⟩ from fy _ _ _) ρ;rcases hV with ⟨H3,rfl,rfl⟩|⟨c2,H3,RB,rfl,rfl⟩
    all_goals
     unfold Pm cfB cE;have qn:=ast eM;have pZ:=Ka pT ht
     repeat' first|refine cT ?_|((first|refine gwR [53] ?_|refine gwD [53] ?_);intro Q hQ _;(repeat first|simp [hC,hY,cS,hz,pZ,l2',qn,hd,pT,H5,hA,hS,cW,gu]|refine aE qY G0F (B:=200) (aT hm.fx) (λk=>if k=100 then ka else k) (λk hk=>ae zO) dI zS wW ai ax ?_);refine dq hQ ?_)|fail
     clear qn pZ;refine gj ?_;refine Rl (k9 lp H5 pT cS hz hA hS cW gu) ?_;refine uu (m:=3) (i:=t2) (j:=600) (o9:=24) (z:=.agg #[.int .i64 0,.int .i64 0,.int .i64 0]) (T2:=.ty 201) (G:=G) (ev:=λu=>p (3*i+u)) rfl zS rfl underlying187 (aG sizeOf201) ah ah zO cZ cZ zO zO ?_ zS (by simp [HO]) hGe zO ?_
     ·first|(refine .inl ⟨H3,?_⟩;simp;done)|(refine .inr ⟨248,c2,p2,?_,?_,?_,RB,hGp⟩<;>first|omega|simp)
     rintro k' c' g' Xv zN qX Oy
     have Tt:k'=608\/k'=248:=by
      exact DT
     obtain ⟨κ,hκ⟩:∃ κ,k'=κ:=⟨_,rfl⟩
     rcases Tt with rfl|rfl
     all_goals
      refine qM trivial ?_;refine cu ?_;have pZ:=Ka pT ht;refine cA (k5 pZ hA hS cW gu) ?_;clear pZ;refine ⟨λx=>if x=248 then κ else x,Pm L ka ks off n cap au av g bx tp nr md st t c p (i+1) (.slice (some ⟨248,0,none⟩) (t2+1) c') [(248,⟨fa (3*c') .i64 g',.ty 201⟩)],t - (i+1),?_,⟨i+1,t2+1,g',_,_,zO,zO,λe=>zO,.inr ⟨c',zO,qX,rfl,rfl⟩,rfl⟩,zO⟩;subst hκ;have ML:=λD=>Blk.fx_ids (fy (3*c') g' 201) D;have abn:=λρ=>nY (show Blk.fx ⟨fa (3*c') .i64 g',.ty 201⟩ from fy _ _ _) ρ;have pZ:=Ka pT ht;refine Ik (s:=GS.mk _ _ _ 0) _ _ 400 hC G0F hT.ok hT.fx bA zO ?_ ?_ ?_ ?_ fS
      ·exact GV
      ·simp [cfB,cE,Blk.rn,aw,aF,aM,aI,aP,dom,alg,alf,ML,abn,hA,hS,cW,gu]
       try (refine ⟨?_,?_⟩<;>intro e<;>omega)
      ·simp
      ·intro x hx;exact ae zO
def avO (f:aJ) (n:Nat) (v:Value) (ns:cf):Prop:=∃ e:Int,v=.int .i64 e/\ns=[]/\(e=0->HW f n=false)
theorem acC {f:aJ} {n:Nat} {nr:Int} (h1:1<=nr) (h:∀ i k,i<k->k<n->¬d2F f i k<nr*nr):HW f n=false:=by
 have hp:0<nr*nr:=iR zO zO;refine MY.2 λi hi=>agy.2 λk hk cW e=>?_;by_cases c:i<k
 ·have:=h i k c hk;rw [Ve] at e;omega
 ·have:=h k i zO hi;omega
theorem N3 {L:cf} {ka ks:Nat} {bm bs:Blk} (hT:L3 L ka ks bm bs) (off n cap au av:Nat) (fm fs:aJ) (hm:MB bm off n fm) (fO:SB bs au n fs) (g bx tp nr md st:Int) (eM:fk n fm g bx tp nr md=true) (jh:aY st fs n=true) :
  FunS prog G0 138 #[cfV (.slice (some ⟨ka,off,none⟩) n cap) g bx tp nr md,.agg #[.int .i64 st,.slice (some ⟨ks,au,none⟩) n av]] (hpL G0 L) (ak L) (avO fs n):=by
 refine eW (B:=200) G0F func138 rfl call138 hT.ok ?_ (λv ns ⟨e,h1,h2,_⟩=>by subst h1 h2;simp) (by simp [ntmps138]) zO ?_
 ·exact Si
 intro C hC bA hY;have hA:=hT.a;have hS:=hT.s;have cW:=hT.ne;have gu:=hT.na;have jj:=hT.low;have pV:=hT.k1;have n6:=hT.k2;have hka:=hT.a1;have Je:=hT.a2;have Qw:=λρ=>Blk.fx_rn hm.fx ρ;have Su:=λρ=>Blk.fx_rn fO.fx ρ;have qY:=tL bm off n cap fm hm g bx tp nr md;have HT:=lV bs au n av fs fO st;rw [eM] at qY;rw [jh] at HT;obtain ⟨_,_,⟨n0,n1⟩,_⟩:=tK eM
 have dN:FunS prog G0 156 #[cfV (.slice (some ⟨ka,off,none⟩) n cap) g bx tp nr md,.agg #[.int .i64 st,.slice (some ⟨ks,au,none⟩) n av]] (hpL G0 L) (ak L) (aid 304 fs n nr):=by
  refine (TY hT off n cap au av fm fs hm fO g bx tp nr md st eM jh).sh hT.any 304 zO (λv ns ⟨t,p,_,hV⟩ k hk=>by rw [Bh hV k hk];omega) sU ?_;funext v ns;apply propext;constructor
  ·rintro ⟨v0,JF,⟨t,p,h1,hV⟩,rfl,rfl⟩;exact ⟨t,p,h1,V7 zD hV⟩
  ·rintro ⟨t,p,h1,hV⟩;rcases hV with ⟨h0,rfl,rfl⟩|⟨c,h3,h4,rfl,rfl⟩
   ·exact ⟨_,_,⟨t,p,h1,.inl ⟨h0,rfl,rfl⟩⟩,by simp [ren,aW,aw,aF],by simp [rnL]⟩
   ·exact ⟨_,_,⟨t,p,h1,.inr ⟨c,h3,h4,rfl,rfl⟩⟩,by simp [ren,aW,aw,aF,shK],by simp [rnL,jH,shK]⟩
 unfold cfV at qY dN |-
 repeat' first|refine cT ?_|((first|refine gwR [53,54] ?_|refine gwD [53,54] ?_);intro Q hQ _;(repeat first|simp [hC,hY,hA,hS,cW,gu]|refine aE qY G0F (B:=200) (aT hm.fx) (λk=>if k=100 then ka else k) (λk hk=>ae zO) dI zS wW ai ax ?_|refine aE HT G0F (B:=200) (aT fO.fx) (λk=>if k=100 then ks else k) (λk hk=>ae zO) aN zS nF ai ax ?_);refine dq hQ ?_)|fail
 refine gj ?_;refine By (k4 hA hS cW gu) ?_;refine cv (f:=.func 156) (cap:=#[]) hC dN rfl zS rfl rfl aS aq zS aZ aq jB cF ?_ ?_
 ·rintro v ns ⟨t,p,_,hV⟩ k hk;rw [Bh hV k hk];omega
 rintro v ns ⟨t,p,hp,hV⟩;rcases hV with ⟨h0,rfl,rfl⟩|⟨c,h0,hc,rfl,rfl⟩
 ·
  refine By trivial ?_;refine cu ?_;refine iI ?_;refine ⟨.inr trivial,Aj G0F,_,_,λk=>k,⟨0,rfl,rfl,λ_=>acC n0 (hp h0)⟩,λ_ _=>rfl,zS,zS,by simp [results138,ren,aW,aw,aF],zS⟩
 ·have sB:(0:Int)<t:=zO;refine By (k2 sB h0) ?_;refine cu ?_;refine cA sB ?_;refine ⟨.inr trivial,Aj G0F,_,_,λk=>k,⟨130,rfl,rfl,λe=>ir⟩,λ_ _=>rfl,zS,zS,by simp [results138,ren,aW,aw,aF],zS⟩
end Go.Gy
