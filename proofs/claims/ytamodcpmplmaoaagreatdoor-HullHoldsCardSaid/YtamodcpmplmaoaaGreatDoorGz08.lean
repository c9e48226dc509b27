/-
  Lemmas of this claim, in their order (GyJS, GyJT, GyJU, GyMA, GyMB, GyMC, GyMD, GyMF, GyMG, GyMH, GyMI, GyMJ, GyMK, GyH, GyHS, GyHP, GyHT, GyHC, GyHX, GyHL, GyHV, GyML, GyHU).
  Conditions: those of each theorem.
-/
import Derived.Test.YtamodcpmplmaoaaGreatDoorGz07
import Derived.Stop.LaidErr
import Derived.Test.YtamodcpmplmaoaaGreatDoorCards
import Derived.Test.YtamodcpmplmaoaaGreatDoorTie
import Derived.WalkKit
import Derived.ProofKit
import Derived.OpenShut
import Derived.Below
import Derived.ChangeSame
import Derived.Deep.DeepHandedRow
import Derived.Lib.LaidTab
import Derived.Deep.Slices
import Derived.ReadAgain
import Derived.Carry
import Derived.Deep.Strs
import Derived.ChangeSlices
set_option linter.unusedSimpArgs false
set_option linter.unusedVariables false
set_option maxRecDepth 100000
set_option maxHeartbeats 32000000
namespace Go.Gy
open Go Go.RowKit Go.Proofs Go.Proofs.Tryz
def hkr (k:Nat):Nat:=if k=100 then 208 else if k=108 then 256 else if k=116 then 312 else k
theorem zvu {k:Nat} (h:k<100):hkr k=k:=by unfold hkr;rw [if_neg (by omega),if_neg (by omega),if_neg (by omega)]
theorem z2y {hp:Hp} (a:hp 208=some hkM) (b:hp 256=some hkA) (c:hp 312=some hkB):∀ p∈hkL,100<=hkr p.1/\hp (hkr p.1)=some (p.2.rn hkr):=by
 have f1:=Blk.fx_rn zqu.fx hkr
 have f2:=Blk.fx_rn zvr.fx hkr
 have f3:=Blk.fx_rn zvs.fx hkr
 simp only [hkL,List.mem_cons,List.not_mem_nil,or_false,forall_eq_or_imp,forall_eq,f1,f2,f3]
 exact ⟨⟨by decide,a⟩,⟨by decide,b⟩,by decide,c⟩
def hkT:Blk:=⟨(fv 28 (zdo hkw)),.ty 38⟩
theorem zvt:LB hkT 0 2 hkw:=⟨jc9 28 (zdo hkw) _,λx hx=>by
 obtain ⟨j,_,rfl⟩:=zkj hx
 unfold zdo
 exact zd1 _ _,λi q hq=>by
 unfold hkw
 split
 ·exact zsq.r q hq
 ·exact zz4.r q hq,λi hi c h1 h2=>by
 unfold hkw
 split
 ·exact zsq.i c h1 h2
 ·exact zz4.i c h1 h2,λi hi=>by
 unfold hkw
 split
 ·exact ⟨zsq.w0,zsq.w1⟩
 ·exact ⟨zz4.w0,zz4.w1⟩,by omega⟩
theorem jhx:(fv 28 (zdo hkw))=#[.int .u64 (wi 8388608 0),.int .u64 (wi 8388608 1),.int .u64 (wi 8388608 2),.int .u64 (wi 8388608 3),.int .u64 (wi 8388608 0),.int .u64 (wi 8388608 1),.int .u64 (wi 8388608 2),.int .u64 (wi 8388608 3),.int .i64 (-2),.int .i64 6,.int .i64 0,.int .i64 0,.int .i64 0,.int .i64 0,.int .u64 0,.int .u64 0,.int .u64 0,.int .u64 0,.int .u64 0,.int .u64 0,.int .u64 0,.int .u64 0,.int .i64 0,.int .i64 0,.int .i64 0,.int .i64 0,.int .i64 0,.int .i64 0]:=by
 refine (zno (N:=28) rfl λj hj=>?_).symm
 have:j=0\/j=1\/j=2\/j=3\/j=4\/j=5\/j=6\/j=7\/j=8\/j=9\/j=10\/j=11\/j=12\/j=13\/j=14\/j=15\/j=16\/j=17\/j=18\/j=19\/j=20\/j=21\/j=22\/j=23\/j=24\/j=25\/j=26\/j=27:=by omega
 rcases this with rfl|rfl|rfl|rfl|rfl|rfl|rfl|rfl|rfl|rfl|rfl|rfl|rfl|rfl|rfl|rfl|rfl|rfl|rfl|rfl|rfl|rfl|rfl|rfl|rfl|rfl|rfl|rfl<;>simp [zdo,zj0,hkw,hkl,lsN,zar]
theorem z5g:Fun prog G0 20 #[cfV (.slice (some ⟨100,0,none⟩) 3 3) 1 1 1 1 0] (hpL G0 [(100,⟨#[.int .i64 1,.int .i64 1,.int .i64 1],.ty 3⟩)]) (zab [(100,(⟨#[.int .i64 1,.int .i64 1,.int .i64 1],.ty 3⟩:Blk))]) (.ret (.int .i64 6) []) :=
 z0t _ 0 3 3 (λ_=>1) ⟨λj hj=>by
  have:j=0\/j=1\/j=2:=by omega
  rcases this with rfl|rfl|rfl<;>rfl,znp rfl,λj hj=>(show i64 1 by decide),by omega⟩ 1 1 1 1 0
theorem zp1:Ret prog G0 9 #[] (.bool true):=by
 refine za2 G0F func9 rfl call9 rfl (by simp) (by simp [ntmps9]) ?_
 intro C hC hC0 hY
 have lo:=z5f
 have ln:=z5h
 have tk:=zhd hkT 0 2 2 hkw zvt 0 (λ_=>0) (zqv 0 (by decide))
 rw [z5e] at tk
 have mo:=z5g
 have wd:=λ(K:Value->Prop)=>zaf (K:=K) G0W (by kernel_rfl) (zsp 2 hkv (zdn (by decide)) (zdn (by decide)) (by decide) (by decide))
 have h1:=λ(K:Value->Prop)=>zaf (K:=K) G0W (by kernel_rfl) (zhy 2 hkv hkl z2z zsq)
 have h2:=λ(K:Value->Prop)=>zaf (K:=K) G0W (by kernel_rfl) (zhy 0 (λ_=>0) hkl (zqv 0 (by decide)) zsq)
 have r1:=λ(K:Value->Prop)=>ze3 z2z K
 have r2:=λ(K:Value->Prop)=>ze3 (zqv 0 (by decide)) K
 have r3:=λ(K:Value->Prop)=>ze3 (zqv (-1) (by decide)) K
 rw [jhy] at h1
 rw [jhz] at h2
 rw [jh0] at r1
 rw [jh1] at r2
 rw [jh2] at r3
 unfold cfV zcm at lo ln
 unfold zbq za8 at tk wd h1 h2 r1 r2 r3
 unfold zcm at h1 h2
 simp only [hkl,lsN,hkv,zar] at lo ln tk wd h1 h2 r1 r2 r3
 unfold cfV at mo
 have o1:i64 8388608:=by decide
 have fT:=Blk.fx_rn zvt.fx
 repeat' first|refine gwZ ?_|((first|refine gwR [10,16,20] ?_|refine gwD [10,16,20] ?_);intro Q hQ _;(repeat first|simp [hC,hY,o1,wd,h1,h2,r1,r2,r3,zar]|(refine zae lo G0F zjf.ok hkr (λk hk=>zvu hk) ?_ (by simp) (z2y (by simp [hkM]) (by simp [hkA]) (by simp [hkB])) (by simp [zab,hkL,hkr]) (by simp [zab,hkL,hkr];rfl) ?_;focus (simp [ren,zay,zaj,zam,hkr];done))|(refine zae ln G0F zjf.ok hkr (λk hk=>zvu hk) ?_ (by simp) (z2y (by simp [hkM]) (by simp [hkA]) (by simp [hkB])) (by simp [zab,hkL,hkr]) (by simp [zab,hkL,hkr];rfl) ?_;focus (simp [ren,zay,zaj,zam,hkr];done))|(refine zae tk G0F (B:=200) (zax zvt.fx) (λk=>if k=100 then 448 else k) (λk hk=>if_neg (by omega)) ?_ (by simp) (by simp [fT];simp [hkT,jhx];kernel_rfl) (by simp [zab]) (by simp [zab];rfl) ?_;focus (simp [ren,zay,zaj,zam];done))|(refine zae mo G0F (B:=200) (zax (znp rfl)) (λk=>if k=100 then 1176 else k) (λk hk=>if_neg (by omega)) ?_ (by simp) (by simp [Blk.rn,zaj,zam]) (by simp [zab]) (by simp [zab];rfl) ?_;focus (simp [ren,zay,zaj,zam];done)));refine gwq hQ ?_)|refine gwC ?_ ?_<;>intro hb
 refine ⟨.inr trivial,?_⟩
 simp [results9]
theorem zon (K:Value->Prop):zbe prog G0 9 #[] K↔K (.bool true):=zaf G0W (by kernel_rfl) zp1
section
variable {b:Blk} {off n:Nat} {w:Nat->Nat->Int}
theorem LB.wide (h:LB b off n w) {i e:Nat} (hi:i<n) (he:e<2):zc2 prog 30 b (off+i*14+4*e)=some (wd (w i e)):=by
 have hbrd:=Blk.fx_rd h.fx
 have:=jbw (P:=prog) (T:=30) (m:=4) (j:=14*i+4*e) (zba isAgg30) (zai sizeOf30) (by omega) h.rd (by omega) (λq hq=>by unfold zdo;exact zd1 _ _)
 rw [show off+i*14+4*e=off+(14*i+4*e) by omega,this]
 refine congrArg some (congrArg Value.agg (zno (N:=4) rfl λj hj=>?_).symm)
 have h1:(14*i+4*e+j) / 14=i:=by omega
 have h2:(14*i+4*e+j)%14=4*e+j:=by omega
 unfold zdo
 rw [h1,h2]
 have a:e=0\/e=1:=by omega
 have c:j=0\/j=1\/j=2\/j=3:=by omega
 rcases a with rfl|rfl<;>rcases c with rfl|rfl|rfl|rfl<;>rfl
theorem LB.int (h:LB b off n w) {i q:Nat} (hi:i<n) (hq:q<6):zc2 prog 3 b (off+i*14+(8+q))=some (.int .i64 (if q<3 then w i (2+q) else w i (5+q))):=by
 have hbrd:=Blk.fx_rd h.fx
 have hv:zdo w (14*i+(8+q))=.int .i64 (if q<3 then w i (2+q) else w i (5+q)):=by
  unfold zdo
  rw [show (14*i+(8+q)) / 14=i by omega,show (14*i+(8+q))%14=8+q by omega]
  have:q=0\/q=1\/q=2\/q=3\/q=4\/q=5:=by omega
  rcases this with rfl|rfl|rfl|rfl|rfl|rfl<;>rfl
 have:=jbx (P:=prog) (T:=3) (j:=14*i+(8+q)) (zba isAgg3) h.rd (by omega) (by rw [hv];rfl) (by rw [hv];rfl)
 rw [show off+i*14+(8+q)=off+(14*i+(8+q)) by omega,this,hv]
end
end Go.Gy
namespace Go.Gy
open Go Go.RowKit Go.Proofs Go.Proofs.Tryz
section
variable {L:List (Nat×Blk)} {p pa pb:Option Addr} {n cap na capa nb capb:Nat} {g bx tp nr md sta stb:Int}
end
section
variable {L:List (Nat×Blk)} {p pa pb:Option Addr} {n cap na capa nb capb:Nat} {g bx tp nr md sta stb:Int}
end
section
variable {L:List (Nat×Blk)} {p pa pb:Option Addr} {n cap na capa nb capb:Nat} {g bx tp nr md sta stb:Int}
def hlB (lo hi p0 p1 p2 q0 q1 q2:Int):Blk:=⟨#[.int .u64 (wi lo 0),.int .u64 (wi lo 1),.int .u64 (wi lo 2),.int .u64 (wi lo 3),.int .u64 (wi hi 0),.int .u64 (wi hi 1),.int .u64 (wi hi 2),.int .u64 (wi hi 3),.int .i64 p0,.int .i64 p1,.int .i64 p2,.int .i64 q0,.int .i64 q1,.int .i64 q2],.ty 38⟩
theorem jbd (lo hi p0 p1 p2 q0 q1 q2:Int):(hlB lo hi p0 p1 p2 q0 q1 q2).fx:=λx hx=>by
 simp only [hlB,List.mem_toArray,List.mem_cons,List.not_mem_nil,or_false] at hx
 rcases hx with rfl|rfl|rfl|rfl|rfl|rfl|rfl|rfl|rfl|rfl|rfl|rfl|rfl|rfl<;>rfl
end
def NS (p:Option Addr) (n cap:Nat):Prop:=p=none/\n=0/\cap=0
def MS (L:List (Nat×Blk)) (p:Option Addr) (n cap:Nat):Prop:=∃ k off b fm,p=some ⟨k,off,none⟩/\(k,b)∈L/\MB b off n fm/\n<=cap
def SS (L:List (Nat×Blk)) (p:Option Addr) (n cap:Nat):Prop:=∃ k off b fs,p=some ⟨k,off,none⟩/\(k,b)∈L/\SB b off n fs/\n<=cap
theorem NS.sl {L:List (Nat×Blk)} {p:Option Addr} {n cap:Nat} (h:NS p n cap):SlI L p:=by rw [h.1];exact SlI.nil
theorem MS.sl {L:List (Nat×Blk)} {p:Option Addr} {n cap:Nat} (h:MS L p n cap):SlI L p:=by obtain ⟨k,off,b,fm,rfl,h1,_⟩:=h;exact SlI.at h1
theorem SS.sl {L:List (Nat×Blk)} {p:Option Addr} {n cap:Nat} (h:SS L p n cap):SlI L p:=by obtain ⟨k,off,b,fm,rfl,h1,_⟩:=h;exact SlI.at h1
theorem LAny.mv0 {L:List (Nat×Blk)} (hT:LAny L):MvG G0 G0 [] L (λk=>k) :=
 ⟨G0F,G0F,⟨200,zeo⟩,⟨200,hT.ok⟩,λk b hk=>⟨hk,rfl⟩,(λp hp=>by cases hp),(λk hk=>by cases hk),(λk hk=>by cases hk)⟩
section
variable {L:List (Nat×Blk)} {p pa pb:Option Addr} {n cap na capa nb capb:Nat} {g bx tp nr md sta stb:Int}
end
def z3i (x0 x1 x2 y0 y1 y2:Int):Bool:=decide (x0<=y0)&&(decide (x1<=y1)&&decide (x2<=y2))
theorem zpt (x0 x1 x2 y0 y1 y2:Int):Ret prog G0 47 #[.agg #[.int .i64 x0,.int .i64 x1,.int .i64 x2],.agg #[.int .i64 y0,.int .i64 y1,.int .i64 y2]] (.bool (z3i x0 x1 x2 y0 y1 y2)):=by
 refine za2 G0F func47 rfl call47 rfl (by simp) (by simp [ntmps47]) ?_
 intro C hC hC0 hY
 unfold z3i
 by_cases a:x0<=y0
 ·rw [decide_eq_true a]
  by_cases b:x1<=y1
  ·rw [decide_eq_true b]
   repeat' first|refine gwZ ?_|(refine gwX ?_;intro Q hQ _;simp [hC,hY,a,b];refine gwq hQ ?_)|refine gwC ?_ ?_<;>intro hb
   refine ⟨.inr trivial,?_⟩
   simp [results47]
  ·rw [decide_eq_false b]
   repeat' first|refine gwZ ?_|(refine gwX ?_;intro Q hQ _;simp [hC,hY,a,b];refine gwq hQ ?_)|refine gwC ?_ ?_<;>intro hb
   refine ⟨.inr trivial,?_⟩
   simp [results47]
 ·rw [decide_eq_false a]
  repeat' first|refine gwZ ?_|(refine gwX ?_;intro Q hQ _;simp [hC,hY,a];refine gwq hQ ?_)|refine gwC ?_ ?_<;>intro hb
  refine ⟨.inr trivial,?_⟩
  simp [results47]
theorem zn9 (x0 x1 x2 y0 y1 y2:Int) (K:Value->Prop):zbe prog G0 47 #[.agg #[.int .i64 x0,.int .i64 x1,.int .i64 x2],.agg #[.int .i64 y0,.int .i64 y1,.int .i64 y2]] K↔K (.bool (z3i x0 x1 x2 y0 y1 y2)):=zaf G0W (by kernel_rfl) (zpt x0 x1 x2 y0 y1 y2)
theorem z6y {N:Int} {v:Nat->Int} (z:¬N=0):ze7 ⟨N,v⟩=(decide (0<N)&&(decide (N<=1073741824)&&(decide (v 0<=v 1)&&(z3i (v 2) (v 3) (v 4) (v 5) (v 6) (v 7)&&z3i (v 8) (v 9) (v 10) (v 11) (v 12) (v 13))))):=by
 rw [Bool.eq_iff_iff,zti (h:=⟨N,v⟩) z]
 unfold z3i
 simp only [Bool.and_eq_true,decide_eq_true_eq]
 constructor
 ·rintro ⟨⟨a,b⟩,c,d⟩
  have d0:=d 0 (by omega)
  have d1:=d 1 (by omega)
  have d2:=d 2 (by omega)
  exact ⟨a,b,c,⟨d0.1,d1.1,d2.1⟩,d0.2,d1.2,d2.2⟩
 ·rintro ⟨a,b,c,⟨d0,d1,d2⟩,e0,e1,e2⟩
  refine ⟨⟨a,b⟩,c,λq hq=>?_⟩
  have:q=0\/q=1\/q=2:=by omega
  rcases this with rfl|rfl|rfl
  ·exact ⟨d0,e0⟩
  ·exact ⟨d1,e1⟩
  ·exact ⟨d2,e2⟩
theorem zze {x y:Int}:(zch x y<=0)=(x<=y):=by
 unfold zch
 split
 ·simp;omega
 ·split
  ·simp;omega
  ·simp;omega
theorem znq (N:Int) (v:Nat->Int) (h:HOk N v):Ret prog G0 15 #[zbq N v] (.bool (ze7 ⟨N,v⟩)):=by
 by_cases z:N=0
 ·subst z
  unfold zbq za8
  refine za2 G0F func15 rfl call15 (by simp) (by simp) (by simp [ntmps15]) ?_
  intro C hC hC0 hY
  repeat' first|refine gwZ ?_|refine gwW ?_|refine gwC ?_ ?_<;>intro hb
  refine ⟨.inr trivial,?_⟩
  simp [results15]
  have s0:sz (0:Int)=0:=zd7 (by decide) (by decide)
  have e0:(wi (v 0) 0==0&&(wi (v 0) 1==0&&(wi (v 0) 2==0&&wi (v 0) 3==0)))=decide (v 0=0):=by
   have:=weq (v 0) 0
   rw [zd7 h.w0.1 h.w0.2,s0] at this
   simpa using this
  have e1:(wi (v 1) 0==0&&(wi (v 1) 1==0&&(wi (v 1) 2==0&&wi (v 1) 3==0)))=decide (v 1=0):=by
   have:=weq (v 1) 0
   rw [zd7 h.w1.1 h.w1.2,s0] at this
   simpa using this
  rw [e0,e1]
  unfold ze7
  rw [if_pos rfl,show List.range 14=[0,1,2,3,4,5,6,7,8,9,10,11,12,13] from rfl]
  rw [Bool.eq_iff_iff]
  simp only [List.all_cons,List.all_nil,Bool.and_eq_true,decide_eq_true_eq,beq_iff_eq,and_true]
  constructor
  ·rintro ⟨⟨a0,a1⟩,⟨a2,a3,a4⟩,⟨a5,a6,a7⟩,⟨a8,a9,a10⟩,a11,a12,a13⟩
   exact ⟨a0,a1,a2,a3,a4,a5,a6,a7,a8,a9,a10,a11,a12,a13⟩
  ·rintro ⟨a0,a1,a2,a3,a4,a5,a6,a7,a8,a9,a10,a11,a12,a13⟩
   exact ⟨⟨a0,a1⟩,⟨a2,a3,a4⟩,⟨a5,a6,a7⟩,⟨a8,a9,a10⟩,a11,a12,a13⟩
 ·have s0:sz (v 0)=v 0:=zd7 h.w0.1 h.w0.2
  have s1:sz (v 1)=v 1:=zd7 h.w1.1 h.w1.2
  have zb:(N==0)=false:=by simpa using z
  have hc:=zze (x:=v 0) (y:=v 1)
  have o1:=λK=>zn9 (v 2) (v 3) (v 4) (v 5) (v 6) (v 7) K
  have o2:=λK=>zn9 (v 8) (v 9) (v 10) (v 11) (v 12) (v 13) K
  rw [z6y z]
  unfold zbq za8
  generalize z3i (v 2) (v 3) (v 4) (v 5) (v 6) (v 7)=B1 at *
  generalize z3i (v 8) (v 9) (v 10) (v 11) (v 12) (v 13)=B2 at *
  refine za2 G0F func15 rfl call15 (by simp) (by simp) (by simp [ntmps15]) ?_
  intro C hC hC0 hY
  by_cases c1:0<N
  ·rw [decide_eq_true c1]
   by_cases c2:N<=1073741824
   ·rw [decide_eq_true c2]
    by_cases c3:v 0<=v 1
    ·rw [decide_eq_true c3]
     cases B1 with
     | true =>
      repeat' first|refine gwZ ?_|(refine gwX ?_;intro Q hQ _;simp [hC,hY,z,zb,c1,c2,c3,s0,s1,hc,o1,o2];refine gwq hQ ?_)|refine gwC ?_ ?_<;>intro hb
      refine ⟨.inr trivial,?_⟩
      simp [results15]
     | false =>
      repeat' first|refine gwZ ?_|(refine gwX ?_;intro Q hQ _;simp [hC,hY,z,zb,c1,c2,c3,s0,s1,hc,o1,o2];refine gwq hQ ?_)|refine gwC ?_ ?_<;>intro hb
      refine ⟨.inr trivial,?_⟩
      simp [results15]
    ·rw [decide_eq_false c3]
     repeat' first|refine gwZ ?_|(refine gwX ?_;intro Q hQ _;simp [hC,hY,z,zb,c1,c2,c3,s0,s1,hc];refine gwq hQ ?_)|refine gwC ?_ ?_<;>intro hb
     refine ⟨.inr trivial,?_⟩
     simp [results15]
   ·rw [decide_eq_false c2]
    repeat' first|refine gwZ ?_|(refine gwX ?_;intro Q hQ _;simp [hC,hY,z,zb,c1,c2];refine gwq hQ ?_)|refine gwC ?_ ?_<;>intro hb
    refine ⟨.inr trivial,?_⟩
    simp [results15]
  ·rw [decide_eq_false c1]
   repeat' first|refine gwZ ?_|(refine gwX ?_;intro Q hQ _;simp [hC,hY,z,zb,c1];refine gwq hQ ?_)|refine gwC ?_ ?_<;>intro hb
   refine ⟨.inr trivial,?_⟩
   simp [results15]
theorem zkl {N:Int} {v:Nat->Int} (h:HOk N v) (K:Value->Prop):zbe prog G0 15 #[zbq N v] K↔K (.bool (ze7 ⟨N,v⟩)):=zaf G0W (by kernel_rfl) (znq N v h)
def zkx:Blk:=⟨#[.slice none 0 0],.ty 36⟩
def zuf (nk:Nat) (v:Value) (ns:List (Nat×Blk)):Prop:=v=.func (.func 80) #[] #[.pointer (some ⟨nk,0,none⟩)]/\ns=[(nk,zkx)]
theorem zwb :
  FunS prog G0 48 #[.slice none 0 0] (hpL G0 []) (zab []) (zuf 1000):=by
 refine zei (B:=200) G0F func48 rfl call48 zeo ?_ ?_ (by simp [ntmps48]) (by omega) ?_
 ·simp [zan,za0,zah,zal,zab]
 ·rintro v ns ⟨rfl,rfl⟩
  refine ⟨by simp [zan,za0,zah,zal,zcu,zab],?_,?_⟩
  ·simp [zkx,zac,zah,zal,zcu,zab]
  ·intro k b c h1 h2
   simp at h1 h2
   obtain ⟨_,rfl⟩:=h1
   obtain ⟨_,rfl⟩:=h2
   rfl
 intro C hC hC0 hY
 repeat' first|refine gwZ ?_|refine gwW ?_|refine gwC ?_ ?_<;>intro hb
 refine ⟨.inr trivial,kpS G0F,_,_,λk=>if k=1000 then 200 else k,⟨rfl,rfl⟩,λk hk=>if_neg (by omega),by simp,by simp,by simp [results48,ren,zay,zaj,zam],?_⟩
 simp [zkx,Blk.rn,zaj,zam]
theorem zpk:LOk [(108,zkx)] 200:=⟨by simp,by simp [zab],by
 simp only [List.mem_cons,List.not_mem_nil,or_false,forall_eq]
 simp [zkx,zac,zah,zal,zab]⟩
theorem zs2:IterK prog G0 80 #[.pointer (some ⟨108,0,none⟩)] (hpL G0 [(108,zkx)]) (zab [(108,zkx)]) []:=by
 refine zc7 (B:=200) (v:=.tuple #[]) G0F func80 rfl call80 zpk ?_ (by simp [ntmps80]) (by omega) ?_
 ·simp [zan,za0,zah,zal,zab]
 intro C l stop hC hC0 hY
 have hL:=zpk
 have hlt:∀ k,dom (hpL G0 [(108,zkx)]) k->k<200:=λk hk=>Classical.byContradiction λh1=>hk (hL.free G0F (by omega) k (by omega))
 unfold zkx
 repeat' first|refine gwZ ?_|refine gwW ?_|refine gwC ?_ ?_<;>intro hb
 refine zc3 0 (λi=>⟨tsL [(0,.func (.yield l) #[] #[]),(1,.pointer (some ⟨108,0,none⟩)),(5,.slice none 0 0),(6,.int .i64 0),(7,.int .i64 0)],hpL G0 [(108,zkx)],300,0⟩) ?_ (λi hi=>by omega) ?_
 ·refine zbi _ 300 hC G0F (m0:=[(108,zkx)]) hC0 (by omega) ?_ ?_ ?_
  ·simp [zan,za0,zah,zal,dom]
  ·simp [zkx,zac,zah,zal,dom]
  ·simp [zkx]
 ·unfold zkx
  repeat' first|refine gwZ ?_|refine gwW ?_|refine gwC ?_ ?_<;>intro hb
  refine ⟨.inl trivial,by simp [results80],by simp,λk hk=>?_⟩
  have hk:=hlt k hk
  first|rfl|(simp (disch:=omega) only [zaa])
theorem z0n {nk:Nat} {ρ:Nat->Nat} (h0:ρ 1000=nk):RR ρ (zuf 1000)=zuf nk:=by
 funext v ns
 apply propext
 constructor
 ·rintro ⟨v0,ns0,⟨rfl,rfl⟩,rfl,rfl⟩
  exact ⟨by simp [ren,zay,zaj,zam,h0],by simp [rnL,zkx,Blk.rn,zaj,zam,h0]⟩
 ·rintro ⟨rfl,rfl⟩
  exact ⟨_,_,⟨rfl,rfl⟩,by simp [ren,zay,zaj,zam,h0],by simp [rnL,zkx,Blk.rn,zaj,zam,h0]⟩
theorem zhf {nk:Nat} {v:Value} {ns:List (Nat×Blk)} (h:zuf nk v ns):∀ q∈zab ns,q=nk:=by
 obtain ⟨rfl,rfl⟩:=h
 intro q hq
 simpa [zab] using hq
theorem zs1 (nk:Nat) (hnk:200<=nk) :
  FunS prog G0 48 #[.slice none 0 0] (hpL G0 []) [] (zuf nk):=by
 have e2:jbz nk 1000=nk:=rfl
 refine zwb.mvL (hp':=hpL G0 []) (rs':=[]) G0F zeo (jbz nk) (λk hk=>if_neg (by omega)) ?_ (by simp [zab]) (z0n e2) (λk hk=>za7 (by simp) hk) (by simp) (by simp [zab]) (λv ns hV k hk=>?_) (λv ns hV k hk l hl e=>by rw [zhf hV k hk,zhf hV l hl])
 ·simp [ren,zay,zaj,zam]
 ·rw [zhf hV k hk,e2]
  exact ⟨by omega,by simp⟩
theorem zpl (nk:Nat) (hnk:200<=nk) {hp:Hp} (hG:∀ k,k<100->hp k=G0 k) (hc:hp nk=some zkx) :
  IterK prog G0 80 #[.pointer (some ⟨nk,0,none⟩)] hp [nk] []:=by
 refine zef zs2 G0F zpk (λk=>if k=108 then nk else k) (λk hk=>if_neg (by omega)) (by simp [zam]) (by simp [zab]) hG ?_ (by simp [zab])
 simp only [List.mem_cons,List.not_mem_nil,or_false,forall_eq]
 refine ⟨by simp;omega,?_⟩
 simp [zkx,Blk.rn,zaj,zam]
 exact hc
theorem z5b (N:Int) (v:Nat->Int) (h:HOk N v) :
  Fun prog G0 16 #[zbq N v,.slice none 0 0] (hpL G0 []) (zab []) (.ret (zbq N v) []):=by
 have hR:=ze3 h
 unfold zbq za8 at hR |-
 refine zaz (B:=200) G0F func16 rfl call16 zeo ?_ (zak (by simp [zd9,zbq,za8])) (by simp) (by simp) (by simp [ntmps16]) (by omega) ?_
 ·simp [zan,za0,zah,zal,zab]
 intro C hC hC0 hY
 cases hr:ze7 ⟨N,v⟩ with
 | false =>
  rw [hr] at hR
  repeat' first|refine gwZ ?_|(refine gwX ?_;intro Q hQ _;simp [hC,hY,hR];refine gwq hQ ?_)|refine gwC ?_ ?_<;>intro hb
  refine ⟨.inr rfl,?_,kpS G0F⟩
  simp [results16,zd9,zbq,za8]
 | true =>
  rw [hr] at hR
  repeat' first|refine gwZ ?_|(refine gwX ?_;intro Q hQ _;simp [hC,hY,hR];refine gwq hQ ?_)|refine gwC ?_ ?_<;>intro hb
  have hlo:=zs1 248 (by omega)
  refine zdf ?_
  simp only [Array.toList]
  refine gwl 1 ?_;intro Q hQ;simp [hC,hY];apply hQ
  simp only [wT,wM,Nat.reduceAdd]
  refine zeb (f:=.func 48) (cap:=#[]) hC hlo rfl (by simp) rfl rfl (by simp [okT]) (by simp [gev]) (by simp) (by simp [okX,zcj]) (by simp [gev]) (by simp) (by (intro k hk;first|rfl|(simp (disch:=omega) only [zbw,List.mem_cons,List.not_mem_nil,or_false,zaa,zag,zaq,if_neg,zbb]<;>done))) ?_ ?_
  ·intro w ns hV k hk
   rw [zhf hV k hk]
   omega
  rintro w' ns ⟨rfl,rfl⟩
  refine zec ?_
  repeat' first|refine gwZ ?_|(refine gwX ?_;intro Q hQ _;simp [hC,hY,zcq,zbb];refine gwq hQ ?_)|refine gwC ?_ ?_<;>intro hb
  simp only [zcq,zbb]
  have hix:=λN v D=>Blk.fx_ids (zci N v) D
  refine zgp (G:=G0) (f:=80) (rs:=[248]) (xs:=[]) (caps:=#[.pointer (some ⟨248,0,none⟩)]) (m0:=[]) [248] G0F hC hC0 hY (by simp) ?_ ?_ (by simp [ntmps16]) [(2,.pointer (some ⟨200,0,none⟩)),(4,.pointer (some ⟨208,0,none⟩))] [] (λc=>tkL ⟨N,v⟩) 1000 0 (by simp) (by omega) (by simp) (by simp [dom]) ?_ (by simp) (by simp) ?_ ?_ (by simp) ?_ ?_
  ·exact zpl 248 (by omega) (by (intro k hk;first|rfl|(simp (disch:=omega) only [zbw,List.mem_cons,List.not_mem_nil,or_false,zaa,zag,zaq,if_neg,zbb]<;>done))) (by simp [zkx])
  ·simp
  ·intro k hk b' hb'
   simp only [List.mem_cons,List.not_mem_nil,or_false] at hk
   subst hk
   simp at hb';subst hb';simp [zkx,zac,zah,zal]
  ·simp [tkL,zhB,zav,za8,zar]
  ·intro i hi
   simp [tkL,zhB,zan,za0,zah,zal,dom,hix]
  ·intro c x hc hx
   omega
  ·refine .inl ⟨rfl,?_⟩
   unfold tkL zhB zav za8
   simp only [ze0,zca,List.append_nil]
   repeat' first|refine gwZ ?_|(refine gwX ?_;intro Q hQ _;simp [hC,hY,zbw,zar];refine gwq hQ ?_)|refine gwC ?_ ?_<;>intro hb
   refine ⟨.inr rfl,by simp [results16,zd9,zbq,za8],zbz G0F (by simp [zbw]) (by (intro k hk;first|rfl|(simp (disch:=omega) only [zbw,List.mem_cons,List.not_mem_nil,or_false,zaa,zag,zaq,if_neg,zbb]<;>done)))⟩
theorem zkp (N:Int) (v:Nat->Int):zau (zbq N v)=true:=by simp [zbq,za8]
theorem zl1 {ρ:Nat->Nat} {N:Int} {v:Nat->Int}:ren ρ (zbq N v)=zbq N v:=zap (zkp N v)
def LW (L:List (Nat×Blk)) (p:Option Addr) (n cap:Nat) (w:Nat->Nat->Int):Prop:=NS p n cap\/∃ k off b,p=some ⟨k,off,none⟩/\(k,b)∈L/\LB b off n w/\n<=cap
theorem LW.sl {L:List (Nat×Blk)} {p:Option Addr} {n cap:Nat} {w:Nat->Nat->Int} (h:LW L p n cap w):SlI L p:=by
 rcases h with h|⟨k,off,b,rfl,h1,_⟩
 ·exact NS.sl h
 ·exact SlI.at h1
theorem z7g (h:HS) (w:Nat->Nat->Int):zov h w 0=h:=by unfold zov;split<;>rfl
theorem zmd {L:List (Nat×Blk)} (hT:LAny L) {p:Option Addr} {n cap:Nat} {w:Nat->Nat->Int} (hs:LW L p n cap w) {h:HS} (hh:HOk h.N h.v) :
  Fun prog G0 16 #[zd9 h,.slice p n cap] (hpL G0 L) (zab L) (.ret (zd9 (zov h w n)) []):=by
 unfold zd9
 rcases hs with ⟨rfl,rfl,rfl⟩|⟨k,off,b,rfl,h1,hL,_⟩
 ·rw [z7g]
  have:=(z5b h.N h.v hh).mvG (args':=#[zbq h.N h.v,.slice none 0 0]) hT.mv0 (by simp [zab]) (by simp [zbq,za8,ren,zay,zaj,zam])
  rw [zl1] at this
  exact this
 ·have:=(zhd b off n cap w hL h.N h.v hh).mvG (args':=#[zbq h.N h.v,.slice (some ⟨k,off,none⟩) n cap]) (hT.mv1 (kb:=k) h1) (by simp [zab]) (by simp [zbq,za8,ren,zay,zaj,zam,Gy.mv2])
  unfold zd9 at this
  rw [zl1] at this
  exact this
structure LA (A:Array Value) (C n:Nat) (w:Nat->Nat->Int):Prop where
 sz:A.size=14*C
 fl:∀ x∈A,za9 x=true
 rd:∀ j,j<14*n->A[j]? = some (zdo w j)
 le:n<=C
theorem zn0 {n:Nat} {w u:Nat->Nat->Int} {j:Nat}:zdo (zdy n w u) j=if j<14*n then zdo w j else zdo u (j - 14*n):=by
 unfold zdo zdy
 by_cases h:j<14*n
 ·rw [if_pos h,if_pos (by omega)]
 ·rw [if_neg h,if_neg (by omega),show (j - 14*n) / 14=j / 14 - n by omega,show (j - 14*n)%14=j%14 by omega]
theorem LA.zero:LA #[] 0 0 λ_ _=>0:=⟨rfl,by simp,λj hj=>by omega,Nat.le_refl _⟩
theorem LA.lb {A:Array Value} {C n:Nat} {w:Nat->Nat->Int} (h:LA A C n w) {T:TypeId} (ok:zhj w) (hi:∀ i,i<n->∀ c,2<=c->c<14->i64 (w i c)) (hw:∀ i,i<n->wr (w i 0)/\wr (w i 1)) (hn:n<=1000):LB ⟨A,.ty T⟩ 0 n w :=
 ⟨λj hj=>by rw [Nat.zero_add];exact h.rd j hj,h.fl,ok,hi,hw,by omega⟩
theorem LA.app {A B:Array Value} {C C' n m:Nat} {w u:Nat->Nat->Int} (h:LA A C n w) {nw rest:List Value} (hn:nw=(fv (14*m) (zdo u)).toList) (hB:B.toList=A.toList.take (n*14)++nw++rest) (hs:B.size=14*C') (hr:∀ x∈rest,za9 x=true) (hle:n+m<=C'):LA B C' (n+m) (zdy n w u):=by
 have hl:A.toList.length=14*C:=by simp [h.sz]
 have h1:=h.le
 refine ⟨hs,λx hx=>?_,λj hj=>?_,hle⟩
 ·have hx':x∈B.toList:=by simpa using hx
  rw [hB] at hx'
  rcases List.mem_append.1 hx' with hx'|hx'
  ·rcases List.mem_append.1 hx' with hx'|hx'
   ·exact h.fl x (by simpa using List.mem_of_mem_take hx')
   ·rw [hn] at hx'
    obtain ⟨q,_,rfl⟩:=zkj (by simpa using hx')
    exact zd1 _ _
  ·exact hr x hx'
 ·rw [<-Array.getElem?_toList,hB,zn0]
  have hlt:(A.toList.take (n*14)).length=14*n:=by rw [List.length_take,hl];omega
  have hln:nw.length=14*m:=by rw [hn];simp
  by_cases c:j<14*n
  ·rw [if_pos c,List.append_assoc,List.getElem?_append_left (by omega),List.getElem?_take,if_pos (by omega),Array.getElem?_toList]
   exact h.rd j c
  ·rw [if_neg c,List.append_assoc,List.getElem?_append_right (by omega),hlt,List.getElem?_append_left (by omega),hn,Array.getElem?_toList,zki _ _ (by omega)]
theorem jed:∃ i z,prog.info? 38=some i/\i.zero=some z/\i.size=14/\i.bytes=112/\z.cells.size=14/\∀ x∈z.cells,za9 x=true:=by
 have h:(match prog.info? 38 with
  | some i=>(match i.zero with
   | some z=>decide (i.size=14/\i.bytes=112/\z.cells.size=14)&&z.cells.all za9
   | none=>false)
  | none=>false)=true:=by kernel_rfl
 cases hi:prog.info? 38 with
 | none=>rw [hi] at h;cases h
 | some i =>
  rw [hi] at h
  simp only at h
  cases hz:i.zero with
  | none=>rw [hz] at h;cases h
  | some z =>
   rw [hz] at h
   simp only [Bool.and_eq_true,decide_eq_true_eq,Array.all_eq_true_iff_forall_mem] at h
   exact ⟨i,z,rfl,hz,h.1.1,h.1.2.1,h.1.2.2,h.2⟩
theorem zwa (w:Nat->Int) (j:Nat):(zj0 w j).oneCell'=true:=by
 unfold zj0;split<;>(try split)<;>(try split)<;>rfl
section
variable {C:Ctx} {n:Nat} {d:List Deferred} {ro:Option Nat} {K:Exit->GS->Prop}
theorem zoi {r:Nat->Nat} {ts:Nat->Value} {hp:Hp} {yc:Nat} {a:Act} {W:World} {mn:Nat} {o:Oper} {tx ty:Tmp} {nk k nn cc m cap:Nat} {q:Option Addr} {A:Array Value} {w u:Nat->Nat->Int} {next:Act->World->Prop} {Q:Exit->Act->World->Prop}
  (h:RI C n d r ts hp yc a W) (hd:∀ dd,o.dst=some dd->dd<n) (ho:o.op=.call { callee:=.builtin .append,args:=#[.tmp tx,.tmp ty],argTypes:=#[36,36] })
  (hx:ts tx=.slice (some ⟨k,0,none⟩) nn cc) (hk:100<=k) (hb:hp k=some ⟨A,.ty 38⟩) (hA:LA A cc nn w)
  (hy:ts ty=.slice q m cap) (hq:NS q m cap\/∃ j off b,q=some ⟨j,off,none⟩/\hp j=some b/\LB b off m u) (hs:nn+m<=1000) (hnk:hp nk=none/\100<=nk)
  (post:∀ k' c' A',(k'=k\/k'=nk)->LA A' c' (nn+m) (zdy nn w u)->∀ r' a' W',RI C n d r' (zcq ts o.dst (.slice (some ⟨k',0,none⟩) (nn+m) c')) (upd hp k' (some ⟨A',.ty 38⟩)) yc a' W'->next a' W') :
  o.wpIn (Fw prog ro) mn prog a W next Q:=by
 obtain ⟨i,z,hi,hz,hs14,hb112,hzs,hzf⟩:=jed
 rcases hq with ⟨rfl,rfl,rfl⟩|⟨j,off,b,rfl,hb2,hL⟩
 ·have hjx:ts tx≠zcj:=by rw [hx];simp [zcj]
  have ex0:=(h.rel tx).resolve_left hjx
  have ex:a.eval (.tmp tx)=.slice (some ⟨r k,0,none⟩) nn cc:=by have:=ex0.1;rw [hx] at this;exact this
  have ey:a.eval (.tmp ty)=.slice none 0 0:=by
   have:=(h.rel ty).resolve_left (by rw [hy];simp [zcj])
   rw [hy] at this
   exact this.1
  have hrun:=zjo (P:=prog) W 36 o.type 38 i underlying36 hi (some ⟨r k,0,none⟩) none nn cc 0 hA.le
  have hev:a.eval (.tmp tx)=ren r (ts tx):=ex0.1
  have hup:upd hp k (some ⟨A,.ty 38⟩)=hp:=by
   funext x
   unfold upd
   split
   ·rename_i e;rw [e,hb]
   ·rfl
  have hAA:LA A cc (nn+0) (zdy nn w u):=⟨hA.sz,hA.fl,λj hj=>by rw [zn0,if_pos (by omega)];exact hA.rd j (by omega),hA.le⟩
  refine zdj (by rw [ho];intro c;simp) (R:=λv W'=>v=ren r (ts tx)/\W'=W) (Rp:=λ_ _=>False) ?_ (λv W' h'=>?_) (λpv W' h=>h.elim)
  ·unfold zjx
   simp only [execOp,ho,resolve,Sem.run_bind,Sem.run_pure,Result.andThen_ok,invoke,builtin,List.map_toArray,List.map_cons,List.map_nil,ex,ey,hrun]
   rw [<-ex,hev];exact ⟨rfl,trivial⟩
  ·obtain ⟨rfl,rfl⟩:=h'
   refine post k cc A (.inl rfl) hAA r _ _ ?_
   rw [hup]
   have:=h.after (dst:=o.dst) hd (e:=⟨ts tx,[],[],[],none,false⟩) (r':=r) (λ_ _=>rfl) (by rw [zg6];exact ex0.2) ⟨rfl,rfl,rfl,Nat.le_refl _,λ_ _ _=>rfl,by simp,by simp,by simp⟩ (by simp [zab]) (by simp [zab])
   rw [hx] at this
   simpa [hx] using this
 ·have hnw:((fv (14*m) (zdo u)).toList).length=m*i.size:=by rw [hs14];simp;omega
  refine zjq (z:=z) (nw:=(fv (14*m) (zdo u)).toList) h hd ho underlying36 hi hz hx hk hb rfl hA.fl hy hb2 (by obtain ⟨c,T⟩:=b;cases T with|ty t=>rfl|raw t fr=>rfl|mp=>exact hL.fx.elim) hnw (jda hL.rd) (λx hx=>by obtain ⟨q,_,rfl⟩:=zkj (by simpa using hx);exact zd1 _ _) (λx hx=>by obtain ⟨q,_,rfl⟩:=zkj (by simpa using hx);exact zwa _ _) (λc x hx=>hzf x (zrt hx)) (by rw [hs14,hA.sz];omega) hA.le (by simp only [maxLen];omega) (by rw [hb112];omega) hnk (λhr r' a' W' hi'=>?_) (λhr c' hc' r' a' W' hi'=>?_)
  ·refine post k cc _ (.inl rfl) ?_ r' a' W' hi'
   rw [hs14]
   refine hA.app rfl (rest:=A.toList.drop (nn*14+((fv (14*m) (zdo u)).toList).length)) rfl ?_ (λx hx=>hA.fl x (by simpa using List.mem_of_mem_drop hx)) hr
   have:=hA.sz
   simp
   omega
  ·refine post nk c' _ (.inr rfl) ?_ r' a' W' hi'
   rw [hs14]
   refine hA.app rfl (rest:=(Builtin.zeroCells z.cells (c' - (nn+m))).toList) (by simp) ?_ (λx hx=>hzf x (zrt (by simpa using hx))) hc'
   have:=hA.sz
   have:=hA.le
   simp [zp5,hzs]
   omega
theorem zt6 {ops:Array Oper} {o:Oper} {base i fuel:Nat} {listed:Array Bool} {ts:Nat->Value} {hp:Hp} {yc:Nat} {tx ty:Tmp} {k nn cc m cap:Nat} {q:Option Addr} {A:Array Value} {w u:Nat->Nat->Int} (hio:ops[i]? = some o) (hi:listed[i]? = some false) (hg:zbv ops o ts=some true) (hd:∀ dd,o.dst=some dd->dd<n)
  (ho:o.op=.call { callee:=.builtin .append,args:=#[.tmp tx,.tmp ty],argTypes:=#[36,36] })
  (hx:ts tx=.slice (some ⟨k,0,none⟩) nn cc) (hk:100<=k) (hb:hp k=some ⟨A,.ty 38⟩) (hA:LA A cc nn w)
  (hy:ts ty=.slice q m cap) (hq:NS q m cap\/∃ j off b,q=some ⟨j,off,none⟩/\hp j=some b/\LB b off m u) (hs:nn+m<=1000)
  (h:∀ k' c' A',(k'=k\/k'=base+8*i)->LA A' c' (nn+m) (zdy nn w u)->GA prog C n d ro ops base fuel (listed.setIfInBounds i true) (zcq ts o.dst (.slice (some ⟨k',0,none⟩) (nn+m) c')) (upd hp k' (some ⟨A',.ty 38⟩)) yc K):GO prog C n d ro ops base fuel listed i ts hp yc K:=by
 intro r a W hRI hfr hbb hG hR
 unfold wpOpIn
 rw [hio]
 simp only
 rw [zd3 hRI.rel hg]
 simp only [if_true]
 refine zoi hRI hd ho hx hk hb hA hy hq hs (nk:=base+8*i) ⟨hfr.at' i hi _ (Nat.le_refl _) (by omega),by omega⟩ (λk' c' A' hk' hA' r' a' W' hi'=>h k' c' A' hk' hA' r' a' W' hi' (hfr.after (Array.getElem?_eq_some_iff.1 hio).1 λx hx hx1=>?_) hbb hG hR)
 unfold upd
 split
 ·rename_i e
  rcases hk' with e2|e2
  ·rw [e,e2,hb] at hx;cases hx
  ·exact absurd ⟨by omega,by omega⟩ hx1
 ·exact hx
theorem zt5 {ops:Array Oper} {o:Oper} {post:List Oper} {base i:Nat} {ts:Nat->Value} {hp:Hp} {yc:Nat} {tx ty:Tmp} {k nn cc m cap:Nat} {q:Option Addr} {A:Array Value} {w u:Nat->Nat->Int} (hg:o.guard=none) (hd:∀ dd,o.dst=some dd->dd<n)
  (ho:o.op=.call { callee:=.builtin .append,args:=#[.tmp tx,.tmp ty],argTypes:=#[36,36] })
  (hx:ts tx=.slice (some ⟨k,0,none⟩) nn cc) (hk:100<=k) (hb:hp k=some ⟨A,.ty 38⟩) (hA:LA A cc nn w)
  (hy:ts ty=.slice q m cap) (hq:NS q m cap\/∃ j off b,q=some ⟨j,off,none⟩/\hp j=some b/\LB b off m u) (hs:nn+m<=1000)
  (h:∀ k' c' A',(k'=k\/k'=base+8*i)->LA A' c' (nn+m) (zdy nn w u)->GL prog C n d ro ops base (i+1) post (zcq ts o.dst (.slice (some ⟨k',0,none⟩) (nn+m) c')) (upd hp k' (some ⟨A',.ty 38⟩)) yc K):GL prog C n d ro ops base i (o::post) ts hp yc K:=by
 intro r a W hRI hf hbb hG hR
 refine wpListIn_plain hg λK' hK'=>?_
 refine zoi hRI hd ho hx hk hb hA hy hq hs (nk:=base+8*i) ⟨hf _ (Nat.le_refl _),by omega⟩ (λk' c' A' hk' hA' r' a' W' hi'=>hK' _ _ (h k' c' A' hk' hA' r' a' W' hi' (λx hx=>?_) hbb hG hR))
 unfold upd
 split
 ·rename_i e
  rcases hk' with e2|e2
  ·have:=hf x (by omega);rw [e,e2,hb] at this;cases this
  ·omega
 ·exact hf x (by omega)
end
theorem z9v {L:List (Nat×Blk)} {p q:Option Addr} {n cap m capm:Nat} {N:Int} {v:Nat->Int} (h1:SlI L p) (h2:SlI L q):∀ x∈#[zbq N v,.slice p n cap,.slice q m capm],zan (λk=>k∈zab L) x:=by
 intro x hx
 simp at hx
 rcases hx with rfl|rfl|rfl
 ·exact zak (zkp N v)
 ·exact h1 n cap
 ·exact h2 m capm
section
variable {L:List (Nat×Blk)} {pl pm:Option Addr} {nl cl nm cm:Nat} {N:Int} {v:Nat->Int}
theorem zk9 (hT:LAny L) (h1:SlI L pl) (h2:SlI L pm) (hh:HOk N v) (hb:ze7 ⟨N,v⟩=false\/1048576<N\/12<nl\/12<nm) :
  Fun prog G0 5 #[zbq N v,.slice pl nl cl,.slice pm nm cm] (hpL G0 L) (zab L) (.ret (.bool true) []):=by
 refine zaz (B:=200) G0F func5 rfl call5 hT.ok (z9v h1 h2) (zak (by simp)) (by simp) (by simp) (by simp [ntmps5]) (by omega) ?_
 intro C hC hC0 hY
 have hLow:=hT.low
 have wk:=zon
 have hR:=λK=>zkl hh K
 unfold zbq za8 at hR |-
 cases hr:ze7 ⟨N,v⟩ with
 | false =>
  rw [hr] at hR
  repeat' first|refine gwZ ?_|(refine gwX ?_;intro Q hQ _;simp [hC,hY,wk,hR];refine gwq hQ ?_)|refine gwC ?_ ?_<;>intro hb
  refine ⟨.inr rfl,by simp [results5],kpT G0F⟩
 | true =>
  rw [hr] at hR
  by_cases c1:1048576<N
  ·
   repeat' first|refine gwZ ?_|(refine gwX ?_;intro Q hQ _;simp [hC,hY,wk,hR,c1];refine gwq hQ ?_)|refine gwC ?_ ?_<;>intro hb
   refine ⟨.inr rfl,by simp [results5],kpT G0F⟩
  ·by_cases c2:12<nl
   ·have c2':(12:Int)<nl:=by omega
    repeat' first|refine gwZ ?_|(refine gwX ?_;intro Q hQ _;simp [hC,hY,wk,hR,c1,c2'];refine gwq hQ ?_)|refine gwC ?_ ?_<;>intro hb
    refine ⟨.inr rfl,by simp [results5],kpT G0F⟩
   ·have c2':¬(12:Int)<nl:=by omega
    have c3:12<nm:=by rcases hb with h|h|h|h<;>first|omega|(rw [hr] at h;cases h)
    have c3':(12:Int)<nm:=by omega
    repeat' first|refine gwZ ?_|(refine gwX ?_;intro Q hQ _;simp [hC,hY,wk,hR,c1,c2',c3'];refine gwq hQ ?_)|refine gwC ?_ ?_<;>intro hb
    refine ⟨.inr rfl,by simp [results5],kpT G0F⟩
end
section
variable {N X X' D:List (Nat×Nat)} {V:Nat->Value} {Bk:Nat->Blk} {ts0 ts:Nat->Value} {hp0 hp:Hp} {listed:Array Bool}
theorem TJ.chgX (h:TJ N X D V Bk ts0 hp0 listed ts hp) (h1:∀ q∈X,listed[q.1]? = some true->q∈X') (h2:∀ q∈X',listed[q.1]? = some true->q∈X):TJ N X' D V Bk ts0 hp0 listed ts hp :=
 ⟨h.t0,h.tm,λk hk=>h.h0 k λq hq e hl=>hk q (h1 q hq hl) e hl,λq hq hl hl2=>h.bx q (h2 q hq hl) hl λq' hq' e hlt hl'=>hl2 q' (h1 q' hq' hl') e hlt hl',h.cl⟩
end
end Go.Gy
namespace Go.Gy
open Go Go.RowKit Go.Proofs
theorem zof (z u:Nat->Nat->Int):zdy 0 z u=u:=by
 funext i
 unfold zdy
 rw [if_neg (by omega)]
 rfl
theorem z60 {n m:Nat} {w u:Nat->Nat->Int} (h:∀ i,i<n->LsOk (w i)) (k:∀ i,i<m->LsOk (u i)):∀ i,i<n+m->LsOk (zdy n w u i):=λi hi=>by
 unfold zdy
 split
 ·exact h i (by omega)
 ·exact k _ (by omega)
theorem LW.ls {L:List (Nat×Blk)} {p:Option Addr} {n cap:Nat} {w:Nat->Nat->Int} (h:LW L p n cap w):∀ i,i<n->LsOk (w i):=by
 rcases h with ⟨rfl,rfl,rfl⟩|⟨k,off,b,rfl,h1,hL,_⟩
 ·intro i hi;omega
 ·exact λi hi=>hL.ok1 hi
theorem LA.ex (n:Nat) (w:Nat->Nat->Int):LA (fv (14*n) (zdo w)) n n w:=⟨by simp [fv],λx hx=>by obtain ⟨q,_,rfl⟩:=zkj hx;exact zd1 _ _,λj hj=>zki _ _ hj,Nat.le_refl _⟩
theorem HOk.tk {h:HS} (hk:HOk h.N h.v) (h0:0<=h.N) {w:Nat->Nat->Int} {n:Nat} (hn:h.N+n<=1073741824) (hw:∀ i,i<n->LsOk (w i)):HOk (h.tk w n).N (h.tk w n).v:=by
 rw [z7e ⟨h0,by omega⟩ n]
 refine hk.hq h0 (λi hi=>hw i (zv5 hi).1) _ ?_ ?_
 ·rw [ze4];exact Nat.min_le_left _ _
 ·have:=zek w n
  unfold tkM
  omega
structure HH (h:HS) (wl:Nat->Nat->Int) (nl:Nat) (wm:Nat->Nat->Int) (nm:Nat):Prop where
 ok:HOk h.N h.v
 r:ze7 h=true
 n:h.N<=1048576
 l:nl<=12
 m:nm<=12
 rl:zhj wl
 rm:zhj wm
 ll:∀ i,i<nl->LsOk (wl i)
 lm:∀ i,i<nm->LsOk (wm i)
section
variable {h:HS} {wl wm:Nat->Nat->Int} {nl nm:Nat}
theorem HH.sw (H:HH h wl nl wm nm):HH h wm nm wl nl:=⟨H.ok,H.r,H.n,H.m,H.l,H.rm,H.rl,H.lm,H.ll⟩
theorem HH.n0 (H:HH h wl nl wm nm):0<=h.N:=(zw2 H.r).1
theorem HH.one (H:HH h wl nl wm nm):zov h wl nl=h.tk wl nl/\ze7 (h.tk wl nl)=true/\HOk (h.tk wl nl).N (h.tk wl nl).v/\(h.tk wl nl).N=h.N+zcr wl nl/\0<=(h.tk wl nl).N/\(h.tk wl nl).N<=1048588:=by
 have h0:=H.n0
 have h1:=H.n
 have h2:=H.l
 have hc:=zek wl nl
 have hN:=z7c (h:=h) (w:=wl) (n:=nl) (by omega)
 exact ⟨if_pos H.r,zxm H.r (by omega) H.rl,H.ok.tk h0 (by omega) H.ll,hN,by omega,by omega⟩
def HH.A (h:HS) (wl:Nat->Nat->Int) (nl:Nat) (wm:Nat->Nat->Int) (nm:Nat):HS:=(h.tk wl nl).tk wm nm
theorem HH.two (H:HH h wl nl wm nm):zov (h.tk wl nl) wm nm=HH.A h wl nl wm nm/\ze7 (HH.A h wl nl wm nm)=true/\HOk (HH.A h wl nl wm nm).N (HH.A h wl nl wm nm).v/\(HH.A h wl nl wm nm).N=h.N+zcr wl nl+zcr wm nm/\0<=(HH.A h wl nl wm nm).N/\(HH.A h wl nl wm nm).N<=1048600:=by
 obtain ⟨a,b,c,d,e,f⟩:=H.one
 have h2:=H.m
 have hc:=zek wm nm
 have hN:=z7c (h:=h.tk wl nl) (w:=wm) (n:=nm) (by omega)
 unfold HH.A
 exact ⟨if_pos b,zxm b (by omega) H.rm,c.tk e (by omega) H.lm,by omega,by omega,by omega⟩
theorem zpd {g h:HS} (hN:g.N=h.N) (hv:∀ c,c<14->g.v c=h.v c):zd9 g=zd9 h:=by
 unfold zd9 zbq
 rw [hN,zgu hv]
theorem HH.comm (H:HH h wl nl wm nm):zd9 (HH.A h wm nm wl nl)=zd9 (HH.A h wl nl wm nm):=by
 have a:=H.two.2.2.2.1
 have b:=H.sw.two.2.2.2.1
 have h0:=H.n0
 have h1:=H.n
 have h2:=H.l
 have h3:=H.m
 refine zpd (by omega) λc _=>?_
 unfold HH.A
 exact (z7d h0 (by omega) c).symm
theorem HH.cat (H:HH h wl nl wm nm):zov h (zdy nl wl wm) (nl+nm)=HH.A h wl nl wm nm:=by
 unfold zov HH.A
 rw [if_pos H.r,zok]
theorem HH.A_eq (H:HH h wl nl wm nm):HH.A h wl nl wm nm=h.tk (zdy nl wl wm) (nl+nm):=by unfold HH.A;rw [zok]
theorem HH.cnt (H:HH h wl nl wm nm):(HH.A h wl nl wm nm).N=h.N+zcr (zdy nl wl wm) (nl+nm):=by
 rw [H.two.2.2.2.1,zqg]
 omega
theorem HH.row (H:HH h wl nl wm nm):zhj (zdy nl wl wm):=z61 H.rl H.rm
theorem HH.ls (H:HH h wl nl wm nm):∀ i,i<nl+nm->LsOk (zdy nl wl wm i):=z60 H.ll H.lm
theorem HH.hld (H:HH h wl nl wm nm) {i:Nat} (hi:i<nl+nm) (hf:zcp (zdy nl wl wm i)=true):zkn (HH.A h wl nl wm nm) (zdy nl wl wm i)=true:=by
 have h1:=H.n
 have h2:=H.l
 have h3:=H.m
 rw [H.A_eq]
 exact jdt H.r (by omega) H.row hi hf
theorem HH.again (H:HH h wl nl wm nm) {i:Nat} (hi:i<nl+nm) (hf:zcp (zdy nl wl wm i)=true):∃ g:HS,zov (HH.A h wl nl wm nm) (λ_=>zdy nl wl wm i) 1=g/\HOk g.N g.v/\g.v 0=(HH.A h wl nl wm nm).v 0/\g.v 1=(HH.A h wl nl wm nm).v 1:=by
 have h1:=H.n
 have h2:=H.l
 have h3:=H.m
 obtain ⟨a,b,c,d,e,f⟩:=H.two
 refine ⟨_,rfl,?_,?_,?_⟩
 ·unfold zov
  rw [if_pos b]
  exact c.tk e (by omega) λ_ _=>H.ls i hi
 all_goals
  have key:=λc=>z1l (h:=h) (w:=zdy nl wl wm) (n:=nl+nm) H.n0 (by omega) hi hf (c:=c)
  rw [<-H.A_eq] at key
  unfold zov
  rw [if_pos b]
  have hN:¬(HH.A h wl nl wm nm).N=1073741824:=by omega
  have e1:(HH.A h wl nl wm nm).tk (λ_=>zdy nl wl wm i) 1=(HH.A h wl nl wm nm).one (zdy nl wl wm i):=by
   simp [HS.tk,hf,hN]
  rw [e1,key]
theorem HH.old (H:HH h wl nl wm nm) (hz:¬h.N=0):((HH.A h wl nl wm nm).v 0<=h.v 0/\h.v 0<=(HH.A h wl nl wm nm).v 1)/\((HH.A h wl nl wm nm).v 0<=h.v 1/\h.v 1<=(HH.A h wl nl wm nm).v 1):=by
 have h1:=H.n
 have h2:=H.l
 have h3:=H.m
 rw [H.A_eq]
 exact jdw H.r (by omega) hz
end
end Go.Gy
namespace Go.Gy
open Go Go.RowKit Go.Proofs Go.Proofs.Tryz
section
variable {P:Program} {C:Ctx} {n:Nat} {d:List Deferred} {ro:Option Nat} {K:Exit->GS->Prop}
theorem z9p {ops:Array Oper} {o:Oper} {base i fuel:Nat} {listed:Array Bool} {ts:Nat->Value} {hp:Hp} {yc:Nat} {T e:TypeId} {m:Nat} (hio:ops[i]? = some o) (hi:listed[i]? = some false) (hg:zbv ops o ts=some true) (hd:∀ dd,o.dst=some dd->dd<n)
  (ho:o.op=.buildSlice T 0 #[]) (hu:P.underlying T=some (.slice e)) (hm:zas P e=some m)
  (h:GA P C n d ro ops base fuel (listed.setIfInBounds i true) (zcq ts o.dst (.slice (some ⟨base+8*i,0,none⟩) 0 0)) (upd hp (base+8*i) (some ⟨#[],.ty e⟩)) yc K):GO P C n d ro ops base fuel listed i ts hp yc K:=by
 intro r a W hRI hfr hb hG hR
 unfold wpOpIn
 rw [hio]
 simp only
 rw [zd3 hRI.rel hg]
 simp only [if_true]
 have hnk:hp (base+8*i)=none:=hfr.at' i hi _ (Nat.le_refl _) (by omega)
 have hff:∀ x∈(#[]:Array Value),za9 x=true:=by simp
 have hnd:¬dom hp (base+8*i):=by unfold dom;simp [hnk]
 have hr':∀ q,dom hp q->upd r (base+8*i) W.heap.size q=r q:=λq hq=>zaa _ _ (λe=>hnd (e▸hq))
 refine zdj (by rw [ho];intro c;simp) (R:=λu W'=>u=.slice (some ⟨W.heap.size,0,none⟩) 0 0/\W'=W.alloc (.cells #[] e)) (Rp:=λ_ _=>False) ?_ (λu W' h'=>?_) (λpv W' h=>h.elim)
 ·unfold zjx
  simp only [execOp,ho,Instr.buildSlice,Sem.run_bind,run_underlying hu,Result.andThen_ok,zbn hm,Nat.zero_mul]
  simp [Instr.fill,newRow,newObj,Sem.run]
  rw [show Array.range 0=#[] from rfl,show ∀ f:Nat->Value,Array.map f #[]=#[] from λf=>by simp]
 ·obtain ⟨rfl,rfl⟩:=h'
  have hv:(Value.slice (some ⟨W.heap.size,0,none⟩) 0 0)=ren (upd r (base+8*i) W.heap.size) (.slice (some ⟨base+8*i,0,none⟩) 0 0):=by simp [ren,zay,zaj,zam,upd]
  rw [hv]
  refine h (upd r (base+8*i) W.heap.size) _ _ (hRI.after (e:=⟨.slice (some ⟨base+8*i,0,none⟩) 0 0,[],[],[(base+8*i,⟨#[],.ty e⟩)],none,false⟩) hd hr' (by simp [zan,za0,zah,zal,zcu,zab]) ⟨rfl,rfl,rfl,(by show W.heap.size<=(W.heap.push _).size;simp),λq hq _=>?_,λp hp1=>?_,λp hp1=>?_,by simp⟩ (by simp [zab]) (by simp [zab,hnk];omega)) (hfr.after (Array.getElem?_eq_some_iff.1 hio).1 λx hx hx1=>?_) hb hG hR
  ·exact Below.heap_alloc _ _ _ hq
  ·simp only [List.nil_append,List.mem_singleton] at hp1
   subst hp1
   refine ⟨?_,Blk.flat_ids hff⟩
   rw [Blk.obj_flat hff]
   show (W.alloc _).heap[upd r (base+8*i) W.heap.size (base+8*i)]? = _
   rw [za4]
   exact heap_alloc_new W _
  ·simp only [List.mem_singleton] at hp1
   subst hp1
   show W.heap.size<=upd r (base+8*i) W.heap.size (base+8*i)
   rw [za4]
   exact Nat.le_refl _
  ·rw [zaa _ _ (λe=>hx1 ⟨by omega,by omega⟩)]
   exact hx
end
theorem z38 {P:Program} {C:Ctx} {n:Nat} {d:List Deferred} {ro:Option Nat} {x y:Code} {s:GS} {K K2:Exit->GS->Prop} (S1:GS) (h1:GW P C n d ro x s (zbo (λs'=>Weak C s' S1) (λ_ _=>False))) (h2:GW P C n d ro y S1 K):GW P C n d ro x s (zbo (λs'=>GW P C n d ro y s' K) K2) :=
 zb2 h1 λe s' h=>by
  cases e with
  | normal=>exact zox h h2
  | _=>exact h.elim
def hhN:List (Nat×Nat):=[(0,42),(1,43),(2,44),(3,45),(4,46),(5,47),(6,48),(7,9)]
def hhX (k3 k5:Nat):List (Nat×Nat):=[(1,480),(3,k3),(5,k5),(7,528),(8,528)]
def hhD:List (Nat×Nat):=[(3,1),(3,2),(5,3),(5,4),(5,1),(6,0),(6,5),(6,3),(6,1),(8,6),(8,7)]
theorem z2v:(hhN.map Prod.fst).Nodup:=by decide +kernel
theorem z2w:(hhN.map Prod.snd).Nodup:=by decide +kernel
theorem jhw (k3 k5:Nat):((hhX k3 k5).map Prod.fst).Nodup:=show [1,3,5,7,8].Nodup by decide +kernel
theorem z2x {k3 k5:Nat} (h3:200<=k3) (h5:200<=k5):∀ k,k<200->k∉(hhX k3 k5).map Prod.snd:=λk hk=>by simp [hhX];omega
def hhV (h A:HS) (pl pm:Option Addr) (nl cl nm cm k3 c3 k5 c5:Nat):Nat->Value
 | 0=>zbq h.N h.v
 | 1=>.slice (some ⟨480,0,none⟩) 0 0
 | 2=>.slice pl nl cl
 | 3=>.slice (some ⟨k3,0,none⟩) nl c3
 | 4=>.slice pm nm cm
 | 5=>.slice (some ⟨k5,0,none⟩) (nl+nm) c5
 | 6=>zbq A.N A.v
 | 7=>.pointer (some ⟨528,0,none⟩)
 | _=>.bool true
def jbc (A:HS) (A3 A5:Array Value):Nat->Blk
 | 1=>⟨#[],.ty 38⟩
 | 3=>⟨A3,.ty 38⟩
 | 5=>⟨A5,.ty 38⟩
 | 7=>zav 0 λ_=>0
 | 8=>zav A.N A.v
 | _=>⟨#[],.mp⟩
structure hhF (L:List (Nat×Blk)) (h A:HS) (pl pm:Option Addr) (nl cl nm cm:Nat) (ts0:Nat->Value) (hp0:Hp):Prop where
 e1:ts0 1=.slice pl nl cl
 e2:ts0 2=.slice pm nm cm
 e3:ts0 3=.pointer (some ⟨200,0,none⟩)
 e6:ts0 6=.bool false
 e7:ts0 7=.pointer (some ⟨400,0,none⟩)
 e8:ts0 8=.pointer (some ⟨456,0,none⟩)
 b200:hp0 200=some (zav h.N h.v)
 b400:hp0 400=some (zav A.N A.v)
 b456:hp0 456=some (zav A.N A.v)
 low:∀ k,k<100->hp0 k=G0 k
 bL:∀ p∈L,hp0 p.1=some p.2
def jhu (L:List (Nat×Blk)) (h A:HS) (pl pm:Option Addr) (nl cl nm cm:Nat):GS :=
 ⟨tsL [(1,.slice pl nl cl),(2,.slice pm nm cm),(3,.pointer (some ⟨200,0,none⟩)),(6,.bool false),(7,.pointer (some ⟨400,0,none⟩)),(8,.pointer (some ⟨456,0,none⟩)),(9,.pointer (some ⟨528,0,none⟩))],hpL G0 ([(200,zav h.N h.v),(400,zav A.N A.v),(456,zav A.N A.v),(528,zav A.N A.v)]++L),700,0⟩
def jhv (L:List (Nat×Blk)) (h A:HS) (n2 c:Nat) (A2:Array Value):GS :=
 ⟨tsL [(3,.pointer (some ⟨200,0,none⟩)),(6,.bool false),(7,.pointer (some ⟨400,0,none⟩)),(10,.slice (some ⟨600,0,none⟩) n2 c)],hpL G0 ([(200,zav h.N h.v),(400,zav A.N A.v),(600,⟨A2,.ty 38⟩)]++L),800,0⟩
def z8b (L:List (Nat×Blk)) (h A:HS) (n2 c:Nat) (A2:Array Value) (w:Nat->Nat->Int) (i:Nat):GS :=
 ⟨tsL [(3,.pointer (some ⟨200,0,none⟩)),(6,.bool false),(7,.pointer (some ⟨400,0,none⟩)),(10,.slice (some ⟨600,0,none⟩) n2 c),(11,.int .i64 (h.N+zcr w i)),(12,.int .i64 i)],hpL G0 ([(200,zav h.N h.v),(400,zav A.N A.v),(600,⟨A2,.ty 38⟩)]++L),900,0⟩
theorem zvq {C:Ctx} {L:List (Nat×Blk)} (hT:LAny L) {h A:HS} {n2 c:Nat} {A2:Array Value} (hf:Blk.fx ⟨A2,.ty 38⟩) {w:Nat->Nat->Int} {i:Nat} {s:GS} (hC:C.G=G0) (h0:C.hp0=hpL G0 L)
  (t3:s.ts 3=.pointer (some ⟨200,0,none⟩)) (t6:s.ts 6=.bool false) (t7:s.ts 7=.pointer (some ⟨400,0,none⟩)) (t10:s.ts 10=.slice (some ⟨600,0,none⟩) n2 c) (t11:s.ts 11=.int .i64 (h.N+zcr w i)) (t12:s.ts 12=.int .i64 i)
  (a:s.hp 200=some (zav h.N h.v)) (b:s.hp 400=some (zav A.N A.v)) (d:s.hp 600=some ⟨A2,.ty 38⟩) (e:∀ q∈L,s.hp q.1=some q.2) (hy:s.yc=0):Weak C s (z8b L h A n2 c A2 w i):=by
 have hix:=λN v D=>Blk.fx_ids (zci N v) D
 unfold z8b
 have key:∀ y,s.yc=y->Weak C s ⟨tsL [(3,.pointer (some ⟨200,0,none⟩)),(6,.bool false),(7,.pointer (some ⟨400,0,none⟩)),(10,.slice (some ⟨600,0,none⟩) n2 c),(11,.int .i64 (h.N+zcr w i)),(12,.int .i64 i)],hpL G0 ([(200,zav h.N h.v),(400,zav A.N A.v),(600,⟨A2,.ty 38⟩)]++L),900,y⟩:=λy hy=>by
  subst hy
  refine zxw _ 900 hC G0F hT.ok hT.fx h0 (by omega) ?_ ?_ e
  ·simp only [List.mem_cons,List.not_mem_nil,or_false,forall_eq_or_imp,forall_eq]
   exact ⟨⟨t3,by simp [zan,za0,zah,zal,dom]⟩,⟨t6,by simp [zan,za0,zah,zal]⟩,⟨t7,by simp [zan,za0,zah,zal,dom]⟩,⟨t10,by simp [zan,za0,zah,zal,dom]⟩,⟨t11,by simp [zan,za0,zah,zal]⟩,t12,by simp [zan,za0,zah,zal]⟩
  ·simp only [List.mem_cons,List.not_mem_nil,or_false,forall_eq_or_imp,forall_eq]
   exact ⟨⟨a,hix _ _ _,by omega,by omega⟩,⟨b,hix _ _ _,by omega,by omega⟩,d,Blk.fx_ids hf _,by omega,by omega⟩
 exact key 0 hy
theorem z5d {N:Int} {w:Nat->Nat->Int} {i:Nat} (h0:0<=N) (h1:N<=1048576) (h2:zcr w i<=24) (hf:zcp (w i)=true):Int.bmod (N+(zcr w i:Nat)+1) 18446744073709551616=N+(zcr w (i+1):Nat):=by
 rw [bm (by omega) (by omega),zc5,hf]
 simp
 omega
theorem jbe {w:Nat->Int} (h:LsOk w):LB (hlB (w 0) (w 1) (w 2) (w 3) (w 4) (w 8) (w 9) (w 10)) 0 1 λ_=>w :=
 ⟨λj hj=>by
  have:j=0\/j=1\/j=2\/j=3\/j=4\/j=5\/j=6\/j=7\/j=8\/j=9\/j=10\/j=11\/j=12\/j=13:=by omega
  rcases this with rfl|rfl|rfl|rfl|rfl|rfl|rfl|rfl|rfl|rfl|rfl|rfl|rfl|rfl<;>rfl,jbd _ _ _ _ _ _ _ _,λ_=>h.r,λ_ _=>h.i,λ_ _=>⟨h.w0,h.w1⟩,by omega⟩
section
variable {L:List (Nat×Blk)} {pl pm:Option Addr} {nl cl nm cm:Nat} {N:Int} {v:Nat->Int} {wl wm:Nat->Nat->Int}
theorem zla (hT:LAny L) (h1:LW L pl nl cl wl) (h2:LW L pm nm cm wm) (H:HH ⟨N,v⟩ wl nl wm nm) :
  Fun prog G0 5 #[zbq N v,.slice pl nl cl,.slice pm nm cm] (hpL G0 L) (zab L) (.ret (.bool true) []):=by
 refine zaz (B:=200) G0F func5 rfl call5 hT.ok (z9v h1.sl h2.sl) (zak (by simp)) (by simp) (by simp) (by simp [ntmps5]) (by omega) ?_
 intro C hC hC0 hY
 have hLow:=hT.low
 have wk:=zon
 have hR:=λK=>zkl H.ok K
 have c1:=H.n
 have c2:=H.l
 have c3:=H.m
 simp only at c1
 have c1':¬1048576<N:=by omega
 have c2':¬(12:Int)<nl:=by omega
 have c3':¬(12:Int)<nm:=by omega
 obtain ⟨o1,o2,o3,o4,o5,o6⟩:=H.one
 obtain ⟨s1,s2,s3,s4,s5,s6⟩:=H.sw.one
 obtain ⟨t1,t2,t3,t4,t5,t6⟩:=H.two
 obtain ⟨u1,u2,u3,u4,u5,u6⟩:=H.sw.two
 have k1:=zmd hT h1 (h:=⟨N,v⟩) H.ok
 have k2:=zmd hT h2 o3
 have k3:=zmd hT h2 (h:=⟨N,v⟩) H.ok
 have k4:=zmd hT h1 s3
 rw [o1] at k1
 rw [t1] at k2
 rw [s1] at k3
 rw [u1,H.comm] at k4
 have hr:=H.r
 rw [hr] at hR
 unfold zd9 at k1 k2 k3 k4
 unfold zbq za8 at hR k1 k2 k3 k4 |-
 simp only at k1 k3
 generalize hA:HH.A ⟨N,v⟩ wl nl wm nm=A at *
 generalize HS.tk ⟨N,v⟩ wl nl=B1 at *
 generalize HS.tk ⟨N,v⟩ wm nm=B2 at *
 repeat' first|refine gwZ ?_|((first|refine gwR [16] ?_|refine gwD [16] ?_);intro Q hQ _;(repeat first|simp [hC,hY,hR,c1',c2',c3']|refine zby k1 hT.ok zg0 ?_|refine zby k2 hT.ok zg0 ?_|refine zby k3 hT.ok zg0 ?_|refine zby k4 hT.ok zg0 ?_);refine gwq hQ ?_)|refine gwC ?_ ?_<;>intro hb
 have hix:=λN v D=>Blk.fx_ids (zci N v) D
 have hs1:=h1.sl
 have hs2:=h2.sl
 refine z38 (jhu L ⟨N,v⟩ A pl pm nl cl nm cm) ?_ ?_
 ·refine zt8 follows ?_
  simp only [Array.toList,List.append_eq,List.cons_append,List.nil_append,List.length_cons,List.length_nil,Nat.reduceAdd]
  refine z9m (hhF L ⟨N,v⟩ A pl pm nl cl nm cm) ?_ ?_
  ·refine ⟨by simp,by simp,by simp,by simp,by simp,by simp,by simp [zav,za8],by simp [zav,za8],by simp [zav,za8],?_,?_⟩
   ·intro k hk
    simp (disch:=omega) only [zaa,hT.low]
   ·intro p hp
    have hb:=hT.ok.big p hp
    simp (disch:=omega) only [zaa]
    exact hT.mem p hp
  intro ts0 hp0 hF
  refine zp6 (λlisted ts hp=>∃ k3 c3 A3 k5 c5 A5,((k3=480\/k3=496)/\LA A3 c3 nl wl/\(k5=k3\/k5=512)/\LA A5 c5 (nl+nm) (zdy nl wl wm))/\TJ hhN (hhX k3 k5) hhD (hhV ⟨N,v⟩ A pl pm nl cl nm cm k3 c3 k5 c5) (jbc A A3 A5) ts0 hp0 listed ts hp) (λlisted ts hp szR rdR hI=>?_) (λfuel listed ts hp i szR hi hdep h hk=>?_) _ _ _ _ (by simp) (by decide +kernel) ?_
  ·have hall':=ztd szR (by kernel_rfl) rdR
   have hall:∀ i,i<9->listed[i]? = some true:=λi hi=>hall' i (by simpa using hi)
   obtain ⟨k3,c3,A3,k5,c5,A5,⟨hk3,hA3,hk5,hA5⟩,hI⟩:=hI
   have x200:=z2x (k3:=k3) (k5:=k5) (by omega) (by omega)
   have e9:ts 9=.pointer (some ⟨528,0,none⟩):=hI.tm (7,9) (by decide) (hall 7 (by omega))
   have e1:=(hI.t0 1 (by decide)).trans hF.e1
   have e2:=(hI.t0 2 (by decide)).trans hF.e2
   have e3:=(hI.t0 3 (by decide)).trans hF.e3
   have e6:=(hI.t0 6 (by decide)).trans hF.e6
   have e7:=(hI.t0 7 (by decide)).trans hF.e7
   have e8:=(hI.t0 8 (by decide)).trans hF.e8
   have b200:=(hI.ext (k:=200) (by simp [hhX];omega)).trans hF.b200
   have b400:=(hI.ext (k:=400) (by simp [hhX];omega)).trans hF.b400
   have b456:=(hI.ext (k:=456) (by simp [hhX];omega)).trans hF.b456
   have b528:hp 528=some (zav A.N A.v):=hI.bx (8,528) (by simp [hhX]) (hall 8 (by omega)) (by simp [hhX])
   have cL:∀ p∈L,hp p.1=some p.2:=λp hp=>(hI.ext (x200 _ (hT.ok.big p hp).2)).trans (hF.bL p hp)
   simp only [zca]
   unfold jhu
   have up:∀ {x:Value},zah (λk=>k∈zab L) x->zah (dom (hpL G0 ([(200,zav N v),(400,zav A.N A.v),(456,zav A.N A.v),(528,zav A.N A.v)]++L))) x:=λ{x} h=>zet (λk hk=>zln hk) h
   refine zxw (s:=GS.mk _ _ _ 0) _ _ hC G0F hT.ok hT.fx hC0 (by omega) ?_ ?_ cL
   ·simp only [List.mem_cons,List.not_mem_nil,or_false,forall_eq_or_imp,forall_eq]
    exact ⟨⟨e1,by have:=up (hs1 nl cl);simpa [zan,za0] using this⟩,⟨e2,by have:=up (hs2 nm cm);simpa [zan,za0] using this⟩,⟨e3,by simp [zan,za0,zah,zal,dom]⟩,⟨e6,by simp [zan,za0,zah,zal]⟩,⟨e7,by simp [zan,za0,zah,zal,dom]⟩,⟨e8,by simp [zan,za0,zah,zal,dom]⟩,e9,by simp [zan,za0,zah,zal,dom]⟩
   ·simp only [List.mem_cons,List.not_mem_nil,or_false,forall_eq_or_imp,forall_eq]
    exact ⟨⟨b200,hix _ _ _,by omega,by omega⟩,⟨b400,hix _ _ _,by omega,by omega⟩,⟨b456,hix _ _ _,by omega,by omega⟩,b528,hix _ _ _,by omega,by omega⟩
  ·have hlt:i<9:=by
    have:=(Array.getElem?_eq_some_iff.1 hi).1
    rw [szR] at this
    simpa using this
   obtain ⟨k3,c3,A3,k5,c5,A5,hinv,h⟩:=h
   have hk3:=hinv.1
   have hk5:=hinv.2.2.1
   have x1:=jhw k3 k5
   have x200:=z2x (k3:=k3) (k5:=k5) (by omega) (by omega)
   have low:∀ k,k<100->hp k=G0 k:=λk hk=>(h.ext (x200 _ (by omega))).trans (hF.low k hk)
   have cL:∀ p∈L,hp p.1=some p.2:=λp hp=>(h.ext (x200 _ (hT.ok.big p hp).2)).trans (hF.bL p hp)
   have v3:=(h.t0 3 (by decide)).trans hF.e3
   have y200:=(h.ext (k:=200) (by simp [hhX];omega)).trans hF.b200
   obtain rfl|rfl|rfl|rfl|rfl|rfl|rfl|rfl|rfl:i=0\/i=1\/i=2\/i=3\/i=4\/i=5\/i=6\/i=7\/i=8:=by omega
   ·-- 0
    unfold zav za8 at y200
    refine gwo ?_;intro Q hQ;simp [hC,hY,v3,y200];apply hQ
    exact hk _ _ ⟨k3,c3,A3,k5,c5,A5,hinv,(h.tmp z2v z2w hi (by simp [hhD]) (i:=0) (t:=42) (by decide) rfl (by simp [hhX]))⟩
   ·-- 1
    refine z9p rfl hi (by simp [zbv]) (by simp [ntmps5]) rfl underlying36 (zai sizeOf38) ?_
    exact hk _ _ ⟨k3,c3,A3,k5,c5,A5,hinv,(h.new z2v z2w x1 hi (by simp [hhD]) (i:=1) (t:=43) (k:=480) (by decide) rfl (by simp [hhX]) rfl (by simp [hhX,hhD]))⟩
   ·-- 2
    have v1:=(h.t0 1 (by decide)).trans hF.e1
    refine gwo ?_;intro Q hQ;simp [hC,hY,v1];apply hQ
    exact hk _ _ ⟨k3,c3,A3,k5,c5,A5,hinv,(h.tmp z2v z2w hi (by simp [hhD]) (i:=2) (t:=44) (by decide) rfl (by simp [hhX]))⟩
   ·-- 3
    have hd0:=hdep _ rfl
    simp [Region.binds] at hd0
    have d1:listed[1]? = some true:=by simp [hd0]
    have d2:listed[2]? = some true:=by simp [hd0]
    have f1:ts 43=.slice (some ⟨480,0,none⟩) 0 0:=h.tm (1,43) (by decide) d1
    have f2:ts 44=.slice pl nl cl:=h.tm (2,44) (by decide) d2
    have hn5:listed[5]?≠some true:=λh5=>by have:=h.cl (5,3) (by decide) h5;rw [hi] at this;cases this
    have g1:hp 480=some ⟨#[],.ty 38⟩:=h.bxi hi (w:=1) (by simp [hhX]) d1 (by simp [hhX,hhD])
    refine zt6 (w:=λ_ _=>0) (u:=wl) rfl hi (by simp [zbv]) (by simp [ntmps5]) rfl f1 (by omega) g1 LA.zero f2 (h1.imp id λ⟨k,off,b,e,hm,hL,_⟩=>⟨k,off,b,e,cL _ hm,hL⟩) (by omega) ?_
    intro k' c' A' hk' hA'
    rw [zof] at hA'
    simp only [Nat.zero_add] at hA' |-
    have h:=h.chg (V':=hhV ⟨N,v⟩ A pl pm nl cl nm cm k' c' 512 c5) (Bk':=jbc A A' A5) hi (λj hj hD=>by unfold hhV;split<;>first|rfl|exact absurd rfl hj|exact (hD (by decide)).elim) (λj hj hD=>by unfold jbc;split<;>first|rfl|exact absurd rfl hj|exact (hD (by decide)).elim)
    have h:=h.chgX (X':=hhX k' 512) (λq hq hl=>by
     simp only [hhX,List.mem_cons,List.not_mem_nil,or_false] at hq |-
     rcases hq with rfl|rfl|rfl|rfl|rfl
     ·simp
     ·rw [hi] at hl;cases hl
     ·exact absurd hl hn5
     ·simp
     ·simp) (λq hq hl=>by
     simp only [hhX,List.mem_cons,List.not_mem_nil,or_false] at hq |-
     rcases hq with rfl|rfl|rfl|rfl|rfl
     ·simp
     ·rw [hi] at hl;cases hl
     ·exact absurd hl hn5
     ·simp
     ·simp)
    exact hk _ _ ⟨k',c',A',512,c5,A5,⟨hk',hA',.inr rfl,hinv.2.2.2⟩,h.new z2v z2w (jhw k' 512) hi (by simp [hhD,d1,d2]) (i:=3) (t:=45) (k:=k') (by decide) rfl (by simp [hhX]) rfl (by simp [hhX,hhD];omega)⟩
   ·-- 4
    have v2:=(h.t0 2 (by decide)).trans hF.e2
    refine gwo ?_;intro Q hQ;simp [hC,hY,v2];apply hQ
    exact hk _ _ ⟨k3,c3,A3,k5,c5,A5,hinv,(h.tmp z2v z2w hi (by simp [hhD]) (i:=4) (t:=46) (by decide) rfl (by simp [hhX]))⟩
   ·-- 5
    have hd0:=hdep _ rfl
    simp [Region.binds] at hd0
    have d3:listed[3]? = some true:=by simp [hd0]
    have d4:listed[4]? = some true:=by simp [hd0]
    have d1:=h.cl (3,1) (by decide) d3
    have f3:ts 45=.slice (some ⟨k3,0,none⟩) nl c3:=h.tm (3,45) (by decide) d3
    have f4:ts 46=.slice pm nm cm:=h.tm (4,46) (by decide) d4
    have g3:hp k3=some ⟨A3,.ty 38⟩:=h.bxi hi (w:=3) (by simp [hhX]) d3 (by simp [hhX,hhD];omega)
    refine zt6 (u:=wm) rfl hi (by simp [zbv]) (by simp [ntmps5]) rfl f3 (by omega) g3 hinv.2.1 f4 (h2.imp id λ⟨k,off,b,e,hm,hL,_⟩=>⟨k,off,b,e,cL _ hm,hL⟩) (by omega) ?_
    intro k' c' A' hk' hA'
    have h:=h.chg (V':=hhV ⟨N,v⟩ A pl pm nl cl nm cm k3 c3 k' c') (Bk':=jbc A A3 A') hi (λj hj hD=>by unfold hhV;split<;>first|rfl|exact absurd rfl hj|exact (hD (by decide)).elim) (λj hj hD=>by unfold jbc;split<;>first|rfl|exact absurd rfl hj|exact (hD (by decide)).elim)
    have h:=h.chgX (X':=hhX k3 k') (λq hq hl=>by
     simp only [hhX,List.mem_cons,List.not_mem_nil,or_false] at hq |-
     rcases hq with rfl|rfl|rfl|rfl|rfl
     ·simp
     ·simp
     ·rw [hi] at hl;cases hl
     ·simp
     ·simp) (λq hq hl=>by
     simp only [hhX,List.mem_cons,List.not_mem_nil,or_false] at hq |-
     rcases hq with rfl|rfl|rfl|rfl|rfl
     ·simp
     ·simp
     ·rw [hi] at hl;cases hl
     ·simp
     ·simp)
    exact hk _ _ ⟨k3,c3,A3,k',c',A',⟨hk3,hinv.2.1,hk',hA'⟩,h.new z2v z2w (jhw k3 k') hi (by simp [hhD,d3,d4,d1]) (i:=5) (t:=47) (k:=k') (by decide) rfl (by simp [hhX]) rfl (by simp [hhX,hhD];omega)⟩
   ·-- 6
    have hd0:=hdep _ rfl
    simp [Region.binds] at hd0
    have d0:listed[0]? = some true:=by simp [hd0]
    have d5:listed[5]? = some true:=by simp [hd0]
    have d3:=h.cl (5,3) (by decide) d5
    have d1:=h.cl (5,1) (by decide) d5
    have f0:ts 42=zbq N v:=h.tm (0,42) (by decide) d0
    have f5:ts 47=.slice (some ⟨k5,0,none⟩) (nl+nm) c5:=h.tm (5,47) (by decide) d5
    have g5:hp k5=some ⟨A5,.ty 38⟩:=h.bxi hi (w:=5) (by simp [hhX]) d5 (by simp [hhX,hhD];omega)
    have hLB:LB ⟨A5,.ty 38⟩ 0 (nl+nm) (zdy nl wl wm):=hinv.2.2.2.lb H.row (λi hi c a b=>(H.ls i hi).i c a b) (λi hi=>⟨(H.ls i hi).w0,(H.ls i hi).w1⟩) (by omega)
    have tkc:=zhd _ 0 (nl+nm) c5 _ hLB N v H.ok
    rw [H.cat,hA] at tkc
    have h5:k5≠100/\200<=k5:=by omega
    have f5r:=λρ=>Blk.fx_rn hLB.fx ρ
    unfold zd9 at tkc
    unfold zbq za8 at tkc f0
    refine zt7 [16] rfl (by kernel_rfl) (by first|assumption|simp) ?_;intro q hq;simp [hC,hY,f0,f5,low];(repeat ((first|(refine zae tkc G0F (B:=200) (zax hLB.fx) (λk=>if k=100 then k5 else k) (λk hk=>if_neg (by omega)) (by simp [ren,zay,zaj,zam]) (by simp) (by simp [f5r,g5,h5];omega) (by simp [zab]) (by simp [zab];rfl) ?_));try simp [hC,hY,f0,f5,low]));refine hq _ _ _ _ ?_;clear hq q
    exact hk _ _ ⟨k3,c3,A3,k5,c5,A5,hinv,(h.tmp z2v z2w hi (by simp [hhD,d0,d5,d3,d1]) (i:=6) (t:=48) (by decide) rfl (by simp [hhX]))⟩
   ·-- 7
    refine gwo ?_;intro Q hQ;simp [hC,hY];apply hQ
    exact hk _ _ ⟨k3,c3,A3,k5,c5,A5,hinv,(h.new z2v z2w x1 hi (by simp [hhD]) (i:=7) (t:=9) (k:=528) (by decide) rfl (by simp [hhX]) rfl (by simp [hhX,hhD]))⟩
   ·-- 8
    have hd0:=hdep _ rfl
    simp [Region.binds] at hd0
    have d6:listed[6]? = some true:=by simp [hd0]
    have d7:listed[7]? = some true:=by simp [hd0]
    have f6:ts 48=zbq A.N A.v:=h.tm (6,48) (by decide) d6
    have f7:ts 9=.pointer (some ⟨528,0,none⟩):=h.tm (7,9) (by decide) d7
    have g7:hp 528=some (zav 0 λ_=>0):=h.bxi hi (w:=7) (by simp [hhX]) d7 (by simp [hhX,hhD])
    unfold zbq za8 at f6
    unfold zav za8 at g7
    refine gwo ?_;intro Q hQ;simp [hC,hY,f6,f7,g7];apply hQ
    exact hk _ _ ⟨k3,c3,A3,k5,c5,A5,hinv,(h.st x1 hi (by simp [hhD,d6,d7]) (by decide) (i:=8) (k:=528) (by simp [hhX]) rfl (by simp [hhX,hhD]))⟩
  ·have hno:∀ j:Nat,(Array.replicate 9 false)[j]?≠some true:=λj=>by
    rw [Array.getElem?_replicate]
    split<;>simp
   exact ⟨480,nl,fv (14*nl) (zdo wl),480,nl+nm,fv (14*(nl+nm)) (zdo (zdy nl wl wm)),⟨.inl rfl,LA.ex _ _,.inl rfl,LA.ex _ _⟩,TJ.start hno⟩
 ·have rK:=λK=>ze3 t3 K
  rw [t2] at rK
  have hcl:=zek wl nl
  have hcm:=zek wm nm
  simp only at t4
  have n0:=H.n0
  simp only at n0
  have f1:¬A.N<N:=by omega
  have f2:¬N+nl+nm<A.N:=by omega
  have b1:Int.bmod (N+nl) 18446744073709551616=N+nl:=bm (by omega) (by omega)
  have b2:Int.bmod (N+nl+nm) 18446744073709551616=N+nl+nm:=bm (by omega) (by omega)
  unfold jhu zav za8
  unfold zbq za8 at rK
  simp only [List.cons_append,List.nil_append]
  repeat' first|refine gwZ ?_|(refine gwX ?_;intro Q hQ _;simp [hC,hY,rK,f1,f2,b1,b2];refine gwq hQ ?_)|refine gwC ?_ ?_<;>intro hb
  refine zdf ?_
  simp only [Array.toList]
  refine z9o rfl (by simp [ntmps5]) rfl underlying36 (zai sizeOf38) ?_
  refine gwl 1 ?_;intro Q hQ;simp [hC,hY,zcq];apply hQ
  simp only [wT,wM,Nat.reduceAdd]
  refine zt5 (w:=λ_ _=>0) (u:=wl) (k:=964) (A:=#[]) (q:=pl) (m:=nl) (cap:=cl) rfl (by simp [ntmps5]) rfl (by simp) (by omega) (by simp) LA.zero (by simp) ?_ (by omega) ?_
  ·refine h1.imp id ?_
   rintro ⟨k,off,b,e,hm,hL,_⟩
   refine ⟨k,off,b,e,?_,hL⟩
   have hpb:=hT.ok.big _ hm
   simp only at hpb
   simp (disch:=omega) only [zaa,zag,zaq,if_neg]
   exact hT.mem _ hm
  intro k1 c5 A5 hk1 hA5
  rw [zof] at hA5
  simp only [Nat.zero_add] at hA5 |-
  refine gwl 1 ?_;intro Q hQ;simp [hC,hY,zcq];apply hQ
  simp only [wT,wM,Nat.reduceAdd]
  refine zt5 (u:=wm) (k:=k1) (A:=A5) (q:=pm) (m:=nm) (cap:=cm) rfl (by simp [ntmps5]) rfl (by simp) (by omega) (by simp [upd]) hA5 (by simp) ?_ (by omega) ?_
  ·refine h2.imp id ?_
   rintro ⟨k,off,b,e,hm,hL,_⟩
   refine ⟨k,off,b,e,?_,hL⟩
   have hpb:=hT.ok.big _ hm
   simp only at hpb
   simp (disch:=omega) only [zaa,zag,zaq,if_neg]
   exact hT.mem _ hm
  intro k2 c6 A6 hk2 hA6
  refine gwl 1 ?_;intro Q hQ;simp [hC,hY,zcq];apply hQ
  simp only [wT,wM,Nat.reduceAdd]
  refine zec ?_
  simp only [zca]
  have hk9:k2=964\/k2=980\/k2=996:=by omega
  have hfx6:Blk.fx ⟨A6,.ty 38⟩:=hA6.fl
  have hLB:LB ⟨A6,.ty 38⟩ 0 (nl+nm) (zdy nl wl wm):=hA6.lb H.row (λi hi c a b=>(H.ls i hi).i c a b) (λi hi=>⟨(H.ls i hi).w0,(H.ls i hi).w1⟩) (by omega)
  have hcnt:=H.cnt
  have hls:=H.ls
  have hhd:=λ{i:Nat}=>H.hld (i:=i)
  have hag:=λ{i:Nat}=>H.again (i:=i)
  have hold:=H.old
  rw [hA] at hcnt hold
  simp only [hA] at hhd hag
  have hn24:nl+nm<=24:=by omega
  have hle:=hA6.le
  generalize zdy nl wl wm=w at *
  generalize nl+nm=n2 at *
  refine zuc (s':=jhv L ⟨N,v⟩ A n2 c6 A6) (ρ:=λx=>if x=600 then k2 else x) ?_ ?_
  ·unfold jhv
   refine zmi (s:=GS.mk _ _ _ 0) _ _ 800 hC G0F hT.ok hT.fx hC0 (by omega) ?_ ?_ ?_ ?_ ?_
   ·simp [zcj,ren,zay,zaj,zam,zan,za0,zah,zal,dom]
   ·have r1:=λN v=>Blk.fx_rn (zci N v) (λx=>if x=600 then k2 else x)
    have r2:=Blk.fx_rn hfx6 (λx=>if x=600 then k2 else x)
    have r3:=λD=>Blk.fx_ids hfx6 D
    have q2:¬200=k2/\¬400=k2/\¬200=k1/\¬400=k1/\200<=k2:=by omega
    simp only [List.mem_cons,List.not_mem_nil,or_false,forall_eq_or_imp,forall_eq,r1,r2]
    refine ⟨⟨?_,hix _ _ _,by omega,by omega,by simp⟩,⟨?_,hix _ _ _,by omega,by omega,by simp⟩,?_,r3 _,by omega,by omega,by simp;omega⟩
    ·simp [upd,q2,zav,za8]
    ·simp [upd,q2,zav,za8]
    ·simp [upd]
   ·simp only [List.mem_cons,List.not_mem_nil,or_false,forall_eq_or_imp,forall_eq]
    simp
    omega
   ·intro k hk
    exact if_neg (by omega)
   ·intro p hp
    have hpb:=hT.ok.big p hp
    simp (disch:=omega) only [zaa,zag,zaq,if_neg]
    exact hT.mem p hp
  have wks:=λ{s:GS} {i:Nat}=>zvq (s:=s) (i:=i) (h:=⟨N,v⟩) (A:=A) (n2:=n2) (c:=c6) (w:=w) hT hfx6 hC hC0
  have sk:∀ {i:Nat},i<=n2->zcr w i<=24:=λ{i} hi=>Nat.le_trans (zek w i) (by omega)
  clear b1 b2 f1 f2
  unfold jhv zav za8
  simp only [List.cons_append,List.nil_append]
  repeat' first|refine gwZ ?_|refine gwW ?_|refine gwC ?_ ?_<;>intro hb
  refine zc3 n2 (z8b L ⟨N,v⟩ A n2 c6 A6 w) ?_ ?_ ?_
  ·refine wks rfl rfl rfl rfl (by simp [zcr]) rfl ?_ ?_ ?_ ?_ rfl
   ·simp [zav,za8]
   ·simp [zav,za8]
   ·simp
   ·(intro p hp;have hpb:=hT.ok.big p hp;(try dsimp only);simp (disch:=omega) only [zbw,zaa,zag,zaq,if_neg,zbb,List.cons_append,List.nil_append];first|exact hT.mem p hp|exact cL p hp)
  ·intro i hi
   have hi':(i:Int)<n2:=by omega
   have hz:(0:Int)<=i:=by omega
   have hs:Int.bmod ((i:Int)+1) 18446744073709551616=((i+1:Nat):Int):=by rw [bm (by omega) (by omega)];rfl
   have ok1:=hls i hi
   have sl0:=zd7 ok1.w0.1 ok1.w0.2
   have sl1:=zd7 ok1.w1.1 ok1.w1.2
   have hl0:=hLB.wide (e:=0) hi (by omega)
   have hl1:=hLB.wide (e:=1) hi (by omega)
   simp only [Nat.mul_zero,Nat.add_zero,Nat.mul_one,Nat.zero_add] at hl0 hl1
   unfold wd at hl0 hl1
   have hcp:(0<zch (w i 0) (w i 1))=(w i 1<w i 0):=zi9
   cases hf:zcp (w i) with
   | false =>
    have hgt:w i 1<w i 0:=by have:=of_decide_eq_false hf;omega
    have hce:N+(zcr w (i+1):Nat)=N+(zcr w i:Nat):=by rw [zc5,hf];simp
    unfold z8b zav za8
    simp only [List.cons_append,List.nil_append]
    repeat' first|refine gwZ ?_|(refine gwX ?_;intro Q hQ _;simp [hC,hY,hi,hi',hz,hs,hl0,hl1,sl0,sl1,hcp,hgt];refine gwq hQ ?_)|refine gwC ?_ ?_<;>intro hb
    refine wks rfl rfl rfl rfl (by simp [hce]) (by simp [hs]) ?_ ?_ ?_ ?_ rfl
    ·simp [zav,za8]
    ·simp [zav,za8]
    ·simp
    ·(intro p hp;have hpb:=hT.ok.big p hp;(try dsimp only);simp (disch:=omega) only [zbw,zaa,zag,zaq,if_neg,zbb,List.cons_append,List.nil_append];first|exact hT.mem p hp|exact cL p hp)
   | true =>
    have hgt:¬w i 1<w i 0:=by have:=of_decide_eq_true hf;omega
    have hsc:=z5d (N:=N) (w:=w) n0 c1 (sk (i:=i) (Nat.le_of_lt hi)) hf
    have hld:=hLB.loss hi
    rw [Nat.zero_add] at hld
    have hH:=λ(K:Value->Prop)=>zaf (K:=K) G0W (by kernel_rfl) (zhy A.N A.v (w i) t3 ok1)
    rw [show zkn ⟨A.N,A.v⟩ (w i)=true from hhd hi hf] at hH
    have hB1:=jbe ok1
    have tk1:=zhd _ 0 1 1 _ hB1 A.N A.v t3
    obtain ⟨g,hg,hgk,hg0,hg1⟩:=hag hi hf
    rw [show zov ⟨A.N,A.v⟩ (λ_=>w i) 1=g from hg] at tk1
    have hBr:=λρ=>Blk.fx_rn hB1.fx ρ
    unfold hlB at tk1 hB1 hBr
    unfold zd9 at tk1
    unfold zbq za8 at tk1 hH
    rw [hg0,hg1] at tk1
    unfold zcm at hld hH
    unfold z8b zav za8
    simp only [List.cons_append,List.nil_append]
    repeat' first|refine gwZ ?_|((first|refine gwR [16] ?_|refine gwD [16] ?_);intro Q hQ _;(repeat first|simp [hC,hY,hi,hi',hz,hs,hl0,hl1,sl0,sl1,hcp,hgt,hsc,hld,hH]|refine zae tk1 G0F (B:=200) (zax hB1.fx) (λk=>if k=100 then 1172 else k) (λk hk=>if_neg (by omega)) (by simp [ren,zay,zaj,zam]) (by simp) (by simp [hBr];kernel_rfl) (by simp [zab]) (by simp [zab];rfl) ?_);refine gwq hQ ?_)|refine gwC ?_ ?_<;>intro hb
    refine wks rfl rfl rfl rfl rfl (by simp [hs]) ?_ ?_ ?_ ?_ rfl
    ·simp [zav,za8]
    ·simp [zav,za8]
    ·simp
    ·(intro p hp;have hpb:=hT.ok.big p hp;(try dsimp only);simp (disch:=omega) only [zbw,zaa,zag,zaq,if_neg,zbb,List.cons_append,List.nil_append];first|exact hT.mem p hp|exact cL p hp)
  ·have hAN:A.N=N+(zcr w n2:Nat):=hcnt
   unfold z8b zav za8
   simp only [List.cons_append,List.nil_append]
   by_cases hz:N=0
   ·subst hz
    have hA0:A.N=(zcr w n2:Nat):=by omega
    repeat' first|refine gwZ ?_|(refine gwX ?_;intro Q hQ _;simp [hC,hY,wk,hAN];refine gwq hQ ?_)|refine gwC ?_ ?_<;>intro hb
    refine ⟨.inr rfl,by simp [results5],kpT G0F⟩
   ·have hzb:(N==0)=false:=by simpa using hz
    obtain ⟨⟨q1,q2⟩,q3,q4⟩:=hold hz
    have r1:=λ(K:Value->Prop)=>zaf (K:=K) G0W (by kernel_rfl) (zkv (A.v 0) (A.v 1) (v 0))
    have r2:=λ(K:Value->Prop)=>zaf (K:=K) G0W (by kernel_rfl) (zkv (A.v 0) (A.v 1) (v 1))
    rw [ziv t3.w0 t3.w1 H.ok.w0,decide_eq_true ⟨q1,q2⟩] at r1
    rw [ziv t3.w0 t3.w1 H.ok.w1,decide_eq_true ⟨q3,q4⟩] at r2
    unfold spV wd at r1 r2
    repeat' first|refine gwZ ?_|(refine gwX ?_;intro Q hQ _;simp [hC,hY,wk,hAN,hz,hzb,r1,r2];refine gwq hQ ?_)|refine gwC ?_ ?_<;>intro hb
    refine ⟨.inr rfl,by simp [results5],kpT G0F⟩
end
end Go.Gy
namespace Go.Gy
set_option maxRecDepth 100000
open Go Go.RowKit Go.Proofs Go.ChangeShapes Go.WideShapes Go.ChangeAt

section
variable {H:Type} {enc:TypeId×Value->H} {P:Program}
theorem zl0 {f:Func} {s:ChangeSpec} {apart fresh handsOn again:Bool} {W W':World} {args:Array Value} {v:Value} {ds gs:List (DataW H)} {before pa pv:List MemPlace}
  (hW:DataW.Whole enc P f.params.toList s.vars apart W args.toList ds gs before)
  (hres:∀ (b:Nat) (sp:Nat->Bool) (hd:Bool),DataW.TrodAll enc P W' b sp hd f.resultTypes.toList (v.resultList f.resultTypes.size) (s.fn H (ds++gs)).results [])
  (hargs:∀ sp:Nat->Bool,(∀ p∈before,sp p.block=true)->DataW.TrodAll enc P W' 0 sp true f.params.toList args.toList (s.fn H (ds++gs)).args pa)
  (hvars:∀ sp:Nat->Bool,(∀ p∈before,sp p.block=true)->DataW.TrodVars enc P W' sp s.vars (s.fn H (ds++gs)).vars pv)
  (hps:before=pa++pv) (hb:Below W.heap.size W W')
  (hok:∀ (j:Nat) (t:TypeId) (r:Value),f.resultTypes[j]? = some t->(v.resultList f.resultTypes.size)[j]? = some r->Value.okWide P W' .any 0 t r) :
  s.post enc P f apart fresh handsOn again W args v W':=by
 have hlt:∀ p∈before,p.block<W.heap.size:=λp hp=>hW.lt p hp
 have hold:∀ p∈before,(λb=>decide (b<W.heap.size)) p.block=true:=λp hp=>by simpa using hlt p hp
 refine ⟨ds,gs,before,[],pa,pv,hW,hres _ _ _,hargs _ hold,hvars _ hold,World.keptBut_mono (λp hp=>⟨hp,?_⟩) (hb.frame (·∈before)),λ_=>?_⟩
 ·rw [hps,List.mem_append] at hp
  exact Or.inr hp
 ·obtain ⟨_,_,_,_,_,hz,hn⟩:=hW
  refine ⟨hok,_,_,([]++pa)++pv,⟨[]++pa,pv,trodAll_append (hargs _ (λ_ _=>rfl)) (hres _ _ _),hvars _ (λ_ _=>rfl),rfl,?_,?_⟩,?_⟩
  ·intro b off hp
   have hin:MemPlace.cell b off∈before:=by rw [hps];simpa using hp
   rw [hb.frozen (hlt _ hin)]
   exact hz b off hin
  ·intro ha
   have:=hn ha
   rw [hps] at this
   simpa using this
  ·intro p hp _
   rw [hps]
   simpa using hp
end

theorem zna:Tryz.prog.cellsOf 28=1:=by kernel_rfl
theorem zhx:Tryz.prog.cellsOf 30=4:=by kernel_rfl
def jea {H:Type} (z:Int):DataW H:=.agg [.lit (.int .u64 (wi z 0)),.lit (.int .u64 (wi z 1)),.lit (.int .u64 (wi z 2)),.lit (.int .u64 (wi z 3))]
theorem z3b:IntKind.u64.min=0/\IntKind.u64.max=18446744073709551615:=by decide
theorem z3a:IntKind.i64.min=-9223372036854775808/\IntKind.i64.max=9223372036854775807:=by decide
theorem jd5 {z:Int} (h:(Lit.int .u64 z).wf=true):0<=z/\z<18446744073709551616:=by
 simp only [Lit.wf,Bool.and_eq_true,decide_eq_true_eq,z3b.1,z3b.2] at h;omega
theorem z31 {z:Int} (h:(Lit.int .i64 z).wf=true):i64 z:=by
 simp only [Lit.wf,Bool.and_eq_true,decide_eq_true_eq,z3a.1,z3a.2] at h;unfold i64;omega
theorem z16 (w0 w1 w2 w3:Int) (h0:0<=w0/\w0<18446744073709551616) (h1:0<=w1/\w1<18446744073709551616) (h2:0<=w2/\w2<18446744073709551616) (h3:0<=w3/\w3<18446744073709551616) :
  ∃ z,wr z/\wi z 0=w0/\wi z 1=w1/\wi z 2=w2/\wi z 3=w3:=by
 refine ⟨w0+18446744073709551616*w1+340282366920938463463374607431768211456*w2+6277101735386680763835789423207666416102355444464034512896*(if w3<9223372036854775808 then w3 else w3 - 18446744073709551616),?_,?_,?_,?_,?_⟩
 ·unfold wr;split<;>omega
 all_goals (simp only [wi];split<;>omega)
section
variable {H:Type} {enc:TypeId×Value->H} {w:World}
end

theorem own:ownKnob Tryz.prog.godebug=none:=by kernel_rfl
theorem zje {P:Program} {W:World} {name:String} {g:Nat} {cs:Array Value} {z:Array Value} {T:TypeId} (hg:P.globalNamed name=some g) (hlt:g<P.globals.size) (hrow:((begin P (λ_ _=>0) default).world.heap[g]?).bind Obj.row? = some (z,T))
  (hS:W.ShapedOpen P) (hv:W.var? P name=some cs):W.heap[g]? = some (.cells cs T (0,0)):=by
 obtain ⟨c,h1,_⟩:=hS.1 g z T hlt hrow
 unfold World.var? at hv
 rw [hg] at hv
 simp only [Option.bind_some,h1,Option.some.injEq] at hv
 rw [h1,hv]
theorem z2t : Tryz.prog.globalNamed "gyre/quot.least" = some 1 := by kernel_rfl
theorem zsm:(Tryz.prog.globals[1]?).map (·.type)=some 30:=by kernel_rfl
theorem zvl:((begin Tryz.prog (λ_ _=>0) default).world.heap[1]?).bind Obj.row? = some (#[.int .u64 0,.int .u64 0,.int .u64 0,.int .u64 0],30):=by kernel_rfl
theorem z0i {W : World} {rest : List (String × DataW Unit)} (h : laidMet Tryz.prog (("gyre/quot.least", Proofs.YtamodcpmplmaoaaGreatDoor.Rows.laid_gyre_quot_least) :: rest) W) : W.var? Tryz.prog "gyre/quot.least" = some lsB.c :=
 Lib.tabIs_of_head (zs:=[0,0,0,9223372036854775808]) z2t zsm Tryz.underlying30 Tryz.underlying28 zna zhx h
theorem zlj {H:Type} {enc:TypeId×Value->H} {P:Program} {w:World} {base:Nat} {sp:Nat->Bool} {held:Bool} {fuel:Nat} {t e:TypeId} {n:Nat} {cs:List Value} {ss:List (List UInt8)} {p:List MemPlace}
  (ht:P.underlying t=some (.array n e)) (he:P.underlying e=some .string) (hce:P.cellsOf e=1) (hct:P.cellsOf t=n)
  (h:DataW.trod enc P w base sp held fuel t cs=some (.agg (ss.map λs=>.lit (.string s)),p)):cs=ss.map λs=>Value.string ⟨s.toArray⟩:=by
 cases fuel with
 | zero=>simp [DataW.trod] at h
 | succ fuel =>
  simp only [DataW.trod,ht,hce,hct,Nat.mul_one] at h
  split at h
  ·rename_i hl
   obtain ⟨xs,hm,hx⟩:=Option.map_eq_some_iff.1 h
   have hxs:xs.map (·.1)=ss.map λs=>(DataW.lit (.string s):DataW H):=by
    have:=congrArg Prod.fst hx
    simpa using this
   have hxl:xs.length=n:=by simpa using Lib.mapM_length hm
   have hzl:ss.length=n:=by
    have:=congrArg List.length hxs
    simp at this
    omega
   apply List.ext_getElem?
   intro i
   by_cases hi:i<n
   ·obtain ⟨b,hb,hf⟩:=Lib.mapM_at hm i i (by simp [hi])
    obtain ⟨s,hc,rfl,_⟩:=DataW.trod_string he hf
    have h1:cs[i]? = some (.string s):=by
     have:=congrArg (·[0]?) hc
     simpa [List.getElem?_take,List.getElem?_drop] using this
    have h2:(xs.map (·.1))[i]? = some (DataW.lit (.string s.data.toList):DataW H):=by simp [hb]
    rw [hxs] at h2
    simp only [List.getElem?_map,Option.map_eq_some_iff,DataW.lit.injEq,Lit.string.injEq] at h2
    obtain ⟨z',hz',rfl⟩:=h2
    simp [h1,hz']
   ·rw [List.getElem?_eq_none (by omega),List.getElem?_eq_none (by simp;omega)]
  ·cases h
theorem z2u : Tryz.prog.globalNamed "gyre/conf.names" = some 0 := by kernel_rfl
theorem zsn:(Tryz.prog.globals[0]?).map (·.type)=some 171:=by kernel_rfl
theorem zu2:Tryz.prog.cellsOf 9=1:=by kernel_rfl
theorem zo5:Tryz.prog.cellsOf 171=7:=by kernel_rfl
theorem zvm:((begin Tryz.prog (λ_ _=>0) default).world.heap[0]?).bind Obj.row? = some (#[.string ⟨#[]⟩,.string ⟨#[]⟩,.string ⟨#[]⟩,.string ⟨#[]⟩,.string ⟨#[]⟩,.string ⟨#[]⟩,.string ⟨#[]⟩],171):=by kernel_rfl
theorem z0y {W : World} {rest : List (String × DataW Unit)} (h : laidMet Tryz.prog (("gyre/conf.names", Proofs.YtamodcpmplmaoaaGreatDoor.Rows.laid_gyre_conf_names) :: rest) W) : W.var? Tryz.prog "gyre/conf.names" = some cnB.c := by
 obtain ⟨ps,⟨g',t',cs,fuel,p,q,hg',ht',hvar,hd,_,_⟩,_⟩:=h
 obtain rfl:=Option.some.inj (z2u.symm.trans hg')
 obtain rfl:=Option.some.inj (zsn.symm.trans ht')
 have h9:=zlj (ss:=[[98,111,100,105,101,115],[109,97,115,115],[99,111,110,115,116,97,110,116],[98,111,120],[116,111,112],[110,101,97,114],[109,101,116,104,111,100]]) Tryz.underlying171 Tryz.underlying9 zu2 zo5 hd
 rw [hvar]
 congr 1
 exact Array.ext' h9
theorem zz2 {W : World} (hS : W.ShapedOpen Tryz.prog) (h : laidMet Tryz.prog [("gyre/conf.names", Proofs.YtamodcpmplmaoaaGreatDoor.Rows.laid_gyre_conf_names), ("gyre/quot.least", Proofs.YtamodcpmplmaoaaGreatDoor.Rows.laid_gyre_quot_least)] W) : GOK G0 W := λk b hk => by
 have h9:=zms hk
 simp [G0L] at h9
 rcases h9 with ⟨rfl,rfl⟩|⟨rfl,rfl⟩
 ·exact zje z2t (of_decide_eq_true (by kernel_rfl)) zvl hS (z0i (laidMet.tail h))
 ·exact zje z2u (of_decide_eq_true (by kernel_rfl)) zvm hS (z0y h)
theorem zm9:Tryz.prog.cellsOf 3=1:=by kernel_rfl
section
variable {H:Type} {enc:TypeId×Value->H} {w:World} {base:Nat} {spare:Nat->Bool} {held:Bool}
theorem ztj {fits:TypeId->Bool} (h:fits 28=false) (d c o n:Nat):rowAt Tryz.prog fits d 28 c o n=false:=by
 cases d with
 | zero=>rfl
 | succ d=>simp [rowAt,h,Tryz.underlying28]
theorem zh9 {fits:TypeId->Bool} (h:fits 28=false) (h2:fits 30=false) (d c o n:Nat):rowAt Tryz.prog fits d 30 c o n=false:=by
 cases d with
 | zero=>rfl
 | succ d=>simp [rowAt,h2,Tryz.underlying30,ztj h]
theorem zv4 (d c o n:Nat):liesAt Tryz.prog d 30 c o 72 n=false:=by
 cases d with
 | zero=>rfl
 | succ d =>
  unfold liesAt
  rw [zh9 (by kernel_rfl) (by kernel_rfl),Tryz.underlying72]
  rfl
theorem zw5 {fits:TypeId->Bool} (h:fits 9=false) (d c o n:Nat):rowAt Tryz.prog fits d 9 c o n=false:=by
 cases d with
 | zero=>rfl
 | succ d=>simp [rowAt,h,Tryz.underlying9]
theorem zgx {fits:TypeId->Bool} (h:fits 9=false) (h2:fits 171=false) (d c o n:Nat):rowAt Tryz.prog fits d 171 c o n=false:=by
 cases d with
 | zero=>rfl
 | succ d=>simp [rowAt,h2,Tryz.underlying171,zw5 h]
theorem zsx (d c o n:Nat):liesAt Tryz.prog d 171 c o 72 n=false:=by
 cases d with
 | zero=>rfl
 | succ d =>
  unfold liesAt
  rw [zgx (by kernel_rfl) (by kernel_rfl),Tryz.underlying72]
  rfl
theorem z34:∀ p∈G0L,∃ t,p.2.T=.ty t/\∀ d c o n,liesAt Tryz.prog d t c o 72 n=false:=by
 intro p hp
 unfold G0L at hp
 rcases List.mem_cons.1 hp with rfl|hp
 ·exact ⟨_,rfl,zv4⟩
 rcases List.mem_cons.1 hp with rfl|hp
 ·exact ⟨_,rfl,zsx⟩
 cases hp
structure StAt (W:World) (k off n cap:Nat) (b:Blk) (f:Nat->Int):Prop where
 le:n<=cap
 heap:W.heap[k]? = some b.obj0
 fx:b.fx
 raw:∃ c T fr,b=⟨c,.raw T fr⟩
 rd:rdI b off (6*cap) f
 i6:∀ j,j<6*cap->i64 (f j)
 lies:∃ row c,W.shape? k=some (row,c)/\liesAt Tryz.prog Tryz.prog.depth row (c / Tryz.prog.cellsOf row) off 72 cap=true
end
theorem zho {H:Type} {enc:TypeId×Value->H} {P:Program} {base:Nat} (hl:laidOutB P=true) {W W':World} {sp':Nat->Bool}:∀ (ts:List TypeId) (vs:List Value) (ds:List (DataW H)) (ps:List MemPlace),(∀ t∈ts,P.readableRec t=true/\t<P.types.size) ->
  DataW.TrodAll enc P W base (λ_=>true) true ts vs ds ps->(∀ p∈ps,W.sameAt W' p)->(∀ p∈ps,sp' p.block=true)->DataW.TrodAll enc P W' base sp' true ts vs ds ps
 | [],[],[],_,_,h,_,_=>h
 | t::_,_::_,_::_,_,hT,⟨p,q,h1,h2,e⟩,hm,hs=>⟨p,q,WideElems.Trod_stays hl (hT t (by simp)).1 (hT t (by simp)).2 h1 (λx hx=>hm x (by rw [e];exact List.mem_append_left _ hx)) (λx hx=>hs x (by rw [e];exact List.mem_append_left _ hx)),
   zho hl _ _ _ _ (λt ht=>hT t (List.mem_cons_of_mem _ ht)) h2 (λx hx=>hm x (by rw [e];exact List.mem_append_right _ hx)) (λx hx=>hs x (by rw [e];exact List.mem_append_right _ hx)),e⟩
theorem z0h:laidOutB Tryz.prog=true:=by kernel_rfl
theorem StAt.ne {W:World} {k off n cap:Nat} {b:Blk} {f:Nat->Int} (h:StAt W k off n cap b f) (hg:GOK G0 W):∀ g c,G0 g=some c->k≠g:=λg c hc e=>by
 have h1:=hg g c hc
 obtain ⟨t,ht,hl'⟩:=z34 _ (zms hc)
 obtain ⟨row,q,hsh,hl⟩:=h.lies
 rw [e] at hsh
 unfold World.shape? at hsh
 rw [h1] at hsh
 obtain ⟨cc,T⟩:=c
 simp only at ht
 subst ht
 simp only [Blk.obj0,Option.some.injEq,Prod.mk.injEq] at hsh
 obtain ⟨rfl,rfl⟩:=hsh
 rw [hl'] at hl
 cases hl
section
variable {H:Type} {enc:TypeId×Value->H} {w:World} {base:Nat} {spare:Nat->Bool} {held:Bool}
end
theorem z1b {W:World} {k:Nat} {b b':Blk} (h:W.heap[k]? = some b.obj0) (h':W.heap[k]? = some b'.obj0) (r:∃ c T fr,b=⟨c,.raw T fr⟩) (r':∃ c T fr,b'=⟨c,.raw T fr⟩):b=b':=by
 obtain ⟨c,T,fr,rfl⟩:=r
 obtain ⟨c',T',fr',rfl⟩:=r'
 rw [h] at h'
 simp only [Blk.obj0,Option.some.injEq,Obj.cells.injEq] at h'
 obtain ⟨rfl,rfl,rfl⟩:=h'
 rfl
theorem jhp {P:Program} {G:Hp} {fn:FuncId} {args:Array Value} {L:List (Nat×Blk)} {v:Value} {W:World} (r:Nat->Nat) (hGF:zbg G) (hF:Fun P G fn args (hpL G L) (zab L) (.ret v [])) (hv:zau v=true) (hgok:GOK G W) (hL:LOk L 200) (hfx:∀ p∈L,p.2.fx)
  (hr:∀ p∈L,W.heap[r p.1]? = some p.2.obj0) (hne:∀ p∈L,∀ g c,G g=some c->r p.1≠g) (hinj:∀ p∈L,∀ q∈L,r p.1=r q.1->p.1=q.1) (hlow:∀ q,q<100->r q=q) :
  zdw P fn (args.map (ren r)) W λe W'=>e=.returned v/\Below W.heap.size W W':=by
 have er:rst (hpL G L) (zab L)=hpL G L:=LOk.rst hGF
 have hobj:∀ (b:Blk),b.fx->∀ r,b.obj r=b.obj0:=λb hb r=>by
  obtain ⟨c,T⟩:=b
  cases T with
  | ty t=>exact Blk.obj_flat hb
  | raw t fr=>rfl
  | mp=>exact hb.elim
 have hmem:∀ q c,hpL G L q=some c->(q,c)∈L\/(q<100/\G q=some c):=λq c hq=>by
  rcases za5 hq with h|h
  ·exact .inl h
  ·exact .inr ⟨(hGF q c h).1,h⟩
 have hrun:=hF.run r W hgok ?_ ?_ ?_
 ·refine hrun.mono λe W' h=>?_
  obtain ⟨he,ht⟩:=h
  rw [zap hv] at he
  exact ⟨he,ht.os,ht.tape,ht.output,ht.size,λq hq=>ht.same q hq (by simp)⟩
 ·rw [er]
  intro q c hq
  rcases hmem q c hq with h|⟨hlt,hG⟩
  ·exact ⟨by rw [hobj c (hfx _ h)];exact hr _ h,Blk.fx_ids (hfx _ h) _⟩
  ·refine ⟨?_,Blk.flat_ids (hGF q c hG).2⟩
   rw [hlow q hlt,hgok q c hG]
   congr 1
   obtain ⟨cc,T⟩:=c
   cases T with
   | ty t=>exact (Blk.obj_flat (hGF q _ hG).2).symm
   | raw t fr=>rfl
   | mp=>exact (Blk.obj_flat (hGF q _ hG).2).symm
 ·rw [er]
  intro q q' hq hq' e
  unfold dom at hq hq'
  cases h1:hpL G L q with
  | none=>exact absurd h1 hq
  | some c =>
   cases h2:hpL G L q' with
   | none=>exact absurd h2 hq'
   | some c' =>
    rcases hmem q c h1 with h|⟨hlt,hG⟩<;>rcases hmem q' c' h2 with h'|⟨hlt',hG'⟩
    ·exact hinj _ h _ h' e
    ·rw [hlow q' hlt'] at e;exact absurd e (hne _ h _ _ hG')
    ·rw [hlow q hlt] at e;exact absurd e.symm (hne _ h' _ _ hG)
    ·rw [hlow q hlt,hlow q' hlt'] at e;exact e
 ·intro q hq _
  exact hlow q hq
theorem zpi (d c o n:Nat):liesAt Tryz.prog d 171 c o 3 n=false:=by
 cases d with
 | zero=>rfl
 | succ d =>
  unfold liesAt
  rw [zgx (by kernel_rfl) (by kernel_rfl),Tryz.underlying3]
  rfl
theorem zsy (d c o n:Nat):liesAt Tryz.prog d 30 c o 3 n=false:=by
 cases d with
 | zero=>rfl
 | succ d =>
  unfold liesAt
  rw [zh9 (by kernel_rfl) (by kernel_rfl),Tryz.underlying3]
  rfl
theorem zyj:∀ p∈G0L,∃ t,p.2.T=.ty t/\∀ d c o n,liesAt Tryz.prog d t c o 3 n=false:=by
 intro p hp
 unfold G0L at hp
 rcases List.mem_cons.1 hp with rfl|hp
 ·exact ⟨_,rfl,zsy⟩
 rcases List.mem_cons.1 hp with rfl|hp
 ·exact ⟨_,rfl,zpi⟩
 cases hp
structure CfAt (W:World) (k off n cap:Nat) (b:Blk) (f:Nat->Int):Prop where
 le:n<=cap
 heap:W.heap[k]? = some b.obj0
 fx:b.fx
 raw:∃ c T fr,b=⟨c,.raw T fr⟩
 rd:rdI b off cap f
 i6:∀ j,j<cap->i64 (f j)
 lies:∃ row c,W.shape? k=some (row,c)/\liesAt Tryz.prog Tryz.prog.depth row (c / Tryz.prog.cellsOf row) off 3 cap=true
theorem CfAt.mb {W:World} {k off n cap:Nat} {b:Blk} {f:Nat->Int} (h:CfAt W k off n cap b f) (hn:n<=17592186044416):MB b off n f:=⟨h.rd.le h.le,h.fx,λj hj=>h.i6 j (Nat.lt_of_lt_of_le hj h.le),hn⟩
theorem CfAt.ne {W:World} {k off n cap:Nat} {b:Blk} {f:Nat->Int} (h:CfAt W k off n cap b f) (hg:GOK G0 W):∀ g c,G0 g=some c->k≠g:=λg c hc e=>by
 have h1:=hg g c hc
 obtain ⟨t,ht,hl'⟩:=zyj _ (zms hc)
 obtain ⟨row,q,hsh,hl⟩:=h.lies
 rw [e] at hsh
 unfold World.shape? at hsh
 rw [h1] at hsh
 obtain ⟨cc,T⟩:=c
 simp only at ht
 subst ht
 simp only [Blk.obj0,Option.some.injEq,Prod.mk.injEq] at hsh
 obtain ⟨rfl,rfl⟩:=hsh
 rw [hl'] at hl
 cases hl
section
variable {H:Type} {enc:TypeId×Value->H} {w:World} {held:Bool}
end
theorem zj9:Tryz.prog.cellsOf 32=8:=by kernel_rfl
section
variable {H:Type} {enc:TypeId×Value->H} {w:World} {base:Nat} {spare:Nat->Bool} {held:Bool}
theorem zk3 {fuel:Nat} {cs:List Value} {x:DataW H×List MemPlace} (h:DataW.trod enc Tryz.prog w base spare held fuel 30 cs=some x):cs.length=4/\∀ j,j<4->∃ z,cs[j]? = some (.int .u64 z)/\0<=z/\z<18446744073709551616:=by
 obtain ⟨xs,m,_,rfl,hl,hxs,hi⟩:=DataW.trod_array Tryz.underlying30 h
 rw [zhx] at hl
 refine ⟨hl,λj hj=>?_⟩
 have h1:=hi j hj
 rw [zna,Nat.mul_one,List.getElem?_eq_getElem (by omega)] at h1
 obtain ⟨z,e,_,hw⟩:=DataW.trod_int Tryz.underlying28 h1
 refine ⟨z,?_,jd5 hw⟩
 have:=congrArg (·[0]?) e
 simpa [List.getElem?_take,List.getElem?_drop] using this
end
theorem zli:Tryz.prog.cellsOf 33=3:=by kernel_rfl
theorem zsb:Tryz.prog.cellsOf 38=14:=by kernel_rfl
theorem zsa:Tryz.prog.cellsOf 35=21:=by kernel_rfl
theorem zr7:Tryz.prog.bytesOf 38=112:=by kernel_rfl
theorem zpj (d c o n:Nat):liesAt Tryz.prog d 171 c o 38 n=false:=by
 cases d with
 | zero=>rfl
 | succ d =>
  unfold liesAt
  rw [zgx (by kernel_rfl) (by kernel_rfl),Tryz.underlying38]
  rfl
theorem zsz (d c o n:Nat):liesAt Tryz.prog d 30 c o 38 n=false:=by
 cases d with
 | zero=>rfl
 | succ d =>
  unfold liesAt
  rw [zh9 (by kernel_rfl) (by kernel_rfl),Tryz.underlying38]
  rfl
theorem zyk:∀ p∈G0L,∃ t,p.2.T=.ty t/\∀ d c o n,liesAt Tryz.prog d t c o 38 n=false:=by
 intro p hp
 unfold G0L at hp
 rcases List.mem_cons.1 hp with rfl|hp
 ·exact ⟨_,rfl,zsz⟩
 rcases List.mem_cons.1 hp with rfl|hp
 ·exact ⟨_,rfl,zpj⟩
 cases hp
section
variable {H:Type} {enc:TypeId×Value->H} {w:World} {base:Nat} {spare:Nat->Bool} {held:Bool}
theorem zlr {fuel:Nat} {cs:List Value} {x:DataW H×List MemPlace} (h:DataW.trod enc Tryz.prog w base spare held fuel 33 cs=some x):cs.length=3/\∀ j,j<3->∃ z,cs[j]? = some (.int .i64 z)/\i64 z:=by
 obtain ⟨xs,m,_,rfl,hl,hxs,hi⟩:=DataW.trod_array Tryz.underlying33 h
 rw [zli] at hl
 refine ⟨hl,λj hj=>?_⟩
 have h1:=hi j hj
 rw [zm9,Nat.mul_one,List.getElem?_eq_getElem (by omega)] at h1
 obtain ⟨z,e,_,hw⟩:=DataW.trod_int Tryz.underlying3 h1
 refine ⟨z,?_,z31 hw⟩
 have:=congrArg (·[0]?) e
 simpa [List.getElem?_take,List.getElem?_drop] using this
theorem zrp {cs:List Value} (hl:cs.length=4) (h:∀ j,j<4->∃ z,cs[j]? = some (.int .u64 z)/\0<=z/\z<18446744073709551616):∃ z,wr z/\∀ j,j<4->cs[j]? = some (.int .u64 (wi z j)):=by
 obtain ⟨a,ea,ha⟩:=h 0 (by omega)
 obtain ⟨b,eb,hb⟩:=h 1 (by omega)
 obtain ⟨c,ec,hc⟩:=h 2 (by omega)
 obtain ⟨d,ed,hd⟩:=h 3 (by omega)
 obtain ⟨z,hz,e0,e1,e2,e3⟩:=z16 a b c d ha hb hc hd
 refine ⟨z,hz,λj hj=>?_⟩
 have:j=0\/j=1\/j=2\/j=3:=by omega
 rcases this with rfl|rfl|rfl|rfl
 ·rw [e0];exact ea
 ·rw [e1];exact eb
 ·rw [e2];exact ec
 ·rw [e3];exact ed
theorem zol {P:Program} {t:TypeId} {f0 f1 f2:Field} {fuel:Nat} {cs:List Value} {x:DataW H×List MemPlace} (ht:P.underlying t=some (.struct #[f0,f1,f2])) (h:DataW.trod enc P w base spare held fuel t cs=some x) :
  ∃ y0 y1 y2 n,cs.length=P.cellsOf t/\DataW.trod enc P w base spare held n f0.type ((cs.drop f0.offset).take (P.cellsOf f0.type))=some y0/\DataW.trod enc P w base spare held n f1.type ((cs.drop f1.offset).take (P.cellsOf f1.type))=some y1 /\
   DataW.trod enc P w base spare held n f2.type ((cs.drop f2.offset).take (P.cellsOf f2.type))=some y2:=by
 obtain ⟨xs,n,_,hx,hl,hlen,hf⟩:=DataW.trod_struct ht h
 match xs,hlen with
 | [y0,y1,y2],_=>exact ⟨y0,y1,y2,n,hl,by simpa using hf 0 f0 rfl,by simpa using hf 1 f1 rfl,by simpa using hf 2 f2 rfl⟩
theorem zky {fuel:Nat} {cs:List Value} {x:DataW H×List MemPlace} (h:DataW.trod enc Tryz.prog w base spare held fuel 32 cs=some x):∃ lo hi,wr lo/\wr hi/\(∀ j,j<4->cs[j]? = some (.int .u64 (wi lo j)))/\∀ j,j<4->cs[4+j]? = some (.int .u64 (wi hi j)):=by
 obtain ⟨y0,y1,n,_,hl,h0,h1⟩:=trod_struct2 Tryz.underlying32 h
 simp only [zhx] at h0 h1
 obtain ⟨l0,w0⟩:=zk3 h0
 obtain ⟨l1,w1⟩:=zk3 h1
 obtain ⟨lo,hlo,e0⟩:=zrp l0 w0
 obtain ⟨hi,hhi,e1⟩:=zrp l1 w1
 refine ⟨lo,hi,hlo,hhi,λj hj=>?_,λj hj=>?_⟩
 ·have:=e0 j hj
  simpa [List.getElem?_take,List.getElem?_drop,hj] using this
 ·have:=e1 j hj
  rw [List.getElem?_take,if_pos hj,List.getElem?_drop] at this
  exact this
def jb0 (lo hi:Int) (p l:Nat->Int) (c:Nat):Int:=if c=0 then lo else if c=1 then hi else if c<5 then p (c - 2) else if c<8 then p (c - 5) else if c<11 then l (c - 8) else l (c - 11)
theorem zs0 {fuel:Nat} {cs:List Value} {x:DataW H×List MemPlace} (h:DataW.trod enc Tryz.prog w base spare held fuel 38 cs=some x):∃ lw,LsOk lw/\∀ j,j<14->cs[j]? = some (zj0 lw j):=by
 obtain ⟨y0,y1,y2,n,hl,h0,h1,h2⟩:=zol Tryz.underlying38 h
 simp only [zj9,zli] at h0 h1 h2
 obtain ⟨lo,hi,a,b,e0,e1⟩:=zky h0
 obtain ⟨_,p⟩:=zlr h1
 obtain ⟨_,l⟩:=zlr h2
 obtain ⟨p0,ep0,ip0⟩:=p 0 (by omega)
 obtain ⟨p1,ep1,ip1⟩:=p 1 (by omega)
 obtain ⟨p2,ep2,ip2⟩:=p 2 (by omega)
 obtain ⟨l0,el0,il0⟩:=l 0 (by omega)
 obtain ⟨l1,el1,il1⟩:=l 1 (by omega)
 obtain ⟨l2,el2,il2⟩:=l 2 (by omega)
 simp only [List.getElem?_take,List.getElem?_drop,Nat.reduceLT,if_true,Nat.reduceAdd,Nat.add_zero] at ep0 ep1 ep2 el0 el1 el2
 have f0:∀ j,j<4->cs[j]? = some (.int .u64 (wi lo j)):=λj hj=>by
  have:=e0 j hj
  rw [List.getElem?_take,if_pos (by omega),List.getElem?_drop,Nat.zero_add] at this
  exact this
 have f1:∀ j,j<4->cs[4+j]? = some (.int .u64 (wi hi j)):=λj hj=>by
  have:=e1 j hj
  rw [List.getElem?_take,if_pos (by omega),List.getElem?_drop,Nat.zero_add] at this
  exact this
 refine ⟨jb0 lo hi (λq=>if q=0 then p0 else if q=1 then p1 else p2) (λq=>if q=0 then l0 else if q=1 then l1 else l2),⟨a,b,λc k1 k2=>?_,λq hq=>?_⟩,λj hj=>?_⟩
 ·unfold jb0
  rw [if_neg (by omega),if_neg (by omega)]
  split
  ·dsimp only;split;exact ip0;split;exact ip1;exact ip2
  ·split
   ·dsimp only;split;exact ip0;split;exact ip1;exact ip2
   ·split
    ·dsimp only;split;exact il0;split;exact il1;exact il2
    ·dsimp only;split;exact il0;split;exact il1;exact il2
 ·have:q=0\/q=1\/q=2:=by omega
  rcases this with rfl|rfl|rfl<;>exact ⟨rfl,rfl⟩
 ·have:j=0\/j=1\/j=2\/j=3\/j=4\/j=5\/j=6\/j=7\/j=8\/j=9\/j=10\/j=11\/j=12\/j=13:=by omega
  rcases this with rfl|rfl|rfl|rfl|rfl|rfl|rfl|rfl|rfl|rfl|rfl|rfl|rfl|rfl
  ·exact f0 0 (by omega)
  ·exact f0 1 (by omega)
  ·exact f0 2 (by omega)
  ·exact f0 3 (by omega)
  ·exact f1 0 (by omega)
  ·exact f1 1 (by omega)
  ·exact f1 2 (by omega)
  ·exact f1 3 (by omega)
  ·exact ep0
  ·exact ep1
  ·exact ep2
  ·exact el0
  ·exact el1
  ·exact el2
structure LsAt (W:World) (k off n cap:Nat) (b:Blk) (f:Nat->Nat->Int):Prop where
 le:n<=cap
 heap:W.heap[k]? = some b.obj0
 fx:b.fx
 raw:∃ c T fr,b=⟨c,.raw T fr⟩
 rd:rdV b off (14*cap) (zdo f)
 ok:∀ i,i<cap->LsOk (f i)
 row:zhj f
 lies:∃ row c,W.shape? k=some (row,c)/\liesAt Tryz.prog Tryz.prog.depth row (c / Tryz.prog.cellsOf row) off 38 cap=true
theorem LsAt.lb {W:World} {k off n cap:Nat} {b:Blk} {f:Nat->Nat->Int} (h:LsAt W k off n cap b f) (hn:n<=1256598820000):LB b off n f :=
 ⟨h.rd.le (by have:=h.le;omega),h.fx,h.row,λi hi=>(h.ok i (Nat.lt_of_lt_of_le hi h.le)).i,λi hi=>⟨(h.ok i (Nat.lt_of_lt_of_le hi h.le)).w0,(h.ok i (Nat.lt_of_lt_of_le hi h.le)).w1⟩,hn⟩
theorem LsAt.ne {W:World} {k off n cap:Nat} {b:Blk} {f:Nat->Nat->Int} (h:LsAt W k off n cap b f) (hg:GOK G0 W):∀ g c,G0 g=some c->k≠g:=λg c hc e=>by
 have h1:=hg g c hc
 obtain ⟨t,ht,hl'⟩:=zyk _ (zms hc)
 obtain ⟨row,q,hsh,hl⟩:=h.lies
 rw [e] at hsh
 unfold World.shape? at hsh
 rw [h1] at hsh
 obtain ⟨cc,T⟩:=c
 simp only at ht
 subst ht
 simp only [Blk.obj0,Option.some.injEq,Prod.mk.injEq] at hsh
 obtain ⟨rfl,rfl⟩:=hsh
 rw [hl'] at hl
 cases hl
theorem zpr {r:Reach} {b0:Nat} {v:Value} {d:DataW H} {p:List MemPlace} (hv:Value.okWide Tryz.prog w r b0 36 v) (h:DataW.Trod enc Tryz.prog w 0 (λ_=>true) held 36 v d p) :
  v=.slice none 0 0\/∃ (k off n cap:Nat) (b:Blk) (f:Nat->Nat->Int),v=.slice (some ⟨k,off,none⟩) n cap/\LsAt w k off n cap b f:=by
 simp only [Value.okWide,Tryz.underlying36] at hv
 obtain ⟨q,n0,c0,rfl⟩:∃ q n0 c0,v=.slice q n0 c0:=by
  cases v<;>simp [Cell.okWide,Cell.ok,Tryz.underlying36] at hv |-
 obtain ⟨fuel,hf⟩:=h
 simp only [Value.cells] at hf
 rcases Deep.open_slice Tryz.underlying36 hf with ⟨e0,_⟩|⟨a,len,cap,m,n,D,Pl,e0,_,hlc,hcm,hm,_,hel⟩
 ·left
  simpa using e0
 ·right
  simp at e0
  obtain ⟨rfl,rfl,rfl⟩:=e0
  rw [if_pos rfl] at hm
  subst hm
  simp only [Cell.okWide,Cell.ok,Tryz.underlying36] at hv
  obtain ⟨_,_,_,hsp,row,cells,hsh,hlies⟩:=hv
  obtain ⟨k,off,sp⟩:=a
  simp only at hsp hsh hlies
  subst hsp
  have hel2:∀ i,i<m->∃ lw,LsOk lw/\∀ j,j<14->w.cell? (Addr.add ⟨k,off,none⟩ (i*14+j))=some (zj0 lw j):=λi hi=>by
   obtain ⟨cs',h1,h2⟩:=hel i hi
   rw [zsb] at h1
   obtain ⟨lw,hlw,hc⟩:=zs0 h2
   refine ⟨lw,hlw,λj hj=>?_⟩
   unfold World.cells? at h1
   rw [if_pos (Nat.zero_le _)] at h1
   have h3:=mapM_some_get h1 j j (List.getElem?_range (by omega))
   rw [hc j hj,Deep.add_add] at h3
   exact h3
  let f:Nat->Nat->Int:=λi=>if h:i<m then Classical.choose (hel2 i h) else λ_=>0
  have hf1:∀ i (hi:i<m),LsOk (f i)/\∀ j,j<14->w.cell? (Addr.add ⟨k,off,none⟩ (i*14+j))=some (zj0 (f i) j):=λi hi=>by
   have:=Classical.choose_spec (hel2 i hi)
   simp only [f,dif_pos hi]
   exact this
  have hf2:zhj f:=λi q hq=>by
   by_cases hi:i<m
   ·exact (hf1 i hi).1.r q hq
   ·simp only [f,dif_neg hi]
    exact ⟨trivial,trivial⟩
  have hsh':=hsh
  unfold World.shape? at hsh'
  split at hsh'
  ·rename_i c T fr hh
   simp only [Option.some.injEq,Prod.mk.injEq] at hsh'
   obtain ⟨rfl,rfl⟩:=hsh'
   refine ⟨k,off,_,m,⟨c,.raw T fr⟩,f,rfl,hlc,hh,trivial,⟨c,T,fr,rfl⟩,λj hj=>?_,λi hi=>(hf1 i hi).1,hf2,T,_,hsh,hlies⟩
   have h2:=(hf1 (j / 14) (by omega)).2 (j%14) (by omega)
   rw [Addr.add_lit,show j / 14*14+j%14=j by omega] at h2
   unfold zdo
   simpa [World.cell?,hh] using h2
  ·cases hsh'
theorem z4u {a:Addr} {n cap:Nat} {d:DataW H} {p:List MemPlace} (h:DataW.Trod enc Tryz.prog w 0 (λ_=>true) held 36 (.slice (some a) n cap) d p) (hw:∀ x∈d.weights Tryz.prog 36,x<=reachBytes):cap<=1256598820000:=by
 obtain ⟨fuel,hf⟩:=h
 simp only [Value.cells] at hf
 rcases Deep.open_slice Tryz.underlying36 hf with ⟨e1,_⟩|⟨a',len,cap',m',n',D,Pl,e1,_,hlc,hcm,hm,hy1,_⟩
 ·simp at e1
 ·simp at e1
  obtain ⟨rfl,rfl,rfl⟩:=e1
  rw [if_pos rfl] at hm
  subst hm
  simp only [Prod.mk.injEq] at hy1
  rw [hy1.1] at hw
  have:=hw ((n+(m' - n))*112) (by
   simp [DataW.weights,Tryz.underlying36,zr7])
  unfold reachBytes at this
  omega
end
structure Mine (W:World) (k:Nat) (b:Blk):Prop where
 heap:W.heap[k]? = some b.obj0
 fx:b.fx
 raw:∃ c T fr,b=⟨c,.raw T fr⟩
 ne:∀ g c,G0 g=some c->k≠g
structure Laid (W:World) (L:List (Nat×Blk)) (nm:Nat->Nat):Prop where
 ok:LOk L (100+8*L.length)
 fx:∀ p∈L,p.2.fx
 mine:∀ p∈L,Mine W (nm p.1) p.2
 inj:∀ p∈L,∀ q∈L,nm p.1=nm q.1->p.1=q.1
 low:∀ k,k<100->nm k=k
def nmX (a x:Nat) (nm:Nat->Nat) (k:Nat):Nat:=if k=a then x else nm k
theorem z6f (a x:Nat) (nm:Nat->Nat):nmX a x nm a=x:=if_pos rfl
theorem zwo {a x k:Nat} {nm:Nat->Nat} (h:k≠a):nmX a x nm k=nm k:=if_neg h
theorem lay {W:World}:∀ (xs:List (Nat×Blk)),(∀ x∈xs,Mine W x.1 x.2)->∃ L nm,Laid W L nm/\L.length<=xs.length/\∀ x∈xs,∃ m,(m,x.2)∈L/\nm m=x.1
 | [],_=>⟨[],λk=>k,⟨⟨(λp hp=>by cases hp),List.nodup_nil,(λp hp=>by cases hp)⟩,(λp hp=>by cases hp),(λp hp=>by cases hp),(λp hp=>by cases hp),λk _=>rfl⟩,Nat.le_refl _,λx hx=>by cases hx⟩
 | x::xs,h=>by
  obtain ⟨L,nm,hL,hl,hx⟩:=lay xs λy hy=>h y (List.mem_cons_of_mem _ hy)
  have hm:=h x (List.mem_cons_self ..)
  by_cases hin:∃ p∈L,nm p.1=x.1
  ·obtain ⟨p,hp,e⟩:=hin
   have hp2:=hL.mine p hp
   rw [e] at hp2
   have e2:p.2=x.2:=z1b hp2.heap hm.heap hp2.raw hm.raw
   refine ⟨L,nm,hL,by simp only [List.length_cons];omega,λy hy=>?_⟩
   rcases List.mem_cons.1 hy with rfl|hy
   ·exact ⟨p.1,by rw [<-e2];exact hp,e⟩
   ·exact hx y hy
  ·have hfr:∀ p∈L,p.1≠100+8*L.length:=λp hp=>by have:=hL.ok.big p hp;omega
   have hnk:100+8*L.length∉zab L:=λhk=>by
    obtain ⟨p,hp,e⟩:=zad.1 hk
    exact hfr p hp e
   have old:∀ p∈L,nmX (100+8*L.length) x.1 nm p.1=nm p.1:=λp hp=>zwo (hfr p hp)
   have new:nmX (100+8*L.length) x.1 nm (100+8*L.length)=x.1:=z6f _ _ _
   refine ⟨(100+8*L.length,x.2)::L,nmX (100+8*L.length) x.1 nm,⟨⟨?_,?_,?_⟩,?_,?_,?_,?_⟩,by simp only [List.length_cons];omega,?_⟩
   ·intro p hp
    simp only [List.length_cons]
    rcases List.mem_cons.1 hp with rfl|hp
    ·simp only;omega
    ·have:=hL.ok.big p hp;omega
   ·show ((100+8*L.length)::zab L).Nodup
    exact List.nodup_cons.2 ⟨hnk,hL.ok.one⟩
   ·intro p hp
    rcases List.mem_cons.1 hp with rfl|hp
    ·exact Blk.fx_ids hm.fx _
    ·exact Blk.fx_ids (hL.fx p hp) _
   ·intro p hp
    rcases List.mem_cons.1 hp with rfl|hp
    ·exact hm.fx
    ·exact hL.fx p hp
   ·intro p hp
    rcases List.mem_cons.1 hp with rfl|hp
    ·rw [show ((100+8*L.length,x.2):Nat×Blk).1=100+8*L.length from rfl,new];exact hm
    ·rw [old p hp];exact hL.mine p hp
   ·intro p hp q hq e
    rcases List.mem_cons.1 hp with rfl|hp<;>rcases List.mem_cons.1 hq with rfl|hq
    ·rfl
    ·rw [old q hq,show ((100+8*L.length,x.2):Nat×Blk).1=100+8*L.length from rfl,new] at e
     exact absurd ⟨q,hq,e.symm⟩ hin
    ·rw [old p hp,show ((100+8*L.length,x.2):Nat×Blk).1=100+8*L.length from rfl,new] at e
     exact absurd ⟨p,hp,e⟩ hin
    ·rw [old p hp,old q hq] at e
     exact hL.inj p hp q hq e
   ·intro k hk
    rw [zwo (by omega)]
    exact hL.low k hk
   ·intro y hy
    rcases List.mem_cons.1 hy with rfl|hy
    ·exact ⟨100+8*L.length,List.mem_cons_self ..,new⟩
    ·obtain ⟨m,hm1,hm2⟩:=hx y hy
     exact ⟨m,List.mem_cons_of_mem _ hm1,by rw [old _ hm1];exact hm2⟩
theorem Laid.any {W:World} {L:List (Nat×Blk)} {nm:Nat->Nat} (h:Laid W L nm) (hl:L.length<=12):LAny L:=⟨⟨λp hp=>by have:=h.ok.big p hp;omega,h.ok.one,h.ok.ids⟩,h.fx⟩
theorem zz1 {fn:FuncId} {args:Array Value} {W:World} {L:List (Nat×Blk)} {nm:Nat->Nat} {v:Value} (h:Laid W L nm) (hl:L.length<=12) (hF:Fun Tryz.prog G0 fn args (hpL G0 L) (zab L) (.ret v [])) (hv:zau v=true) (hgok:GOK G0 W) :
  zdw Tryz.prog fn (args.map (ren nm)) W λe W'=>e=.returned v/\Below W.heap.size W W' :=
 jhp nm G0F hF hv hgok (h.any hl).ok h.fx (λp hp=>(h.mine p hp).heap) (λp hp=>(h.mine p hp).ne) h.inj h.low
def LS (L:List (Nat×Blk)) (p:Option Addr) (n cap:Nat):Prop:=∃ k off b w,p=some ⟨k,off,none⟩/\(k,b)∈L/\LB b off n w/\n<=cap
def Op1 (W:World) (Good:List (Nat×Blk)->Option Addr->Nat->Nat->Prop) (p:Option Addr) (n cap:Nat):Prop :=
 ∃ xs:List (Nat×Blk),xs.length<=1/\(∀ x∈xs,Mine W x.1 x.2)/\∀ L nm,(∀ x∈xs,∃ m,(m,x.2)∈L/\nm m=x.1)->∃ q,(NS q n cap\/Good L q n cap)/\ren nm (.slice q n cap)=.slice p n cap
theorem Op1.none {W:World} {Good:List (Nat×Blk)->Option Addr->Nat->Nat->Prop}:Op1 W Good none 0 0:=⟨[],by simp,by simp,λL nm h=>⟨.none,.inl ⟨rfl,rfl,rfl⟩,rfl⟩⟩
theorem Op1.conf {W:World} {k off n cap:Nat} {b:Blk} {f:Nat->Int} (h:CfAt W k off n cap b f) (hg:GOK G0 W) (hn:n<=17592186044416):Op1 W MS (some ⟨k,off,.none⟩) n cap :=
 ⟨[(k,b)],by simp,by simp only [List.mem_singleton,forall_eq];exact ⟨h.heap,h.fx,h.raw,h.ne hg⟩,λL nm hx=>by
  obtain ⟨m,hm,e⟩:=hx (k,b) (by simp)
  exact ⟨some ⟨m,off,.none⟩,.inr ⟨m,off,b,f,rfl,hm,h.mb hn,h.le⟩,by simp only at e;subst e;simp [ren,zay,zaj,zam]⟩⟩
theorem Op1.losses {W:World} {k off n cap:Nat} {b:Blk} {f:Nat->Nat->Int} (h:LsAt W k off n cap b f) (hg:GOK G0 W) (hn:n<=1256598820000):Op1 W LS (some ⟨k,off,.none⟩) n cap :=
 ⟨[(k,b)],by simp,by simp only [List.mem_singleton,forall_eq];exact ⟨h.heap,h.fx,h.raw,h.ne hg⟩,λL nm hx=>by
  obtain ⟨m,hm,e⟩:=hx (k,b) (by simp)
  exact ⟨some ⟨m,off,.none⟩,.inr ⟨m,off,b,f,rfl,hm,h.lb hn,h.le⟩,by simp only at e;subst e;simp [ren,zay,zaj,zam]⟩⟩
section
variable {H:Type} {enc:TypeId×Value->H} {w:World} {held:Bool}
theorem zn8 {r:Reach} {b0:Nat} {v:Value} {d:DataW H} {p:List MemPlace} (hv:Value.okWide Tryz.prog w r b0 36 v) (h:DataW.Trod enc Tryz.prog w 0 (λ_=>true) held 36 v d p) (hw:∀ x∈d.weights Tryz.prog 36,x<=reachBytes) (hg:GOK G0 w) :
  ∃ q n cap,v=.slice q n cap/\Op1 w LS q n cap:=by
 rcases zpr hv h with rfl|⟨k,off,n,cap,b,f,rfl,at0⟩
 ·exact ⟨none,0,0,rfl,Op1.none⟩
 ·exact ⟨_,n,cap,rfl,Op1.losses at0 hg (Nat.le_trans at0.le (z4u h hw))⟩
end
end Go.Gy
namespace Go.Gy
open Go Go.RowKit Go.Proofs Go.Proofs.Tryz
theorem LS.lw {L:List (Nat×Blk)} {p:Option Addr} {n cap:Nat} (h:NS p n cap\/LS L p n cap):∃ w,LW L p n cap w/\zhj w:=by
 rcases h with h|⟨k,off,b,w,rfl,h1,h2,h3⟩
 ·exact ⟨λ_ _=>0,.inl h,λi q hq=>⟨rfl,rfl⟩⟩
 ·exact ⟨w,.inr ⟨k,off,b,rfl,h1,h2,h3⟩,h2.ok⟩
theorem zmv {L:List (Nat×Blk)} (hT:LAny L) {pl pm:Option Addr} {nl cl nm cm:Nat} {N:Int} {v:Nat->Int} (hh:HOk N v) (h1:NS pl nl cl\/LS L pl nl cl) (h2:NS pm nm cm\/LS L pm nm cm) :
  Fun prog G0 5 #[zbq N v,.slice pl nl cl,.slice pm nm cm] (hpL G0 L) (zab L) (.ret (.bool true) []):=by
 obtain ⟨wl,k1,ok1⟩:=LS.lw h1
 obtain ⟨wm,k2,ok2⟩:=LS.lw h2
 by_cases hb:ze7 ⟨N,v⟩=false\/1048576<N\/12<nl\/12<nm
 ·exact zk9 hT k1.sl k2.sl hh hb
 ·have a:ze7 ⟨N,v⟩=true:=by
   cases h:ze7 ⟨N,v⟩ with
   | true=>rfl
   | false=>exact absurd (.inl h) hb
  have b:N<=1048576:=Int.not_lt.1 λh=>hb (.inr (.inl h))
  have c:nl<=12:=Nat.not_lt.1 λh=>hb (.inr (.inr (.inl h)))
  have d:nm<=12:=Nat.not_lt.1 λh=>hb (.inr (.inr (.inr h)))
  exact zla hT k1 k2 ⟨hh,a,b,c,d,ok1,ok2,k1.ls,k2.ls⟩
end Go.Gy
namespace Go.Gy
set_option maxRecDepth 100000
open Go Go.RowKit Go.Proofs Go.ChangeShapes Go.WideShapes Go.ChangeAt
def jbf (lo hi:Int) (a b c d:Nat->Int) (k:Nat):Int:=if k=0 then lo else if k=1 then hi else if k<5 then a (k - 2) else if k<8 then b (k - 5) else if k<11 then c (k - 8) else d (k - 11)
section
variable {H:Type} {enc:TypeId×Value->H} {w:World} {base:Nat} {spare:Nat->Bool} {held:Bool}
theorem je3 {fuel:Nat} {cs:List Value} {x:DataW H×List MemPlace} (h:DataW.trod enc Tryz.prog w base spare held fuel 33 cs=some x):∃ z:Nat->Int,(∀ j,i64 (z j))/\∀ j,j<3->cs[j]? = some (.int .i64 (z j)):=by
 obtain ⟨_,p⟩:=zlr h
 obtain ⟨p0,ep0,ip0⟩:=p 0 (by omega)
 obtain ⟨p1,ep1,ip1⟩:=p 1 (by omega)
 obtain ⟨p2,ep2,ip2⟩:=p 2 (by omega)
 refine ⟨λq=>if q=0 then p0 else if q=1 then p1 else p2,λj=>?_,λj hj=>?_⟩
 ·dsimp only;split;exact ip0;split;exact ip1;exact ip2
 ·have:j=0\/j=1\/j=2:=by omega
  rcases this with rfl|rfl|rfl
  ·exact ep0
  ·exact ep1
  ·exact ep2
theorem zme {P:Program} {t:TypeId} {f0 f1 f2 f3 f4 f5:Field} {fuel:Nat} {cs:List Value} {x:DataW H×List MemPlace} (ht:P.underlying t=some (.struct #[f0,f1,f2,f3,f4,f5])) (h:DataW.trod enc P w base spare held fuel t cs=some x) :
  ∃ y0 y1 y2 y3 y4 y5 n,DataW.trod enc P w base spare held n f0.type ((cs.drop f0.offset).take (P.cellsOf f0.type))=some y0/\DataW.trod enc P w base spare held n f1.type ((cs.drop f1.offset).take (P.cellsOf f1.type))=some y1 /\
   DataW.trod enc P w base spare held n f2.type ((cs.drop f2.offset).take (P.cellsOf f2.type))=some y2/\DataW.trod enc P w base spare held n f3.type ((cs.drop f3.offset).take (P.cellsOf f3.type))=some y3/\DataW.trod enc P w base spare held n f4.type ((cs.drop f4.offset).take (P.cellsOf f4.type))=some y4/\DataW.trod enc P w base spare held n f5.type ((cs.drop f5.offset).take (P.cellsOf f5.type))=some y5:=by
 obtain ⟨xs,n,_,hx,hl,hlen,hf⟩:=DataW.trod_struct ht h
 match xs,hlen with
 | [y0,y1,y2,y3,y4,y5],_=>exact ⟨y0,y1,y2,y3,y4,y5,n,by simpa using hf 0 f0 rfl,by simpa using hf 1 f1 rfl,by simpa using hf 2 f2 rfl,by simpa using hf 3 f3 rfl,by simpa using hf 4 f4 rfl,by simpa using hf 5 f5 rfl⟩
theorem zwq {r:Reach} {b0:Nat} {v:Value} {d:DataW H} {p:List MemPlace} (hv:Value.okWide Tryz.prog w r b0 35 v) (h:DataW.Trod enc Tryz.prog w base spare held 35 v d p):∃ N u,v=zbq N u/\HOk N u:=by
 simp only [Value.okWide,Tryz.underlying35] at hv
 obtain ⟨cs,rfl,hsz,_⟩:=hv
 obtain ⟨fuel,hf⟩:=h
 obtain ⟨y0,y1,y2,y3,y4,y5,n,h0,h1,h2,h3,h4,h5⟩:=zme Tryz.underlying35 hf
 simp only [zj9,zli,zm9,Value.cells] at h0 h1 h2 h3 h4 h5
 rw [zsa] at hsz
 obtain ⟨c0,c1,c2,c3,c4,c5,c6,c7,c8,c9,c10,c11,c12,c13,c14,c15,c16,c17,c18,c19,c20,rfl⟩:∃ c0 c1 c2 c3 c4 c5 c6 c7 c8 c9 c10 c11 c12 c13 c14 c15 c16 c17 c18 c19 c20,cs=#[c0,c1,c2,c3,c4,c5,c6,c7,c8,c9,c10,c11,c12,c13,c14,c15,c16,c17,c18,c19,c20]:=by
  obtain ⟨l⟩:=cs
  match l,hsz with
  | [c0,c1,c2,c3,c4,c5,c6,c7,c8,c9,c10,c11,c12,c13,c14,c15,c16,c17,c18,c19,c20],_=>exact ⟨c0,c1,c2,c3,c4,c5,c6,c7,c8,c9,c10,c11,c12,c13,c14,c15,c16,c17,c18,c19,c20,rfl⟩
 obtain ⟨N,e0,_,hw⟩:=DataW.trod_int Tryz.underlying3 h0
 obtain ⟨lo,hi,a,b,el,eh⟩:=zky h1
 obtain ⟨z2,i2,q2⟩:=je3 h2
 obtain ⟨z3,i3,q3⟩:=je3 h3
 obtain ⟨z4,i4,q4⟩:=je3 h4
 obtain ⟨z5,i5,q5⟩:=je3 h5
 have l0:=el 0 (by omega)
 have l1:=el 1 (by omega)
 have l2:=el 2 (by omega)
 have l3:=el 3 (by omega)
 have m0:=eh 0 (by omega)
 have m1:=eh 1 (by omega)
 have m2:=eh 2 (by omega)
 have m3:=eh 3 (by omega)
 have a0:=q2 0 (by omega)
 have a1:=q2 1 (by omega)
 have a2:=q2 2 (by omega)
 have b0:=q3 0 (by omega)
 have b1:=q3 1 (by omega)
 have b2:=q3 2 (by omega)
 have d0:=q4 0 (by omega)
 have d1:=q4 1 (by omega)
 have d2:=q4 2 (by omega)
 have g0:=q5 0 (by omega)
 have g1:=q5 1 (by omega)
 have g2:=q5 2 (by omega)
 simp at e0 l0 l1 l2 l3 m0 m1 m2 m3 a0 a1 a2 b0 b1 b2 d0 d1 d2 g0 g1 g2
 subst e0 l0 l1 l2 l3 m0 m1 m2 m3 a0 a1 a2 b0 b1 b2 d0 d1 d2 g0 g1 g2
 refine ⟨N,jbf lo hi z2 z3 z4 z5,rfl,z31 hw,λc k1 k2=>?_,a,b⟩
 unfold jbf
 rw [if_neg (by omega),if_neg (by omega)]
 split
 ·exact i2 _
 ·split
  ·exact i3 _
  ·split
   ·exact i4 _
   ·exact i5 _
end
def jbg {H:Type}:DataW H:=.agg [.lit (.int .i64 0),.agg [jea 0,jea 0],.agg [.lit (.int .i64 0),.lit (.int .i64 0),.lit (.int .i64 0)],.agg [.lit (.int .i64 0),.lit (.int .i64 0),.lit (.int .i64 0)],.agg [.lit (.int .i64 0),.lit (.int .i64 0),.lit (.int .i64 0)],.agg [.lit (.int .i64 0),.lit (.int .i64 0),.lit (.int .i64 0)]]
end Go.Gy
