/-
  Lemmas of this claim, in their order (GyJS, GyJT, GyJU, GyMA, GyMB, GyMC, GyMD, GyMF, GyMM, GyMG, GyMN, GyMO, GyMQ, GyMR, GyMS, GyMT, GyH, GyHS, GyHP, GyHT, GyHC, GyHX, GyHL, GyHV, GyMU, GyHU).
  Conditions: those of each theorem.
-/
import Derived.Test.YtamodcpmplmaoaaGreatDoorGz08
import Derived.Stop.LaidErr
import Derived.Test.YtamodcpmplmaoaaGreatDoorCards
import Derived.Test.YtamodcpmplmaoaaGreatDoorTie
import Derived.WalkKit
import Derived.ProofKit
import Derived.OpenShut
import Derived.Below
import Derived.ChangeSame
import Derived.Deep.DeepHandedRow
import Derived.Lib.LaidTab
import Derived.Deep.Slices
import Derived.ReadAgain
import Derived.Carry
import Derived.Deep.Strs
import Derived.ChangeSlices
set_option linter.unusedSimpArgs false
set_option linter.unusedVariables false
set_option maxRecDepth 100000
set_option maxHeartbeats 16000000
namespace Go.Gy
open Go Go.RowKit Go.Proofs Go.Proofs.Tryz
def hkr (k:Nat):Nat:=if k=100 then 208 else if k=108 then 256 else if k=116 then 312 else k
theorem zyd {k:Nat} (h:k<100):hkr k=k:=by unfold hkr;rw [if_neg (by omega),if_neg (by omega),if_neg (by omega)]
theorem z6y {hp:Hp} (a:hp 208=some hkM) (b:hp 256=some hkA) (c:hp 312=some hkB):∀ p∈hkL,100<=hkr p.1/\hp (hkr p.1)=some (p.2.rn hkr):=by
 have f1:=Blk.fx_rn zsy.fx hkr
 have f2:=Blk.fx_rn zya.fx hkr
 have f3:=Blk.fx_rn zyb.fx hkr
 simp only [hkL,List.mem_cons,List.not_mem_nil,or_false,forall_eq_or_imp,forall_eq,f1,f2,f3]
 exact ⟨⟨by decide,a⟩,⟨by decide,b⟩,by decide,c⟩
def hkT:Blk:=⟨(fv 28 (zjf hkw)),.ty 38⟩
theorem zyc:LB hkT 0 2 hkw:=⟨jhx 28 (zjf hkw) _,λx hx=>by
 obtain ⟨j,_,rfl⟩:=z6v hx
 unfold zjf
 exact zlz _ _,λi q hq=>by
 unfold hkw
 split
 ·exact zvc.r q hq
 ·exact z3i.r q hq,λi hi c h1 h2=>by
 unfold hkw
 split
 ·exact zvc.i c h1 h2
 ·exact z3i.i c h1 h2,λi hi=>by
 unfold hkw
 split
 ·exact ⟨zvc.w0,zvc.w1⟩
 ·exact ⟨z3i.w0,z3i.w1⟩,by omega⟩
theorem jmn:(fv 28 (zjf hkw))=#[.int .u64 (wi 8388608 0),.int .u64 (wi 8388608 1),.int .u64 (wi 8388608 2),.int .u64 (wi 8388608 3),.int .u64 (wi 8388608 0),.int .u64 (wi 8388608 1),.int .u64 (wi 8388608 2),.int .u64 (wi 8388608 3),.int .i64 (-2),.int .i64 6,.int .i64 0,.int .i64 0,.int .i64 0,.int .i64 0,.int .u64 0,.int .u64 0,.int .u64 0,.int .u64 0,.int .u64 0,.int .u64 0,.int .u64 0,.int .u64 0,.int .i64 0,.int .i64 0,.int .i64 0,.int .i64 0,.int .i64 0,.int .i64 0]:=by
 refine (zo0 (N:=28) rfl λj hj=>?_).symm
 have:j=0\/j=1\/j=2\/j=3\/j=4\/j=5\/j=6\/j=7\/j=8\/j=9\/j=10\/j=11\/j=12\/j=13\/j=14\/j=15\/j=16\/j=17\/j=18\/j=19\/j=20\/j=21\/j=22\/j=23\/j=24\/j=25\/j=26\/j=27:=by omega
 rcases this with rfl|rfl|rfl|rfl|rfl|rfl|rfl|rfl|rfl|rfl|rfl|rfl|rfl|rfl|rfl|rfl|rfl|rfl|rfl|rfl|rfl|rfl|rfl|rfl|rfl|rfl|rfl|rfl<;>simp [zjf,zpe,hkw,hkl,lsN,zaf]
theorem z9u:Fun prog G0 20 #[cfV (.slice (some ⟨100,0,none⟩) 3 3) 1 1 1 1 0] (hpL G0 [(100,⟨#[.int .i64 1,.int .i64 1,.int .i64 1],.ty 3⟩)]) (zaa [(100,(⟨#[.int .i64 1,.int .i64 1,.int .i64 1],.ty 3⟩:Blk))]) (.ret (.int .i64 6) []) :=
 ztb _ 0 3 3 (λ_=>1) ⟨λj hj=>by
  have:j=0\/j=1\/j=2:=by omega
  rcases this with rfl|rfl|rfl<;>rfl,zo1 rfl,λj hj=>(show i64 1 by decide),by omega⟩ 1 1 1 1 0
theorem zr2:Ret prog G0 9 #[] (.bool true):=by
 refine zas G0F func9 rfl call9 rfl (by simp) (by simp [ntmps9]) ?_
 intro C hC hC0 hY
 have lo:=z9t
 have ln:=z9v
 have tk:=zo5 hkT 0 2 2 hkw zyc 0 (λ_=>0) (zsz 0 (by decide))
 rw [z9s] at tk
 have mo:=z9u
 have wd:=λ(K:Value->Prop)=>zac (K:=K) G0W (by kernel_rfl) (zvb 2 hkv (zdf (by decide)) (zdf (by decide)) (by decide) (by decide))
 have h1:=λ(K:Value->Prop)=>zac (K:=K) G0W (by kernel_rfl) (zij 2 hkv hkl z6z zvc)
 have h2:=λ(K:Value->Prop)=>zac (K:=K) G0W (by kernel_rfl) (zij 0 (λ_=>0) hkl (zsz 0 (by decide)) zvc)
 have r1:=λ(K:Value->Prop)=>zfh z6z K
 have r2:=λ(K:Value->Prop)=>zfh (zsz 0 (by decide)) K
 have r3:=λ(K:Value->Prop)=>zfh (zsz (-1) (by decide)) K
 rw [jmo] at h1
 rw [jmp] at h2
 rw [jmq] at r1
 rw [jmr] at r2
 rw [jms] at r3
 unfold cfV zbh at lo ln
 unfold zbg zbd at tk wd h1 h2 r1 r2 r3
 unfold zbh at h1 h2
 simp only [hkl,lsN,hkv,zaf] at lo ln tk wd h1 h2 r1 r2 r3
 unfold cfV at mo
 have o1:i64 8388608:=by decide
 have fT:=Blk.fx_rn zyc.fx
 repeat' first|refine gwZ ?_|((first|refine gwR [10,16,20] ?_|refine gwD [10,16,20] ?_);intro Q hQ _;(repeat first|simp [hC,hY,o1,wd,h1,h2,r1,r2,r3,zaf]|(refine zae lo G0F zkf.ok hkr (λk hk=>zyd hk) ?_ (by simp) (z6y (by simp [hkM]) (by simp [hkA]) (by simp [hkB])) (by simp [zaa,hkL,hkr]) (by simp [zaa,hkL,hkr];rfl) ?_;focus (simp [ren,zay,zak,zan,hkr];done))|(refine zae ln G0F zkf.ok hkr (λk hk=>zyd hk) ?_ (by simp) (z6y (by simp [hkM]) (by simp [hkA]) (by simp [hkB])) (by simp [zaa,hkL,hkr]) (by simp [zaa,hkL,hkr];rfl) ?_;focus (simp [ren,zay,zak,zan,hkr];done))|(refine zae tk G0F (B:=200) (zao zyc.fx) (λk=>if k=100 then 448 else k) (λk hk=>if_neg (by omega)) ?_ (by simp) (by simp [fT];simp [hkT,jmn];kernel_rfl) (by simp [zaa]) (by simp [zaa];rfl) ?_;focus (simp [ren,zay,zak,zan];done))|(refine zae mo G0F (B:=200) (zao (zo1 rfl)) (λk=>if k=100 then 1176 else k) (λk hk=>if_neg (by omega)) ?_ (by simp) (by simp [Blk.rn,zak,zan]) (by simp [zaa]) (by simp [zaa];rfl) ?_;focus (simp [ren,zay,zak,zan];done)));refine gwq hQ ?_)|fail
 refine ⟨.inr trivial,?_⟩
 simp [results9]
theorem z02 (K:Value->Prop):za2 prog G0 9 #[] K↔K (.bool true):=zac G0W (by kernel_rfl) zr2
section
variable {b:Blk} {off n:Nat} {w:Nat->Nat->Int}
end
end Go.Gy
namespace Go.Gy
open Go Go.RowKit Go.Proofs Go.Proofs.Tryz
def z0u (sta stb:Int) (pa pb:Option Addr) (na capa nb capb:Nat):Blk:=⟨#[.int .i64 sta,.slice pa na capa,.int .i64 stb,.slice pb nb capb],.ty 27⟩
section
variable {L:List (Nat×Blk)} {p pa pb:Option Addr} {n cap na capa nb capb:Nat} {g bx tp nr md sta stb:Int}
end
section
variable {L:List (Nat×Blk)} {p pa pb:Option Addr} {n cap na capa nb capb:Nat} {g bx tp nr md sta stb:Int}
end
section
variable {L:List (Nat×Blk)} {p pa pb:Option Addr} {n cap na capa nb capb:Nat} {g bx tp nr md sta stb:Int}
end
def NS (p:Option Addr) (n cap:Nat):Prop:=p=none/\n=0/\cap=0
def MS (L:List (Nat×Blk)) (p:Option Addr) (n cap:Nat):Prop:=∃ k off b fm,p=some ⟨k,off,none⟩/\(k,b)∈L/\MB b off n fm/\n<=cap
def SS (L:List (Nat×Blk)) (p:Option Addr) (n cap:Nat):Prop:=∃ k off b fs,p=some ⟨k,off,none⟩/\(k,b)∈L/\SB b off n fs/\n<=cap
theorem NS.sl {L:List (Nat×Blk)} {p:Option Addr} {n cap:Nat} (h:NS p n cap):SlI L p:=by rw [h.1];exact SlI.nil
theorem MS.sl {L:List (Nat×Blk)} {p:Option Addr} {n cap:Nat} (h:MS L p n cap):SlI L p:=by obtain ⟨k,off,b,fm,rfl,h1,_⟩:=h;exact SlI.at h1
theorem SS.sl {L:List (Nat×Blk)} {p:Option Addr} {n cap:Nat} (h:SS L p n cap):SlI L p:=by obtain ⟨k,off,b,fm,rfl,h1,_⟩:=h;exact SlI.at h1
theorem LAny.mv0 {L:List (Nat×Blk)} (hT:LAny L):MvG G0 G0 [] L (λk=>k) :=
 ⟨G0F,G0F,⟨200,zcd⟩,⟨200,hT.ok⟩,λk b hk=>⟨hk,rfl⟩,(λp hp=>by cases hp),(λk hk=>by cases hk),(λk hk=>by cases hk)⟩
section
variable {L:List (Nat×Blk)} {p pa pb:Option Addr} {n cap na capa nb capb:Nat} {g bx tp nr md sta stb:Int}
end
def zpm (x0 x1 x2 y0 y1 y2:Int):Bool:=decide (x0<=y0)&&(decide (x1<=y1)&&decide (x2<=y2))
theorem zrm (x0 x1 x2 y0 y1 y2:Int):Ret prog G0 47 #[.agg #[.int .i64 x0,.int .i64 x1,.int .i64 x2],.agg #[.int .i64 y0,.int .i64 y1,.int .i64 y2]] (.bool (zpm x0 x1 x2 y0 y1 y2)):=by
 refine zas G0F func47 rfl call47 rfl (by simp) (by simp [ntmps47]) ?_
 intro C hC hC0 hY
 unfold zpm
 by_cases a:x0<=y0
 ·rw [decide_eq_true a]
  by_cases b:x1<=y1
  ·rw [decide_eq_true b]
   repeat' first|refine gwZ ?_|(refine gwX ?_;intro Q hQ _;simp [hC,hY,a,b];refine gwq hQ ?_)|fail
   refine ⟨.inr trivial,?_⟩
   simp [results47]
  ·rw [decide_eq_false b]
   repeat' first|refine gwZ ?_|(refine gwX ?_;intro Q hQ _;simp [hC,hY,a,b];refine gwq hQ ?_)|fail
   refine ⟨.inr trivial,?_⟩
   simp [results47]
 ·rw [decide_eq_false a]
  repeat' first|refine gwZ ?_|(refine gwX ?_;intro Q hQ _;simp [hC,hY,a];refine gwq hQ ?_)|fail
  refine ⟨.inr trivial,?_⟩
  simp [results47]
theorem ze8 (x0 x1 x2 y0 y1 y2:Int) (K:Value->Prop):za2 prog G0 47 #[.agg #[.int .i64 x0,.int .i64 x1,.int .i64 x2],.agg #[.int .i64 y0,.int .i64 y1,.int .i64 y2]] K↔K (.bool (zpm x0 x1 x2 y0 y1 y2)):=zac G0W (by kernel_rfl) (zrm x0 x1 x2 y0 y1 y2)
theorem jbk {N:Int} {v:Nat->Int} (z:¬N=0):zhm ⟨N,v⟩=(decide (0<N)&&(decide (N<=1073741824)&&(decide (v 0<=v 1)&&(zpm (v 2) (v 3) (v 4) (v 5) (v 6) (v 7)&&zpm (v 8) (v 9) (v 10) (v 11) (v 12) (v 13))))):=by
 rw [Bool.eq_iff_iff,jbj (h:=⟨N,v⟩) z]
 unfold zpm
 simp only [Bool.and_eq_true,decide_eq_true_eq]
 constructor
 ·rintro ⟨⟨a,b⟩,c,d⟩
  have d0:=d 0 (by omega)
  have d1:=d 1 (by omega)
  have d2:=d 2 (by omega)
  exact ⟨a,b,c,⟨d0.1,d1.1,d2.1⟩,d0.2,d1.2,d2.2⟩
 ·rintro ⟨a,b,c,⟨d0,d1,d2⟩,e0,e1,e2⟩
  refine ⟨⟨a,b⟩,c,λq hq=>?_⟩
  have:q=0\/q=1\/q=2:=by omega
  rcases this with rfl|rfl|rfl
  ·exact ⟨d0,e0⟩
  ·exact ⟨d1,e1⟩
  ·exact ⟨d2,e2⟩
theorem z2n {x y:Int}:(zb8 x y<=0)=(x<=y):=by
 unfold zb8
 split
 ·simp;omega
 ·split
  ·simp;omega
  ·simp;omega
theorem zo4 (N:Int) (v:Nat->Int) (h:HOk N v):Ret prog G0 15 #[zbg N v] (.bool (zhm ⟨N,v⟩)):=by
 by_cases z:N=0
 ·subst z
  unfold zbg zbd
  refine zas G0F func15 rfl call15 (by simp) (by simp) (by simp [ntmps15]) ?_
  intro C hC hC0 hY
  repeat' first|refine gwZ ?_|refine gwW ?_|fail
  refine ⟨.inr trivial,?_⟩
  simp [results15]
  have s0:sz (0:Int)=0:=zd6 (by decide) (by decide)
  have e0:(wi (v 0) 0==0&&(wi (v 0) 1==0&&(wi (v 0) 2==0&&wi (v 0) 3==0)))=decide (v 0=0):=by
   have:=weq (v 0) 0
   rw [zd6 h.w0.1 h.w0.2,s0] at this
   simpa using this
  have e1:(wi (v 1) 0==0&&(wi (v 1) 1==0&&(wi (v 1) 2==0&&wi (v 1) 3==0)))=decide (v 1=0):=by
   have:=weq (v 1) 0
   rw [zd6 h.w1.1 h.w1.2,s0] at this
   simpa using this
  rw [e0,e1]
  unfold zhm
  rw [if_pos rfl,show List.range 14=[0,1,2,3,4,5,6,7,8,9,10,11,12,13] from rfl]
  rw [Bool.eq_iff_iff]
  simp only [List.all_cons,List.all_nil,Bool.and_eq_true,decide_eq_true_eq,beq_iff_eq,and_true]
  constructor
  ·rintro ⟨⟨a0,a1⟩,⟨a2,a3,a4⟩,⟨a5,a6,a7⟩,⟨a8,a9,a10⟩,a11,a12,a13⟩
   exact ⟨a0,a1,a2,a3,a4,a5,a6,a7,a8,a9,a10,a11,a12,a13⟩
  ·rintro ⟨a0,a1,a2,a3,a4,a5,a6,a7,a8,a9,a10,a11,a12,a13⟩
   exact ⟨⟨a0,a1⟩,⟨a2,a3,a4⟩,⟨a5,a6,a7⟩,⟨a8,a9,a10⟩,a11,a12,a13⟩
 ·have s0:sz (v 0)=v 0:=zd6 h.w0.1 h.w0.2
  have s1:sz (v 1)=v 1:=zd6 h.w1.1 h.w1.2
  have zb:(N==0)=false:=by simpa using z
  have hc:=z2n (x:=v 0) (y:=v 1)
  have o1:=λK=>ze8 (v 2) (v 3) (v 4) (v 5) (v 6) (v 7) K
  have o2:=λK=>ze8 (v 8) (v 9) (v 10) (v 11) (v 12) (v 13) K
  rw [jbk z]
  unfold zbg zbd
  generalize zpm (v 2) (v 3) (v 4) (v 5) (v 6) (v 7)=B1 at *
  generalize zpm (v 8) (v 9) (v 10) (v 11) (v 12) (v 13)=B2 at *
  refine zas G0F func15 rfl call15 (by simp) (by simp) (by simp [ntmps15]) ?_
  intro C hC hC0 hY
  by_cases c1:0<N
  ·rw [decide_eq_true c1]
   by_cases c2:N<=1073741824
   ·rw [decide_eq_true c2]
    by_cases c3:v 0<=v 1
    ·rw [decide_eq_true c3]
     cases B1 with
     | true =>
      repeat' first|refine gwZ ?_|(refine gwX ?_;intro Q hQ _;simp [hC,hY,z,zb,c1,c2,c3,s0,s1,hc,o1,o2];refine gwq hQ ?_)|fail
      refine ⟨.inr trivial,?_⟩
      simp [results15]
     | false =>
      repeat' first|refine gwZ ?_|(refine gwX ?_;intro Q hQ _;simp [hC,hY,z,zb,c1,c2,c3,s0,s1,hc,o1,o2];refine gwq hQ ?_)|fail
      refine ⟨.inr trivial,?_⟩
      simp [results15]
    ·rw [decide_eq_false c3]
     repeat' first|refine gwZ ?_|(refine gwX ?_;intro Q hQ _;simp [hC,hY,z,zb,c1,c2,c3,s0,s1,hc];refine gwq hQ ?_)|fail
     refine ⟨.inr trivial,?_⟩
     simp [results15]
   ·rw [decide_eq_false c2]
    repeat' first|refine gwZ ?_|(refine gwX ?_;intro Q hQ _;simp [hC,hY,z,zb,c1,c2];refine gwq hQ ?_)|fail
    refine ⟨.inr trivial,?_⟩
    simp [results15]
  ·rw [decide_eq_false c1]
   repeat' first|refine gwZ ?_|(refine gwX ?_;intro Q hQ _;simp [hC,hY,z,zb,c1];refine gwq hQ ?_)|fail
   refine ⟨.inr trivial,?_⟩
   simp [results15]
theorem zgi {N:Int} {v:Nat->Int} (h:HOk N v) (K:Value->Prop):za2 prog G0 15 #[zbg N v] K↔K (.bool (zhm ⟨N,v⟩)):=zac G0W (by kernel_rfl) (zo4 N v h)
def zra (x y:Int):Int:=if y<x then y else x
def zq0 (x y:Int):Int:=if x<y then y else x
theorem zis (x y:Int):zra x y=min x y:=by unfold zra;split<;>omega
theorem zil (x y:Int):zq0 x y=max x y:=by unfold zq0;split<;>omega
theorem zq7 (x0 x1 x2 y0 y1 y2:Int):Ret prog G0 81 #[.agg #[.int .i64 x0,.int .i64 x1,.int .i64 x2],.agg #[.int .i64 y0,.int .i64 y1,.int .i64 y2]] (.agg #[.int .i64 (zra x0 y0),.int .i64 (zra x1 y1),.int .i64 (zra x2 y2)]):=by
 refine zas G0F func81 rfl call81 (by simp) (by simp) (by simp [ntmps81]) ?_
 intro C hC hC0 hY
 repeat' first|refine gwZ ?_|refine gwW ?_|fail
 refine ⟨.inr trivial,?_⟩
 simp [results81,zra]
theorem zvs (x0 x1 x2 y0 y1 y2:Int):Ret prog G0 82 #[.agg #[.int .i64 x0,.int .i64 x1,.int .i64 x2],.agg #[.int .i64 y0,.int .i64 y1,.int .i64 y2]] (.agg #[.int .i64 (zq0 x0 y0),.int .i64 (zq0 x1 y1),.int .i64 (zq0 x2 y2)]):=by
 refine zas G0F func82 rfl call82 (by simp) (by simp) (by simp [ntmps82]) ?_
 intro C hC hC0 hY
 repeat' first|refine gwZ ?_|refine gwW ?_|fail
 refine ⟨.inr trivial,?_⟩
 simp [results82,zq0]
theorem zyo (x0 x1 x2 y0 y1 y2:Int) (K:Value->Prop):za2 prog G0 81 #[.agg #[.int .i64 x0,.int .i64 x1,.int .i64 x2],.agg #[.int .i64 y0,.int .i64 y1,.int .i64 y2]] K↔K (.agg #[.int .i64 (zra x0 y0),.int .i64 (zra x1 y1),.int .i64 (zra x2 y2)]):=zac G0W (by kernel_rfl) (zq7 x0 x1 x2 y0 y1 y2)
theorem z4b (x0 x1 x2 y0 y1 y2:Int) (K:Value->Prop):za2 prog G0 82 #[.agg #[.int .i64 x0,.int .i64 x1,.int .i64 x2],.agg #[.int .i64 y0,.int .i64 y1,.int .i64 y2]] K↔K (.agg #[.int .i64 (zq0 x0 y0),.int .i64 (zq0 x1 y1),.int .i64 (zq0 x2 y2)]):=zac G0W (by kernel_rfl) (zvs x0 x1 x2 y0 y1 y2)
def HS.st (h:HS) (w:Nat->Int):HS:=if zfg w=true/\¬h.N=1073741824 then h.one w else h
theorem zze (N:Int) (v w:Nat->Int) (h:HOk N v) (hl:LsOk w) (h0:0<=N) (hN:N<=1073741824):Ret prog G0 49 #[zbg N v,zbh w] (zc8 (HS.st ⟨N,v⟩ w)):=by
 have s0:sz (w 0)=w 0:=zd6 hl.w0.1 hl.w0.2
 have s1:sz (w 1)=w 1:=zd6 hl.w1.1 hl.w1.2
 have t0:sz (v 0)=v 0:=zd6 h.w0.1 h.w0.2
 have t1:sz (v 1)=v 1:=zd6 h.w1.1 h.w1.2
 have cp:=zih (x:=w 0) (y:=w 1)
 have cq:=zqp (x:=w 0) (y:=v 0)
 have cr:=zih (x:=w 1) (y:=v 1)
 have lk:=λx0 x1 x2 y0 y1 y2 K=>zyo x0 x1 x2 y0 y1 y2 K
 have mk:=λx0 x1 x2 y0 y1 y2 K=>z4b x0 x1 x2 y0 y1 y2 K
 have r0:=hl.r 0 (by omega)
 have r1:=hl.r 1 (by omega)
 have r2:=hl.r 2 (by omega)
 simp only [Nat.reduceAdd,Nat.add_zero] at r0 r1 r2
 unfold HS.st
 by_cases c1:w 1<w 0
 ·rw [if_neg (λh=>by have:=of_decide_eq_true h.1;omega)]
  unfold zc8 zbg zbd zbh
  refine zas G0F func49 rfl call49 (by simp) (by simp) (by simp [ntmps49]) ?_
  intro C hC hC0 hY
  repeat' first|refine gwZ ?_|(refine gwX ?_;intro Q hQ _;simp [hC,hY,s0,s1,cp,c1];refine gwq hQ ?_)|fail
  refine ⟨.inr trivial,?_⟩
  simp [results49]
 ·by_cases c2:N=1073741824
  ·rw [if_neg (λh=>h.2 c2)]
   subst c2
   unfold zc8 zbg zbd zbh
   refine zas G0F func49 rfl call49 (by simp) (by simp) (by simp [ntmps49]) ?_
   intro C hC hC0 hY
   repeat' first|refine gwZ ?_|(refine gwX ?_;intro Q hQ _;simp [hC,hY,s0,s1,cp,c1];refine gwq hQ ?_)|fail
   refine ⟨.inr trivial,?_⟩
   simp [results49]
  ·rw [if_pos ⟨decide_eq_true (by omega),c2⟩]
   have c3:¬1073741824<=N:=by omega
   by_cases z:N=0
   ·subst z
    unfold HS.one zc8 zbg zbd zbh
    simp only [if_true]
    refine zas G0F func49 rfl call49 (by simp) (by simp) (by simp [ntmps49]) ?_
    intro C hC hC0 hY
    repeat' first|refine gwZ ?_|(refine gwX ?_;intro Q hQ _;simp [hC,hY,s0,s1,cp,c1];refine gwq hQ ?_)|fail
    refine ⟨.inr trivial,?_⟩
    simp [results49,r0,r1,r2]
   ·have zb:(N==0)=false:=by simpa using z
    have hs:Int.bmod (N+1) 18446744073709551616=N+1:=bm (by omega) (by omega)
    have q0:mm 0 (v 0) (w 0)=if w 0<v 0 then w 0 else v 0:=by rw [znc (by decide)];split<;>omega
    have q1:mm 1 (v 1) (w 1)=if v 1<w 1 then w 1 else v 1:=by rw [znb (by decide)];split<;>omega
    have q2:mm 2 (v 2) (w 2)=zra (v 2) (w 2):=by rw [znc (by decide),zis]
    have q3:mm 3 (v 3) (w 3)=zra (v 3) (w 3):=by rw [znc (by decide),zis]
    have q4:mm 4 (v 4) (w 4)=zra (v 4) (w 4):=by rw [znc (by decide),zis]
    have q5:mm 5 (v 5) (w 5)=zq0 (v 5) (w 2):=by rw [znb (by decide),zil,r0.1]
    have q6:mm 6 (v 6) (w 6)=zq0 (v 6) (w 3):=by rw [znb (by decide),zil,r1.1]
    have q7:mm 7 (v 7) (w 7)=zq0 (v 7) (w 4):=by rw [znb (by decide),zil,r2.1]
    have q8:mm 8 (v 8) (w 8)=zra (v 8) (w 8):=by rw [znc (by decide),zis]
    have q9:mm 9 (v 9) (w 9)=zra (v 9) (w 9):=by rw [znc (by decide),zis]
    have q10:mm 10 (v 10) (w 10)=zra (v 10) (w 10):=by rw [znc (by decide),zis]
    have q11:mm 11 (v 11) (w 11)=zq0 (v 11) (w 8):=by rw [znb (by decide),zil,r0.2]
    have q12:mm 12 (v 12) (w 12)=zq0 (v 12) (w 9):=by rw [znb (by decide),zil,r1.2]
    have q13:mm 13 (v 13) (w 13)=zq0 (v 13) (w 10):=by rw [znb (by decide),zil,r2.2]
    unfold HS.one zc8 zbg zbd zbh
    simp only [if_neg z,q0,q1,q2,q3,q4,q5,q6,q7,q8,q9,q10,q11,q12,q13]
    clear q0 q1 q2 q3 q4 q5 q6 q7 q8 q9 q10 q11 q12 q13 r0 r1 r2
    refine zas G0F func49 rfl call49 (by simp) (by simp) (by simp [ntmps49]) ?_
    intro C hC hC0 hY
    by_cases d0:w 0<v 0
    ·by_cases d1:v 1<w 1
     ·
      repeat' first|refine gwZ ?_|(refine gwX ?_;intro Q hQ _;simp [hC,hY,s0,s1,t0,t1,cp,cq,cr,c1,c3,z,zb,hs,lk,mk,d0,d1];refine gwq hQ ?_)|fail
      refine ⟨.inr trivial,?_⟩
      simp [results49,d0,d1]
     ·
      repeat' first|refine gwZ ?_|(refine gwX ?_;intro Q hQ _;simp [hC,hY,s0,s1,t0,t1,cp,cq,cr,c1,c3,z,zb,hs,lk,mk,d0,d1];refine gwq hQ ?_)|fail
      refine ⟨.inr trivial,?_⟩
      simp [results49,d0,d1]
    ·by_cases d1:v 1<w 1
     ·
      repeat' first|refine gwZ ?_|(refine gwX ?_;intro Q hQ _;simp [hC,hY,s0,s1,t0,t1,cp,cq,cr,c1,c3,z,zb,hs,lk,mk,d0,d1];refine gwq hQ ?_)|fail
      refine ⟨.inr trivial,?_⟩
      simp [results49,d0,d1]
     ·
      repeat' first|refine gwZ ?_|(refine gwX ?_;intro Q hQ _;simp [hC,hY,s0,s1,t0,t1,cp,cq,cr,c1,c3,z,zb,hs,lk,mk,d0,d1];refine gwq hQ ?_)|fail
      refine ⟨.inr trivial,?_⟩
      simp [results49,d0,d1]
def zl9:Blk:=⟨#[.slice none 0 0],.ty 36⟩
def zw1 (nk:Nat) (v:Value) (ns:List (Nat×Blk)):Prop:=v=.func (.func 80) #[] #[.pointer (some ⟨nk,0,none⟩)]/\ns=[(nk,zl9)]
theorem zyy :
  FunS prog G0 48 #[.slice none 0 0] (hpL G0 []) (zaa []) (zw1 1000):=by
 refine zet (B:=200) G0F func48 rfl call48 zcd ?_ ?_ (by simp [ntmps48]) (by omega) ?_
 ·simp [zap,zax,zah,zaj,zaa]
 ·rintro v ns ⟨rfl,rfl⟩
  refine ⟨by simp [zap,zax,zah,zaj,zc7,zaa],?_,?_⟩
  ·simp [zl9,zad,zah,zaj,zc7,zaa]
  ·intro k b c h1 h2
   simp at h1 h2
   obtain ⟨_,rfl⟩:=h1
   obtain ⟨_,rfl⟩:=h2
   rfl
 intro C hC hC0 hY
 repeat' first|refine gwZ ?_|refine gwW ?_|fail
 refine ⟨.inr trivial,kpS G0F,_,_,λk=>if k=1000 then 200 else k,⟨rfl,rfl⟩,λk hk=>if_neg (by omega),by simp,by simp,by simp [results48,ren,zay,zak,zan],?_⟩
 simp [zl9,Blk.rn,zak,zan]
theorem zrb:LOk [(108,zl9)] 200:=⟨by simp,by simp [zaa],by
 simp only [List.mem_cons,List.not_mem_nil,or_false,forall_eq]
 simp [zl9,zad,zah,zaj,zaa]⟩
theorem zvm:IterK prog G0 80 #[.pointer (some ⟨108,0,none⟩)] (hpL G0 [(108,zl9)]) (zaa [(108,zl9)]) []:=by
 refine zdm (B:=200) (v:=.tuple #[]) G0F func80 rfl call80 zrb ?_ (by simp [ntmps80]) (by omega) ?_
 ·simp [zap,zax,zah,zaj,zaa]
 intro C l stop hC hC0 hY
 have hL:=zrb
 have hlt:∀ k,dom (hpL G0 [(108,zl9)]) k->k<200:=λk hk=>Classical.byContradiction λh1=>hk (hL.free G0F (by omega) k (by omega))
 unfold zl9
 repeat' first|refine gwZ ?_|refine gwW ?_|fail
 refine zbt 0 (λi=>⟨tsL [(0,.func (.yield l) #[] #[]),(1,.pointer (some ⟨108,0,none⟩)),(5,.slice none 0 0),(6,.int .i64 0),(7,.int .i64 0)],hpL G0 [(108,zl9)],300,0⟩) ?_ (λi hi=>by omega) ?_
 ·refine za3 _ 300 hC G0F (m0:=[(108,zl9)]) hC0 (by omega) ?_ ?_ ?_
  ·simp [zap,zax,zah,zaj,dom]
  ·simp [zl9,zad,zah,zaj,dom]
  ·simp [zl9]
 ·unfold zl9
  repeat' first|refine gwZ ?_|refine gwW ?_|fail
  refine ⟨.inl trivial,by simp [results80],by simp,λk hk=>?_⟩
  have hk:=hlt k hk
  first|rfl|(simp (disch:=omega) only [zab])
theorem z34 {nk:Nat} {ρ:Nat->Nat} (h0:ρ 1000=nk):RR ρ (zw1 1000)=zw1 nk:=by
 funext v ns
 apply propext
 constructor
 ·rintro ⟨v0,ns0,⟨rfl,rfl⟩,rfl,rfl⟩
  exact ⟨by simp [ren,zay,zak,zan,h0],by simp [rnL,zl9,Blk.rn,zak,zan,h0]⟩
 ·rintro ⟨rfl,rfl⟩
  exact ⟨_,_,⟨rfl,rfl⟩,by simp [ren,zay,zak,zan,h0],by simp [rnL,zl9,Blk.rn,zak,zan,h0]⟩
theorem zhx {nk:Nat} {v:Value} {ns:List (Nat×Blk)} (h:zw1 nk v ns):∀ q∈zaa ns,q=nk:=by
 obtain ⟨rfl,rfl⟩:=h
 intro q hq
 simpa [zaa] using hq
theorem zvl (nk:Nat) (hnk:200<=nk) :
  FunS prog G0 48 #[.slice none 0 0] (hpL G0 []) [] (zw1 nk):=by
 have e2:jgn nk 1000=nk:=rfl
 refine zyy.mvL (hp':=hpL G0 []) (rs':=[]) G0F zcd (jgn nk) (λk hk=>if_neg (by omega)) ?_ (by simp [zaa]) (z34 e2) (λk hk=>zbc (by simp) hk) (by simp) (by simp [zaa]) (λv ns hV k hk=>?_) (λv ns hV k hk l hl e=>by rw [zhx hV k hk,zhx hV l hl])
 ·simp [ren,zay,zak,zan]
 ·rw [zhx hV k hk,e2]
  exact ⟨by omega,by simp⟩
theorem zrc (nk:Nat) (hnk:200<=nk) {hp:Hp} (hG:∀ k,k<100->hp k=G0 k) (hc:hp nk=some zl9) :
  IterK prog G0 80 #[.pointer (some ⟨nk,0,none⟩)] hp [nk] []:=by
 refine zep zvm G0F zrb (λk=>if k=108 then nk else k) (λk hk=>if_neg (by omega)) (by simp [zan]) (by simp [zaa]) hG ?_ (by simp [zaa])
 simp only [List.mem_cons,List.not_mem_nil,or_false,forall_eq]
 refine ⟨by simp;omega,?_⟩
 simp [zl9,Blk.rn,zak,zan]
 exact hc
theorem z9q (N:Int) (v:Nat->Int) (h:HOk N v) :
  Fun prog G0 16 #[zbg N v,.slice none 0 0] (hpL G0 []) (zaa []) (.ret (zbg N v) []):=by
 have hR:=zfh h
 unfold zbg zbd at hR |-
 refine zar (B:=200) G0F func16 rfl call16 zcd ?_ (zai (by simp [zc8,zbg,zbd])) (by simp) (by simp) (by simp [ntmps16]) (by omega) ?_
 ·simp [zap,zax,zah,zaj,zaa]
 intro C hC hC0 hY
 cases hr:zhm ⟨N,v⟩ with
 | false =>
  rw [hr] at hR
  repeat' first|refine gwZ ?_|(refine gwX ?_;intro Q hQ _;simp [hC,hY,hR];refine gwq hQ ?_)|fail
  refine ⟨.inr rfl,?_,kpS G0F⟩
  simp [results16,zc8,zbg,zbd]
 | true =>
  rw [hr] at hR
  repeat' first|refine gwZ ?_|(refine gwX ?_;intro Q hQ _;simp [hC,hY,hR];refine gwq hQ ?_)|fail
  have hlo:=zvl 248 (by omega)
  refine zc3 ?_
  simp only [Array.toList]
  refine gwl 1 ?_;intro Q hQ;simp [hC,hY];apply hQ
  simp only [wT,wM,Nat.reduceAdd]
  refine zeo (f:=.func 48) (cap:=#[]) hC hlo rfl (by simp) rfl rfl (by simp [okT]) (by simp [gev]) (by simp) (by simp [okX,zcm]) (by simp [gev]) (by simp) (by (intro k hk;first|rfl|(simp (disch:=omega) only [zb3,List.mem_cons,List.not_mem_nil,or_false,zab,zaq,zaw,if_neg,zbi]<;>done))) ?_ ?_
  ·intro w ns hV k hk
   rw [zhx hV k hk]
   omega
  rintro w' ns ⟨rfl,rfl⟩
  refine zdc ?_
  repeat' first|refine gwZ ?_|(refine gwX ?_;intro Q hQ _;simp [hC,hY,zcx,zbi];refine gwq hQ ?_)|fail
  simp only [zcx,zbi]
  have hix:=λN v D=>Blk.fx_ids (zc1 N v) D
  refine zg8 (G:=G0) (f:=80) (rs:=[248]) (xs:=[]) (caps:=#[.pointer (some ⟨248,0,none⟩)]) (m0:=[]) [248] G0F hC hC0 hY (by simp) ?_ ?_ (by simp [ntmps16]) [(2,.pointer (some ⟨200,0,none⟩)),(4,.pointer (some ⟨208,0,none⟩))] [] (λc=>tkL ⟨N,v⟩) 1000 0 (by simp) (by omega) (by simp) (by simp [dom]) ?_ (by simp) (by simp) ?_ ?_ (by simp) ?_ ?_
  ·exact zrc 248 (by omega) (by (intro k hk;first|rfl|(simp (disch:=omega) only [zb3,List.mem_cons,List.not_mem_nil,or_false,zab,zaq,zaw,if_neg,zbi]<;>done))) (by simp [zl9])
  ·simp
  ·intro k hk b' hb'
   simp only [List.mem_cons,List.not_mem_nil,or_false] at hk
   subst hk
   simp at hb';subst hb';simp [zl9,zad,zah,zaj]
  ·simp [tkL,zhB,zbn,zbd,zaf]
  ·intro i hi
   simp [tkL,zhB,zap,zax,zah,zaj,dom,hix]
  ·intro c x hc hx
   omega
  ·refine .inl ⟨rfl,?_⟩
   unfold tkL zhB zbn zbd
   simp only [zdh,zcj,List.append_nil]
   repeat' first|refine gwZ ?_|(refine gwX ?_;intro Q hQ _;simp [hC,hY,zb3,zaf];refine gwq hQ ?_)|fail
   refine ⟨.inr rfl,by simp [results16,zc8,zbg,zbd],zb4 G0F (by simp [zb3]) (by (intro k hk;first|rfl|(simp (disch:=omega) only [zb3,List.mem_cons,List.not_mem_nil,or_false,zab,zaq,zaw,if_neg,zbi]<;>done)))⟩
theorem zlx (N:Int) (v:Nat->Int):za0 (zbg N v)=true:=by simp [zbg,zbd]
theorem zh2 {ρ:Nat->Nat} {N:Int} {v:Nat->Int}:ren ρ (zbg N v)=zbg N v:=zau (zlx N v)
def LW (L:List (Nat×Blk)) (p:Option Addr) (n cap:Nat) (w:Nat->Nat->Int):Prop:=NS p n cap\/∃ k off b,p=some ⟨k,off,none⟩/\(k,b)∈L/\LB b off n w/\n<=cap
theorem LW.sl {L:List (Nat×Blk)} {p:Option Addr} {n cap:Nat} {w:Nat->Nat->Int} (h:LW L p n cap w):SlI L p:=by
 rcases h with h|⟨k,off,b,rfl,h1,_⟩
 ·exact NS.sl h
 ·exact SlI.at h1
theorem z0t (h:HS) (w:Nat->Nat->Int):zwt h w 0=h:=by unfold zwt;split<;>rfl
theorem jb4 {L:List (Nat×Blk)} (hT:LAny L) {p:Option Addr} {n cap:Nat} {w:Nat->Nat->Int} (hs:LW L p n cap w) {h:HS} (hh:HOk h.N h.v) :
  Fun prog G0 16 #[zc8 h,.slice p n cap] (hpL G0 L) (zaa L) (.ret (zc8 (zwt h w n)) []):=by
 unfold zc8
 rcases hs with ⟨rfl,rfl,rfl⟩|⟨k,off,b,rfl,h1,hL,_⟩
 ·rw [z0t]
  have:=(z9q h.N h.v hh).mvG (args':=#[zbg h.N h.v,.slice none 0 0]) hT.mv0 (by simp [zaa]) (by simp [zbg,zbd,ren,zay,zak,zan])
  rw [zh2] at this
  exact this
 ·have:=(zo5 b off n cap w hL h.N h.v hh).mvG (args':=#[zbg h.N h.v,.slice (some ⟨k,off,none⟩) n cap]) (hT.mv1 (kb:=k) h1) (by simp [zaa]) (by simp [zbg,zbd,ren,zay,zak,zan,Gy.mv2])
  unfold zc8 at this
  rw [zh2] at this
  exact this
theorem jio (h:HS) (w:Nat->Nat->Int) (i:Nat):h.tk w (i+1)=(h.tk w i).st (w i):=rfl
structure HO (h:HS):Prop where
 ok:HOk h.N h.v
 n0:0<=h.N
 n1:h.N<=1073741824
theorem HO.st {h:HS} (k:HO h) {w:Nat->Int} (hl:LsOk w):HO (h.st w):=by
 unfold HS.st
 split
 ·rename_i c
  have h1:=k.n0
  have h2:=k.n1
  have h3:=c.2
  exact ⟨k.ok.one hl h1 (by omega),by simp only [HS.one];omega,by simp only [HS.one];omega⟩
 ·exact k
theorem HO.tk {h:HS} (k:HO h) {w:Nat->Nat->Int}:∀ {n:Nat},(∀ i,i<n->LsOk (w i))->HO (h.tk w n)
 | 0,_=>k
 | n+1,hl=>by
  rw [jio]
  exact (HO.tk k λi hi=>hl i (by omega)).st (hl n (by omega))
theorem ja3 {h:HS} (k:HO h) {w:Nat->Int} (hl:LsOk w) (K:Value->Prop):za2 prog G0 49 #[zbg h.N h.v,zbh w] K↔K (zc8 (h.st w)):=zac G0W (by kernel_rfl) (zze h.N h.v w k.ok hl k.n0 k.n1)
def joe (b:Blk) (off n cap:Nat) (h:HS) (w:Nat->Nat->Int) (i:Nat):GS :=
 ⟨tsL [(1,.slice (some ⟨100,off,none⟩) n cap),(2,.pointer (some ⟨200,0,none⟩)),(4,.pointer (some ⟨208,0,none⟩)),(5,.int .i64 i)],hpL G0 [(200,zbn (h.tk w i).N (h.tk w i).v),(208,zbn 0 λ_=>0),(100,b)],400,0⟩
theorem zug (b:Blk) (off n cap:Nat) (w:Nat->Nat->Int) (hL:LB b off n w) (N:Int) (v:Nat->Int) (h:HOk N v) :
  Fun prog G0 17 #[zbg N v,.slice (some ⟨100,off,none⟩) n cap] (hpL G0 [(100,b)]) (zaa [(100,b)]) (.ret (zc8 (zwt ⟨N,v⟩ w n)) []):=by
 have hR:=λK=>zgi h K
 unfold zbg zbd at hR |-
 refine zar (B:=200) G0F func17 rfl call17 (zao hL.fx) ?_ (zai (by simp [zc8,zbg,zbd])) (by simp) (by simp) (by simp [ntmps17]) (by omega) ?_
 ·simp [zap,zax,zah,zaj,zaa]
 intro C hC hC0 hY
 have hix:=λN v D=>Blk.fx_ids (zc1 N v) D
 have hib:=λD=>Blk.fx_ids hL.fx D
 unfold zwt
 cases hr:zhm ⟨N,v⟩ with
 | false =>
  rw [hr] at hR
  repeat' first|refine gwZ ?_|(refine gwX ?_;intro Q hQ _;simp [hC,hY,hR];refine gwq hQ ?_)|fail
  refine ⟨.inr rfl,?_,kpS G0F⟩
  simp [results17,zc8,zbg,zbd]
 | true =>
  rw [hr] at hR
  have hN:=jia hr
  have hO:HO ⟨N,v⟩:=⟨h,hN.1,hN.2⟩
  have hO':=λi (hi:i<=n)=>hO.tk (w:=w) (n:=i) λj hj=>hL.ok1 (by omega)
  have hnn:=hL.nn
  repeat' first|refine gwZ ?_|(refine gwX ?_;intro Q hQ _;simp [hC,hY,hR];refine gwq hQ ?_)|fail
  refine zbt n (joe b off n cap ⟨N,v⟩ w) ?_ ?_ ?_
  ·refine za3 _ 400 hC G0F (m0:=[(100,b)]) hC0 (by omega) ?_ ?_ ?_
   ·simp [zap,zax,zah,zaj,dom]
   ·simp [hix,hib,HS.tk]
    simp [zbn,zbd,zaf]
   ·simp
  ·intro i hi
   have hi':(i:Int)<n:=Int.ofNat_lt.2 hi
   have hz:(0:Int)<=i:=Int.natCast_nonneg i
   have hs:Int.bmod ((i:Int)+1) 18446744073709551616=((i+1:Nat):Int):=by rw [bm (by omega) (by omega)];rfl
   have hld:=hL.loss hi
   have ok1:=hL.ok1 hi
   have h1:=λK=>ja3 (hO' i (by omega)) ok1 K
   rw [<-jio] at h1
   unfold joe
   generalize HS.tk ⟨N,v⟩ w (i+1)=H1 at *
   generalize HS.tk ⟨N,v⟩ w i=H0 at *
   unfold zc8 zbg zbd zbh at h1
   unfold zbh at hld
   unfold zbn zbd
   repeat' first|refine gwZ ?_|(refine gwX ?_;intro Q hQ _;simp [hC,hY,hi,hi',hz,hs,hld,h1];refine gwq hQ ?_)|fail
   refine za3 _ 400 hC G0F (m0:=[(100,b)]) hC0 (by omega) ?_ ?_ ?_
   ·simp [zap,zax,zah,zaj,dom,hs]
   ·simp [hib,zad,zah,zaj]
   ·simp
  ·unfold joe
   generalize HS.tk ⟨N,v⟩ w n=H0 at *
   unfold zbn zbd
   repeat' first|refine gwZ ?_|refine gwW ?_|fail
   refine ⟨.inr rfl,by simp [results17,zc8,zbg,zbd],kpS G0F⟩
theorem z12 (N:Int) (v:Nat->Int) (h:HOk N v) :
  Fun prog G0 17 #[zbg N v,.slice none 0 0] (hpL G0 []) (zaa []) (.ret (zbg N v) []):=by
 have hR:=λK=>zgi h K
 unfold zbg zbd at hR |-
 refine zar (B:=200) G0F func17 rfl call17 zcd ?_ (zai (by simp [zc8,zbg,zbd])) (by simp) (by simp) (by simp [ntmps17]) (by omega) ?_
 ·simp [zap,zax,zah,zaj,zaa]
 intro C hC hC0 hY
 cases hr:zhm ⟨N,v⟩ with
 | false =>
  rw [hr] at hR
  repeat' first|refine gwZ ?_|(refine gwX ?_;intro Q hQ _;simp [hC,hY,hR];refine gwq hQ ?_)|fail
  refine ⟨.inr rfl,?_,kpS G0F⟩
  simp [results17,zc8,zbg,zbd]
 | true =>
  rw [hr] at hR
  repeat' first|refine gwZ ?_|(refine gwX ?_;intro Q hQ _;simp [hC,hY,hR];refine gwq hQ ?_)|fail
  refine zbt 0 (λi=>⟨tsL [(1,.slice none 0 0),(2,.pointer (some ⟨200,0,none⟩)),(4,.pointer (some ⟨208,0,none⟩)),(5,.int .i64 0)],hpL G0 [(200,zbn N v),(208,zbn 0 λ_=>0)],400,0⟩) ?_ (λi hi=>by omega) ?_
  ·have hix:=λN v D=>Blk.fx_ids (zc1 N v) D
   refine za3 _ 400 hC G0F (m0:=[]) hC0 (by omega) ?_ ?_ ?_
   ·simp [zap,zax,zah,zaj,dom]
   ·simp [hix]
    simp [zbn,zbd,zaf]
   ·simp
  ·unfold zbn zbd
   repeat' first|refine gwZ ?_|refine gwW ?_|fail
   refine ⟨.inr rfl,by simp [results17,zc8,zbg,zbd],kpS G0F⟩
theorem z0q {L:List (Nat×Blk)} (hT:LAny L) {p:Option Addr} {n cap:Nat} {w:Nat->Nat->Int} (hs:LW L p n cap w) {h:HS} (hh:HOk h.N h.v) :
  Fun prog G0 17 #[zc8 h,.slice p n cap] (hpL G0 L) (zaa L) (.ret (zc8 (zwt h w n)) []):=by
 unfold zc8
 rcases hs with ⟨rfl,rfl,rfl⟩|⟨k,off,b,rfl,h1,hL,_⟩
 ·rw [z0t]
  have:=(z12 h.N h.v hh).mvG (args':=#[zbg h.N h.v,.slice none 0 0]) hT.mv0 (by simp [zaa]) (by simp [zbg,zbd,ren,zay,zak,zan])
  rw [zh2] at this
  exact this
 ·have:=(zug b off n cap w hL h.N h.v hh).mvG (args':=#[zbg h.N h.v,.slice (some ⟨k,off,none⟩) n cap]) (hT.mv1 (kb:=k) h1) (by simp [zaa]) (by simp [zbg,zbd,ren,zay,zak,zan,Gy.mv2])
  unfold zc8 at this
  rw [zh2] at this
  exact this
theorem z9w {N:Int} {v w:Nat->Int} (h:HOk N v) (hl:LsOk w) (z:¬N=0) (hr:zhm ⟨N,v⟩=true):zjd ⟨N,v⟩ w=(zje (v 0) (v 1) (w 0)&&(zje (v 0) (v 1) (w 1)&&(zpm (v 2) (v 3) (v 4) (w 2) (w 3) (w 4)&&(zpm (w 2) (w 3) (w 4) (v 5) (v 6) (v 7)&&(zpm (v 8) (v 9) (v 10) (w 8) (w 9) (w 10)&&zpm (w 8) (w 9) (w 10) (v 11) (v 12) (v 13)))))):=by
 rw [zjr h.w0 h.w1 hl.w0,zjr h.w0 h.w1 hl.w1]
 unfold zjd zpm
 rw [hr,Bool.eq_iff_iff]
 simp only [decide_eq_false z,Bool.not_false,Bool.true_and,Bool.and_eq_true,decide_eq_true_eq,jls]
 constructor
 ·rintro ⟨a,b,c⟩
  obtain ⟨c0,d0⟩:=c 0 (by omega)
  obtain ⟨c1,d1⟩:=c 1 (by omega)
  obtain ⟨c2,d2⟩:=c 2 (by omega)
  exact ⟨a,b,⟨c0.1,c1.1,c2.1⟩,⟨c0.2,c1.2,c2.2⟩,⟨d0.1,d1.1,d2.1⟩,d0.2,d1.2,d2.2⟩
 ·rintro ⟨a,b,⟨c0,c1,c2⟩,⟨e0,e1,e2⟩,⟨d0,d1,d2⟩,f0,f1,f2⟩
  refine ⟨a,b,λq hq=>?_⟩
  have:q=0\/q=1\/q=2:=by omega
  rcases this with rfl|rfl|rfl
  ·exact ⟨⟨c0,e0⟩,d0,f0⟩
  ·exact ⟨⟨c1,e1⟩,d1,f1⟩
  ·exact ⟨⟨c2,e2⟩,d2,f2⟩
theorem zo3 (N:Int) (v w:Nat->Int) (h:HOk N v) (hl:LsOk w):Ret prog G0 19 #[zbg N v,zbh w] (.bool (zjd ⟨N,v⟩ w)):=by
 have hR:=λK=>zgi h K
 cases hr:zhm ⟨N,v⟩ with
 | false =>
  rw [hr] at hR
  have e:zjd ⟨N,v⟩ w=false:=by unfold zjd;rw [hr];simp
  rw [e]
  unfold zbg zbd at hR |-
  unfold zbh
  refine zas G0F func19 rfl call19 rfl (by simp) (by simp [ntmps19]) ?_
  intro C hC hC0 hY
  repeat' first|refine gwZ ?_|(refine gwX ?_;intro Q hQ _;simp [hC,hY,hR];refine gwq hQ ?_)|fail
  refine ⟨.inr trivial,?_⟩
  simp [results19]
 | true =>
  rw [hr] at hR
  by_cases z:N=0
  ·subst z
   have e:zjd ⟨0,v⟩ w=false:=by unfold zjd;simp
   rw [e]
   unfold zbg zbd at hR |-
   unfold zbh
   refine zas G0F func19 rfl call19 rfl (by simp) (by simp [ntmps19]) ?_
   intro C hC hC0 hY
   repeat' first|refine gwZ ?_|(refine gwX ?_;intro Q hQ _;simp [hC,hY,hR];refine gwq hQ ?_)|fail
   refine ⟨.inr trivial,?_⟩
   simp [results19]
  ·have zb:(N==0)=false:=by simpa using z
   rw [z9w h hl z hr]
   have k0:=λ(K:Value->Prop)=>zac (K:=K) G0W (by kernel_rfl) (zl7 (v 0) (v 1) (w 0))
   have k1:=λ(K:Value->Prop)=>zac (K:=K) G0W (by kernel_rfl) (zl7 (v 0) (v 1) (w 1))
   have o2:=λK=>ze8 (v 2) (v 3) (v 4) (w 2) (w 3) (w 4) K
   have o3:=λK=>ze8 (w 2) (w 3) (w 4) (v 5) (v 6) (v 7) K
   have o4:=λK=>ze8 (v 8) (v 9) (v 10) (w 8) (w 9) (w 10) K
   have o5:=λK=>ze8 (w 8) (w 9) (w 10) (v 11) (v 12) (v 13) K
   unfold spV wd at k0 k1
   unfold zbg zbd at hR |-
   unfold zbh
   generalize zje (v 0) (v 1) (w 0)=B0 at *
   generalize zje (v 0) (v 1) (w 1)=B1 at *
   generalize zpm (v 2) (v 3) (v 4) (w 2) (w 3) (w 4)=B2 at *
   generalize zpm (w 2) (w 3) (w 4) (v 5) (v 6) (v 7)=B3 at *
   generalize zpm (v 8) (v 9) (v 10) (w 8) (w 9) (w 10)=B4 at *
   generalize zpm (w 8) (w 9) (w 10) (v 11) (v 12) (v 13)=B5 at *
   refine zas G0F func19 rfl call19 rfl (by simp) (by simp [ntmps19]) ?_
   intro C hC hC0 hY
   cases B0 with
   | false =>
    repeat' first|refine gwZ ?_|(refine gwX ?_;intro Q hQ _;simp [hC,hY,hR,z,zb,k0,k1,o2,o3,o4,o5];refine gwq hQ ?_)|fail
    refine ⟨.inr trivial,?_⟩
    simp [results19]
   | true =>
    cases B1 with
    | false =>
     repeat' first|refine gwZ ?_|(refine gwX ?_;intro Q hQ _;simp [hC,hY,hR,z,zb,k0,k1,o2,o3,o4,o5];refine gwq hQ ?_)|fail
     refine ⟨.inr trivial,?_⟩
     simp [results19]
    | true =>
     cases B2 with
     | false =>
      repeat' first|refine gwZ ?_|(refine gwX ?_;intro Q hQ _;simp [hC,hY,hR,z,zb,k0,k1,o2,o3,o4,o5];refine gwq hQ ?_)|fail
      refine ⟨.inr trivial,?_⟩
      simp [results19]
     | true =>
      cases B3 with
      | false =>
       repeat' first|refine gwZ ?_|(refine gwX ?_;intro Q hQ _;simp [hC,hY,hR,z,zb,k0,k1,o2,o3,o4,o5];refine gwq hQ ?_)|fail
       refine ⟨.inr trivial,?_⟩
       simp [results19]
      | true =>
       cases B4 with
       | false =>
        repeat' first|refine gwZ ?_|(refine gwX ?_;intro Q hQ _;simp [hC,hY,hR,z,zb,k0,k1,o2,o3,o4,o5];refine gwq hQ ?_)|fail
        refine ⟨.inr trivial,?_⟩
        simp [results19]
       | true =>
        repeat' first|refine gwZ ?_|(refine gwX ?_;intro Q hQ _;simp [hC,hY,hR,z,zb,k0,k1,o2,o3,o4,o5];refine gwq hQ ?_)|fail
        refine ⟨.inr trivial,?_⟩
        simp [results19]
theorem zu9 {N:Int} {v w:Nat->Int} (h:HOk N v) (hl:LsOk w) (K:Value->Prop):za2 prog G0 19 #[zbg N v,zbh w] K↔K (.bool (zjd ⟨N,v⟩ w)):=zac G0W (by kernel_rfl) (zo3 N v w h hl)
theorem zqz (N:Int) (v:Nat->Int):∃ (n:Int) (k:Bool),Ret prog G0 12 #[zbg N v] (.tuple #[.int .i64 n,.bool k])/\Ret prog G0 13 #[zbg N v] (.tuple #[.int .i64 n,.bool k]):=by
 obtain ⟨n,k,h1,h2⟩:=jcd (v 0) (v 1)
 refine ⟨n,k,?_,?_⟩
 ·unfold zbg zbd
  refine zas G0F func12 rfl call12 (by simp) (by simp) (by simp [ntmps12]) ?_
  intro C hC hC0 hY
  have hw:=λ(K:Value->Prop)=>zac (K:=K) G0W (by kernel_rfl) h1
  unfold spV at hw
  repeat' first|refine gwZ ?_|(refine gwX ?_;intro Q hQ _;simp [hC,hY,hw];refine gwq hQ ?_)|fail
  refine ⟨.inr trivial,?_⟩
  simp [results12]
 ·unfold zbg zbd
  refine zas G0F func13 rfl call13 (by simp) (by simp) (by simp [ntmps13]) ?_
  intro C hC hC0 hY
  have hw:=λ(K:Value->Prop)=>zac (K:=K) G0W (by kernel_rfl) h2
  unfold spV at hw
  repeat' first|refine gwZ ?_|(refine gwX ?_;intro Q hQ _;simp [hC,hY,hw];refine gwq hQ ?_)|fail
  refine ⟨.inr trivial,?_⟩
  simp [results13]
theorem zvx (x0 x1 x2 m y0 y1 y2 z0 z1 z2:Int) (h0:Int.bmod (x0+Int.bmod (m*y0) 18446744073709551616) 18446744073709551616=z0) (h1:Int.bmod (x1+Int.bmod (m*y1) 18446744073709551616) 18446744073709551616=z1) (h2:Int.bmod (x2+Int.bmod (m*y2) 18446744073709551616) 18446744073709551616=z2):Ret prog G0 74 #[.agg #[.int .i64 x0,.int .i64 x1,.int .i64 x2],.int .i64 m,.agg #[.int .i64 y0,.int .i64 y1,.int .i64 y2]] (.agg #[.int .i64 z0,.int .i64 z1,.int .i64 z2]):=by
 subst h0 h1 h2
 refine zas G0F func74 rfl call74 (by simp) (by simp) (by simp [ntmps74]) ?_
 intro C hC hC0 hY
 repeat' first|refine gwZ ?_|refine gwW ?_|fail
 refine ⟨.inr trivial,?_⟩
 simp [results74]
theorem znh {x0 x1 x2 m y0 y1 y2 z0 z1 z2:Int} (h0:Int.bmod (x0+Int.bmod (m*y0) 18446744073709551616) 18446744073709551616=z0) (h1:Int.bmod (x1+Int.bmod (m*y1) 18446744073709551616) 18446744073709551616=z1) (h2:Int.bmod (x2+Int.bmod (m*y2) 18446744073709551616) 18446744073709551616=z2) (K:Value->Prop):za2 prog G0 74 #[.agg #[.int .i64 x0,.int .i64 x1,.int .i64 x2],.int .i64 m,.agg #[.int .i64 y0,.int .i64 y1,.int .i64 y2]] K↔K (.agg #[.int .i64 z0,.int .i64 z1,.int .i64 z2]):=zac G0W (by kernel_rfl) (zvx x0 x1 x2 m y0 y1 y2 z0 z1 z2 h0 h1 h2)
theorem zrd {a b:Int} (ha:-1125899906842624<=a/\a<=1125899906842624) (hb:-1125899906842624<=b/\b<=1125899906842624):Int.bmod (b+Int.bmod (-1*a) 18446744073709551616) 18446744073709551616=b - a:=by
 rw [bm (x:=-1*a) (by omega) (by omega),bm (by omega) (by omega)]
 omega
def zjs (a:Int):Prop:=-1125899906842624<=a/\a<=1125899906842624
theorem zvo {a0 a1 a2 b0 b1 b2:Int} (k0:zjs a0) (k1:zjs a1) (k2:zjs a2) (l0:zjs b0) (l1:zjs b1) (l2:zjs b2):Ret prog G0 43 #[.agg #[.int .i64 a0,.int .i64 a1,.int .i64 a2],.agg #[.int .i64 b0,.int .i64 b1,.int .i64 b2]] (.agg #[.int .i64 (b0 - a0),.int .i64 (b1 - a1),.int .i64 (b2 - a2)]):=by
 have pk:=λK=>znh (m:=-1) (zrd k0 l0) (zrd k1 l1) (zrd k2 l2) K
 refine zas G0F func43 rfl call43 (by simp) (by simp) (by simp [ntmps43]) ?_
 intro C hC hC0 hY
 repeat' first|refine gwZ ?_|(refine gwX ?_;intro Q hQ _;simp [hC,hY,pk];refine gwq hQ ?_)|fail
 refine ⟨.inr trivial,?_⟩
 simp [results43]
theorem zs6 {a0 a1 a2 b0 b1 b2:Int} (k0:zjs a0) (k1:zjs a1) (k2:zjs a2) (l0:zjs b0) (l1:zjs b1) (l2:zjs b2) (K:Value->Prop):za2 prog G0 43 #[.agg #[.int .i64 a0,.int .i64 a1,.int .i64 a2],.agg #[.int .i64 b0,.int .i64 b1,.int .i64 b2]] K↔K (.agg #[.int .i64 (b0 - a0),.int .i64 (b1 - a1),.int .i64 (b2 - a2)]):=zac G0W (by kernel_rfl) (zvo k0 k1 k2 l0 l1 l2)
theorem z6u {a0 a1 a2:Int} (h:fnI a0/\fnI a1/\fnI a2):inV 536870912 a0 a1 a2=true:=by
 obtain ⟨⟨a,b⟩,⟨c,d⟩,e,f⟩:=h
 unfold inV inW
 exact decide_eq_true ⟨⟨by omega,a,b⟩,⟨by omega,c,d⟩,by omega,e,f⟩
theorem zuv (a0 a1 a2 b0 b1 b2:Int) (hf:(fnI a0/\fnI a1/\fnI a2)/\fnI b0/\fnI b1/\fnI b2):Ret prog G0 75 #[.agg #[.int .i64 a0,.int .i64 a1,.int .i64 a2],.agg #[.int .i64 b0,.int .i64 b1,.int .i64 b2]]
  (.tuple #[.agg #[.int .i64 (a1*b2 - a2*b1),.int .i64 (a2*b0 - a0*b2),.int .i64 (a0*b1 - a1*b0)],.int .i64 0]):=by
 refine zas G0F func75 rfl call75 (by simp) (by simp) (by simp [ntmps75]) ?_
 intro C hC hC0 hY
 have va:=z6u hf.1
 have vb:=z6u hf.2
 obtain ⟨⟨f0,f1,f2⟩,g0,g1,g2⟩:=hf
 have m01:=zei f0 g1
 have m02:=zei f0 g2
 have m10:=zei f1 g0
 have m12:=zei f1 g2
 have m20:=zei f2 g0
 have m21:=zei f2 g1
 have s01:Int.bmod (a0*b1) 18446744073709551616=a0*b1:=bm (by omega) (by omega)
 have s02:Int.bmod (a0*b2) 18446744073709551616=a0*b2:=bm (by omega) (by omega)
 have s10:Int.bmod (a1*b0) 18446744073709551616=a1*b0:=bm (by omega) (by omega)
 have s12:Int.bmod (a1*b2) 18446744073709551616=a1*b2:=bm (by omega) (by omega)
 have s20:Int.bmod (a2*b0) 18446744073709551616=a2*b0:=bm (by omega) (by omega)
 have s21:Int.bmod (a2*b1) 18446744073709551616=a2*b1:=bm (by omega) (by omega)
 have t0:Int.bmod (a1*b2 - a2*b1) 18446744073709551616=a1*b2 - a2*b1:=bm (by omega) (by omega)
 have t1:Int.bmod (a2*b0 - a0*b2) 18446744073709551616=a2*b0 - a0*b2:=bm (by omega) (by omega)
 have t2:Int.bmod (a0*b1 - a1*b0) 18446744073709551616=a0*b1 - a1*b0:=bm (by omega) (by omega)
 repeat' first|refine gwZ ?_|((first|refine gwR [107] ?_|refine gwD [107] ?_);intro Q hQ _;(repeat first|simp [hC,hY,s01,s02,s10,s12,s20,s21,t0,t1,t2]|refine zae (z9h va vb) G0F (B:=200) ⟨by simp,by simp [zaa],by simp [zad,zah,zaj]⟩ (λk=>if k=100 then 248 else k) (λk hk=>if_neg (by omega)) (by simp [ren,zay,zak,zan]) (by simp) (by simp [Blk.rn,zak,zan]) (by simp [zaa]) (by simp [zaa];rfl) ?_);refine gwq hQ ?_)|fail
 refine ⟨.inr trivial,?_⟩
 simp [results75]
theorem z2r {a0 a1 a2 b0 b1 b2:Int} (hf:(fnI a0/\fnI a1/\fnI a2)/\fnI b0/\fnI b1/\fnI b2) (K:Value->Prop):za2 prog G0 75 #[.agg #[.int .i64 a0,.int .i64 a1,.int .i64 a2],.agg #[.int .i64 b0,.int .i64 b1,.int .i64 b2]] K↔K (.tuple #[.agg #[.int .i64 (a1*b2 - a2*b1),.int .i64 (a2*b0 - a0*b2),.int .i64 (a0*b1 - a1*b0)],.int .i64 0]):=zac G0W (by kernel_rfl) (zuv a0 a1 a2 b0 b1 b2 hf)
def pmS (L:List (Nat×Blk)) (ks off n cap off2 cap2:Nat) (g bx tp nr md st:Int) (f:Nat->Nat->Int) (i:Nat):GS :=
 ⟨tsL [(2,.pointer (some ⟨200,0,none⟩)),(3,.pointer (some ⟨208,0,none⟩)),(4,.pointer (some ⟨216,0,none⟩)),(5,.int .i64 0),(6,.pointer (some ⟨232,0,none⟩)),(7,.int .i64 i)],hpL G0 ([(200,cfB (.slice (some ⟨100,off,none⟩) n cap) g bx tp nr md),(208,zc0 st ks off2 n cap2),(216,vcB 0 0 0),(232,vcB (zbv (f 0) i) (zbv (f 1) i) (zbv (f 2) i))]++L),700,0⟩
theorem z6a {m z S:Int} (hm:1<=m/\m<=1024) (hz:-274877906944<=z/\z<=274877906944) (hS:-1125899906842624<=S/\S<=1125899906842624):Int.bmod (S+Int.bmod (m*z) 18446744073709551616) 18446744073709551616=S+m*z:=by
 have h:=zi7 hm.1 hm.2 hz.1 hz.2
 rw [bm (x:=m*z) (by omega) (by omega)]
 exact bm (by omega) (by omega)
theorem z59 (L:List (Nat×Blk)) (ks:Nat) (bm' bs:Blk) (hT:LTwo G0 L ks bm' bs) (off n cap off2 cap2:Nat) (fm fs:Nat->Int) (hm:MB bm' off n fm) (hSb:SB bs off2 n fs) (g bx tp nr md st:Int) (hs:i64 st) (hok:zdr n fm g bx tp nr md=true) (hrt:zbl st fs n=true) :
  Fun prog G0 41 #[cfV (.slice (some ⟨100,off,none⟩) n cap) g bx tp nr md,.agg #[.int .i64 st,.slice (some ⟨ks,off2,none⟩) n cap2]] (hpL G0 L) (zaa L) (.ret (.tuple #[v3 (sP fm fs n 0) (sP fm fs n 1) (sP fm fs n 2),.int .i64 0]) []):=by
 unfold v3
 refine zar (B:=200) G0F func41 rfl call41 hT.ok ?_ (zai (by simp)) (by simp) (by simp) (by simp [ntmps41]) (by omega) ?_
 ·simp [zap,zax,zah,zaj,hT.ia,hT.ib,cfV]
 intro C hC hC0 hY
 have hA:=hT.a
 have hS:=hT.s
 have hne:=hT.ne
 have hLow:=hT.low
 have hks:=hT.k1
 have hks2:=hT.k2
 have hfit:=zjq L ks bm' bs hT off n cap off2 n cap2 fm fs hm hSb g bx tp nr md st
 rw [zdk.2 ⟨rfl,hok,hrt⟩] at hfit
 have hn4:=(zez hrt).2.1
 have hbd:∀ u i,i<=n->-1125899906842624<=zbv (mzF fm (zP fs) u) i/\zbv (mzF fm (zP fs) u) i<=1125899906842624:=λu i hi=>by
  have:=zkn (f:=mzF fm (zP fs) u) (n:=n) (λj hj=>by
   have hmm:=zbu hok hj
   have hzz:=zr9 hrt u j hj
   exact zi7 hmm.1 hmm.2 (by omega) (by omega)) i hi
  omega
 unfold cfV at hfit |-
 repeat' first|refine gwZ ?_|((first|refine gwR [22] ?_|refine gwD [22] ?_);intro Q hQ _;(repeat first|simp [hC,hY,hA,hS,hne]|refine za7 hfit hT.ok zdd ?_);refine gwq hQ ?_)|fail
 refine zbt n (pmS L ks off n cap off2 cap2 g bx tp nr md st (mzF fm (zP fs))) ?_ ?_ ?_
 ·refine zg6 _ 700 hC G0F hT.ok hT.fx hC0 (by omega) ?_ ?_ ?_
  ·simp [zap,zax,zah,zaj,dom]
  ·simp [cfB,zc0,vcB,zbv,zad,zah,zaj,dom,hA,hS,hne]
  ·(intro p hp;have hpb:=hT.ok.big p hp;(try dsimp only);simp (disch:=omega) only [zb3,zab,zaq,zaw,if_neg,zbi,List.cons_append,List.nil_append];first|exact hT.mem p hp|exact cL p hp)
 ·intro i hi
  have hi':(i:Int)<n:=Int.ofNat_lt.2 hi
  have hz:(0:Int)<=i:=Int.natCast_nonneg i
  have hs':Int.bmod ((i:Int)+1) 18446744073709551616=((i+1:Nat):Int):=by rw [bm (by omega) (by omega)];rfl
  have X:=hm.at hi
  have Y:=hSb.vec hi (u:=3) (by omega)
  have hmm:=zbu hok hi
  have zb:=λu=>zr9 hrt u i hi
  have sb:=λu=>hbd u i (by omega)
  have e:=λu=>z6a hmm (z:=zP fs u i) (by have:=zb u;omega) (sb u)
  have pk:=λK=>znh (m:=fm i) (e 0) (e 1) (e 2) K
  have f0:zP fs 0 i=fs (6*i+3):=rfl
  have f1:zP fs 1 i=fs (6*i+4):=rfl
  have f2:zP fs 2 i=fs (6*i+5):=rfl
  have q:=λu=>(show zbv (mzF fm (zP fs) u) (i+1)=zbv (mzF fm (zP fs) u) i+fm i*zP fs u i from rfl)
  have q0:=q 0
  have q1:=q 1
  have q2:=q 2
  rw [f0,f1,f2] at pk
  rw [f0] at q0
  rw [f1] at q1
  rw [f2] at q2
  clear e zb sb q f0 f1 f2 hmm
  unfold pmS vcB cfB zc0
  rw [q0,q1,q2]
  generalize zbv (mzF fm (zP fs) 0) i=S0 at *
  generalize zbv (mzF fm (zP fs) 1) i=S1 at *
  generalize zbv (mzF fm (zP fs) 2) i=S2 at *
  repeat' first|refine gwZ ?_|(refine gwX ?_;intro Q hQ hP;simp [hC,hY,hA,hS,hne,hi,hi',hz,hs',X,Y,pk];(first|refine hQ _ _ _ _ (by rcases hT.k8 with h8|h8<;>subst h8<;>kernel_rfl) ?_|refine hP _ _ (by rcases hT.k8 with h8|h8<;>subst h8<;>kernel_rfl) λ_=>?_))|fail
  refine zg6 _ 700 hC G0F hT.ok hT.fx hC0 (by omega) ?_ ?_ ?_
  ·simp [zap,zax,zah,zaj,dom,hs']
  ·simp [zad,zah,zaj,dom,hA,hS,hne]
  ·(intro p hp;have hpb:=hT.ok.big p hp;(try dsimp only);simp (disch:=omega) only [zb3,zab,zaq,zaw,if_neg,zbi,List.cons_append,List.nil_append];first|exact hT.mem p hp|exact cL p hp)
 ·unfold pmS vcB cfB zc0
  repeat' first|refine gwZ ?_|(refine gwX ?_;intro Q hQ _;simp [hC,hY,hA,hS,hne];refine gwq hQ ?_)|fail
  refine ⟨.inr rfl,by simp [results41,sP],kpT G0F⟩
theorem z58 (L:List (Nat×Blk)) (ks:Nat) (bm' bs:Blk) (hT:LTwo G0 L ks bm' bs) (off n cap off2 cap2:Nat) (fm fs:Nat->Int) (hm:MB bm' off n fm) (hSb:SB bs off2 n fs) (g bx tp nr md st:Int) (hs:i64 st) (hok:zdr n fm g bx tp nr md=true) (hrt:zbl st fs n=true) :
  Fun prog G0 42 #[cfV (.slice (some ⟨100,off,none⟩) n cap) g bx tp nr md,.agg #[.int .i64 st,.slice (some ⟨ks,off2,none⟩) n cap2]] (hpL G0 L) (zaa L) (.ret (.tuple #[v3 (sL fm fs n 0) (sL fm fs n 1) (sL fm fs n 2),.int .i64 0]) []):=by
 unfold v3
 refine zar (B:=200) G0F func42 rfl call42 hT.ok ?_ (zai (by simp)) (by simp) (by simp) (by simp [ntmps42]) (by omega) ?_
 ·simp [zap,zax,zah,zaj,hT.ia,hT.ib,cfV]
 intro C hC hC0 hY
 have hA:=hT.a
 have hS:=hT.s
 have hne:=hT.ne
 have hLow:=hT.low
 have hks:=hT.k1
 have hks2:=hT.k2
 have hfit:=zjq L ks bm' bs hT off n cap off2 n cap2 fm fs hm hSb g bx tp nr md st
 rw [zdk.2 ⟨rfl,hok,hrt⟩] at hfit
 have hn4:=(zez hrt).2.1
 have hbd:∀ u i,i<=n->-1125899906842624<=zbv (mzF fm (zL fs) u) i/\zbv (mzF fm (zL fs) u) i<=1125899906842624:=λu i hi=>by
  have:=zkn (f:=mzF fm (zL fs) u) (n:=n) (λj hj=>by
   have hmm:=zbu hok hj
   have hzz:=zr8 hrt u j hj
   exact zi7 hmm.1 hmm.2 hzz.1 hzz.2) i hi
  omega
 unfold cfV at hfit |-
 repeat' first|refine gwZ ?_|((first|refine gwR [22] ?_|refine gwD [22] ?_);intro Q hQ _;(repeat first|simp [hC,hY,hA,hS,hne]|refine za7 hfit hT.ok zdd ?_);refine gwq hQ ?_)|fail
 refine zbt n (pmS L ks off n cap off2 cap2 g bx tp nr md st (mzF fm (zL fs))) ?_ ?_ ?_
 ·refine zg6 _ 700 hC G0F hT.ok hT.fx hC0 (by omega) ?_ ?_ ?_
  ·simp [zap,zax,zah,zaj,dom]
  ·simp [cfB,zc0,vcB,zbv,zad,zah,zaj,dom,hA,hS,hne]
  ·(intro p hp;have hpb:=hT.ok.big p hp;(try dsimp only);simp (disch:=omega) only [zb3,zab,zaq,zaw,if_neg,zbi,List.cons_append,List.nil_append];first|exact hT.mem p hp|exact cL p hp)
 ·intro i hi
  have hi':(i:Int)<n:=Int.ofNat_lt.2 hi
  have hz:(0:Int)<=i:=Int.natCast_nonneg i
  have hs':Int.bmod ((i:Int)+1) 18446744073709551616=((i+1:Nat):Int):=by rw [bm (by omega) (by omega)];rfl
  have X:=hm.at hi
  have Y:=hSb.vec hi (u:=3) (by omega)
  have Y0:=hSb.vec hi (u:=0) (by omega)
  have ck:=λK=>z2r (zsw hrt hi) K
  simp only [Nat.add_zero] at Y0
  have hmm:=zbu hok hi
  have zb:=λu=>zr8 hrt u i hi
  have sb:=λu=>hbd u i (by omega)
  have e:=λu=>z6a hmm (z:=zL fs u i) (zb u) (sb u)
  have pk:=λK=>znh (m:=fm i) (e 0) (e 1) (e 2) K
  have f0:zL fs 0 i=fs (6*i+1)*fs (6*i+5) - fs (6*i+2)*fs (6*i+4):=rfl
  have f1:zL fs 1 i=fs (6*i+2)*fs (6*i+3) - fs (6*i)*fs (6*i+5):=rfl
  have f2:zL fs 2 i=fs (6*i)*fs (6*i+4) - fs (6*i+1)*fs (6*i+3):=rfl
  have q:=λu=>(show zbv (mzF fm (zL fs) u) (i+1)=zbv (mzF fm (zL fs) u) i+fm i*zL fs u i from rfl)
  have q0:=q 0
  have q1:=q 1
  have q2:=q 2
  rw [f0,f1,f2] at pk
  rw [f0] at q0
  rw [f1] at q1
  rw [f2] at q2
  clear e zb sb q f0 f1 f2 hmm
  unfold pmS vcB cfB zc0
  rw [q0,q1,q2]
  generalize zbv (mzF fm (zL fs) 0) i=S0 at *
  generalize zbv (mzF fm (zL fs) 1) i=S1 at *
  generalize zbv (mzF fm (zL fs) 2) i=S2 at *
  repeat' first|refine gwZ ?_|(refine gwX ?_;intro Q hQ hP;simp [hC,hY,hA,hS,hne,hi,hi',hz,hs',X,Y,Y0,ck,pk];(first|refine hQ _ _ _ _ (by rcases hT.k8 with h8|h8<;>subst h8<;>kernel_rfl) ?_|refine hP _ _ (by rcases hT.k8 with h8|h8<;>subst h8<;>kernel_rfl) λ_=>?_))|fail
  refine zg6 _ 700 hC G0F hT.ok hT.fx hC0 (by omega) ?_ ?_ ?_
  ·simp [zap,zax,zah,zaj,dom,hs']
  ·simp [zad,zah,zaj,dom,hA,hS,hne]
  ·(intro p hp;have hpb:=hT.ok.big p hp;(try dsimp only);simp (disch:=omega) only [zb3,zab,zaq,zaw,if_neg,zbi,List.cons_append,List.nil_append];first|exact hT.mem p hp|exact cL p hp)
 ·unfold pmS vcB cfB zc0
  repeat' first|refine gwZ ?_|(refine gwX ?_;intro Q hQ _;simp [hC,hY,hA,hS,hne];refine gwq hQ ?_)|fail
  refine ⟨.inr rfl,by simp [results42,sL],kpT G0F⟩
section
variable {L:List (Nat×Blk)} {p pa pb:Option Addr} {n cap na capa nb capb:Nat} {g bx tp nr md sta stb:Int}
theorem zhh (hT:LAny L) (h1:SlI L p) (h2:SlI L pa) (h3:SlI L pb) {lo hi e:Int} (he:¬e=0)
  (hEa:Fun prog G0 23 #[cfV (.slice p n cap) g bx tp nr md,.agg #[.int .i64 sta,.slice pa na capa]] (hpL G0 L) (zaa L) (.ret (.tuple #[spV lo hi,.int .i64 e]) [])) :
  Fun prog G0 11 #[cfV (.slice p n cap) g bx tp nr md,.agg #[.int .i64 sta,.slice pa na capa],.agg #[.int .i64 stb,.slice pb nb capb]] (hpL G0 L) (zaa L) (.ret (.tuple #[zbh λ_=>0,.int .i64 e]) []):=by
 refine zar (B:=200) G0F func11 rfl call11 hT.ok (zj2 h1 h2 h3) (zai (by simp [zbh])) (by simp) (by simp) (by simp [ntmps11]) (by omega) ?_
 intro C hC hC0 hY
 have hLow:=hT.low
 have heb:(e != 0)=true:=by simpa using he
 unfold cfV spV at hEa
 unfold cfV
 repeat' first|refine gwZ ?_|((first|refine gwR [23] ?_|refine gwD [23] ?_);intro Q hQ _;(repeat first|simp [hC,hY,he,heb]|refine za7 hEa hT.ok zdd ?_);refine gwq hQ ?_)|fail
 refine ⟨.inr rfl,by simp [results11,zbh,zaf],kpT G0F⟩
theorem zkm (hT:LAny L) (h1:SlI L p) (h2:SlI L pa) (h3:SlI L pb) {lo hi lo2 hi2 e:Int} (he:¬e=0)
  (hEa:Fun prog G0 23 #[cfV (.slice p n cap) g bx tp nr md,.agg #[.int .i64 sta,.slice pa na capa]] (hpL G0 L) (zaa L) (.ret (.tuple #[spV lo hi,.int .i64 0]) []))
  (hEb:Fun prog G0 23 #[cfV (.slice p n cap) g bx tp nr md,.agg #[.int .i64 stb,.slice pb nb capb]] (hpL G0 L) (zaa L) (.ret (.tuple #[spV lo2 hi2,.int .i64 e]) [])) :
  Fun prog G0 11 #[cfV (.slice p n cap) g bx tp nr md,.agg #[.int .i64 sta,.slice pa na capa],.agg #[.int .i64 stb,.slice pb nb capb]] (hpL G0 L) (zaa L) (.ret (.tuple #[zbh λ_=>0,.int .i64 e]) []):=by
 refine zar (B:=200) G0F func11 rfl call11 hT.ok (zj2 h1 h2 h3) (zai (by simp [zbh])) (by simp) (by simp) (by simp [ntmps11]) (by omega) ?_
 intro C hC hC0 hY
 have hLow:=hT.low
 have heb:(e != 0)=true:=by simpa using he
 unfold cfV spV at hEa hEb
 unfold cfV
 repeat' first|refine gwZ ?_|((first|refine gwR [23] ?_|refine gwD [23] ?_);intro Q hQ _;(repeat first|simp [hC,hY,he,heb]|refine za7 hEa hT.ok zdd ?_|refine za7 hEb hT.ok zdd ?_);refine gwq hQ ?_)|fail
 refine ⟨.inr rfl,by simp [results11,zbh,zaf],kpT G0F⟩
theorem zyw (hT:LAny L) (h1:SlI L p) (h2:SlI L pa) (h3:SlI L pb) {lo hi lo2 hi2 x0 x1 x2 y0 y1 y2 a0 a1 a2 b0 b1 b2:Int} (k0:zjs x0) (k1:zjs x1) (k2:zjs x2) (l0:zjs y0) (l1:zjs y1) (l2:zjs y2) (m0:zjs a0) (m1:zjs a1) (m2:zjs a2) (n0:zjs b0) (n1:zjs b1) (n2:zjs b2)
  (hEa:Fun prog G0 23 #[cfV (.slice p n cap) g bx tp nr md,.agg #[.int .i64 sta,.slice pa na capa]] (hpL G0 L) (zaa L) (.ret (.tuple #[spV lo hi,.int .i64 0]) []))
  (hEb:Fun prog G0 23 #[cfV (.slice p n cap) g bx tp nr md,.agg #[.int .i64 stb,.slice pb nb capb]] (hpL G0 L) (zaa L) (.ret (.tuple #[spV lo2 hi2,.int .i64 0]) []))
  (hPa:Fun prog G0 41 #[cfV (.slice p n cap) g bx tp nr md,.agg #[.int .i64 sta,.slice pa na capa]] (hpL G0 L) (zaa L) (.ret (.tuple #[v3 x0 x1 x2,.int .i64 0]) []))
  (hPb:Fun prog G0 41 #[cfV (.slice p n cap) g bx tp nr md,.agg #[.int .i64 stb,.slice pb nb capb]] (hpL G0 L) (zaa L) (.ret (.tuple #[v3 y0 y1 y2,.int .i64 0]) []))
  (hLa:Fun prog G0 42 #[cfV (.slice p n cap) g bx tp nr md,.agg #[.int .i64 sta,.slice pa na capa]] (hpL G0 L) (zaa L) (.ret (.tuple #[v3 a0 a1 a2,.int .i64 0]) []))
  (hLb:Fun prog G0 42 #[cfV (.slice p n cap) g bx tp nr md,.agg #[.int .i64 stb,.slice pb nb capb]] (hpL G0 L) (zaa L) (.ret (.tuple #[v3 b0 b1 b2,.int .i64 0]) [])) :
  Fun prog G0 11 #[cfV (.slice p n cap) g bx tp nr md,.agg #[.int .i64 sta,.slice pa na capa],.agg #[.int .i64 stb,.slice pb nb capb]] (hpL G0 L) (zaa L) (.ret (.tuple #[zbh (lsN (lo2 - hi) (hi2 - lo) (y0 - x0) (y1 - x1) (y2 - x2) (b0 - a0) (b1 - a1) (b2 - a2)),.int .i64 0]) []):=by
 refine zar (B:=200) G0F func11 rfl call11 hT.ok (zj2 h1 h2 h3) (zai (by simp [zbh])) (by simp) (by simp) (by simp [ntmps11]) (by omega) ?_
 intro C hC hC0 hY
 have hLow:=hT.low
 have q1:=λK=>zs6 k0 k1 k2 l0 l1 l2 K
 have q2:=λK=>zs6 m0 m1 m2 n0 n1 n2 K
 unfold cfV spV at hEa hEb
 unfold cfV v3 at hPa hPb hLa hLb
 unfold cfV zbh
 repeat' first|refine gwZ ?_|((first|refine gwR [23,41,42] ?_|refine gwD [23,41,42] ?_);intro Q hQ hP;(repeat first|simp [hC,hY,q1,q2]|refine za7 hEa hT.ok zdd ?_|refine za7 hEb hT.ok zdd ?_|refine za7 hPa hT.ok zdd ?_|refine za7 hPb hT.ok zdd ?_|refine za7 hLa hT.ok zdd ?_|refine za7 hLb hT.ok zdd ?_);refine gwq hQ ?_)|fail
 refine ⟨.inr rfl,by simp [results11,lsN],kpT G0F⟩
end
theorem z35 {L:List (Nat×Blk)} (hT:LAny L) {ka kb kc:Nat} {bm ba bb:Blk} (h1:(ka,bm)∈L) (h2:(kb,ba)∈L) (h3:(kc,bb)∈L) {off n cap offa na capa offb nb capb:Nat} {fm fa fb:Nat->Int} (hm:MB bm off n fm) (hA:SB ba offa na fa) (hB:SB bb offb nb fb) (hcm:n<=cap) (hca:na<=capa) (hcb:nb<=capb) {g bx tp nr md sta stb:Int} (hsa:i64 sta) (hsb:i64 stb) :
  Fun prog G0 11 #[cfV (.slice (some ⟨ka,off,none⟩) n cap) g bx tp nr md,.agg #[.int .i64 sta,.slice (some ⟨kb,offa,none⟩) na capa],.agg #[.int .i64 stb,.slice (some ⟨kc,offb,none⟩) nb capb]] (hpL G0 L) (zaa L)
   (.ret (.tuple #[zbh (lsW (enE n na fm fa g bx tp nr md sta) (enE n nb fm fb g bx tp nr md stb) fm n g fa fb),.int .i64 (lsE (enE n na fm fa g bx tp nr md sta) (enE n nb fm fb g bx tp nr md stb))]) []):=by
 have eA:=zev (cap2:=capa) (zgg n na fm fa g bx tp nr md sta) hT h1 h2 λL' ks hL=>zkq L' ks bm ba hL off n cap offa na capa fm fa hm hA hcm hca g bx tp nr md sta hsa
 have eB:=zev (cap2:=capb) (zgg n nb fm fb g bx tp nr md stb) hT h1 h3 λL' ks hL=>zkq L' ks bm bb hL off n cap offb nb capb fm fb hm hB hcm hcb g bx tp nr md stb hsb
 unfold enV at eA eB
 by_cases ha:enE n na fm fa g bx tp nr md sta=0
 ·rw [ha] at eA |-
  obtain ⟨rfl,hok,hra,hza⟩:=z2x ha
  by_cases hb:enE n nb fm fb g bx tp nr md stb=0
  ·rw [hb] at eB |-
   obtain ⟨rfl,_,hrb,hzb⟩:=z2x hb
   have pA:=zev (cap2:=capa) (by simp [v3]) hT h1 h2 λL' ks hL=>z59 L' ks bm ba hL off n cap offa capa fm fa hm hA g bx tp nr md sta hsa hok hra
   have pB:=zev (cap2:=capb) (by simp [v3]) hT h1 h3 λL' ks hL=>z59 L' ks bm bb hL off n cap offb capb fm fb hm hB g bx tp nr md stb hsb hok hrb
   have lA:=zev (cap2:=capa) (by simp [v3]) hT h1 h2 λL' ks hL=>z58 L' ks bm ba hL off n cap offa capa fm fa hm hA g bx tp nr md sta hsa hok hra
   have lB:=zev (cap2:=capb) (by simp [v3]) hT h1 h3 λL' ks hL=>z58 L' ks bm bb hL off n cap offb capb fm fb hm hB g bx tp nr md stb hsb hok hrb
   have qa:=λu=>zpk hok (z:=zP fa) (λu i hi=>by have:=zr9 hra u i hi;omega) u
   have qb:=λu=>zpk hok (z:=zP fb) (λu i hi=>by have:=zr9 hrb u i hi;omega) u
   have ra:=λu=>zpk hok (z:=zL fa) (λu i hi=>zr8 hra u i hi) u
   have rb:=λu=>zpk hok (z:=zL fb) (λu i hi=>zr8 hrb u i hi) u
   have h:=zyw hT (SlI.at h1) (SlI.at h2) (SlI.at h3) (qa 0) (qa 1) (qa 2) (qb 0) (qb 1) (qb 2) (ra 0) (ra 1) (ra 2) (rb 0) (rb 1) (rb 2) eA eB pA pB lA lB
   unfold lsW lsE
   rw [if_pos ⟨rfl,rfl⟩,if_pos rfl]
   exact h
  ·have h:=zkm hT (SlI.at h1) (SlI.at h2) (SlI.at h3) hb eA eB
   unfold lsW lsE
   rw [if_neg (λh=>hb h.2),if_pos rfl]
   exact h
 ·have h:=zhh (stb:=stb) (pb:=some ⟨kc,offb,none⟩) (nb:=nb) (capb:=capb) hT (SlI.at h1) (SlI.at h2) (SlI.at h3) ha eA
  unfold lsW lsE
  rw [if_neg (λh=>ha h.1),if_neg ha]
  exact h
section
variable {L:List (Nat×Blk)} {p pa pb:Option Addr} {n cap na capa nb capb:Nat} {g bx tp nr md sta stb:Int}
theorem zqu (hT:LAny L) (hp:NS p n cap\/MS L p n cap) (ha:NS pa na capa\/SS L pa na capa) (hn:NS p n cap\/NS pa na capa) :
  Fun prog G0 36 #[cfV (.slice p n cap) g bx tp nr md,.agg #[.int .i64 sta,.slice pa na capa]] (hpL G0 L) (zaa L) (.ret (.tuple #[spV 0 0,.int .i64 2]) []) /\
  Fun prog G0 23 #[cfV (.slice p n cap) g bx tp nr md,.agg #[.int .i64 sta,.slice pa na capa]] (hpL G0 L) (zaa L) (.ret (.tuple #[spV 0 0,.int .i64 2]) []):=by
 have fl:za0 (.tuple #[spV 0 0,.int .i64 2])=true:=by simp [spV]
 rcases hp with ⟨rfl,rfl,rfl⟩|⟨k,off,b,fm,rfl,hk,hm,hc⟩
 ·rcases ha with ⟨rfl,rfl,rfl⟩|⟨k,off,b,fs,rfl,hk,hm,hc⟩
  ·have h1:=(je8 g bx tp nr md sta).mvG (args':=#[cfV (.slice none 0 0) g bx tp nr md,.agg #[.int .i64 sta,.slice none 0 0]]) hT.mv0 (by simp [zaa]) (by simp [cfV,ren,zay,zak,zan])
   have h2:=(jhz g bx tp nr md sta).mvG (args':=#[cfV (.slice none 0 0) g bx tp nr md,.agg #[.int .i64 sta,.slice none 0 0]]) hT.mv0 (by simp [zaa]) (by simp [cfV,ren,zay,zak,zan])
   rw [zau fl] at h1 h2
   exact ⟨h1,h2⟩
  ·have h1:=(je9 b off na capa fs hm g bx tp nr md sta).mvG (args':=#[cfV (.slice none 0 0) g bx tp nr md,.agg #[.int .i64 sta,.slice (some ⟨k,off,none⟩) na capa]]) (hT.mv1 (kb:=k) hk) (by simp [zaa]) (by simp [cfV,ren,zay,zak,zan,Gy.mv2])
   have h2:=(jh0 b off na capa fs hm g bx tp nr md sta).mvG (args':=#[cfV (.slice none 0 0) g bx tp nr md,.agg #[.int .i64 sta,.slice (some ⟨k,off,none⟩) na capa]]) (hT.mv1 (kb:=k) hk) (by simp [zaa]) (by simp [cfV,ren,zay,zak,zan,Gy.mv2])
   rw [zau fl] at h1 h2
   exact ⟨h1,h2⟩
 ·obtain ⟨rfl,rfl,rfl⟩:NS pa na capa:=by
   rcases hn with h|h
   ·cases h.1
   ·exact h
  have h1:=(z6m b off n cap fm hm g bx tp nr md sta).mvG (args':=#[cfV (.slice (some ⟨k,off,none⟩) n cap) g bx tp nr md,.agg #[.int .i64 sta,.slice none 0 0]]) (hT.mv1 (kb:=k) hk) (by simp [zaa]) (by simp [cfV,ren,zay,zak,zan,Gy.mv2])
  have h2:=(jh2 b off n cap fm hm g bx tp nr md sta).mvG (args':=#[cfV (.slice (some ⟨k,off,none⟩) n cap) g bx tp nr md,.agg #[.int .i64 sta,.slice none 0 0]]) (hT.mv1 (kb:=k) hk) (by simp [zaa]) (by simp [cfV,ren,zay,zak,zan,Gy.mv2])
  rw [zau fl] at h1 h2
  exact ⟨h1,h2⟩
theorem z89 (hT:LAny L) (hs:i64 sta) (hp:NS p n cap\/MS L p n cap) (ha:NS pa na capa\/SS L pa na capa):∃ lo hi e,
  Fun prog G0 36 #[cfV (.slice p n cap) g bx tp nr md,.agg #[.int .i64 sta,.slice pa na capa]] (hpL G0 L) (zaa L) (.ret (.tuple #[spV lo hi,.int .i64 e]) []) /\
  Fun prog G0 23 #[cfV (.slice p n cap) g bx tp nr md,.agg #[.int .i64 sta,.slice pa na capa]] (hpL G0 L) (zaa L) (.ret (.tuple #[spV lo hi,.int .i64 e]) []):=by
 by_cases hn:NS p n cap\/NS pa na capa
 ·exact ⟨0,0,2,zqu hT hp ha hn⟩
 ·rcases hp with h|⟨k,off,b,fm,rfl,hk,hm,hc⟩
  ·exact absurd (.inl h) hn
  ·rcases ha with h|⟨k2,off2,b2,fs,rfl,hk2,hm2,hc2⟩
   ·exact absurd (.inr h) hn
   ·have h1:=zev (cap2:=capa) (zgg n na fm fs g bx tp nr md sta) hT hk hk2 λL' ks hL=>zka L' ks b b2 hL off n cap off2 na capa fm fs hm hm2 hc hc2 g bx tp nr md sta hs
    have h2:=zev (cap2:=capa) (zgg n na fm fs g bx tp nr md sta) hT hk hk2 λL' ks hL=>zkq L' ks b b2 hL off n cap off2 na capa fm fs hm hm2 hc hc2 g bx tp nr md sta hs
    exact ⟨_,_,_,h1,h2⟩
theorem zyx (hT:LAny L) (hsa:i64 sta) (hsb:i64 stb) (hp:NS p n cap\/MS L p n cap) (ha:NS pa na capa\/SS L pa na capa) (hb:NS pb nb capb\/SS L pb nb capb):∃ w e,
  Fun prog G0 10 #[cfV (.slice p n cap) g bx tp nr md,.agg #[.int .i64 sta,.slice pa na capa],.agg #[.int .i64 stb,.slice pb nb capb]] (hpL G0 L) (zaa L) (.ret (.tuple #[zbh w,.int .i64 e]) []) /\
  Fun prog G0 11 #[cfV (.slice p n cap) g bx tp nr md,.agg #[.int .i64 sta,.slice pa na capa],.agg #[.int .i64 stb,.slice pb nb capb]] (hpL G0 L) (zaa L) (.ret (.tuple #[zbh w,.int .i64 e]) []):=by
 have s1:SlI L p:=hp.elim NS.sl MS.sl
 have s2:SlI L pa:=ha.elim NS.sl SS.sl
 have s3:SlI L pb:=hb.elim NS.sl SS.sl
 by_cases hn:NS p n cap\/NS pa na capa\/NS pb nb capb
 ·obtain ⟨lo,hi,e,e1,e2⟩:=z89 (g:=g) (bx:=bx) (tp:=tp) (nr:=nr) (md:=md) hT hsa hp ha
  by_cases he:e=0
  ·subst he
   by_cases hq:NS p n cap\/NS pb nb capb
   ·obtain ⟨f1,f2⟩:=zqu (g:=g) (bx:=bx) (tp:=tp) (nr:=nr) (md:=md) (sta:=stb) hT hp hb hq
    exact ⟨_,_,zlw hT s1 s2 s3 (by decide) e1 f1,zkm hT s1 s2 s3 (by decide) e2 f2⟩
   ·have hq2:NS p n cap\/NS pa na capa:=by
     rcases hn with h|h|h
     ·exact .inl h
     ·exact .inr h
     ·exact absurd (.inr h) hq
    obtain ⟨f1,f2⟩:=zqu (g:=g) (bx:=bx) (tp:=tp) (nr:=nr) (md:=md) (sta:=sta) hT hp ha hq2
    exact ⟨_,_,zgj hT s1 s2 s3 (by decide) f1,zhh hT s1 s2 s3 (by decide) f2⟩
  ·exact ⟨_,_,zgj hT s1 s2 s3 he e1,zhh hT s1 s2 s3 he e2⟩
 ·rcases hp with h|⟨k,off,b,fm,rfl,hk,hm,hc⟩
  ·exact absurd (.inl h) hn
  ·rcases ha with h|⟨k2,off2,b2,fs,rfl,hk2,hm2,hc2⟩
   ·exact absurd (.inr (.inl h)) hn
   ·rcases hb with h|⟨k3,off3,b3,ft,rfl,hk3,hm3,hc3⟩
    ·exact absurd (.inr (.inr h)) hn
    ·exact ⟨_,_,zyf hT hk hk2 hk3 hm hm2 hm3 hc hc2 hc3 hsa hsb,z35 hT hk hk2 hk3 hm hm2 hm3 hc hc2 hc3 hsa hsb⟩
end
theorem zrn (b:Blk) (off n cap:Nat) (f:Nat->Int) (h:MB b off n f) (g bx tp nr md:Int) :
  Fun prog G0 52 #[cfV (.slice (some ⟨100,off,none⟩) n cap) g bx tp nr md] (hpL G0 [(100,b)]) (zaa [(100,b)]) (.ret (.int .i64 (prC (zdr n f g bx tp nr md) n)) []):=by
 refine zar (B:=200) G0F func52 rfl call52 (zao h.fx) ?_ (by simp) (by simp) (by simp) (by simp [ntmps52]) (by omega) ?_
 ·simp [zap,zax,zah,zaj,zaa,cfV]
 intro C hC hC0 hY
 have hr:=λρ=>Blk.fx_rn h.fx ρ
 have hck:=zj7 b off n cap f h g bx tp nr md
 unfold prC
 cases hc:zdr n f g bx tp nr md with
 | true =>
  rw [hc] at hck
  have hn:=zj5 hc
  have:n=1\/n=2\/n=3\/n=4:=by omega
  clear hc
  unfold cfV at hck |-
  rcases this with rfl|rfl|rfl|rfl
  all_goals
   repeat' first|refine gwZ ?_|((first|refine gwR [53] ?_|refine gwD [53] ?_);intro Q hQ _;(repeat first|simp [hC,hY]|refine zae hck G0F (B:=200) (zao h.fx) (λk=>k) (λk hk=>rfl) (by simp [ren,zay,zak,zan,cfV]) (by simp) (by simp [hr]) (by simp [zaa]) (by simp [zaa];rfl) ?_);refine gwq hQ ?_)|fail
   refine ⟨.inr rfl,by simp [results52],kpS G0F⟩
 | false =>
  rw [hc] at hck
  unfold cfV at hck |-
  repeat' first|refine gwZ ?_|((first|refine gwR [53] ?_|refine gwD [53] ?_);intro Q hQ _;(repeat first|simp [hC,hY]|refine zae hck G0F (B:=200) (zao h.fx) (λk=>k) (λk hk=>rfl) (by simp [ren,zay,zak,zan,cfV]) (by simp) (by simp [hr]) (by simp [zaa]) (by simp [zaa];rfl) ?_);refine gwq hQ ?_)|fail
  refine ⟨.inr rfl,by simp [results52],kpS G0F⟩
theorem zvr (b:Blk) (off n cap:Nat) (f:Nat->Int) (h:MB b off n f) (g bx tp nr md:Int) :
  Fun prog G0 21 #[cfV (.slice (some ⟨100,off,none⟩) n cap) g bx tp nr md] (hpL G0 [(100,b)]) (zaa [(100,b)]) (.ret (.int .i64 (2*prC (zdr n f g bx tp nr md) n)) []):=by
 refine zar (B:=200) G0F func21 rfl call21 (zao h.fx) ?_ (by simp) (by simp) (by simp) (by simp [ntmps21]) (by omega) ?_
 ·simp [zap,zax,zah,zaj,zaa,cfV]
 intro C hC hC0 hY
 have hr:=λρ=>Blk.fx_rn h.fx ρ
 have hpr:=zrn b off n cap f h g bx tp nr md
 have hb:=z7n (zdr n f g bx tp nr md) (n:=n) λh=>(zj5 h).2
 generalize prC (zdr n f g bx tp nr md) n=z at *
 have hs:Int.bmod (2*z) 18446744073709551616=2*z:=bm (by omega) (by omega)
 unfold cfV at hpr |-
 repeat' first|refine gwZ ?_|((first|refine gwR [52] ?_|refine gwD [52] ?_);intro Q hQ _;(repeat first|simp [hC,hY,hs]|refine zae hpr G0F (B:=200) (zao h.fx) (λk=>k) (λk hk=>rfl) (by simp [ren,zay,zak,zan,cfV]) (by simp) (by simp [hr]) (by simp [zaa]) (by simp [zaa];rfl) ?_);refine gwq hQ ?_)|fail
 refine ⟨.inr rfl,by simp [results21],kpS G0F⟩
theorem jev (g bx tp nr md:Int):Blk.fx (⟨#[.slice none 0 0,.int .i64 g,.int .i64 bx,.int .i64 tp,.int .i64 nr,.int .i64 md],.ty 24⟩:Blk):=λx hx=>by
 simp at hx
 rcases hx with rfl|rfl|rfl|rfl|rfl|rfl<;>rfl
theorem ja9 (g bx tp nr md:Int):Fun prog G0 51 #[cfV (.slice none 0 0) g bx tp nr md] (hpL G0 []) (zaa []) (.ret (.int .i64 0) []):=by
 unfold cfV
 refine zar (B:=200) G0F func51 rfl call51 zcd ?_ (by simp) (by simp) (by simp) (by simp [ntmps51]) (by omega) ?_
 ·simp [zap,zax,zah,zaj,zaa]
 intro C hC hC0 hY
 have hfx:=jev g bx tp nr md
 have hck:=zig _ hfx g bx tp nr md
 have hbr:=λρ=>Blk.fx_rn hfx ρ
 unfold cfV at hck
 repeat' first|refine gwZ ?_|((first|refine gwR [83] ?_|refine gwD [83] ?_);intro Q hQ _;(repeat first|simp [hC,hY]|refine zae hck G0F (B:=200) (zao hfx) (λk=>if k=100 then 200 else k) (λk hk=>if_neg (by omega)) (by simp [ren,zay,zak,zan,cfV]) (by simp) (by simp [hbr]) (by simp [zaa]) (by simp [zaa];try rfl) ?_);refine gwq hQ ?_)|fail
 refine ⟨.inr rfl,by simp [results51],kpS G0F⟩
theorem jg0 (g bx tp nr md:Int):Fun prog G0 20 #[cfV (.slice none 0 0) g bx tp nr md] (hpL G0 []) (zaa []) (.ret (.int .i64 0) []):=by
 have hpr:=ja9 g bx tp nr md
 unfold cfV at hpr |-
 refine zar (B:=200) G0F func20 rfl call20 zcd ?_ (by simp) (by simp) (by simp) (by simp [ntmps20]) (by omega) ?_
 ·simp [zap,zax,zah,zaj,zaa]
 intro C hC hC0 hY
 repeat' first|refine gwZ ?_|((first|refine gwR [51] ?_|refine gwD [51] ?_);intro Q hQ _;(repeat first|simp [hC,hY]|refine zae hpr G0F (B:=200) zcd (λk=>k) (λk hk=>rfl) (by simp [ren,zay,zak,zan,cfV]) (by simp) (by simp) (by simp [zaa]) (by simp [zaa];try rfl) ?_);refine gwq hQ ?_)|fail
 refine ⟨.inr rfl,by simp [results20],kpS G0F⟩
theorem z4a (g bx tp nr md:Int):Fun prog G0 21 #[cfV (.slice none 0 0) g bx tp nr md] (hpL G0 []) (zaa []) (.ret (.int .i64 0) []):=by
 unfold cfV
 have hpr:Fun prog G0 52 #[cfV (.slice none 0 0) g bx tp nr md] (hpL G0 []) (zaa []) (.ret (.int .i64 0) []):=by
  unfold cfV
  refine zar (B:=200) G0F func52 rfl call52 zcd ?_ (by simp) (by simp) (by simp) (by simp [ntmps52]) (by omega) ?_
  ·simp [zap,zax,zah,zaj,zaa]
  intro C hC hC0 hY
  repeat' first|refine gwZ ?_|refine gwW ?_|fail
  refine ⟨.inr rfl,by simp [results52],kpS G0F⟩
 unfold cfV at hpr
 refine zar (B:=200) G0F func21 rfl call21 zcd ?_ (by simp) (by simp) (by simp) (by simp [ntmps21]) (by omega) ?_
 ·simp [zap,zax,zah,zaj,zaa]
 intro C hC hC0 hY
 repeat' first|refine gwZ ?_|((first|refine gwR [52] ?_|refine gwD [52] ?_);intro Q hQ _;(repeat first|simp [hC,hY]|refine zae hpr G0F (B:=200) zcd (λk=>k) (λk hk=>rfl) (by simp [ren,zay,zak,zan,cfV]) (by simp) (by simp) (by simp [zaa]) (by simp [zaa];try rfl) ?_);refine gwq hQ ?_)|fail
 refine ⟨.inr rfl,by simp [results21],kpS G0F⟩
theorem zy4 {L:List (Nat×Blk)} (hT:LAny L) {p:Option Addr} {n cap:Nat} {g bx tp nr md:Int} (hp:NS p n cap\/MS L p n cap):∃ m,
  Fun prog G0 20 #[cfV (.slice p n cap) g bx tp nr md] (hpL G0 L) (zaa L) (.ret (.int .i64 m) [])/\Fun prog G0 21 #[cfV (.slice p n cap) g bx tp nr md] (hpL G0 L) (zaa L) (.ret (.int .i64 m) []):=by
 rcases hp with ⟨rfl,rfl,rfl⟩|⟨k,off,b,fm,rfl,hk,hm,hc⟩
 ·exact ⟨0,(jg0 g bx tp nr md).mvG (args':=#[cfV (.slice none 0 0) g bx tp nr md]) hT.mv0 (by simp [zaa]) (by simp [cfV,ren,zay,zak,zan]),(z4a g bx tp nr md).mvG (args':=#[cfV (.slice none 0 0) g bx tp nr md]) hT.mv0 (by simp [zaa]) (by simp [cfV,ren,zay,zak,zan])⟩
 ·exact ⟨_,(ztb b off n cap fm hm g bx tp nr md).mvG (args':=#[cfV (.slice (some ⟨k,off,none⟩) n cap) g bx tp nr md]) (hT.mv1 (kb:=k) hk) (by simp [zaa]) (by simp [cfV,ren,zay,zak,zan,Gy.mv2]),(zvr b off n cap fm hm g bx tp nr md).mvG (args':=#[cfV (.slice (some ⟨k,off,none⟩) n cap) g bx tp nr md]) (hT.mv1 (kb:=k) hk) (by simp [zaa]) (by simp [cfV,ren,zay,zak,zan,Gy.mv2])⟩
def gtL (L:List (Nat×Blk)) (sta stb:Int) (pa pb:Option Addr) (na capa nb capb:Nat):List (Nat×Blk):=(272,z0u sta stb pa pb na capa nb capb)::L
section
variable {L:List (Nat×Blk)} {p pa pb:Option Addr} {n cap na capa nb capb:Nat} {g bx tp nr md sta stb:Int}
theorem zx8 (hT:LAny L) (h2:SlI L pa) (h3:SlI L pb):LOk (gtL L sta stb pa pb na capa nb capb) 300:=by
 have hL:=hT.ok
 have h9:∀ q,200<=q->q∉zaa L:=λq hq h=>by
  obtain ⟨p,hp,e⟩:=zag.1 h
  have:=hL.big p hp
  omega
 refine ⟨?_,?_,?_⟩
 ·intro p hp
  simp only [gtL,List.mem_cons] at hp
  rcases hp with rfl|hp
  ·simp
  ·have:=hL.big p hp;omega
 ·show (272::zaa L).Nodup
  simp only [List.nodup_cons]
  exact ⟨h9 272 (by omega),hL.one⟩
 ·intro q hq
  have up:∀ {v:Value},zah (λk=>k∈zaa L) v->zah (λk=>k∈zaa (gtL L sta stb pa pb na capa nb capb)) v:=λ{v} h=>zdz (λk hk=>List.mem_cons_of_mem _ hk) h
  have u2:=up (h2 na capa)
  have u3:=up (h3 nb capb)
  simp only [gtL,List.mem_cons] at hq
  rcases hq with rfl|hq
  ·simp only [z0u]
   refine Blk.ids_of λx hx=>?_
   simp at hx
   rcases hx with rfl|rfl|rfl|rfl
   ·simp [zah,zaj]
   ·exact u2
   ·simp [zah,zaj]
   ·exact u3
  ·exact Blk.fx_ids (hT.fx q hq) _
def gvS (L:List (Nat×Blk)) (p pa pb:Option Addr) (n cap na capa nb capb:Nat) (g bx tp nr md sta stb:Int) (i:Nat):GS :=
 ⟨tsL [(1,.slice (some ⟨272,0,none⟩) 2 2),(2,.pointer (some ⟨300,0,none⟩)),(4,.bool false),(5,.int .i64 i)],hpL G0 ([(300,cfB (.slice p n cap) g bx tp nr md)]++gtL L sta stb pa pb na capa nb capb),400,0⟩
theorem z3f {C:Ctx} (hT:LAny L) (h1:SlI L p) (h2:SlI L pa) (h3:SlI L pb) {s:GS} (hC:C.G=G0) (h0:C.hp0=hpL G0 (gtL L sta stb pa pb na capa nb capb)) {i:Nat}
  (t1:s.ts 1=.slice (some ⟨272,0,none⟩) 2 2) (t2:s.ts 2=.pointer (some ⟨300,0,none⟩)) (t4:s.ts 4=.bool false) (t5:s.ts 5=.int .i64 i) (a:s.hp 300=some (cfB (.slice p n cap) g bx tp nr md)) (b:∀ q∈gtL L sta stb pa pb na capa nb capb,s.hp q.1=some q.2) (hy:s.yc=0):Weak C s (gvS L p pa pb n cap na capa nb capb g bx tp nr md sta stb i):=by
 have hLs:=zx8 (sta:=sta) (stb:=stb) (na:=na) (capa:=capa) (nb:=nb) (capb:=capb) hT h2 h3
 have d6:dom (hpL G0 ([(300,cfB (.slice p n cap) g bx tp nr md)]++gtL L sta stb pa pb na capa nb capb)) 272:=zii (by simp [gtL,zaa])
 unfold gvS
 have key:∀ y,s.yc=y->Weak C s ⟨tsL [(1,.slice (some ⟨272,0,none⟩) 2 2),(2,.pointer (some ⟨300,0,none⟩)),(4,.bool false),(5,.int .i64 i)],hpL G0 ([(300,cfB (.slice p n cap) g bx tp nr md)]++gtL L sta stb pa pb na capa nb capb),400,y⟩:=λy hy=>by
  subst hy
  refine za3 _ 400 hC G0F (m0:=gtL L sta stb pa pb na capa nb capb) h0 (by omega) ?_ ?_ ?_
  ·simp only [List.mem_cons,List.not_mem_nil,or_false,forall_eq_or_imp,forall_eq]
   exact ⟨⟨t1,by simpa [zap,zax,zah,zaj] using d6⟩,⟨t2,by simp [zap,zax,zah,zaj,dom]⟩,⟨t4,by simp [zap,zax,zah,zaj]⟩,t5,by simp [zap,zax,zah,zaj]⟩
  ·intro q hq
   rcases List.mem_append.1 hq with h|h
   ·simp only [List.mem_singleton] at h
    subst h
    refine ⟨a,?_,by simp,by simp⟩
    simp only [cfB]
    refine Blk.ids_of λx hx=>?_
    simp at hx
    rcases hx with rfl|rfl|rfl|rfl|rfl|rfl
    ·exact zdz (λk hk=>zii (List.mem_cons_of_mem _ hk)) (h1 n cap)
    all_goals simp [zah,zaj]
   ·have hb:=hLs.big q h
    exact ⟨b q h,Blk.ids_mono (λk hk=>zii hk) (hLs.ids q h),hb.1,by omega⟩
  ·intro q hq
   have hb:=hLs.big q hq
   refine ⟨hb.1,?_⟩
   rw [b q hq]
   show upd (hpL G0 (gtL L sta stb pa pb na capa nb capb)) 300 _ q.1=_
   unfold upd
   rw [if_neg (by omega)]
   exact LOk.at hLs.one q hq
 exact key 0 hy
theorem zo2 (hT:LAny L) (h1:SlI L p) (h2:SlI L pa) (h3:SlI L pb) :
  Fun prog G0 8 #[cfV (.slice p n cap) g bx tp nr md,.slice (some ⟨272,0,none⟩) 2 2] (hpL G0 (gtL L sta stb pa pb na capa nb capb)) (zaa (gtL L sta stb pa pb na capa nb capb)) (.ret (.bool (decide (9<na)||decide (9<nb)||decide (9<n))) []):=by
 have hLs:=zx8 (sta:=sta) (stb:=stb) (na:=na) (capa:=capa) (nb:=nb) (capb:=capb) hT h2 h3
 refine zar (B:=300) G0F func8 rfl call8 hLs ?_ (by simp) (by simp) (by simp) (by simp [ntmps8]) (by omega) ?_
 ·have u1:zah (λk=>k∈zaa (gtL L sta stb pa pb na capa nb capb)) (.slice p n cap):=zdz (λk hk=>List.mem_cons_of_mem _ hk) (h1 n cap)
  intro x hx
  simp at hx
  rcases hx with rfl|rfl
  ·simp only [cfV,zap,zax]
   intro x hx
   simp at hx
   rcases hx with rfl|rfl|rfl|rfl|rfl|rfl
   ·exact u1
   all_goals simp [zah,zaj]
  ·simp [zap,zax,zah,zaj,gtL,zaa]
 intro C hC hC0 hY
 have hLow:=hLs.low (G:=G0)
 have hx2:∀ {hp:Hp},(∀ q,q≠300->hp q=hpL G0 (gtL L sta stb pa pb na capa nb capb) q)->∀ q∈gtL L sta stb pa pb na capa nb capb,hp q.1=some q.2:=λh q hq=>by
  have:=hLs.big q hq
  rw [h _ (by omega)];exact LOk.at hLs.one q hq
 have fin:∀ {hp:Hp},(∀ q,q≠300->hp q=hpL G0 (gtL L sta stb pa pb na capa nb capb) q)->∀ k,dom (hpL G0 (gtL L sta stb pa pb na capa nb capb)) k->hp k=hpL G0 (gtL L sta stb pa pb na capa nb capb) k:=λh=>zb4 G0F (λq hq=>h _ (by have:=hLs.big q hq;omega)) (λk hk=>h _ (by omega))
 have gs:∀ q,q≠300->hpL G0 ([(300,cfB (.slice p n cap) g bx tp nr md)]++gtL L sta stb pa pb na capa nb capb) q=hpL G0 (gtL L sta stb pa pb na capa nb capb) q:=λq h=>by
  show upd (hpL G0 (gtL L sta stb pa pb na capa nb capb)) 300 _ q=_
  unfold upd
  rw [if_neg h]
 have w:=λ{s:GS} {i:Nat}=>z3f (s:=s) (i:=i) (p:=p) (n:=n) (cap:=cap) (g:=g) (bx:=bx) (tp:=tp) (nr:=nr) (md:=md) (sta:=sta) (stb:=stb) (na:=na) (capa:=capa) (nb:=nb) (capb:=capb) hT h1 h2 h3 hC hC0
 unfold cfV
 by_cases c1:9<na
 ·have c1':(9:Int)<(na:Int):=by omega
  rw [decide_eq_true c1,Bool.true_or,Bool.true_or]
  repeat' first|refine gwZ ?_|refine gwW ?_|fail
  refine zbt 0 (λi=>gvS L p pa pb n cap na capa nb capb g bx tp nr md sta stb i) ?_ (λi hi=>by omega) ?_
  ·exact w rfl rfl rfl rfl rfl (hx2 λq hq=>if_neg hq) rfl
  ·unfold gvS gtL z0u
   repeat' first|refine gwZ ?_|(refine gwX ?_;intro Q hQ _;simp [hC,hY,c1'];refine gwq hQ ?_)|fail
   refine ⟨.inr rfl,by simp [results8],fin gs⟩
 ·have c1':¬(9:Int)<(na:Int):=by omega
  rw [decide_eq_false c1,Bool.false_or]
  by_cases c2:9<nb
  ·have c2':(9:Int)<(nb:Int):=by omega
   rw [decide_eq_true c2,Bool.true_or]
   repeat' first|refine gwZ ?_|refine gwW ?_|fail
   refine zbt 1 (λi=>gvS L p pa pb n cap na capa nb capb g bx tp nr md sta stb i) ?_ (λi hi=>?_) ?_
   ·exact w rfl rfl rfl rfl rfl (hx2 λq hq=>if_neg hq) rfl
   ·obtain rfl:i=0:=by omega
    unfold gvS gtL z0u
    repeat' first|refine gwZ ?_|(refine gwX ?_;intro Q hQ _;simp [hC,hY,c1'];refine gwq hQ ?_)|fail
    exact w rfl rfl rfl rfl rfl (hx2 gs) rfl
   ·unfold gvS gtL z0u
    repeat' first|refine gwZ ?_|(refine gwX ?_;intro Q hQ _;simp [hC,hY,c2'];refine gwq hQ ?_)|fail
    refine ⟨.inr rfl,by simp [results8],fin gs⟩
  ·have c2':¬(9:Int)<(nb:Int):=by omega
   rw [decide_eq_false c2,Bool.false_or]
   repeat' first|refine gwZ ?_|refine gwW ?_|fail
   refine zbt 2 (λi=>gvS L p pa pb n cap na capa nb capb g bx tp nr md sta stb i) ?_ (λi hi=>?_) ?_
   ·exact w rfl rfl rfl rfl rfl (hx2 λq hq=>if_neg hq) rfl
   ·have:i=0\/i=1:=by omega
    unfold gvS gtL z0u
    rcases this with rfl|rfl
    ·
     repeat' first|refine gwZ ?_|(refine gwX ?_;intro Q hQ _;simp [hC,hY,c1'];refine gwq hQ ?_)|fail
     exact w rfl rfl rfl rfl rfl (hx2 gs) rfl
    ·
     repeat' first|refine gwZ ?_|(refine gwX ?_;intro Q hQ _;simp [hC,hY,c2'];refine gwq hQ ?_)|fail
     exact w rfl rfl rfl rfl rfl (hx2 gs) rfl
   ·unfold gvS gtL z0u cfB
    by_cases c3:9<n
    ·have c3':(9:Int)<(n:Int):=by omega
     rw [decide_eq_true c3]
     repeat' first|refine gwZ ?_|(refine gwX ?_;intro Q hQ _;simp [hC,hY,c3'];refine gwq hQ ?_)|fail
     refine ⟨.inr rfl,by simp [results8],fin gs⟩
    ·have c3':¬(9:Int)<(n:Int):=by omega
     rw [decide_eq_false c3]
     repeat' first|refine gwZ ?_|(refine gwX ?_;intro Q hQ _;simp [hC,hY,c3'];refine gwq hQ ?_)|fail
     refine ⟨.inr rfl,by simp [results8],fin gs⟩
end
theorem LAny.gt {L:List (Nat×Blk)} (hT:LAny L) {sta stb:Int} {pa pb:Option Addr} {na capa nb capb:Nat} {hp:Hp} (a:hp 272=some (z0u sta stb pa pb na capa nb capb)) (d:∀ q∈L,hp q.1=some q.2):∀ q∈gtL L sta stb pa pb na capa nb capb,hp q.1=some q.2:=λq hq=>by
 simp only [gtL,List.mem_cons] at hq
 rcases hq with rfl|hq
 ·exact a
 ·exact d q hq
theorem jlt {L:List (Nat×Blk)} {p pa pb pl:Option Addr} {n cap na capa nb capb nl cl:Nat} {g bx tp nr md sta stb N:Int} {v lw:Nat->Int} (h1:SlI L p) (h2:SlI L pa) (h3:SlI L pb) (h4:SlI L pl):∀ x∈#[cfV (.slice p n cap) g bx tp nr md,.agg #[.int .i64 sta,.slice pa na capa],.agg #[.int .i64 stb,.slice pb nb capb],zbg N v,.slice pl nl cl,zbh lw],zap (λk=>k∈zaa L) x:=by
 have h:=zj2 (n:=n) (cap:=cap) (n2:=na) (cap2:=capa) (n3:=nb) (cap3:=capb) (g:=g) (bx:=bx) (tp:=tp) (nr:=nr) (md:=md) (st:=sta) (st3:=stb) h1 h2 h3
 intro x hx
 simp only [List.mem_toArray,List.mem_cons,List.not_mem_nil,or_false] at hx
 rcases hx with rfl|rfl|rfl|rfl|rfl|rfl
 ·exact h _ (by simp)
 ·exact h _ (by simp)
 ·exact h _ (by simp)
 ·exact zai (zlx N v)
 ·exact h4 nl cl
 ·exact zai (by simp [zbh])
section
variable {L:List (Nat×Blk)} {p pa pb pl:Option Addr} {n cap na capa nb capb nl cl:Nat} {g bx tp nr md sta stb N:Int} {v lw:Nat->Int} {wl:Nat->Nat->Int}
theorem zml (hT:LAny L) (hsa:i64 sta) (hsb:i64 stb) (hp:NS p n cap\/MS L p n cap) (ha:NS pa na capa\/SS L pa na capa) (hb:NS pb nb capb\/SS L pb nb capb) (hh:HOk N v) (hw:LW L pl nl cl wl) (hx:LsOk lw) :
  Fun prog G0 3 #[cfV (.slice p n cap) g bx tp nr md,.agg #[.int .i64 sta,.slice pa na capa],.agg #[.int .i64 stb,.slice pb nb capb],zbg N v,.slice pl nl cl,zbh lw] (hpL G0 L) (zaa L) (.ret (.bool true) []):=by
 have s1:SlI L p:=hp.elim NS.sl MS.sl
 have s2:SlI L pa:=ha.elim NS.sl SS.sl
 have s3:SlI L pb:=hb.elim NS.sl SS.sl
 refine zar (B:=200) G0F func3 rfl call3 hT.ok (jlt s1 s2 s3 hw.sl) (zai (by simp)) (by simp) (by simp) (by simp [ntmps3]) (by omega) ?_
 intro C hC hC0 hY
 have hLow:=hT.low
 have wk:=z02
 have hG:=zo2 (n:=n) (cap:=cap) (g:=g) (bx:=bx) (tp:=tp) (nr:=nr) (md:=md) (sta:=sta) (stb:=stb) (na:=na) (capa:=capa) (nb:=nb) (capb:=capb) hT s1 s2 s3
 have hGs:=zx8 (sta:=sta) (stb:=stb) (na:=na) (capa:=capa) (nb:=nb) (capb:=capb) hT s2 s3
 obtain ⟨w,e,l1,l2⟩:=zyx (g:=g) (bx:=bx) (tp:=tp) (nr:=nr) (md:=md) hT hsa hsb hp ha hb
 obtain ⟨nw,kw,r1,r2⟩:=zqz N v
 obtain ⟨m,m1,m2⟩:=zy4 (g:=g) (bx:=bx) (tp:=tp) (nr:=nr) (md:=md) hT hp
 have w1:=λ(K:Value->Prop)=>zac (K:=K) G0W (by kernel_rfl) r1
 have w2:=λ(K:Value->Prop)=>zac (K:=K) G0W (by kernel_rfl) r2
 have q1:=λK=>zfh hh K
 have q2:=λK=>zgi hh K
 have k1:=jb4 hT hw (h:=⟨N,v⟩) hh
 have k2:=z0q hT hw (h:=⟨N,v⟩) hh
 have d1:=λ(K:Value->Prop)=>zac (K:=K) G0W (by kernel_rfl) (zij N v lw hh hx)
 have d2:=λK=>zu9 hh hx K
 generalize zhm ⟨N,v⟩=R at *
 generalize zwt ⟨N,v⟩ wl nl=T at *
 generalize zjd ⟨N,v⟩ lw=Hd at *
 unfold zc8 at k1 k2
 unfold cfV at hG l1 l2 m1 m2 |-
 unfold zbh at l1 l2 d1 d2 |-
 unfold zbg zbd at w1 w2 q1 q2 k1 k2 d1 d2 |-
 simp only at k1 k2
 cases hgr:(decide (9<na)||decide (9<nb)||decide (9<n)) with
 | true =>
  rw [hgr] at hG
  repeat' first|refine gwZ ?_|((first|refine gwR [8] ?_|refine gwD [8] ?_);intro Q hQ _;(repeat first|simp [hC,hY,wk]|refine zhv hG hGs (hT.gt (by simp [z0u]) zdd) ?_);refine gwq hQ ?_)|fail
  refine ⟨.inr rfl,by simp [results3],kpT G0F⟩
 | false =>
  rw [hgr] at hG
  by_cases c:30<nl
  ·have c':(30:Int)<nl:=by omega
   repeat' first|refine gwZ ?_|((first|refine gwR [8] ?_|refine gwD [8] ?_);intro Q hQ _;(repeat first|simp [hC,hY,wk,c']|refine zhv hG hGs (hT.gt (by simp [z0u]) zdd) ?_);refine gwq hQ ?_)|fail
   refine ⟨.inr rfl,by simp [results3],kpT G0F⟩
  ·have c':¬(30:Int)<nl:=by omega
   repeat' first|refine gwZ ?_|((first|refine gwR [8,10,11] ?_|refine gwD [8,10,11] ?_);intro Q hQ _;(repeat first|simp [hC,hY,wk,c',w1,w2]|refine zhv hG hGs (hT.gt (by simp [z0u]) zdd) ?_|refine za7 l1 hT.ok zdd ?_|refine za7 l2 hT.ok zdd ?_);refine gwq hQ ?_)|fail
   repeat' first|refine gwZ ?_|((first|refine gwR [16,17,20,21] ?_|refine gwD [16,17,20,21] ?_);intro Q hQ _;(repeat first|simp [hC,hY,wk,q1,q2,d1,d2]|refine za7 k1 hT.ok zdd ?_|refine za7 k2 hT.ok zdd ?_|refine za7 m1 hT.ok zdd ?_|refine za7 m2 hT.ok zdd ?_);refine hQ _ _ _ _ ?_ ?_;(focus (first|(rfl;done)|(refine zsm ?_;repeat (first|(exact λq hq=>roN hq;done)|refine ro1 ?_|refine ro2 ?_)))))|fail
   refine ⟨.inr rfl,by simp [results3],kpT G0F⟩
end
end Go.Gy
namespace Go.Gy
set_option maxRecDepth 100000
open Go Go.RowKit Go.Proofs Go.ChangeShapes Go.WideShapes Go.ChangeAt

section
variable {H:Type} {enc:TypeId×Value->H} {P:Program}
theorem zni {f:Func} {s:ChangeSpec} {apart fresh handsOn again:Bool} {W W':World} {args:Array Value} {v:Value} {ds gs:List (DataW H)} {before pa pv:List MemPlace}
  (hW:DataW.Whole enc P f.params.toList s.vars apart W args.toList ds gs before)
  (hres:∀ (b:Nat) (sp:Nat->Bool) (hd:Bool),DataW.TrodAll enc P W' b sp hd f.resultTypes.toList (v.resultList f.resultTypes.size) (s.fn H (ds++gs)).results [])
  (hargs:∀ sp:Nat->Bool,(∀ p∈before,sp p.block=true)->DataW.TrodAll enc P W' 0 sp true f.params.toList args.toList (s.fn H (ds++gs)).args pa)
  (hvars:∀ sp:Nat->Bool,(∀ p∈before,sp p.block=true)->DataW.TrodVars enc P W' sp s.vars (s.fn H (ds++gs)).vars pv)
  (hps:before=pa++pv) (hb:Below W.heap.size W W')
  (hok:∀ (j:Nat) (t:TypeId) (r:Value),f.resultTypes[j]? = some t->(v.resultList f.resultTypes.size)[j]? = some r->Value.okWide P W' .any 0 t r) :
  s.post enc P f apart fresh handsOn again W args v W':=by
 have hlt:∀ p∈before,p.block<W.heap.size:=λp hp=>hW.lt p hp
 have hold:∀ p∈before,(λb=>decide (b<W.heap.size)) p.block=true:=λp hp=>by simpa using hlt p hp
 refine ⟨ds,gs,before,[],pa,pv,hW,hres _ _ _,hargs _ hold,hvars _ hold,World.keptBut_mono (λp hp=>⟨hp,?_⟩) (hb.frame (·∈before)),λ_=>?_⟩
 ·rw [hps,List.mem_append] at hp
  exact Or.inr hp
 ·obtain ⟨_,_,_,_,_,hz,hn⟩:=hW
  refine ⟨hok,_,_,([]++pa)++pv,⟨[]++pa,pv,trodAll_append (hargs _ (λ_ _=>rfl)) (hres _ _ _),hvars _ (λ_ _=>rfl),rfl,?_,?_⟩,?_⟩
  ·intro b off hp
   have hin:MemPlace.cell b off∈before:=by rw [hps];simpa using hp
   rw [hb.frozen (hlt _ hin)]
   exact hz b off hin
  ·intro ha
   have:=hn ha
   rw [hps] at this
   simpa using this
  ·intro p hp _
   rw [hps]
   simpa using hp
end

theorem zok:Tryz.prog.cellsOf 28=1:=by kernel_rfl
theorem zif:Tryz.prog.cellsOf 30=4:=by kernel_rfl
def z5r {H:Type} (z:Int):DataW H:=.agg [.lit (.int .u64 (wi z 0)),.lit (.int .u64 (wi z 1)),.lit (.int .u64 (wi z 2)),.lit (.int .u64 (wi z 3))]
theorem z7e:IntKind.u64.min=0/\IntKind.u64.max=18446744073709551615:=by decide
theorem z7d:IntKind.i64.min=-9223372036854775808/\IntKind.i64.max=9223372036854775807:=by decide
theorem jix {z:Int} (h:(Lit.int .u64 z).wf=true):0<=z/\z<18446744073709551616:=by
 simp only [Lit.wf,Bool.and_eq_true,decide_eq_true_eq,z7e.1,z7e.2] at h;omega
theorem zg7 {z:Int} (h:(Lit.int .i64 z).wf=true):i64 z:=by
 simp only [Lit.wf,Bool.and_eq_true,decide_eq_true_eq,z7d.1,z7d.2] at h;unfold i64;omega
theorem z50 (w0 w1 w2 w3:Int) (h0:0<=w0/\w0<18446744073709551616) (h1:0<=w1/\w1<18446744073709551616) (h2:0<=w2/\w2<18446744073709551616) (h3:0<=w3/\w3<18446744073709551616) :
  ∃ z,wr z/\wi z 0=w0/\wi z 1=w1/\wi z 2=w2/\wi z 3=w3:=by
 refine ⟨w0+18446744073709551616*w1+340282366920938463463374607431768211456*w2+6277101735386680763835789423207666416102355444464034512896*(if w3<9223372036854775808 then w3 else w3 - 18446744073709551616),?_,?_,?_,?_,?_⟩
 ·unfold wr;split<;>omega
 all_goals (simp only [wi];split<;>omega)
section
variable {H:Type} {enc:TypeId×Value->H} {w:World}
end

theorem own:ownKnob Tryz.prog.godebug=none:=by kernel_rfl
theorem zke {P:Program} {W:World} {name:String} {g:Nat} {cs:Array Value} {z:Array Value} {T:TypeId} (hg:P.globalNamed name=some g) (hlt:g<P.globals.size) (hrow:((begin P (λ_ _=>0) default).world.heap[g]?).bind Obj.row? = some (z,T))
  (hS:W.ShapedOpen P) (hv:W.var? P name=some cs):W.heap[g]? = some (.cells cs T (0,0)):=by
 obtain ⟨c,h1,_⟩:=hS.1 g z T hlt hrow
 unfold World.var? at hv
 rw [hg] at hv
 simp only [Option.bind_some,h1,Option.some.injEq] at hv
 rw [h1,hv]
theorem z6w : Tryz.prog.globalNamed "gyre/quot.least" = some 1 := by kernel_rfl
theorem zu7:(Tryz.prog.globals[1]?).map (·.type)=some 30:=by kernel_rfl
theorem zx4:((begin Tryz.prog (λ_ _=>0) default).world.heap[1]?).bind Obj.row? = some (#[.int .u64 0,.int .u64 0,.int .u64 0,.int .u64 0],30):=by kernel_rfl
theorem z30 {W : World} {rest : List (String × DataW Unit)} (h : laidMet Tryz.prog (("gyre/quot.least", Proofs.YtamodcpmplmaoaaGreatDoor.Rows.laid_gyre_quot_least) :: rest) W) : W.var? Tryz.prog "gyre/quot.least" = some lsB.c :=
 Lib.tabIs_of_head (zs:=[0,0,0,9223372036854775808]) z6w zu7 Tryz.underlying30 Tryz.underlying28 zok zif h
theorem zmw {H:Type} {enc:TypeId×Value->H} {P:Program} {w:World} {base:Nat} {sp:Nat->Bool} {held:Bool} {fuel:Nat} {t e:TypeId} {n:Nat} {cs:List Value} {ss:List (List UInt8)} {p:List MemPlace}
  (ht:P.underlying t=some (.array n e)) (he:P.underlying e=some .string) (hce:P.cellsOf e=1) (hct:P.cellsOf t=n)
  (h:DataW.trod enc P w base sp held fuel t cs=some (.agg (ss.map λs=>.lit (.string s)),p)):cs=ss.map λs=>Value.string ⟨s.toArray⟩:=by
 cases fuel with
 | zero=>simp [DataW.trod] at h
 | succ fuel =>
  simp only [DataW.trod,ht,hce,hct,Nat.mul_one] at h
  split at h
  ·rename_i hl
   obtain ⟨xs,hm,hx⟩:=Option.map_eq_some_iff.1 h
   have hxs:xs.map (·.1)=ss.map λs=>(DataW.lit (.string s):DataW H):=by
    have:=congrArg Prod.fst hx
    simpa using this
   have hxl:xs.length=n:=by simpa using Lib.mapM_length hm
   have hzl:ss.length=n:=by
    have:=congrArg List.length hxs
    simp at this
    omega
   apply List.ext_getElem?
   intro i
   by_cases hi:i<n
   ·obtain ⟨b,hb,hf⟩:=Lib.mapM_at hm i i (by simp [hi])
    obtain ⟨s,hc,rfl,_⟩:=DataW.trod_string he hf
    have h1:cs[i]? = some (.string s):=by
     have:=congrArg (·[0]?) hc
     simpa [List.getElem?_take,List.getElem?_drop] using this
    have h2:(xs.map (·.1))[i]? = some (DataW.lit (.string s.data.toList):DataW H):=by simp [hb]
    rw [hxs] at h2
    simp only [List.getElem?_map,Option.map_eq_some_iff,DataW.lit.injEq,Lit.string.injEq] at h2
    obtain ⟨z',hz',rfl⟩:=h2
    simp [h1,hz']
   ·rw [List.getElem?_eq_none (by omega),List.getElem?_eq_none (by simp;omega)]
  ·cases h
theorem z6x : Tryz.prog.globalNamed "gyre/conf.names" = some 0 := by kernel_rfl
theorem zu8:(Tryz.prog.globals[0]?).map (·.type)=some 171:=by kernel_rfl
theorem zxn:Tryz.prog.cellsOf 9=1:=by kernel_rfl
theorem zqn:Tryz.prog.cellsOf 171=7:=by kernel_rfl
theorem zx5:((begin Tryz.prog (λ_ _=>0) default).world.heap[0]?).bind Obj.row? = some (#[.string ⟨#[]⟩,.string ⟨#[]⟩,.string ⟨#[]⟩,.string ⟨#[]⟩,.string ⟨#[]⟩,.string ⟨#[]⟩,.string ⟨#[]⟩],171):=by kernel_rfl
theorem z4g {W : World} {rest : List (String × DataW Unit)} (h : laidMet Tryz.prog (("gyre/conf.names", Proofs.YtamodcpmplmaoaaGreatDoor.Rows.laid_gyre_conf_names) :: rest) W) : W.var? Tryz.prog "gyre/conf.names" = some cnB.c := by
 obtain ⟨ps,⟨g',t',cs,fuel,p,q,hg',ht',hvar,hd,_,_⟩,_⟩:=h
 obtain rfl:=Option.some.inj (z6x.symm.trans hg')
 obtain rfl:=Option.some.inj (zu8.symm.trans ht')
 have h9:=zmw (ss:=[[98,111,100,105,101,115],[109,97,115,115],[99,111,110,115,116,97,110,116],[98,111,120],[116,111,112],[110,101,97,114],[109,101,116,104,111,100]]) Tryz.underlying171 Tryz.underlying9 zxn zqn hd
 rw [hvar]
 congr 1
 exact Array.ext' h9
theorem z3e {W : World} (hS : W.ShapedOpen Tryz.prog) (h : laidMet Tryz.prog [("gyre/conf.names", Proofs.YtamodcpmplmaoaaGreatDoor.Rows.laid_gyre_conf_names), ("gyre/quot.least", Proofs.YtamodcpmplmaoaaGreatDoor.Rows.laid_gyre_quot_least)] W) : GOK G0 W := λk b hk => by
 have h9:=zn3 hk
 simp [G0L] at h9
 rcases h9 with ⟨rfl,rfl⟩|⟨rfl,rfl⟩
 ·exact zke z6w (of_decide_eq_true (by kernel_rfl)) zx4 hS (z30 (laidMet.tail h))
 ·exact zke z6x (of_decide_eq_true (by kernel_rfl)) zx5 hS (z4g h)
theorem ze5:Tryz.prog.cellsOf 3=1:=by kernel_rfl
theorem zol:Tryz.prog.cellsOf 70=3:=by kernel_rfl
theorem zli:Tryz.prog.cellsOf 72=6:=by kernel_rfl
theorem zi3:Tryz.prog.cellsOf 25=1:=by kernel_rfl
theorem zqo:Tryz.prog.cellsOf 27=2:=by kernel_rfl
theorem zon:Tryz.prog.cellTypes Tryz.prog.depth 27=some [3,25]:=by kernel_rfl
section
variable {H:Type} {enc:TypeId×Value->H} {w:World} {base:Nat} {spare:Nat->Bool} {held:Bool}
theorem zp2 {fuel:Nat} {cs:List Value} {x:DataW H×List MemPlace} (h:DataW.trod enc Tryz.prog w base spare held fuel 70 cs=some x):cs.length=3/\∀ j,j<3->∃ z,cs[j]? = some (.int .i64 z)/\i64 z:=by
 obtain ⟨xs,m,_,rfl,hl,hxs,hi⟩:=DataW.trod_array Tryz.underlying70 h
 rw [zol] at hl
 refine ⟨hl,λj hj=>?_⟩
 have h1:=hi j hj
 rw [ze5,Nat.mul_one,List.getElem?_eq_getElem (by omega)] at h1
 obtain ⟨z,e,_,hw⟩:=DataW.trod_int Tryz.underlying3 h1
 refine ⟨z,?_,zg7 hw⟩
 have:=congrArg (·[0]?) e
 simpa [List.getElem?_take,List.getElem?_drop] using this
theorem zul {fuel:Nat} {cs:List Value} {x:DataW H×List MemPlace} (h:DataW.trod enc Tryz.prog w base spare held fuel 72 cs=some x):cs.length=6/\∀ j,j<6->∃ z,cs[j]? = some (.int .i64 z)/\i64 z:=by
 obtain ⟨y0,y1,n,rfl,hl,h0,h1⟩:=trod_struct2 Tryz.underlying72 h
 rw [zli] at hl
 simp only [zol] at h0 h1
 refine ⟨hl,λj hj=>?_⟩
 by_cases c:j<3
 ·obtain ⟨z,e,hz⟩:=(zp2 h0).2 j c
  refine ⟨z,?_,hz⟩
  simpa [List.getElem?_take,List.getElem?_drop,c] using e
 ·obtain ⟨z,e,hz⟩:=(zp2 h1).2 (j - 3) (by omega)
  refine ⟨z,?_,hz⟩
  rw [List.getElem?_take,if_pos (by omega),List.getElem?_drop,show 3+(j - 3)=j by omega] at e
  exact e
theorem zrj {fuel:Nat} {cs:List Value} {x:DataW H×List MemPlace} (h:DataW.trod enc Tryz.prog w 0 (λ_=>true) held fuel 25 cs=some x) :
  cs=[.slice none 0 0]\/∃ (a:Addr) (len cap:Nat) (f:Nat->Int),cs=[.slice (some a) len cap]/\len<=cap/\∀ j,j<6*cap->w.cell? (a.add j)=some (.int .i64 (f j))/\i64 (f j):=by
 rcases Deep.open_slice Tryz.underlying25 h with ⟨h0,_⟩|⟨a,len,cap,m,n,D,Pl,rfl,_,hlc,hcm,hm,_,hel⟩
 ·exact .inl h0
 right
 rw [if_pos rfl] at hm
 subst hm
 refine ⟨a,len,m,λj=>match w.cell? (a.add j) with|some (.int _ z)=>z|_=>0,rfl,hlc,λj hj=>?_⟩
 obtain ⟨cs',h1,h2⟩:=hel (j / 6) (by omega)
 rw [zli] at h1
 obtain ⟨z,e,hz⟩:=(zul h2).2 (j%6) (by omega)
 unfold World.cells? at h1
 rw [if_pos (Nat.zero_le _)] at h1
 have h3:=mapM_some_get h1 (j%6) (j%6) (List.getElem?_range (by omega))
 rw [e,Deep.add_add,show j / 6*6+j%6=j by omega] at h3
 dsimp only
 rw [h3]
 exact ⟨rfl,hz⟩
theorem zv6 {fits:TypeId->Bool} (h:fits 28=false) (d c o n:Nat):rowAt Tryz.prog fits d 28 c o n=false:=by
 cases d with
 | zero=>rfl
 | succ d=>simp [rowAt,h,Tryz.underlying28]
theorem zix {fits:TypeId->Bool} (h:fits 28=false) (h2:fits 30=false) (d c o n:Nat):rowAt Tryz.prog fits d 30 c o n=false:=by
 cases d with
 | zero=>rfl
 | succ d=>simp [rowAt,h2,Tryz.underlying30,zv6 h]
theorem zyq (d c o n:Nat):liesAt Tryz.prog d 30 c o 72 n=false:=by
 cases d with
 | zero=>rfl
 | succ d =>
  unfold liesAt
  rw [zix (by kernel_rfl) (by kernel_rfl),Tryz.underlying72]
  rfl
theorem zz8 {fits:TypeId->Bool} (h:fits 9=false) (d c o n:Nat):rowAt Tryz.prog fits d 9 c o n=false:=by
 cases d with
 | zero=>rfl
 | succ d=>simp [rowAt,h,Tryz.underlying9]
theorem zhj {fits:TypeId->Bool} (h:fits 9=false) (h2:fits 171=false) (d c o n:Nat):rowAt Tryz.prog fits d 171 c o n=false:=by
 cases d with
 | zero=>rfl
 | succ d=>simp [rowAt,h2,Tryz.underlying171,zz8 h]
theorem zvi (d c o n:Nat):liesAt Tryz.prog d 171 c o 72 n=false:=by
 cases d with
 | zero=>rfl
 | succ d =>
  unfold liesAt
  rw [zhj (by kernel_rfl) (by kernel_rfl),Tryz.underlying72]
  rfl
theorem z75:∀ p∈G0L,∃ t,p.2.T=.ty t/\∀ d c o n,liesAt Tryz.prog d t c o 72 n=false:=by
 intro p hp
 unfold G0L at hp
 rcases List.mem_cons.1 hp with rfl|hp
 ·exact ⟨_,rfl,zyq⟩
 rcases List.mem_cons.1 hp with rfl|hp
 ·exact ⟨_,rfl,zvi⟩
 cases hp
structure StAt (W:World) (k off n cap:Nat) (b:Blk) (f:Nat->Int):Prop where
 le:n<=cap
 heap:W.heap[k]? = some b.obj0
 fx:b.fx
 raw:∃ c T fr,b=⟨c,.raw T fr⟩
 rd:rdI b off (6*cap) f
 i6:∀ j,j<6*cap->i64 (f j)
 lies:∃ row c,W.shape? k=some (row,c)/\liesAt Tryz.prog Tryz.prog.depth row (c / Tryz.prog.cellsOf row) off 72 cap=true
theorem StAt.sb {W:World} {k off n cap:Nat} {b:Blk} {f:Nat->Int} (h:StAt W k off n cap b f) (hn:n<=2932031007402):SB b off n f:=⟨h.rd.le (by have:=h.le;omega),h.fx,λj hj=>h.i6 j (by have:=h.le;omega),hn⟩
theorem zvv {r:Reach} {b0:Nat} {v:Value} {d:DataW H} {p:List MemPlace} (hv:Value.okWide Tryz.prog w r b0 27 v) (h:DataW.Trod enc Tryz.prog w 0 (λ_=>true) held 27 v d p) :
  ∃ st,i64 st/\(v=.agg #[.int .i64 st,.slice none 0 0]\/∃ (k off n cap:Nat) (b:Blk) (f:Nat->Int),v=.agg #[.int .i64 st,.slice (some ⟨k,off,none⟩) n cap]/\StAt w k off n cap b f):=by
 simp only [Value.okWide,Tryz.underlying27] at hv
 obtain ⟨cs,rfl,hsz,ts,hts,_,hall⟩:=hv
 rw [zon] at hts
 simp only [Option.some.injEq] at hts
 subst hts
 obtain ⟨fuel,hf⟩:=h
 obtain ⟨y0,y1,n,_,hl,h0,h1⟩:=trod_struct2 Tryz.underlying27 hf
 rw [ze5] at h0
 rw [zi3] at h1
 simp only [Value.cells] at h0 h1
 obtain ⟨st,e0,_,hw⟩:=DataW.trod_int Tryz.underlying3 h0
 rw [zqo] at hsz
 obtain ⟨c0,c1,rfl⟩:∃ c0 c1,cs=#[c0,c1]:=by
  obtain ⟨l⟩:=cs
  match l,hsz with
  | [c0,c1],_=>exact ⟨c0,c1,rfl⟩
 simp at e0
 subst e0
 refine ⟨st,zg7 hw,?_⟩
 rcases zrj h1 with e1|⟨a,len,cap,f,e1,hle,hc⟩
 ·simp at e1
  subst e1
  exact .inl rfl
 ·simp at e1
  subst e1
  right
  obtain ⟨u,hu,hok⟩:=hall 1 _ rfl
  simp at hu
  subst hu
  simp only [Cell.okWide,Cell.ok,Tryz.underlying25] at hok
  obtain ⟨_,_,_,hsp,row,cells,hsh,hlies⟩:=hok
  obtain ⟨k,off,sp⟩:=a
  simp only at hsp hsh hlies
  subst hsp
  have hsh':=hsh
  unfold World.shape? at hsh'
  split at hsh'
  ·rename_i c T fr hh
   simp only [Option.some.injEq,Prod.mk.injEq] at hsh'
   obtain ⟨rfl,rfl⟩:=hsh'
   refine ⟨k,off,len,cap,⟨c,.raw T fr⟩,f,rfl,hle,hh,trivial,⟨c,T,fr,rfl⟩,λj hj=>?_,λj hj=>(hc j hj).2,T,_,hsh,hlies⟩
   have h2:=(hc j hj).1
   rw [Addr.add_lit] at h2
   simpa [World.cell?,hh] using h2
  ·cases hsh'
end
theorem zh8 {H:Type} {enc:TypeId×Value->H} {P:Program} {base:Nat} (hl:laidOutB P=true) {W W':World} {sp':Nat->Bool}:∀ (ts:List TypeId) (vs:List Value) (ds:List (DataW H)) (ps:List MemPlace),(∀ t∈ts,P.readableRec t=true/\t<P.types.size) ->
  DataW.TrodAll enc P W base (λ_=>true) true ts vs ds ps->(∀ p∈ps,W.sameAt W' p)->(∀ p∈ps,sp' p.block=true)->DataW.TrodAll enc P W' base sp' true ts vs ds ps
 | [],[],[],_,_,h,_,_=>h
 | t::_,_::_,_::_,_,hT,⟨p,q,h1,h2,e⟩,hm,hs=>⟨p,q,WideElems.Trod_stays hl (hT t (by simp)).1 (hT t (by simp)).2 h1 (λx hx=>hm x (by rw [e];exact List.mem_append_left _ hx)) (λx hx=>hs x (by rw [e];exact List.mem_append_left _ hx)),
   zh8 hl _ _ _ _ (λt ht=>hT t (List.mem_cons_of_mem _ ht)) h2 (λx hx=>hm x (by rw [e];exact List.mem_append_right _ hx)) (λx hx=>hs x (by rw [e];exact List.mem_append_right _ hx)),e⟩
theorem z3y:laidOutB Tryz.prog=true:=by kernel_rfl
theorem zun:Tryz.prog.bytesOf 72=48:=by kernel_rfl
theorem jer {H:Type} {enc:TypeId×Value->H} {w:World} {held:Bool} {st:Int} {a:Addr} {n cap:Nat} {d:DataW H} {p:List MemPlace} (h:DataW.Trod enc Tryz.prog w 0 (λ_=>true) held 27 (.agg #[.int .i64 st,.slice (some a) n cap]) d p) (hw:∀ x∈d.weights Tryz.prog 27,x<=reachBytes):cap<=2932031007402:=by
 obtain ⟨fuel,hf⟩:=h
 obtain ⟨y0,y1,m,hx,hl,h0,h1⟩:=trod_struct2 Tryz.underlying27 hf
 rw [zi3] at h1
 simp only [Value.cells] at h1
 rcases Deep.open_slice Tryz.underlying25 h1 with ⟨e1,_⟩|⟨a',len,cap',m',n',D,Pl,e1,_,hlc,hcm,hm,hy1,_⟩
 ·simp at e1
 ·simp at e1
  obtain ⟨rfl,rfl,rfl⟩:=e1
  rw [if_pos rfl] at hm
  subst hm
  simp only [Prod.mk.injEq] at hx
  have hd:=hx.1
  rw [hd,hy1] at hw
  have:=hw ((n+(m' - n))*48) (by
   simp only [DataW.weights,Tryz.underlying27]
   simp [DataW.weightsEach,DataW.weights,Tryz.underlying25,zun])
  unfold reachBytes at this
  omega
theorem StAt.ne {W:World} {k off n cap:Nat} {b:Blk} {f:Nat->Int} (h:StAt W k off n cap b f) (hg:GOK G0 W):∀ g c,G0 g=some c->k≠g:=λg c hc e=>by
 have h1:=hg g c hc
 obtain ⟨t,ht,hl'⟩:=z75 _ (zn3 hc)
 obtain ⟨row,q,hsh,hl⟩:=h.lies
 rw [e] at hsh
 unfold World.shape? at hsh
 rw [h1] at hsh
 obtain ⟨cc,T⟩:=c
 simp only at ht
 subst ht
 simp only [Blk.obj0,Option.some.injEq,Prod.mk.injEq] at hsh
 obtain ⟨rfl,rfl⟩:=hsh
 rw [hl'] at hl
 cases hl
section
variable {H:Type} {enc:TypeId×Value->H} {w:World} {base:Nat} {spare:Nat->Bool} {held:Bool}
end
theorem z41 {W:World} {k:Nat} {b b':Blk} (h:W.heap[k]? = some b.obj0) (h':W.heap[k]? = some b'.obj0) (r:∃ c T fr,b=⟨c,.raw T fr⟩) (r':∃ c T fr,b'=⟨c,.raw T fr⟩):b=b':=by
 obtain ⟨c,T,fr,rfl⟩:=r
 obtain ⟨c',T',fr',rfl⟩:=r'
 rw [h] at h'
 simp only [Blk.obj0,Option.some.injEq,Obj.cells.injEq] at h'
 obtain ⟨rfl,rfl,rfl⟩:=h'
 rfl
theorem jmh {P:Program} {G:Hp} {fn:FuncId} {args:Array Value} {L:List (Nat×Blk)} {v:Value} {W:World} (r:Nat->Nat) (hGF:zbo G) (hF:Fun P G fn args (hpL G L) (zaa L) (.ret v [])) (hv:za0 v=true) (hgok:GOK G W) (hL:LOk L 200) (hfx:∀ p∈L,p.2.fx)
  (hr:∀ p∈L,W.heap[r p.1]? = some p.2.obj0) (hne:∀ p∈L,∀ g c,G g=some c->r p.1≠g) (hinj:∀ p∈L,∀ q∈L,r p.1=r q.1->p.1=q.1) (hlow:∀ q,q<100->r q=q) :
  zd8 P fn (args.map (ren r)) W λe W'=>e=.returned v/\Below W.heap.size W W':=by
 have er:rst (hpL G L) (zaa L)=hpL G L:=LOk.rst hGF
 have hobj:∀ (b:Blk),b.fx->∀ r,b.obj r=b.obj0:=λb hb r=>by
  obtain ⟨c,T⟩:=b
  cases T with
  | ty t=>exact Blk.obj_flat hb
  | raw t fr=>rfl
  | mp=>exact hb.elim
 have hmem:∀ q c,hpL G L q=some c->(q,c)∈L\/(q<100/\G q=some c):=λq c hq=>by
  rcases za5 hq with h|h
  ·exact .inl h
  ·exact .inr ⟨(hGF q c h).1,h⟩
 have hrun:=hF.run r W hgok ?_ ?_ ?_
 ·refine hrun.mono λe W' h=>?_
  obtain ⟨he,ht⟩:=h
  rw [zau hv] at he
  exact ⟨he,ht.os,ht.tape,ht.output,ht.size,λq hq=>ht.same q hq (by simp)⟩
 ·rw [er]
  intro q c hq
  rcases hmem q c hq with h|⟨hlt,hG⟩
  ·exact ⟨by rw [hobj c (hfx _ h)];exact hr _ h,Blk.fx_ids (hfx _ h) _⟩
  ·refine ⟨?_,Blk.flat_ids (hGF q c hG).2⟩
   rw [hlow q hlt,hgok q c hG]
   congr 1
   obtain ⟨cc,T⟩:=c
   cases T with
   | ty t=>exact (Blk.obj_flat (hGF q _ hG).2).symm
   | raw t fr=>rfl
   | mp=>exact (Blk.obj_flat (hGF q _ hG).2).symm
 ·rw [er]
  intro q q' hq hq' e
  unfold dom at hq hq'
  cases h1:hpL G L q with
  | none=>exact absurd h1 hq
  | some c =>
   cases h2:hpL G L q' with
   | none=>exact absurd h2 hq'
   | some c' =>
    rcases hmem q c h1 with h|⟨hlt,hG⟩<;>rcases hmem q' c' h2 with h'|⟨hlt',hG'⟩
    ·exact hinj _ h _ h' e
    ·rw [hlow q' hlt'] at e;exact absurd e (hne _ h _ _ hG')
    ·rw [hlow q hlt] at e;exact absurd e.symm (hne _ h' _ _ hG)
    ·rw [hlow q hlt,hlow q' hlt'] at e;exact e
 ·intro q hq _
  exact hlow q hq
theorem zut:Tryz.prog.cellsOf 22=1:=by kernel_rfl
theorem zur:Tryz.prog.cellsOf 24=6:=by kernel_rfl
theorem zqs:Tryz.prog.cellTypes Tryz.prog.depth 24=some [22,3,3,3,3,3]:=by kernel_rfl
theorem zxm:Tryz.prog.bytesOf 3=8:=by kernel_rfl
theorem zq8 (d c o n:Nat):liesAt Tryz.prog d 171 c o 3 n=false:=by
 cases d with
 | zero=>rfl
 | succ d =>
  unfold liesAt
  rw [zhj (by kernel_rfl) (by kernel_rfl),Tryz.underlying3]
  rfl
theorem zvj (d c o n:Nat):liesAt Tryz.prog d 30 c o 3 n=false:=by
 cases d with
 | zero=>rfl
 | succ d =>
  unfold liesAt
  rw [zix (by kernel_rfl) (by kernel_rfl),Tryz.underlying3]
  rfl
theorem z1s:∀ p∈G0L,∃ t,p.2.T=.ty t/\∀ d c o n,liesAt Tryz.prog d t c o 3 n=false:=by
 intro p hp
 unfold G0L at hp
 rcases List.mem_cons.1 hp with rfl|hp
 ·exact ⟨_,rfl,zvj⟩
 rcases List.mem_cons.1 hp with rfl|hp
 ·exact ⟨_,rfl,zq8⟩
 cases hp
structure CfAt (W:World) (k off n cap:Nat) (b:Blk) (f:Nat->Int):Prop where
 le:n<=cap
 heap:W.heap[k]? = some b.obj0
 fx:b.fx
 raw:∃ c T fr,b=⟨c,.raw T fr⟩
 rd:rdI b off cap f
 i6:∀ j,j<cap->i64 (f j)
 lies:∃ row c,W.shape? k=some (row,c)/\liesAt Tryz.prog Tryz.prog.depth row (c / Tryz.prog.cellsOf row) off 3 cap=true
theorem CfAt.mb {W:World} {k off n cap:Nat} {b:Blk} {f:Nat->Int} (h:CfAt W k off n cap b f) (hn:n<=17592186044416):MB b off n f:=⟨h.rd.le h.le,h.fx,λj hj=>h.i6 j (Nat.lt_of_lt_of_le hj h.le),hn⟩
theorem CfAt.ne {W:World} {k off n cap:Nat} {b:Blk} {f:Nat->Int} (h:CfAt W k off n cap b f) (hg:GOK G0 W):∀ g c,G0 g=some c->k≠g:=λg c hc e=>by
 have h1:=hg g c hc
 obtain ⟨t,ht,hl'⟩:=z1s _ (zn3 hc)
 obtain ⟨row,q,hsh,hl⟩:=h.lies
 rw [e] at hsh
 unfold World.shape? at hsh
 rw [h1] at hsh
 obtain ⟨cc,T⟩:=c
 simp only at ht
 subst ht
 simp only [Blk.obj0,Option.some.injEq,Prod.mk.injEq] at hsh
 obtain ⟨rfl,rfl⟩:=hsh
 rw [hl'] at hl
 cases hl
section
variable {H:Type} {enc:TypeId×Value->H} {w:World} {held:Bool}
theorem zp0 {P:Program} {base:Nat} {spare:Nat->Bool} {t:TypeId} {f0 f1 f2 f3 f4 f5:Field} {fuel:Nat} {cs:List Value} {x:DataW H×List MemPlace} (ht:P.underlying t=some (.struct #[f0,f1,f2,f3,f4,f5])) (h:DataW.trod enc P w base spare held fuel t cs=some x) :
  ∃ y0 y1 y2 y3 y4 y5 n,x.1=.agg [y0.1,y1.1,y2.1,y3.1,y4.1,y5.1]/\DataW.trod enc P w base spare held n f0.type ((cs.drop f0.offset).take (P.cellsOf f0.type))=some y0/\DataW.trod enc P w base spare held n f1.type ((cs.drop f1.offset).take (P.cellsOf f1.type))=some y1 /\
   DataW.trod enc P w base spare held n f2.type ((cs.drop f2.offset).take (P.cellsOf f2.type))=some y2/\DataW.trod enc P w base spare held n f3.type ((cs.drop f3.offset).take (P.cellsOf f3.type))=some y3/\DataW.trod enc P w base spare held n f4.type ((cs.drop f4.offset).take (P.cellsOf f4.type))=some y4/\DataW.trod enc P w base spare held n f5.type ((cs.drop f5.offset).take (P.cellsOf f5.type))=some y5:=by
 obtain ⟨xs,n,_,hx,hl,hlen,hf⟩:=DataW.trod_struct ht h
 match xs,hlen with
 | [y0,y1,y2,y3,y4,y5],_=>exact ⟨y0,y1,y2,y3,y4,y5,n,by rw [hx];rfl,by simpa using hf 0 f0 rfl,by simpa using hf 1 f1 rfl,by simpa using hf 2 f2 rfl,by simpa using hf 3 f3 rfl,by simpa using hf 4 f4 rfl,by simpa using hf 5 f5 rfl⟩
theorem zpy {fuel:Nat} {cs:List Value} {x:DataW H×List MemPlace} (h:DataW.trod enc Tryz.prog w 0 (λ_=>true) held fuel 24 cs=some x) :
  ∃ y0 y1 y2 y3 y4 y5 n,x.1=.agg [y0.1,y1.1,y2.1,y3.1,y4.1,y5.1]/\DataW.trod enc Tryz.prog w 0 (λ_=>true) held n 22 ((cs.drop 0).take 1)=some y0/\DataW.trod enc Tryz.prog w 0 (λ_=>true) held n 3 ((cs.drop 1).take 1)=some y1/\DataW.trod enc Tryz.prog w 0 (λ_=>true) held n 3 ((cs.drop 2).take 1)=some y2 /\
   DataW.trod enc Tryz.prog w 0 (λ_=>true) held n 3 ((cs.drop 3).take 1)=some y3/\DataW.trod enc Tryz.prog w 0 (λ_=>true) held n 3 ((cs.drop 4).take 1)=some y4/\DataW.trod enc Tryz.prog w 0 (λ_=>true) held n 3 ((cs.drop 5).take 1)=some y5:=by
 obtain ⟨y0,y1,y2,y3,y4,y5,n,hx,f0,f1,f2,f3,f4,f5⟩:=zp0 Tryz.underlying24 h
 rw [zut] at f0
 rw [ze5] at f1 f2 f3 f4 f5
 exact ⟨y0,y1,y2,y3,y4,y5,n,hx,f0,f1,f2,f3,f4,f5⟩
theorem zzg {r:Reach} {b0:Nat} {v:Value} {d:DataW H} {p:List MemPlace} (hv:Value.okWide Tryz.prog w r b0 24 v) (h:DataW.Trod enc Tryz.prog w 0 (λ_=>true) held 24 v d p) :
  ∃ g bx tp nr md,i64 g/\i64 bx/\i64 tp/\i64 nr/\i64 md/\(v=cfV (.slice none 0 0) g bx tp nr md\/∃ (k off n cap:Nat) (b:Blk) (f:Nat->Int),v=cfV (.slice (some ⟨k,off,none⟩) n cap) g bx tp nr md/\CfAt w k off n cap b f):=by
 simp only [Value.okWide,Tryz.underlying24] at hv
 obtain ⟨cs,rfl,hsz,ts,hts,_,hall⟩:=hv
 rw [zqs] at hts
 simp only [Option.some.injEq] at hts
 subst hts
 obtain ⟨fuel,hf⟩:=h
 obtain ⟨y0,y1,y2,y3,y4,y5,n,_,h0,h1,h2,h3,h4,h5⟩:=zpy hf
 simp only [Value.cells] at h0 h1 h2 h3 h4 h5
 obtain ⟨g,e1,_,w1⟩:=DataW.trod_int Tryz.underlying3 h1
 obtain ⟨bx,e2,_,w2⟩:=DataW.trod_int Tryz.underlying3 h2
 obtain ⟨tp,e3,_,w3⟩:=DataW.trod_int Tryz.underlying3 h3
 obtain ⟨nr,e4,_,w4⟩:=DataW.trod_int Tryz.underlying3 h4
 obtain ⟨md,e5,_,w5⟩:=DataW.trod_int Tryz.underlying3 h5
 rw [zur] at hsz
 obtain ⟨c0,c1,c2,c3,c4,c5,rfl⟩:∃ c0 c1 c2 c3 c4 c5,cs=#[c0,c1,c2,c3,c4,c5]:=by
  obtain ⟨l⟩:=cs
  match l,hsz with
  | [c0,c1,c2,c3,c4,c5],_=>exact ⟨c0,c1,c2,c3,c4,c5,rfl⟩
 simp at e1 e2 e3 e4 e5
 subst e1 e2 e3 e4 e5
 refine ⟨g,bx,tp,nr,md,zg7 w1,zg7 w2,zg7 w3,zg7 w4,zg7 w5,?_⟩
 rcases open_ints Tryz.underlying22 Tryz.underlying3 ze5 h0 with ⟨e0,_⟩|⟨a,len,cap,zs,e0,_,hle,_,hzl,_,hc,hw⟩
 ·simp at e0
  subst e0
  exact .inl rfl
 ·simp at e0
  subst e0
  right
  rw [if_pos rfl] at hzl
  obtain ⟨u,hu,hok⟩:=hall 0 _ rfl
  simp at hu
  subst hu
  simp only [Cell.okWide,Cell.ok,Tryz.underlying22] at hok
  obtain ⟨_,_,_,hsp,row,cells,hsh,hlies⟩:=hok
  obtain ⟨k,off,sp⟩:=a
  simp only at hsp hsh hlies
  subst hsp
  have hsh':=hsh
  unfold World.shape? at hsh'
  split at hsh'
  ·rename_i c T fr hh
   simp only [Option.some.injEq,Prod.mk.injEq] at hsh'
   obtain ⟨rfl,rfl⟩:=hsh'
   refine ⟨k,off,len,cap,⟨c,.raw T fr⟩,λj=>zs.getD j 0,rfl,hle,hh,trivial,⟨c,T,fr,rfl⟩,λj hj=>?_,λj hj=>?_,T,_,hsh,hlies⟩
   ·have h2:=hc j (by omega)
    rw [Addr.add_lit] at h2
    simpa [World.cell?,hh] using h2
   ·have hjz:j<zs.length:=by omega
    exact zg7 (hw _ (by simp [List.getD,List.getElem?_eq_getElem hjz]))
  ·cases hsh'
theorem z8x {g bx tp nr md:Int} {a:Addr} {n cap:Nat} {d:DataW H} {p:List MemPlace} (h:DataW.Trod enc Tryz.prog w 0 (λ_=>true) held 24 (cfV (.slice (some a) n cap) g bx tp nr md) d p) (hw:∀ x∈d.weights Tryz.prog 24,x<=reachBytes):cap<=17592186044416:=by
 obtain ⟨fuel,hf⟩:=h
 obtain ⟨y0,y1,y2,y3,y4,y5,m,hx,h0,_⟩:=zpy hf
 simp only [cfV,Value.cells] at h0
 rcases Deep.open_slice Tryz.underlying22 h0 with ⟨e1,_⟩|⟨a',len,cap',m',n',D,Pl,e1,_,hlc,hcm,hm,hy1,_⟩
 ·simp at e1
 ·simp at e1
  obtain ⟨rfl,rfl,rfl⟩:=e1
  rw [if_pos rfl] at hm
  subst hm
  rw [show d=_ from hx,hy1] at hw
  have:=hw ((n+(m' - n))*8) (by
   simp only [DataW.weights,Tryz.underlying24]
   simp [DataW.weightsEach,DataW.weights,Tryz.underlying22,zxm])
  unfold reachBytes at this
  omega
end
theorem zlk:Tryz.prog.cellsOf 32=8:=by kernel_rfl
section
variable {H:Type} {enc:TypeId×Value->H} {w:World} {base:Nat} {spare:Nat->Bool} {held:Bool}
theorem zmf {fuel:Nat} {cs:List Value} {x:DataW H×List MemPlace} (h:DataW.trod enc Tryz.prog w base spare held fuel 30 cs=some x):cs.length=4/\∀ j,j<4->∃ z,cs[j]? = some (.int .u64 z)/\0<=z/\z<18446744073709551616:=by
 obtain ⟨xs,m,_,rfl,hl,hxs,hi⟩:=DataW.trod_array Tryz.underlying30 h
 rw [zif] at hl
 refine ⟨hl,λj hj=>?_⟩
 have h1:=hi j hj
 rw [zok,Nat.mul_one,List.getElem?_eq_getElem (by omega)] at h1
 obtain ⟨z,e,_,hw⟩:=DataW.trod_int Tryz.underlying28 h1
 refine ⟨z,?_,jix hw⟩
 have:=congrArg (·[0]?) e
 simpa [List.getElem?_take,List.getElem?_drop] using this
end
theorem zmv:Tryz.prog.cellsOf 33=3:=by kernel_rfl
theorem zlj:Tryz.prog.cellsOf 38=14:=by kernel_rfl
theorem zus:Tryz.prog.cellsOf 35=21:=by kernel_rfl
theorem zuo:Tryz.prog.bytesOf 38=112:=by kernel_rfl
theorem zq9 (d c o n:Nat):liesAt Tryz.prog d 171 c o 38 n=false:=by
 cases d with
 | zero=>rfl
 | succ d =>
  unfold liesAt
  rw [zhj (by kernel_rfl) (by kernel_rfl),Tryz.underlying38]
  rfl
theorem zvk (d c o n:Nat):liesAt Tryz.prog d 30 c o 38 n=false:=by
 cases d with
 | zero=>rfl
 | succ d =>
  unfold liesAt
  rw [zix (by kernel_rfl) (by kernel_rfl),Tryz.underlying38]
  rfl
theorem z1t:∀ p∈G0L,∃ t,p.2.T=.ty t/\∀ d c o n,liesAt Tryz.prog d t c o 38 n=false:=by
 intro p hp
 unfold G0L at hp
 rcases List.mem_cons.1 hp with rfl|hp
 ·exact ⟨_,rfl,zvk⟩
 rcases List.mem_cons.1 hp with rfl|hp
 ·exact ⟨_,rfl,zq9⟩
 cases hp
section
variable {H:Type} {enc:TypeId×Value->H} {w:World} {base:Nat} {spare:Nat->Bool} {held:Bool}
theorem zm4 {fuel:Nat} {cs:List Value} {x:DataW H×List MemPlace} (h:DataW.trod enc Tryz.prog w base spare held fuel 33 cs=some x):cs.length=3/\∀ j,j<3->∃ z,cs[j]? = some (.int .i64 z)/\i64 z:=by
 obtain ⟨xs,m,_,rfl,hl,hxs,hi⟩:=DataW.trod_array Tryz.underlying33 h
 rw [zmv] at hl
 refine ⟨hl,λj hj=>?_⟩
 have h1:=hi j hj
 rw [ze5,Nat.mul_one,List.getElem?_eq_getElem (by omega)] at h1
 obtain ⟨z,e,_,hw⟩:=DataW.trod_int Tryz.underlying3 h1
 refine ⟨z,?_,zg7 hw⟩
 have:=congrArg (·[0]?) e
 simpa [List.getElem?_take,List.getElem?_drop] using this
theorem zt1 {cs:List Value} (hl:cs.length=4) (h:∀ j,j<4->∃ z,cs[j]? = some (.int .u64 z)/\0<=z/\z<18446744073709551616):∃ z,wr z/\∀ j,j<4->cs[j]? = some (.int .u64 (wi z j)):=by
 obtain ⟨a,ea,ha⟩:=h 0 (by omega)
 obtain ⟨b,eb,hb⟩:=h 1 (by omega)
 obtain ⟨c,ec,hc⟩:=h 2 (by omega)
 obtain ⟨d,ed,hd⟩:=h 3 (by omega)
 obtain ⟨z,hz,e0,e1,e2,e3⟩:=z50 a b c d ha hb hc hd
 refine ⟨z,hz,λj hj=>?_⟩
 have:j=0\/j=1\/j=2\/j=3:=by omega
 rcases this with rfl|rfl|rfl|rfl
 ·rw [e0];exact ea
 ·rw [e1];exact eb
 ·rw [e2];exact ec
 ·rw [e3];exact ed
theorem zpz {P:Program} {t:TypeId} {f0 f1 f2:Field} {fuel:Nat} {cs:List Value} {x:DataW H×List MemPlace} (ht:P.underlying t=some (.struct #[f0,f1,f2])) (h:DataW.trod enc P w base spare held fuel t cs=some x) :
  ∃ y0 y1 y2 n,cs.length=P.cellsOf t/\DataW.trod enc P w base spare held n f0.type ((cs.drop f0.offset).take (P.cellsOf f0.type))=some y0/\DataW.trod enc P w base spare held n f1.type ((cs.drop f1.offset).take (P.cellsOf f1.type))=some y1 /\
   DataW.trod enc P w base spare held n f2.type ((cs.drop f2.offset).take (P.cellsOf f2.type))=some y2:=by
 obtain ⟨xs,n,_,hx,hl,hlen,hf⟩:=DataW.trod_struct ht h
 match xs,hlen with
 | [y0,y1,y2],_=>exact ⟨y0,y1,y2,n,hl,by simpa using hf 0 f0 rfl,by simpa using hf 1 f1 rfl,by simpa using hf 2 f2 rfl⟩
theorem zma {fuel:Nat} {cs:List Value} {x:DataW H×List MemPlace} (h:DataW.trod enc Tryz.prog w base spare held fuel 32 cs=some x):∃ lo hi,wr lo/\wr hi/\(∀ j,j<4->cs[j]? = some (.int .u64 (wi lo j)))/\∀ j,j<4->cs[4+j]? = some (.int .u64 (wi hi j)):=by
 obtain ⟨y0,y1,n,_,hl,h0,h1⟩:=trod_struct2 Tryz.underlying32 h
 simp only [zif] at h0 h1
 obtain ⟨l0,w0⟩:=zmf h0
 obtain ⟨l1,w1⟩:=zmf h1
 obtain ⟨lo,hlo,e0⟩:=zt1 l0 w0
 obtain ⟨hi,hhi,e1⟩:=zt1 l1 w1
 refine ⟨lo,hi,hlo,hhi,λj hj=>?_,λj hj=>?_⟩
 ·have:=e0 j hj
  simpa [List.getElem?_take,List.getElem?_drop,hj] using this
 ·have:=e1 j hj
  rw [List.getElem?_take,if_pos hj,List.getElem?_drop] at this
  exact this
def jgp (lo hi:Int) (p l:Nat->Int) (c:Nat):Int:=if c=0 then lo else if c=1 then hi else if c<5 then p (c - 2) else if c<8 then p (c - 5) else if c<11 then l (c - 8) else l (c - 11)
theorem zl0 {fuel:Nat} {cs:List Value} {x:DataW H×List MemPlace} (h:DataW.trod enc Tryz.prog w base spare held fuel 38 cs=some x):∃ lw,LsOk lw/\∀ j,j<14->cs[j]? = some (zpe lw j):=by
 obtain ⟨y0,y1,y2,n,hl,h0,h1,h2⟩:=zpz Tryz.underlying38 h
 simp only [zlk,zmv] at h0 h1 h2
 obtain ⟨lo,hi,a,b,e0,e1⟩:=zma h0
 obtain ⟨_,p⟩:=zm4 h1
 obtain ⟨_,l⟩:=zm4 h2
 obtain ⟨p0,ep0,ip0⟩:=p 0 (by omega)
 obtain ⟨p1,ep1,ip1⟩:=p 1 (by omega)
 obtain ⟨p2,ep2,ip2⟩:=p 2 (by omega)
 obtain ⟨l0,el0,il0⟩:=l 0 (by omega)
 obtain ⟨l1,el1,il1⟩:=l 1 (by omega)
 obtain ⟨l2,el2,il2⟩:=l 2 (by omega)
 simp only [List.getElem?_take,List.getElem?_drop,Nat.reduceLT,if_true,Nat.reduceAdd,Nat.add_zero] at ep0 ep1 ep2 el0 el1 el2
 have f0:∀ j,j<4->cs[j]? = some (.int .u64 (wi lo j)):=λj hj=>by
  have:=e0 j hj
  rw [List.getElem?_take,if_pos (by omega),List.getElem?_drop,Nat.zero_add] at this
  exact this
 have f1:∀ j,j<4->cs[4+j]? = some (.int .u64 (wi hi j)):=λj hj=>by
  have:=e1 j hj
  rw [List.getElem?_take,if_pos (by omega),List.getElem?_drop,Nat.zero_add] at this
  exact this
 refine ⟨jgp lo hi (λq=>if q=0 then p0 else if q=1 then p1 else p2) (λq=>if q=0 then l0 else if q=1 then l1 else l2),⟨a,b,λc k1 k2=>?_,λq hq=>?_⟩,λj hj=>?_⟩
 ·unfold jgp
  rw [if_neg (by omega),if_neg (by omega)]
  split
  ·dsimp only;split;exact ip0;split;exact ip1;exact ip2
  ·split
   ·dsimp only;split;exact ip0;split;exact ip1;exact ip2
   ·split
    ·dsimp only;split;exact il0;split;exact il1;exact il2
    ·dsimp only;split;exact il0;split;exact il1;exact il2
 ·have:q=0\/q=1\/q=2:=by omega
  rcases this with rfl|rfl|rfl<;>exact ⟨rfl,rfl⟩
 ·have:j=0\/j=1\/j=2\/j=3\/j=4\/j=5\/j=6\/j=7\/j=8\/j=9\/j=10\/j=11\/j=12\/j=13:=by omega
  rcases this with rfl|rfl|rfl|rfl|rfl|rfl|rfl|rfl|rfl|rfl|rfl|rfl|rfl|rfl
  ·exact f0 0 (by omega)
  ·exact f0 1 (by omega)
  ·exact f0 2 (by omega)
  ·exact f0 3 (by omega)
  ·exact f1 0 (by omega)
  ·exact f1 1 (by omega)
  ·exact f1 2 (by omega)
  ·exact f1 3 (by omega)
  ·exact ep0
  ·exact ep1
  ·exact ep2
  ·exact el0
  ·exact el1
  ·exact el2
structure LsAt (W:World) (k off n cap:Nat) (b:Blk) (f:Nat->Nat->Int):Prop where
 le:n<=cap
 heap:W.heap[k]? = some b.obj0
 fx:b.fx
 raw:∃ c T fr,b=⟨c,.raw T fr⟩
 rd:rdV b off (14*cap) (zjf f)
 ok:∀ i,i<cap->LsOk (f i)
 row:jbo f
 lies:∃ row c,W.shape? k=some (row,c)/\liesAt Tryz.prog Tryz.prog.depth row (c / Tryz.prog.cellsOf row) off 38 cap=true
theorem LsAt.lb {W:World} {k off n cap:Nat} {b:Blk} {f:Nat->Nat->Int} (h:LsAt W k off n cap b f) (hn:n<=1256598820000):LB b off n f :=
 ⟨h.rd.le (by have:=h.le;omega),h.fx,h.row,λi hi=>(h.ok i (Nat.lt_of_lt_of_le hi h.le)).i,λi hi=>⟨(h.ok i (Nat.lt_of_lt_of_le hi h.le)).w0,(h.ok i (Nat.lt_of_lt_of_le hi h.le)).w1⟩,hn⟩
theorem LsAt.ne {W:World} {k off n cap:Nat} {b:Blk} {f:Nat->Nat->Int} (h:LsAt W k off n cap b f) (hg:GOK G0 W):∀ g c,G0 g=some c->k≠g:=λg c hc e=>by
 have h1:=hg g c hc
 obtain ⟨t,ht,hl'⟩:=z1t _ (zn3 hc)
 obtain ⟨row,q,hsh,hl⟩:=h.lies
 rw [e] at hsh
 unfold World.shape? at hsh
 rw [h1] at hsh
 obtain ⟨cc,T⟩:=c
 simp only at ht
 subst ht
 simp only [Blk.obj0,Option.some.injEq,Prod.mk.injEq] at hsh
 obtain ⟨rfl,rfl⟩:=hsh
 rw [hl'] at hl
 cases hl
theorem zrk {r:Reach} {b0:Nat} {v:Value} {d:DataW H} {p:List MemPlace} (hv:Value.okWide Tryz.prog w r b0 36 v) (h:DataW.Trod enc Tryz.prog w 0 (λ_=>true) held 36 v d p) :
  v=.slice none 0 0\/∃ (k off n cap:Nat) (b:Blk) (f:Nat->Nat->Int),v=.slice (some ⟨k,off,none⟩) n cap/\LsAt w k off n cap b f:=by
 simp only [Value.okWide,Tryz.underlying36] at hv
 obtain ⟨q,n0,c0,rfl⟩:∃ q n0 c0,v=.slice q n0 c0:=by
  cases v<;>simp [Cell.okWide,Cell.ok,Tryz.underlying36] at hv |-
 obtain ⟨fuel,hf⟩:=h
 simp only [Value.cells] at hf
 rcases Deep.open_slice Tryz.underlying36 hf with ⟨e0,_⟩|⟨a,len,cap,m,n,D,Pl,e0,_,hlc,hcm,hm,_,hel⟩
 ·left
  simpa using e0
 ·right
  simp at e0
  obtain ⟨rfl,rfl,rfl⟩:=e0
  rw [if_pos rfl] at hm
  subst hm
  simp only [Cell.okWide,Cell.ok,Tryz.underlying36] at hv
  obtain ⟨_,_,_,hsp,row,cells,hsh,hlies⟩:=hv
  obtain ⟨k,off,sp⟩:=a
  simp only at hsp hsh hlies
  subst hsp
  have hel2:∀ i,i<m->∃ lw,LsOk lw/\∀ j,j<14->w.cell? (Addr.add ⟨k,off,none⟩ (i*14+j))=some (zpe lw j):=λi hi=>by
   obtain ⟨cs',h1,h2⟩:=hel i hi
   rw [zlj] at h1
   obtain ⟨lw,hlw,hc⟩:=zl0 h2
   refine ⟨lw,hlw,λj hj=>?_⟩
   unfold World.cells? at h1
   rw [if_pos (Nat.zero_le _)] at h1
   have h3:=mapM_some_get h1 j j (List.getElem?_range (by omega))
   rw [hc j hj,Deep.add_add] at h3
   exact h3
  let f:Nat->Nat->Int:=λi=>if h:i<m then Classical.choose (hel2 i h) else λ_=>0
  have hf1:∀ i (hi:i<m),LsOk (f i)/\∀ j,j<14->w.cell? (Addr.add ⟨k,off,none⟩ (i*14+j))=some (zpe (f i) j):=λi hi=>by
   have:=Classical.choose_spec (hel2 i hi)
   simp only [f,dif_pos hi]
   exact this
  have hf2:jbo f:=λi q hq=>by
   by_cases hi:i<m
   ·exact (hf1 i hi).1.r q hq
   ·simp only [f,dif_neg hi]
    exact ⟨trivial,trivial⟩
  have hsh':=hsh
  unfold World.shape? at hsh'
  split at hsh'
  ·rename_i c T fr hh
   simp only [Option.some.injEq,Prod.mk.injEq] at hsh'
   obtain ⟨rfl,rfl⟩:=hsh'
   refine ⟨k,off,_,m,⟨c,.raw T fr⟩,f,rfl,hlc,hh,trivial,⟨c,T,fr,rfl⟩,λj hj=>?_,λi hi=>(hf1 i hi).1,hf2,T,_,hsh,hlies⟩
   have h2:=(hf1 (j / 14) (by omega)).2 (j%14) (by omega)
   rw [Addr.add_lit,show j / 14*14+j%14=j by omega] at h2
   unfold zjf
   simpa [World.cell?,hh] using h2
  ·cases hsh'
theorem z8y {a:Addr} {n cap:Nat} {d:DataW H} {p:List MemPlace} (h:DataW.Trod enc Tryz.prog w 0 (λ_=>true) held 36 (.slice (some a) n cap) d p) (hw:∀ x∈d.weights Tryz.prog 36,x<=reachBytes):cap<=1256598820000:=by
 obtain ⟨fuel,hf⟩:=h
 simp only [Value.cells] at hf
 rcases Deep.open_slice Tryz.underlying36 hf with ⟨e1,_⟩|⟨a',len,cap',m',n',D,Pl,e1,_,hlc,hcm,hm,hy1,_⟩
 ·simp at e1
 ·simp at e1
  obtain ⟨rfl,rfl,rfl⟩:=e1
  rw [if_pos rfl] at hm
  subst hm
  simp only [Prod.mk.injEq] at hy1
  rw [hy1.1] at hw
  have:=hw ((n+(m' - n))*112) (by
   simp [DataW.weights,Tryz.underlying36,zuo])
  unfold reachBytes at this
  omega
end
structure Mine (W:World) (k:Nat) (b:Blk):Prop where
 heap:W.heap[k]? = some b.obj0
 fx:b.fx
 raw:∃ c T fr,b=⟨c,.raw T fr⟩
 ne:∀ g c,G0 g=some c->k≠g
structure Laid (W:World) (L:List (Nat×Blk)) (nm:Nat->Nat):Prop where
 ok:LOk L (100+8*L.length)
 fx:∀ p∈L,p.2.fx
 mine:∀ p∈L,Mine W (nm p.1) p.2
 inj:∀ p∈L,∀ q∈L,nm p.1=nm q.1->p.1=q.1
 low:∀ k,k<100->nm k=k
def nmX (a x:Nat) (nm:Nat->Nat) (k:Nat):Nat:=if k=a then x else nm k
theorem jau (a x:Nat) (nm:Nat->Nat):nmX a x nm a=x:=if_pos rfl
theorem zzc {a x k:Nat} {nm:Nat->Nat} (h:k≠a):nmX a x nm k=nm k:=if_neg h
theorem lay {W:World}:∀ (xs:List (Nat×Blk)),(∀ x∈xs,Mine W x.1 x.2)->∃ L nm,Laid W L nm/\L.length<=xs.length/\∀ x∈xs,∃ m,(m,x.2)∈L/\nm m=x.1
 | [],_=>⟨[],λk=>k,⟨⟨(λp hp=>by cases hp),List.nodup_nil,(λp hp=>by cases hp)⟩,(λp hp=>by cases hp),(λp hp=>by cases hp),(λp hp=>by cases hp),λk _=>rfl⟩,Nat.le_refl _,λx hx=>by cases hx⟩
 | x::xs,h=>by
  obtain ⟨L,nm,hL,hl,hx⟩:=lay xs λy hy=>h y (List.mem_cons_of_mem _ hy)
  have hm:=h x (List.mem_cons_self ..)
  by_cases hin:∃ p∈L,nm p.1=x.1
  ·obtain ⟨p,hp,e⟩:=hin
   have hp2:=hL.mine p hp
   rw [e] at hp2
   have e2:p.2=x.2:=z41 hp2.heap hm.heap hp2.raw hm.raw
   refine ⟨L,nm,hL,by simp only [List.length_cons];omega,λy hy=>?_⟩
   rcases List.mem_cons.1 hy with rfl|hy
   ·exact ⟨p.1,by rw [<-e2];exact hp,e⟩
   ·exact hx y hy
  ·have hfr:∀ p∈L,p.1≠100+8*L.length:=λp hp=>by have:=hL.ok.big p hp;omega
   have hnk:100+8*L.length∉zaa L:=λhk=>by
    obtain ⟨p,hp,e⟩:=zag.1 hk
    exact hfr p hp e
   have old:∀ p∈L,nmX (100+8*L.length) x.1 nm p.1=nm p.1:=λp hp=>zzc (hfr p hp)
   have new:nmX (100+8*L.length) x.1 nm (100+8*L.length)=x.1:=jau _ _ _
   refine ⟨(100+8*L.length,x.2)::L,nmX (100+8*L.length) x.1 nm,⟨⟨?_,?_,?_⟩,?_,?_,?_,?_⟩,by simp only [List.length_cons];omega,?_⟩
   ·intro p hp
    simp only [List.length_cons]
    rcases List.mem_cons.1 hp with rfl|hp
    ·simp only;omega
    ·have:=hL.ok.big p hp;omega
   ·show ((100+8*L.length)::zaa L).Nodup
    exact List.nodup_cons.2 ⟨hnk,hL.ok.one⟩
   ·intro p hp
    rcases List.mem_cons.1 hp with rfl|hp
    ·exact Blk.fx_ids hm.fx _
    ·exact Blk.fx_ids (hL.fx p hp) _
   ·intro p hp
    rcases List.mem_cons.1 hp with rfl|hp
    ·exact hm.fx
    ·exact hL.fx p hp
   ·intro p hp
    rcases List.mem_cons.1 hp with rfl|hp
    ·rw [show ((100+8*L.length,x.2):Nat×Blk).1=100+8*L.length from rfl,new];exact hm
    ·rw [old p hp];exact hL.mine p hp
   ·intro p hp q hq e
    rcases List.mem_cons.1 hp with rfl|hp<;>rcases List.mem_cons.1 hq with rfl|hq
    ·rfl
    ·rw [old q hq,show ((100+8*L.length,x.2):Nat×Blk).1=100+8*L.length from rfl,new] at e
     exact absurd ⟨q,hq,e.symm⟩ hin
    ·rw [old p hp,show ((100+8*L.length,x.2):Nat×Blk).1=100+8*L.length from rfl,new] at e
     exact absurd ⟨p,hp,e⟩ hin
    ·rw [old p hp,old q hq] at e
     exact hL.inj p hp q hq e
   ·intro k hk
    rw [zzc (by omega)]
    exact hL.low k hk
   ·intro y hy
    rcases List.mem_cons.1 hy with rfl|hy
    ·exact ⟨100+8*L.length,List.mem_cons_self ..,new⟩
    ·obtain ⟨m,hm1,hm2⟩:=hx y hy
     exact ⟨m,List.mem_cons_of_mem _ hm1,by rw [old _ hm1];exact hm2⟩
theorem Laid.any {W:World} {L:List (Nat×Blk)} {nm:Nat->Nat} (h:Laid W L nm) (hl:L.length<=12):LAny L:=⟨⟨λp hp=>by have:=h.ok.big p hp;omega,h.ok.one,h.ok.ids⟩,h.fx⟩
theorem z3d {fn:FuncId} {args:Array Value} {W:World} {L:List (Nat×Blk)} {nm:Nat->Nat} {v:Value} (h:Laid W L nm) (hl:L.length<=12) (hF:Fun Tryz.prog G0 fn args (hpL G0 L) (zaa L) (.ret v [])) (hv:za0 v=true) (hgok:GOK G0 W) :
  zd8 Tryz.prog fn (args.map (ren nm)) W λe W'=>e=.returned v/\Below W.heap.size W W' :=
 jmh nm G0F hF hv hgok (h.any hl).ok h.fx (λp hp=>(h.mine p hp).heap) (λp hp=>(h.mine p hp).ne) h.inj h.low
def LS (L:List (Nat×Blk)) (p:Option Addr) (n cap:Nat):Prop:=∃ k off b w,p=some ⟨k,off,none⟩/\(k,b)∈L/\LB b off n w/\n<=cap
def Op1 (W:World) (Good:List (Nat×Blk)->Option Addr->Nat->Nat->Prop) (p:Option Addr) (n cap:Nat):Prop :=
 ∃ xs:List (Nat×Blk),xs.length<=1/\(∀ x∈xs,Mine W x.1 x.2)/\∀ L nm,(∀ x∈xs,∃ m,(m,x.2)∈L/\nm m=x.1)->∃ q,(NS q n cap\/Good L q n cap)/\ren nm (.slice q n cap)=.slice p n cap
theorem Op1.none {W:World} {Good:List (Nat×Blk)->Option Addr->Nat->Nat->Prop}:Op1 W Good none 0 0:=⟨[],by simp,by simp,λL nm h=>⟨.none,.inl ⟨rfl,rfl,rfl⟩,rfl⟩⟩
theorem Op1.conf {W:World} {k off n cap:Nat} {b:Blk} {f:Nat->Int} (h:CfAt W k off n cap b f) (hg:GOK G0 W) (hn:n<=17592186044416):Op1 W MS (some ⟨k,off,.none⟩) n cap :=
 ⟨[(k,b)],by simp,by simp only [List.mem_singleton,forall_eq];exact ⟨h.heap,h.fx,h.raw,h.ne hg⟩,λL nm hx=>by
  obtain ⟨m,hm,e⟩:=hx (k,b) (by simp)
  exact ⟨some ⟨m,off,.none⟩,.inr ⟨m,off,b,f,rfl,hm,h.mb hn,h.le⟩,by simp only at e;subst e;simp [ren,zay,zak,zan]⟩⟩
theorem Op1.state {W:World} {k off n cap:Nat} {b:Blk} {f:Nat->Int} (h:StAt W k off n cap b f) (hg:GOK G0 W) (hn:n<=2932031007402):Op1 W SS (some ⟨k,off,.none⟩) n cap :=
 ⟨[(k,b)],by simp,by simp only [List.mem_singleton,forall_eq];exact ⟨h.heap,h.fx,h.raw,h.ne hg⟩,λL nm hx=>by
  obtain ⟨m,hm,e⟩:=hx (k,b) (by simp)
  exact ⟨some ⟨m,off,.none⟩,.inr ⟨m,off,b,f,rfl,hm,h.sb hn,h.le⟩,by simp only at e;subst e;simp [ren,zay,zak,zan]⟩⟩
theorem Op1.losses {W:World} {k off n cap:Nat} {b:Blk} {f:Nat->Nat->Int} (h:LsAt W k off n cap b f) (hg:GOK G0 W) (hn:n<=1256598820000):Op1 W LS (some ⟨k,off,.none⟩) n cap :=
 ⟨[(k,b)],by simp,by simp only [List.mem_singleton,forall_eq];exact ⟨h.heap,h.fx,h.raw,h.ne hg⟩,λL nm hx=>by
  obtain ⟨m,hm,e⟩:=hx (k,b) (by simp)
  exact ⟨some ⟨m,off,.none⟩,.inr ⟨m,off,b,f,rfl,hm,h.lb hn,h.le⟩,by simp only at e;subst e;simp [ren,zay,zak,zan]⟩⟩
theorem jh1 {ρ:Nat->Nat} {q p:Option Addr} {n cap:Nat} {g bx tp nr md:Int} (h:ren ρ (.slice q n cap)=.slice p n cap):ren ρ (cfV (.slice q n cap) g bx tp nr md)=cfV (.slice p n cap) g bx tp nr md:=by
 cases q with
 | none=>cases h;simp [cfV,ren,zay,zak,zan]
 | some a=>simp [ren,zay,zak,zan] at h;simp [cfV,ren,zay,zak,zan,h]
theorem z7p {ρ:Nat->Nat} {q p:Option Addr} {n cap:Nat} {st:Int} (h:ren ρ (.slice q n cap)=.slice p n cap):ren ρ (.agg #[.int .i64 st,.slice q n cap])=.agg #[.int .i64 st,.slice p n cap]:=by
 cases q with
 | none=>cases h;simp [ren,zay,zak,zan]
 | some a=>simp [ren,zay,zak,zan] at h;simp [ren,zay,zak,zan,h]
section
variable {H:Type} {enc:TypeId×Value->H} {w:World} {held:Bool}
theorem ja8 {r:Reach} {b0:Nat} {v:Value} {d:DataW H} {p:List MemPlace} (hv:Value.okWide Tryz.prog w r b0 24 v) (h:DataW.Trod enc Tryz.prog w 0 (λ_=>true) held 24 v d p) (hw:∀ x∈d.weights Tryz.prog 24,x<=reachBytes) (hg:GOK G0 w) :
  ∃ g bx tp nr md q n cap,i64 g/\i64 bx/\i64 tp/\i64 nr/\i64 md/\v=cfV (.slice q n cap) g bx tp nr md/\Op1 w MS q n cap:=by
 obtain ⟨g,bx,tp,nr,md,w1,w2,w3,w4,w5,h0⟩:=zzg hv h
 rcases h0 with rfl|⟨k,off,n,cap,b,f,rfl,at0⟩
 ·exact ⟨g,bx,tp,nr,md,none,0,0,w1,w2,w3,w4,w5,rfl,Op1.none⟩
 ·exact ⟨g,bx,tp,nr,md,_,n,cap,w1,w2,w3,w4,w5,rfl,Op1.conf at0 hg (Nat.le_trans at0.le (z8x h hw))⟩
theorem ztk {r:Reach} {b0:Nat} {v:Value} {d:DataW H} {p:List MemPlace} (hv:Value.okWide Tryz.prog w r b0 27 v) (h:DataW.Trod enc Tryz.prog w 0 (λ_=>true) held 27 v d p) (hw:∀ x∈d.weights Tryz.prog 27,x<=reachBytes) (hg:GOK G0 w) :
  ∃ st q n cap,i64 st/\v=.agg #[.int .i64 st,.slice q n cap]/\Op1 w SS q n cap:=by
 obtain ⟨st,ws,h0⟩:=zvv hv h
 rcases h0 with rfl|⟨k,off,n,cap,b,f,rfl,at0⟩
 ·exact ⟨st,none,0,0,ws,rfl,Op1.none⟩
 ·exact ⟨st,_,n,cap,ws,rfl,Op1.state at0 hg (Nat.le_trans at0.le (jer h hw))⟩
theorem zzf {r:Reach} {b0:Nat} {v:Value} {d:DataW H} {p:List MemPlace} (hv:Value.okWide Tryz.prog w r b0 36 v) (h:DataW.Trod enc Tryz.prog w 0 (λ_=>true) held 36 v d p) (hw:∀ x∈d.weights Tryz.prog 36,x<=reachBytes) (hg:GOK G0 w) :
  ∃ q n cap,v=.slice q n cap/\Op1 w LS q n cap:=by
 rcases zrk hv h with rfl|⟨k,off,n,cap,b,f,rfl,at0⟩
 ·exact ⟨none,0,0,rfl,Op1.none⟩
 ·exact ⟨_,n,cap,rfl,Op1.losses at0 hg (Nat.le_trans at0.le (z8y h hw))⟩
end
end Go.Gy
namespace Go.Gy
open Go Go.RowKit Go.Proofs Go.Proofs.Tryz
theorem LS.lt {L:List (Nat×Blk)} {p:Option Addr} {n cap:Nat} (h:NS p n cap\/LS L p n cap):∃ w,LW L p n cap w:=by
 rcases h with h|⟨k,off,b,w,rfl,h1,h2,h3⟩
 ·exact ⟨λ_ _=>0,.inl h⟩
 ·exact ⟨w,.inr ⟨k,off,b,rfl,h1,h2,h3⟩⟩
theorem zn6 {L:List (Nat×Blk)} (hT:LAny L) {p pa pb pl:Option Addr} {n cap na capa nb capb nl cl:Nat} {g bx tp nr md sta stb N:Int} {v lw:Nat->Int} (_:i64 g) (_:i64 bx) (_:i64 tp) (_:i64 nr) (_:i64 md) (hsa:i64 sta) (hsb:i64 stb) (hh:HOk N v) (hx:LsOk lw) (hp:NS p n cap\/MS L p n cap) (ha:NS pa na capa\/SS L pa na capa) (hb:NS pb nb capb\/SS L pb nb capb) (hl:NS pl nl cl\/LS L pl nl cl) :
  Fun prog G0 3 #[cfV (.slice p n cap) g bx tp nr md,.agg #[.int .i64 sta,.slice pa na capa],.agg #[.int .i64 stb,.slice pb nb capb],zbg N v,.slice pl nl cl,zbh lw] (hpL G0 L) (zaa L) (.ret (.bool true) []):=by
 obtain ⟨wl,k1⟩:=LS.lt hl
 exact zml hT hsa hsb hp ha hb hh k1 hx
end Go.Gy
namespace Go.Gy
set_option maxRecDepth 100000
open Go Go.RowKit Go.Proofs Go.ChangeShapes Go.WideShapes Go.ChangeAt
def jf4 (lo hi:Int) (a b c d:Nat->Int) (k:Nat):Int:=if k=0 then lo else if k=1 then hi else if k<5 then a (k - 2) else if k<8 then b (k - 5) else if k<11 then c (k - 8) else d (k - 11)
section
variable {H:Type} {enc:TypeId×Value->H} {w:World} {base:Nat} {spare:Nat->Bool} {held:Bool}
theorem jjv {fuel:Nat} {cs:List Value} {x:DataW H×List MemPlace} (h:DataW.trod enc Tryz.prog w base spare held fuel 33 cs=some x):∃ z:Nat->Int,(∀ j,i64 (z j))/\∀ j,j<3->cs[j]? = some (.int .i64 (z j)):=by
 obtain ⟨_,p⟩:=zm4 h
 obtain ⟨p0,ep0,ip0⟩:=p 0 (by omega)
 obtain ⟨p1,ep1,ip1⟩:=p 1 (by omega)
 obtain ⟨p2,ep2,ip2⟩:=p 2 (by omega)
 refine ⟨λq=>if q=0 then p0 else if q=1 then p1 else p2,λj=>?_,λj hj=>?_⟩
 ·dsimp only;split;exact ip0;split;exact ip1;exact ip2
 ·have:j=0\/j=1\/j=2:=by omega
  rcases this with rfl|rfl|rfl
  ·exact ep0
  ·exact ep1
  ·exact ep2
theorem znt {P:Program} {t:TypeId} {f0 f1 f2 f3 f4 f5:Field} {fuel:Nat} {cs:List Value} {x:DataW H×List MemPlace} (ht:P.underlying t=some (.struct #[f0,f1,f2,f3,f4,f5])) (h:DataW.trod enc P w base spare held fuel t cs=some x) :
  ∃ y0 y1 y2 y3 y4 y5 n,DataW.trod enc P w base spare held n f0.type ((cs.drop f0.offset).take (P.cellsOf f0.type))=some y0/\DataW.trod enc P w base spare held n f1.type ((cs.drop f1.offset).take (P.cellsOf f1.type))=some y1 /\
   DataW.trod enc P w base spare held n f2.type ((cs.drop f2.offset).take (P.cellsOf f2.type))=some y2/\DataW.trod enc P w base spare held n f3.type ((cs.drop f3.offset).take (P.cellsOf f3.type))=some y3/\DataW.trod enc P w base spare held n f4.type ((cs.drop f4.offset).take (P.cellsOf f4.type))=some y4/\DataW.trod enc P w base spare held n f5.type ((cs.drop f5.offset).take (P.cellsOf f5.type))=some y5:=by
 obtain ⟨xs,n,_,hx,hl,hlen,hf⟩:=DataW.trod_struct ht h
 match xs,hlen with
 | [y0,y1,y2,y3,y4,y5],_=>exact ⟨y0,y1,y2,y3,y4,y5,n,by simpa using hf 0 f0 rfl,by simpa using hf 1 f1 rfl,by simpa using hf 2 f2 rfl,by simpa using hf 3 f3 rfl,by simpa using hf 4 f4 rfl,by simpa using hf 5 f5 rfl⟩
theorem zzh {r:Reach} {b0:Nat} {v:Value} {d:DataW H} {p:List MemPlace} (hv:Value.okWide Tryz.prog w r b0 35 v) (h:DataW.Trod enc Tryz.prog w base spare held 35 v d p):∃ N u,v=zbg N u/\HOk N u:=by
 simp only [Value.okWide,Tryz.underlying35] at hv
 obtain ⟨cs,rfl,hsz,_⟩:=hv
 obtain ⟨fuel,hf⟩:=h
 obtain ⟨y0,y1,y2,y3,y4,y5,n,h0,h1,h2,h3,h4,h5⟩:=znt Tryz.underlying35 hf
 simp only [zlk,zmv,ze5,Value.cells] at h0 h1 h2 h3 h4 h5
 rw [zus] at hsz
 obtain ⟨c0,c1,c2,c3,c4,c5,c6,c7,c8,c9,c10,c11,c12,c13,c14,c15,c16,c17,c18,c19,c20,rfl⟩:∃ c0 c1 c2 c3 c4 c5 c6 c7 c8 c9 c10 c11 c12 c13 c14 c15 c16 c17 c18 c19 c20,cs=#[c0,c1,c2,c3,c4,c5,c6,c7,c8,c9,c10,c11,c12,c13,c14,c15,c16,c17,c18,c19,c20]:=by
  obtain ⟨l⟩:=cs
  match l,hsz with
  | [c0,c1,c2,c3,c4,c5,c6,c7,c8,c9,c10,c11,c12,c13,c14,c15,c16,c17,c18,c19,c20],_=>exact ⟨c0,c1,c2,c3,c4,c5,c6,c7,c8,c9,c10,c11,c12,c13,c14,c15,c16,c17,c18,c19,c20,rfl⟩
 obtain ⟨N,e0,_,hw⟩:=DataW.trod_int Tryz.underlying3 h0
 obtain ⟨lo,hi,a,b,el,eh⟩:=zma h1
 obtain ⟨z2,i2,q2⟩:=jjv h2
 obtain ⟨z3,i3,q3⟩:=jjv h3
 obtain ⟨z4,i4,q4⟩:=jjv h4
 obtain ⟨z5,i5,q5⟩:=jjv h5
 have l0:=el 0 (by omega)
 have l1:=el 1 (by omega)
 have l2:=el 2 (by omega)
 have l3:=el 3 (by omega)
 have m0:=eh 0 (by omega)
 have m1:=eh 1 (by omega)
 have m2:=eh 2 (by omega)
 have m3:=eh 3 (by omega)
 have a0:=q2 0 (by omega)
 have a1:=q2 1 (by omega)
 have a2:=q2 2 (by omega)
 have b0:=q3 0 (by omega)
 have b1:=q3 1 (by omega)
 have b2:=q3 2 (by omega)
 have d0:=q4 0 (by omega)
 have d1:=q4 1 (by omega)
 have d2:=q4 2 (by omega)
 have g0:=q5 0 (by omega)
 have g1:=q5 1 (by omega)
 have g2:=q5 2 (by omega)
 simp at e0 l0 l1 l2 l3 m0 m1 m2 m3 a0 a1 a2 b0 b1 b2 d0 d1 d2 g0 g1 g2
 subst e0 l0 l1 l2 l3 m0 m1 m2 m3 a0 a1 a2 b0 b1 b2 d0 d1 d2 g0 g1 g2
 refine ⟨N,jf4 lo hi z2 z3 z4 z5,rfl,zg7 hw,λc k1 k2=>?_,a,b⟩
 unfold jf4
 rw [if_neg (by omega),if_neg (by omega)]
 split
 ·exact i2 _
 ·split
  ·exact i3 _
  ·split
   ·exact i4 _
   ·exact i5 _
theorem zzi {r:Reach} {b0:Nat} {v:Value} {d:DataW H} {p:List MemPlace} (hv:Value.okWide Tryz.prog w r b0 38 v) (h:DataW.Trod enc Tryz.prog w base spare held 38 v d p):∃ lw,v=zbh lw/\LsOk lw:=by
 simp only [Value.okWide,Tryz.underlying38] at hv
 obtain ⟨cs,rfl,hsz,_⟩:=hv
 obtain ⟨fuel,hf⟩:=h
 obtain ⟨lw,ok,hc⟩:=zl0 hf
 rw [zlj] at hsz
 refine ⟨lw,?_,ok⟩
 rw [<-zs5]
 refine congrArg Value.agg (zo0 hsz λj hj=>?_)
 have:=hc j hj
 simpa [Value.cells] using this
end
def jf5 {H:Type}:DataW H:=.agg [.lit (.int .i64 0),.agg [z5r 0,z5r 0],.agg [.lit (.int .i64 0),.lit (.int .i64 0),.lit (.int .i64 0)],.agg [.lit (.int .i64 0),.lit (.int .i64 0),.lit (.int .i64 0)],.agg [.lit (.int .i64 0),.lit (.int .i64 0),.lit (.int .i64 0)],.agg [.lit (.int .i64 0),.lit (.int .i64 0),.lit (.int .i64 0)]]
def jgo {H:Type}:DataW H:=.agg [.agg [z5r 0,z5r 0],.agg [.lit (.int .i64 0),.lit (.int .i64 0),.lit (.int .i64 0)],.agg [.lit (.int .i64 0),.lit (.int .i64 0),.lit (.int .i64 0)]]
theorem z42 {ρ:Nat->Nat} {w:Nat->Int}:ren ρ (zbh w)=zbh w:=zau (by simp [zbh])
end Go.Gy
