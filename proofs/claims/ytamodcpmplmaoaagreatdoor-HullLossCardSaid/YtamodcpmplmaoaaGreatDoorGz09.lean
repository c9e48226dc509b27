/-
  Lemmas of this claim, in their order (GyJS, GyJT, GyJU, GyMA, GyMB, GyMC, GyMD, GyME, GyH, GyHS, GyHP, GyHT, GyHC, GyHX, GyHL, GyHV).
  Conditions: those of each theorem.
-/
import Derived.Test.YtamodcpmplmaoaaGreatDoorGz08
import Derived.Stop.LaidErr
import Derived.Test.YtamodcpmplmaoaaGreatDoorCards
import Derived.Test.YtamodcpmplmaoaaGreatDoorTie
import Derived.WalkKit
import Derived.ProofKit
import Derived.OpenShut
import Derived.Below
import Derived.ChangeSame
import Derived.Deep.DeepHandedRow
import Derived.Lib.LaidTab
import Derived.Deep.Slices
import Derived.ReadAgain
import Derived.Carry
import Derived.Deep.Strs
import Derived.ChangeSlices
set_option linter.unusedSimpArgs false
set_option linter.unusedVariables false
set_option maxRecDepth 100000
set_option maxHeartbeats 32000000
namespace Go.Gy
open Go Go.RowKit Go.Proofs Go.Proofs.Tryz
def hkr (k:Nat):Nat:=if k=100 then 208 else if k=108 then 256 else if k=116 then 312 else k
theorem zxd {k:Nat} (h:k<100):hkr k=k:=by unfold hkr;rw [if_neg (by omega),if_neg (by omega),if_neg (by omega)]
theorem z5d {hp:Hp} (a:hp 208=some hkM) (b:hp 256=some hkA) (c:hp 312=some hkB):∀ p∈hkL,100<=hkr p.1/\hp (hkr p.1)=some (p.2.rn hkr):=by
 have f1:=Blk.fx_rn zr3.fx hkr
 have f2:=Blk.fx_rn zxa.fx hkr
 have f3:=Blk.fx_rn zxb.fx hkr
 simp only [hkL,List.mem_cons,List.not_mem_nil,or_false,forall_eq_or_imp,forall_eq,f1,f2,f3]
 exact ⟨⟨by decide,a⟩,⟨by decide,b⟩,by decide,c⟩
def hkT:Blk:=⟨(fv 28 (zhs hkw)),.ty 38⟩
theorem zxc:LB hkT 0 2 hkw:=⟨jf5 28 (zhs hkw) _,λx hx=>by
 obtain ⟨j,_,rfl⟩:=z5a hx
 unfold zhs
 exact zij _ _,λi q hq=>by
 unfold hkw
 split
 ·exact zua.r q hq
 ·exact z12.r q hq,λi hi c h1 h2=>by
 unfold hkw
 split
 ·exact zua.i c h1 h2
 ·exact z12.i c h1 h2,λi hi=>by
 unfold hkw
 split
 ·exact ⟨zua.w0,zua.w1⟩
 ·exact ⟨z12.w0,z12.w1⟩,by omega⟩
theorem jk1:(fv 28 (zhs hkw))=#[.int .u64 (wi 8388608 0),.int .u64 (wi 8388608 1),.int .u64 (wi 8388608 2),.int .u64 (wi 8388608 3),.int .u64 (wi 8388608 0),.int .u64 (wi 8388608 1),.int .u64 (wi 8388608 2),.int .u64 (wi 8388608 3),.int .i64 (-2),.int .i64 6,.int .i64 0,.int .i64 0,.int .i64 0,.int .i64 0,.int .u64 0,.int .u64 0,.int .u64 0,.int .u64 0,.int .u64 0,.int .u64 0,.int .u64 0,.int .u64 0,.int .i64 0,.int .i64 0,.int .i64 0,.int .i64 0,.int .i64 0,.int .i64 0]:=by
 refine (zok (N:=28) rfl λj hj=>?_).symm
 have:j=0\/j=1\/j=2\/j=3\/j=4\/j=5\/j=6\/j=7\/j=8\/j=9\/j=10\/j=11\/j=12\/j=13\/j=14\/j=15\/j=16\/j=17\/j=18\/j=19\/j=20\/j=21\/j=22\/j=23\/j=24\/j=25\/j=26\/j=27:=by omega
 rcases this with rfl|rfl|rfl|rfl|rfl|rfl|rfl|rfl|rfl|rfl|rfl|rfl|rfl|rfl|rfl|rfl|rfl|rfl|rfl|rfl|rfl|rfl|rfl|rfl|rfl|rfl|rfl|rfl<;>simp [zhs,zox,hkw,hkl,lsN,zag]
theorem z71:Fun prog G0 20 #[cfV (.slice (some ⟨100,0,none⟩) 3 3) 1 1 1 1 0] (hpL G0 [(100,⟨#[.int .i64 1,.int .i64 1,.int .i64 1],.ty 3⟩)]) (zab [(100,(⟨#[.int .i64 1,.int .i64 1,.int .i64 1],.ty 3⟩:Blk))]) (.ret (.int .i64 6) []) :=
 z2t _ 0 3 3 (λ_=>1) ⟨λj hj=>by
  have:j=0\/j=1\/j=2:=by omega
  rcases this with rfl|rfl|rfl<;>rfl,zol rfl,λj hj=>(show i64 1 by decide),by omega⟩ 1 1 1 1 0
theorem zra:Ret prog G0 9 #[] (.bool true):=by
 refine zas G0F func9 rfl call9 rfl (by simp) (by simp [ntmps9]) ?_
 intro C hC hC0 hY
 have lo:=z70
 have ln:=z72
 have tk:=zom hkT 0 2 2 hkw zxc 0 (λ_=>0) (zlg 0 (by decide))
 rw [z7z] at tk
 have mo:=z71
 have wd:=λ(K:Value->Prop)=>zad (K:=K) G0W (by kernel_rfl) (zt8 2 hkv (zdf (by decide)) (zdf (by decide)) (by decide) (by decide))
 have h1:=λ(K:Value->Prop)=>zad (K:=K) G0W (by kernel_rfl) (zld 2 hkv hkl z5e zua)
 have h2:=λ(K:Value->Prop)=>zad (K:=K) G0W (by kernel_rfl) (zld 0 (λ_=>0) hkl (zlg 0 (by decide)) zua)
 have r1:=λ(K:Value->Prop)=>zhq z5e K
 have r2:=λ(K:Value->Prop)=>zhq (zlg 0 (by decide)) K
 have r3:=λ(K:Value->Prop)=>zhq (zlg (-1) (by decide)) K
 rw [jk2] at h1
 rw [jk3] at h2
 rw [jk4] at r1
 rw [z7y] at r2
 rw [jk5] at r3
 unfold cfV zcv at lo ln
 unfold zfl zbp at tk wd h1 h2 r1 r2 r3
 unfold zcv at h1 h2
 simp only [hkl,lsN,hkv,zag] at lo ln tk wd h1 h2 r1 r2 r3
 unfold cfV at mo
 have o1:i64 8388608:=by decide
 have fT:=Blk.fx_rn zxc.fx
 repeat' first|refine gwZ ?_|((first|refine gwR [10,16,20] ?_|refine gwD [10,16,20] ?_);intro Q hQ _;(repeat first|simp [hC,hY,o1,wd,h1,h2,r1,r2,r3,zag]|(refine zae lo G0F zj3.ok hkr (λk hk=>zxd hk) ?_ (by simp) (z5d (by simp [hkM]) (by simp [hkA]) (by simp [hkB])) (by simp [zab,hkL,hkr]) (by simp [zab,hkL,hkr];rfl) ?_;focus (simp [ren,za1,zak,zan,hkr];done))|(refine zae ln G0F zj3.ok hkr (λk hk=>zxd hk) ?_ (by simp) (z5d (by simp [hkM]) (by simp [hkA]) (by simp [hkB])) (by simp [zab,hkL,hkr]) (by simp [zab,hkL,hkr];rfl) ?_;focus (simp [ren,za1,zak,zan,hkr];done))|(refine zae tk G0F (B:=200) (zaq zxc.fx) (λk=>if k=100 then 448 else k) (λk hk=>if_neg (by omega)) ?_ (by simp) (by simp [fT];simp [hkT,jk1];kernel_rfl) (by simp [zab]) (by simp [zab];rfl) ?_;focus (simp [ren,za1,zak,zan];done))|(refine zae mo G0F (B:=200) (zaq (zol rfl)) (λk=>if k=100 then 1176 else k) (λk hk=>if_neg (by omega)) ?_ (by simp) (by simp [Blk.rn,zak,zan]) (by simp [zab]) (by simp [zab];rfl) ?_;focus (simp [ren,za1,zak,zan];done)));refine gwq hQ ?_)|refine gwC ?_ ?_<;>intro hb
 refine ⟨.inr trivial,?_⟩
 simp [results9]
theorem zkk (K:Value->Prop):za2 prog G0 9 #[] K↔K (.bool true):=zad G0W (by kernel_rfl) zra
section
variable {b:Blk} {off n:Nat} {w:Nat->Nat->Int}
theorem LB.wide (h:LB b off n w) {i e:Nat} (hi:i<n) (he:e<2):zc2 prog 30 b (off+i*14+4*e)=some (wd (w i e)):=by
 have hbrd:=Blk.fx_rd h.fx
 have:=jen (P:=prog) (T:=30) (m:=4) (j:=14*i+4*e) (za7 isAgg30) (zaj sizeOf30) (by omega) h.rd (by omega) (λq hq=>by unfold zhs;exact zij _ _)
 rw [show off+i*14+4*e=off+(14*i+4*e) by omega,this]
 refine congrArg some (congrArg Value.agg (zok (N:=4) rfl λj hj=>?_).symm)
 have h1:(14*i+4*e+j) / 14=i:=by omega
 have h2:(14*i+4*e+j)%14=4*e+j:=by omega
 unfold zhs
 rw [h1,h2]
 have a:e=0\/e=1:=by omega
 have c:j=0\/j=1\/j=2\/j=3:=by omega
 rcases a with rfl|rfl<;>rcases c with rfl|rfl|rfl|rfl<;>rfl
theorem LB.int (h:LB b off n w) {i q:Nat} (hi:i<n) (hq:q<6):zc2 prog 3 b (off+i*14+(8+q))=some (.int .i64 (if q<3 then w i (2+q) else w i (5+q))):=by
 have hbrd:=Blk.fx_rd h.fx
 have hv:zhs w (14*i+(8+q))=.int .i64 (if q<3 then w i (2+q) else w i (5+q)):=by
  unfold zhs
  rw [show (14*i+(8+q)) / 14=i by omega,show (14*i+(8+q))%14=8+q by omega]
  have:q=0\/q=1\/q=2\/q=3\/q=4\/q=5:=by omega
  rcases this with rfl|rfl|rfl|rfl|rfl|rfl<;>rfl
 have:=jeo (P:=prog) (T:=3) (j:=14*i+(8+q)) (za7 isAgg3) h.rd (by omega) (by rw [hv];rfl) (by rw [hv];rfl)
 rw [show off+i*14+(8+q)=off+(14*i+(8+q)) by omega,this,hv]
end
theorem lt3 {j:Nat} (h:j<3):j=0\/j=1\/j=2:=by omega
def bB (g:Nat->Bool):Blk:=⟨#[.bool (g 0),.bool (g 1),.bool (g 2),.bool (g 3),.bool (g 4),.bool (g 5),.bool (g 6)],.ty 62⟩
def lcC (c:Nat):Nat:=if c<3 then 2+c else if c<6 then 5+c else 0
def hcC (c:Nat):Nat:=if c<3 then 5+c else if c<6 then 8+c else 1
def stl (c:Nat):Nat:=if c<3 then 2+4*c else if c<6 then 4+4*(c - 3) else 0
def sth (c:Nat):Nat:=stl c+1
def zum (w:Nat->Nat->Int) (v:Nat->Int) (i c:Nat):Bool:=ztv w (lcC c) (v (lcC c)) i
def zt9 (w:Nat->Nat->Int) (v:Nat->Int) (i c:Nat):Bool:=ztv w (hcC c) (v (hcC c)) i
def zh7 (w:Nat->Nat->Int) (v:Nat->Int) (i k c:Nat):Bool:=if stl c<k then zum w v (i+1) c else zum w v i c
def zh6 (w:Nat->Nat->Int) (v:Nat->Int) (i k c:Nat):Bool:=if sth c<k then zt9 w v (i+1) c else zt9 w v i c
theorem zn7 {w:Nat->Nat->Int} {i c:Nat} {x:Int} (hf:zc1 (w i)=true):ztv w c x (i+1)=(ztv w c x i||decide (w i c=x)):=by
 show (ztv w c x i||(zc1 (w i)&&decide (w i c=x)))=_
 rw [hf,Bool.true_and]
theorem zn6 {w:Nat->Nat->Int} {i c:Nat} {x:Int} (hf:zc1 (w i)=false):ztv w c x (i+1)=ztv w c x i:=by
 show (ztv w c x i||(zc1 (w i)&&decide (w i c=x)))=_
 rw [hf,Bool.false_and,Bool.or_false]
theorem zgg {g g':Nat->Bool} (h:∀ c,c<7->g c=g' c):bB g=bB g':=by
 unfold bB
 rw [h 0 (by omega),h 1 (by omega),h 2 (by omega),h 3 (by omega),h 4 (by omega),h 5 (by omega),h 6 (by omega)]
theorem jgo {c:Nat} (h:c<7):stl c<14/\sth c<14:=by unfold sth stl;split<;>(try split)<;>omega
theorem z8l (w:Nat->Nat->Int) (v:Nat->Int) (i:Nat):bB (zh7 w v i 14)=bB (zum w v (i+1)):=zgg λc hc=>if_pos (jgo hc).1
theorem z7x (w:Nat->Nat->Int) (v:Nat->Int) (i:Nat):bB (zh6 w v i 14)=bB (zt9 w v (i+1)):=zgg λc hc=>if_pos (jgo hc).2
theorem zxy (w:Nat->Nat->Int) (v:Nat->Int) (i:Nat):zh7 w v i 0=zum w v i:=funext λc=>if_neg (Nat.not_lt_zero _)
theorem zw9 (w:Nat->Nat->Int) (v:Nat->Int) (i:Nat):zh6 w v i 0=zt9 w v i:=funext λc=>if_neg (Nat.not_lt_zero _)
theorem zxx {w:Nat->Nat->Int} {v:Nat->Int} {i:Nat} (hf:zc1 (w i)=false):bB (zum w v (i+1))=bB (zum w v i):=zgg λc hc=>zn6 hf
theorem zw8 {w:Nat->Nat->Int} {v:Nat->Int} {i:Nat} (hf:zc1 (w i)=false):bB (zt9 w v (i+1))=bB (zt9 w v i):=zgg λc hc=>zn6 hf
theorem zzy {a b:Int} (ha:wr a) (hb:wr b):(wi a 0==wi b 0&&(wi a 1==wi b 1&&(wi a 2==wi b 2&&wi a 3==wi b 3)))=decide (a=b):=by
 have:=weq a b
 rw [ze4 ha.1 ha.2,ze4 hb.1 hb.2] at this
 simpa using this
def tiS (b:Blk) (off n cap:Nat) (w:Nat->Nat->Int) (N:Int) (v:Nat->Int) (i k:Nat) (l:List (Nat×Value)) (fc:Nat) (B:Nat):GS :=
 ⟨tsL ([(0,.slice (some ⟨100,off,none⟩) n cap),(3,.pointer (some ⟨296,0,none⟩)),(4,.pointer (some ⟨312,0,none⟩)),(5,.pointer (some ⟨320,0,none⟩)),(6,.int .i64 fc),(7,.int .i64 i)]++l),hpL G0 [(296,zba N v),(312,bB (zh7 w v i k)),(320,bB (zh6 w v i k)),(100,b)],B,0⟩
theorem z3w {C:Ctx} {b:Blk} (hb:b.fx) {off n cap:Nat} {w:Nat->Nat->Int} {N:Int} {v:Nat->Int} {i k:Nat} {l:List (Nat×Value)} {fc B:Nat} {s:GS} (hC:C.G=G0) (h0:C.hp0=hpL G0 [(100,b)]) (hB:400<=B) (hl:∀ p∈l,∃ z,p.2=.int .i64 z)
  (ht:∀ p∈[(0,Value.slice (some ⟨100,off,none⟩) n cap),(3,.pointer (some ⟨296,0,none⟩)),(4,.pointer (some ⟨312,0,none⟩)),(5,.pointer (some ⟨320,0,none⟩)),(6,.int .i64 fc),(7,.int .i64 i)]++l,s.ts p.1=p.2) (a:s.hp 296=some (zba N v)) (c:s.hp 312=some (bB (zh7 w v i k))) (d:s.hp 320=some (bB (zh6 w v i k))) (e:s.hp 100=some b) (hy:s.yc=0):Weak C s (tiS b off n cap w N v i k l fc B):=by
 have hix:=λD=>Blk.fx_ids (zdd N v) D
 have hib:=λD=>Blk.fx_ids hb D
 unfold tiS
 have key:∀ y,s.yc=y->Weak C s ⟨tsL ([(0,.slice (some ⟨100,off,none⟩) n cap),(3,.pointer (some ⟨296,0,none⟩)),(4,.pointer (some ⟨312,0,none⟩)),(5,.pointer (some ⟨320,0,none⟩)),(6,.int .i64 fc),(7,.int .i64 i)]++l),hpL G0 [(296,zba N v),(312,bB (zh7 w v i k)),(320,bB (zh6 w v i k)),(100,b)],B,y⟩:=λy hy=>by
  subst hy
  refine za3 _ B hC G0F (m0:=[(100,b)]) h0 (by omega) (λp hp=>⟨ht p hp,?_⟩) ?_ ?_
  ·rcases List.mem_append.1 hp with h|h
   ·simp only [List.mem_cons,List.not_mem_nil,or_false] at h
    rcases h with rfl|rfl|rfl|rfl|rfl|rfl<;>simp [zap,za0,zah,zai,dom]
   ·obtain ⟨z,hz⟩:=hl p h
    rw [hz]
    simp [zap,za0,zah,zai]
  ·simp only [List.mem_cons,List.not_mem_nil,or_false,forall_eq_or_imp,forall_eq]
   exact ⟨⟨a,hix _,by omega,by omega⟩,⟨c,by simp [bB,zac,zah,zai],by omega,by omega⟩,⟨d,by simp [bB,zac,zah,zai],by omega,by omega⟩,e,hib _,by omega,by omega⟩
  ·simp [e]
 exact key 0 hy
theorem zlz (b:Blk) (off n cap:Nat) (w:Nat->Nat->Int) (hL:LB b off n w) (hn:n<1\/12<n) :
  Fun prog G0 6 #[.slice (some ⟨100,off,none⟩) n cap] (hpL G0 [(100,b)]) (zab [(100,b)]) (.ret (.bool true) []):=by
 refine zaw (B:=200) G0F func6 rfl call6 (zaq hL.fx) ?_ (zal (by simp)) (by simp) (by simp) (by simp [ntmps6]) (by omega) ?_
 ·simp [zap,za0,zah,zai,zab]
 intro C hC hC0 hY
 have wk:=zkk
 rcases hn with hn|hn
 ·have h1:(n:Int)<1:=by omega
  have h2:((n:Int)=0):=by omega
  repeat' first|refine gwZ ?_|(refine gwX ?_;intro Q hQ _;simp [hC,hY,wk,h1,h2];refine gwq hQ ?_)|refine gwC ?_ ?_<;>intro hb
  all_goals first|(refine ⟨.inr rfl,by simp [results6],kpS G0F⟩;done)|skip
 ·have h1:¬(n:Int)<1:=by omega
  have h2:(12:Int)<n:=by omega
  repeat' first|refine gwZ ?_|(refine gwX ?_;intro Q hQ _;simp [hC,hY,wk,h1,h2];refine gwq hQ ?_)|refine gwC ?_ ?_<;>intro hb
  refine ⟨.inr rfl,by simp [results6],kpS G0F⟩
theorem zl1 (b:Blk) (off n cap:Nat) (w:Nat->Nat->Int) (hL:LB b off n w) (hn1:1<=n) (hn2:n<=12) :
  Fun prog G0 6 #[.slice (some ⟨100,off,none⟩) n cap] (hpL G0 [(100,b)]) (zab [(100,b)]) (.ret (.bool true) []):=by
 refine zaw (B:=200) G0F func6 rfl call6 (zaq hL.fx) ?_ (zal (by simp)) (by simp) (by simp) (by simp [ntmps6]) (by omega) ?_
 ·simp [zap,za0,zah,zai,zab]
 intro C hC hC0 hY
 have wk:=zkk
 have hr:=λρ=>Blk.fx_rn hL.fx ρ
 have c1:¬(n:Int)<1:=by omega
 have c2:¬(12:Int)<n:=by omega
 have tk:=zom b off n cap w hL 0 (λ_=>0) (zlg 0 (by decide))
 have htk:jca ⟨0,λ_=>0⟩ w n=(⟨0,λ_=>0⟩:HS).tk w n:=if_pos z7y
 rw [htk] at tk
 have hN:=jjq (h:=⟨0,λ_=>0⟩) (w:=w) (n:=n) (by simp only;omega)
 have hti:=λc=>z3x (h:=⟨0,λ_=>0⟩) (w:=w) (n:=n) rfl (by omega) (c:=c)
 have hrg:=jgu (h:=⟨0,λ_=>0⟩) (w:=w) (n:=n) z7y (by simp only;omega) hL.ok
 have hHok:HOk ((⟨0,λ_=>0⟩:HS).tk w n).N ((⟨0,λ_=>0⟩:HS).tk w n).v:=by
  rw [z92 (h:=⟨0,λ_=>0⟩) (by decide) n]
  refine HOk.hq (h:=⟨0,λ_=>0⟩) (zlg 0 (by decide)) (by decide) (λi hi=>hL.ok1 (zxp hi).1) _ ?_ ?_
  ·rw [zfb];exact Nat.min_le_left _ _
  ·have:=zg8 w n
   unfold tkM
   simp only
   omega
 generalize (⟨0,λ_=>0⟩:HS).tk w n=H at *
 obtain ⟨N,v⟩:=H
 simp only at hN hti hHok
 unfold zop zfl zbp at tk
 simp only [zag] at tk
 have hle:=zg8 w n
 repeat' first|refine gwZ ?_|((first|refine gwR [16] ?_|refine gwD [16] ?_);intro Q hQ _;(repeat first|simp [hC,hY,wk,c1,c2]|refine zae tk G0F (B:=200) (zaq hL.fx) (λk=>k) (λk hk=>rfl) (by simp [ren,za1,zak,zan]) (by simp) (by simp [hr]) (by simp [zab]) (by simp [zab];rfl) ?_);refine gwq hQ ?_)|refine gwC ?_ ?_<;>intro hb
 have wks:=λ{s:GS} {i k:Nat} {l:List (Nat×Value)} {fc B:Nat} (hB:400<=B)=>z3w (s:=s) (i:=i) (k:=k) (l:=l) (fc:=fc) (w:=w) (N:=N) (v:=v) (off:=off) (n:=n) (cap:=cap) hL.fx hC hC0 hB
 refine zb1 n (λi=>tiS b off n cap w N v i 0 [] (zcy w i) 1000) ?_ ?_ ?_
 ·refine wks (by omega) (by simp) ?_ ?_ ?_ ?_ ?_ ?_
  ·simp [zcy]
  ·simp [zba,zbp]
  ·simp [bB,zh7,zum,ztv]
  ·simp [bB,zh6,zt9,ztv]
  ·simp
  ·rfl
 ·intro i hi
  have hi':(i:Int)<n:=by omega
  have hz:(0:Int)<=i:=by omega
  have hs:Int.bmod ((i:Int)+1) 18446744073709551616=((i+1:Nat):Int):=by rw [bm (by omega) (by omega)];rfl
  have ok1:=hL.ok1 hi
  have sl0:=ze4 ok1.w0.1 ok1.w0.2
  have sl1:=ze4 ok1.w1.1 ok1.w1.2
  have hl0:=hL.wide (e:=0) hi (by omega)
  have hl1:=hL.wide (e:=1) hi (by omega)
  simp only [Nat.mul_zero,Nat.add_zero,Nat.mul_one] at hl0 hl1
  unfold wd at hl0 hl1
  have hcp:(0<zby (w i 0) (w i 1))=(w i 1<w i 0):=zjw
  cases hf:zc1 (w i) with
  | false =>
   have hgt:w i 1<w i 0:=by have:=of_decide_eq_false hf;omega
   unfold tiS
   repeat' first|refine gwZ ?_|(refine gwX ?_;intro Q hQ _;simp [hC,hY,hi,hi',hz,hs,hl0,hl1,sl0,sl1,hcp,hgt];refine gwq hQ ?_)|refine gwC ?_ ?_<;>intro hb
   refine wks (by omega) (by simp) ?_ ?_ ?_ ?_ ?_ ?_
   ·simp [zdh,hf,hs]
   ·simp
   ·simp [zxy,zxx hf]
   ·simp [zw9,zw8 hf]
   ·simp
   ·rfl
  | true =>
   have hgt:¬w i 1<w i 0:=by have:=of_decide_eq_true hf;omega
   have hcs:((zcy w i+1:Nat):Int)=((zcy w (i+1):Nat):Int):=by rw [zdh,hf];rfl
   have hci:zcy w i<=i:=zg8 w i
   have hsc:Int.bmod ((zcy w i:Int)+1) 18446744073709551616=((zcy w (i+1):Nat):Int):=by rw [bm (by omega) (by omega),<-hcs];rfl
   have hq:∀ q,q<6->zc2 prog 3 b (off+i*14+(8+q))=some (.int .i64 (if q<3 then w i (2+q) else w i (5+q))):=λq h=>hL.int hi h
   have q0:=hq 0 (by omega)
   have q1:=hq 1 (by omega)
   have q2:=hq 2 (by omega)
   have q3:=hq 3 (by omega)
   have q4:=hq 4 (by omega)
   have q5:=hq 5 (by omega)
   simp only [Nat.reduceAdd,Nat.reduceLT,if_true,if_false,Nat.add_zero] at q0 q1 q2 q3 q4 q5
   have ro0:=ok1.r 0 (by omega)
   have ro1:=ok1.r 1 (by omega)
   have ro2:=ok1.r 2 (by omega)
   simp only [Nat.reduceAdd,Nat.add_zero] at ro0 ro1 ro2
   have hw0:=zzy ok1.w0 hHok.w0
   have hw1:=zzy ok1.w1 hHok.w1
   have el:∀ c,zum w v (i+1) c=(zum w v i c||decide (w i (lcC c)=v (lcC c))):=λc=>zn7 hf
   have eh:∀ c,zt9 w v (i+1) c=(zt9 w v i c||decide (w i (hcC c)=v (hcC c))):=λc=>zn7 hf
   refine zd4 (tiS b off n cap w N v i 0 [] (zcy w i) 1100) ?_ ?_
   ·unfold tiS
    repeat' first|refine gwZ ?_|(refine gwX ?_;intro Q hQ _;simp [hC,hY,hi,hi',hz];refine gwq hQ ?_)|refine gwC ?_ ?_<;>intro hb
    refine wks (by omega) (by simp) ?_ ?_ ?_ ?_ ?_ ?_<;>simp
   refine zd4 (tiS b off n cap w N v i 14 [] (zcy w (i+1)) 3000) ?_ ?_
   ·refine zge ?_
    refine zd4 (tiS b off n cap w N v i 0 [] (zcy w i) 1300) ?_ ?_
    ·unfold tiS
     repeat' first|refine gwZ ?_|(refine gwX ?_;intro Q hQ _;simp [hC,hY,hi,hi',hz,hl0,hl1,sl0,sl1,hcp,hgt];refine gwq hQ ?_)|refine gwC ?_ ?_<;>intro hb
     refine wks (by omega) (by simp) ?_ ?_ ?_ ?_ ?_ ?_<;>simp
    refine zd4 (tiS b off n cap w N v i 0 [] (zcy w (i+1)) 1400) ?_ ?_
    ·unfold tiS
     repeat' first|refine gwZ ?_|(refine gwX ?_;intro Q hQ _;simp [hC,hY,hsc];refine gwq hQ ?_)|refine gwC ?_ ?_<;>intro hb
     refine wks (by omega) (by simp) ?_ ?_ ?_ ?_ ?_ ?_<;>simp [hsc]
    refine zd4 (tiS b off n cap w N v i 1 [] (zcy w (i+1)) 1600) ?_ ?_
    ·have e6:=el 6
     generalize hS:tiS b off n cap w N v i 1 [] (zcy w (i+1)) 1600=S1
     unfold tiS bB zh7 zh6
     simp only [stl,sth,Nat.reduceAdd,Nat.reduceLT,Nat.reduceMul,Nat.reduceSub,if_true,if_false]
     cases hb0:zum w v i 6 with
     | true =>
      repeat' first|refine gwZ ?_|(refine gwX ?_;intro Q hQ _;simp [hC,hY,hb0];refine gwq hQ ?_)|refine gwC ?_ ?_<;>intro hb
      rw [<-hS]
      refine wks (by omega) (by simp) ?_ ?_ ?_ ?_ ?_ ?_<;>simp [bB,zh7,zh6,stl,sth,e6,hb0]
     | false =>
      unfold zba zbp
      repeat' first|refine gwZ ?_|(refine gwX ?_;intro Q hQ _;simp [hC,hY,hb0,hi,hi',hz,hl0,hl1,hw0];refine gwq hQ ?_)|refine gwC ?_ ?_<;>intro hb
      rw [<-hS]
      refine wks (by omega) (by simp) ?_ ?_ ?_ ?_ ?_ ?_<;>simp [zba,zbp,bB,zh7,zh6,stl,sth,e6,hb0,lcC]
    refine zd4 (tiS b off n cap w N v i 2 [] (zcy w (i+1)) 1800) ?_ ?_
    ·have e6:=eh 6
     generalize hS:tiS b off n cap w N v i 2 [] (zcy w (i+1)) 1800=S1
     unfold tiS bB zh7 zh6
     simp only [stl,sth,Nat.reduceAdd,Nat.reduceLT,Nat.reduceMul,Nat.reduceSub,if_true,if_false]
     cases hb0:zt9 w v i 6 with
     | true =>
      repeat' first|refine gwZ ?_|(refine gwX ?_;intro Q hQ _;simp [hC,hY,hb0];refine gwq hQ ?_)|refine gwC ?_ ?_<;>intro hb
      rw [<-hS]
      refine wks (by omega) (by simp) ?_ ?_ ?_ ?_ ?_ ?_<;>simp [bB,zh7,zh6,stl,sth,e6,hb0]
     | false =>
      unfold zba zbp
      repeat' first|refine gwZ ?_|(refine gwX ?_;intro Q hQ _;simp [hC,hY,hb0,hi,hi',hz,hl0,hl1,hw1];refine gwq hQ ?_)|refine gwC ?_ ?_<;>intro hb
      rw [<-hS]
      refine wks (by omega) (by simp) ?_ ?_ ?_ ?_ ?_ ?_<;>simp [zba,zbp,bB,zh7,zh6,stl,sth,e6,hb0,hcC]
    refine zd4 (tiS b off n cap w N v i 2 [(8,.int .i64 ((0:Nat):Int))] (zcy w (i+1)) 1900) ?_ ?_
    ·unfold tiS
     repeat' first|refine gwZ ?_|(refine gwX ?_;intro Q hQ _;simp [hC,hY,Int.ofNat_zero];refine gwq hQ ?_)|refine gwC ?_ ?_<;>intro hb
     refine wks (by omega) (by simp) ?_ ?_ ?_ ?_ ?_ ?_<;>simp
    refine zge ?_
    refine zb1 3 (λj=>tiS b off n cap w N v i (2+4*j) [(8,.int .i64 j)] (zcy w (i+1)) 1900) ?_ ?_ ?_
    ·refine wks (by omega) (by simp) ?_ ?_ ?_ ?_ ?_ ?_<;>simp [tiS]
    ·intro j hj
     have j3:(j:Int)<3:=by omega
     have jz:(0:Int)<=j:=by omega
     have js:Int.bmod ((j:Int)+1) 18446744073709551616=((j+1:Nat):Int):=by rw [bm (by omega) (by omega)];rfl
     refine zd4 (tiS b off n cap w N v i (2+4*j) [(8,.int .i64 j)] (zcy w (i+1)) 2000) ?_ ?_
     ·unfold tiS
      repeat' first|refine gwZ ?_|(refine gwX ?_;intro Q hQ _;simp [hC,hY,j3,jz];refine gwq hQ ?_)|refine gwC ?_ ?_<;>intro hb
      refine wks (by omega) (by simp) ?_ ?_ ?_ ?_ ?_ ?_<;>simp
     refine zd4 (tiS b off n cap w N v i (2+4*j+4) [(8,.int .i64 j)] (zcy w (i+1)) 2800) ?_ ?_
     ·refine zge ?_
      refine zd4 (tiS b off n cap w N v i (2+4*j+1) [(8,.int .i64 j)] (zcy w (i+1)) 2200) ?_ ?_
      ·have e6:=el (j)
       obtain ⟨bo,hb0⟩:∃ x,zum w v i (j)=x:=⟨_,rfl⟩
       generalize hS:tiS b off n cap w N v i (2+4*j+1) [(8,.int .i64 j)] (zcy w (i+1)) 2200=S1
       rw [hb0] at e6
       have h3:=lt3 hj
       unfold tiS bB zh7 zh6
       rcases h3 with rfl|rfl|rfl
       all_goals
        simp only [stl,sth,lcC,hcC,Nat.reduceAdd,Nat.reduceLT,Nat.reduceMul,Nat.reduceSub,if_true,if_false] at e6 hb0 |-
        cases bo with
        | true =>
         repeat' first|refine gwZ ?_|(refine gwX ?_;intro Q hQ _;simp [hC,hY,hb0,Int.ofNat_zero];refine gwq hQ ?_)|refine gwC ?_ ?_<;>intro hb
         rw [<-hS]
         refine wks (by omega) (by simp) ?_ ?_ ?_ ?_ ?_ ?_<;>simp [bB,zh7,zh6,stl,sth,e6,hb0]
        | false =>
         unfold zba zbp
         repeat' first|refine gwZ ?_|(refine gwX ?_;intro Q hQ _;simp [hC,hY,hb0,hi,hi',hz,q0,q1,q2,q3,q4,q5,Int.ofNat_zero];refine gwq hQ ?_)|refine gwC ?_ ?_<;>intro hb
         rw [<-hS]
         refine wks (by omega) (by simp) ?_ ?_ ?_ ?_ ?_ ?_<;>first|(simp [zba,zbp,bB,zh7,zh6,stl,sth,e6,hb0,ro0,ro1,ro2];done)|(simp [zba,zbp,bB,zh7,zh6,stl,sth,e6,hb0,ro0,ro1,ro2];rfl)
      refine zd4 (tiS b off n cap w N v i (2+4*j+2) [(8,.int .i64 j)] (zcy w (i+1)) 2400) ?_ ?_
      ·have e6:=eh (j)
       obtain ⟨bo,hb0⟩:∃ x,zt9 w v i (j)=x:=⟨_,rfl⟩
       generalize hS:tiS b off n cap w N v i (2+4*j+2) [(8,.int .i64 j)] (zcy w (i+1)) 2400=S1
       rw [hb0] at e6
       have h3:=lt3 hj
       unfold tiS bB zh7 zh6
       rcases h3 with rfl|rfl|rfl
       all_goals
        simp only [stl,sth,lcC,hcC,Nat.reduceAdd,Nat.reduceLT,Nat.reduceMul,Nat.reduceSub,if_true,if_false] at e6 hb0 |-
        cases bo with
        | true =>
         repeat' first|refine gwZ ?_|(refine gwX ?_;intro Q hQ _;simp [hC,hY,hb0,Int.ofNat_zero];refine gwq hQ ?_)|refine gwC ?_ ?_<;>intro hb
         rw [<-hS]
         refine wks (by omega) (by simp) ?_ ?_ ?_ ?_ ?_ ?_<;>simp [bB,zh7,zh6,stl,sth,e6,hb0]
        | false =>
         unfold zba zbp
         repeat' first|refine gwZ ?_|(refine gwX ?_;intro Q hQ _;simp [hC,hY,hb0,hi,hi',hz,q0,q1,q2,q3,q4,q5,Int.ofNat_zero];refine gwq hQ ?_)|refine gwC ?_ ?_<;>intro hb
         rw [<-hS]
         refine wks (by omega) (by simp) ?_ ?_ ?_ ?_ ?_ ?_<;>first|(simp [zba,zbp,bB,zh7,zh6,stl,sth,e6,hb0,ro0,ro1,ro2];done)|(simp [zba,zbp,bB,zh7,zh6,stl,sth,e6,hb0,ro0,ro1,ro2];rfl)
      refine zd4 (tiS b off n cap w N v i (2+4*j+3) [(8,.int .i64 j)] (zcy w (i+1)) 2600) ?_ ?_
      ·have e6:=el (3+j)
       obtain ⟨bo,hb0⟩:∃ x,zum w v i (3+j)=x:=⟨_,rfl⟩
       generalize hS:tiS b off n cap w N v i (2+4*j+3) [(8,.int .i64 j)] (zcy w (i+1)) 2600=S1
       rw [hb0] at e6
       have h3:=lt3 hj
       unfold tiS bB zh7 zh6
       rcases h3 with rfl|rfl|rfl
       all_goals
        simp only [stl,sth,lcC,hcC,Nat.reduceAdd,Nat.reduceLT,Nat.reduceMul,Nat.reduceSub,if_true,if_false] at e6 hb0 |-
        cases bo with
        | true =>
         repeat' first|refine gwZ ?_|(refine gwX ?_;intro Q hQ _;simp [hC,hY,hb0,Int.ofNat_zero];refine gwq hQ ?_)|refine gwC ?_ ?_<;>intro hb
         rw [<-hS]
         refine wks (by omega) (by simp) ?_ ?_ ?_ ?_ ?_ ?_<;>simp [bB,zh7,zh6,stl,sth,e6,hb0]
        | false =>
         unfold zba zbp
         repeat' first|refine gwZ ?_|(refine gwX ?_;intro Q hQ _;simp [hC,hY,hb0,hi,hi',hz,q0,q1,q2,q3,q4,q5,Int.ofNat_zero];refine gwq hQ ?_)|refine gwC ?_ ?_<;>intro hb
         rw [<-hS]
         refine wks (by omega) (by simp) ?_ ?_ ?_ ?_ ?_ ?_<;>first|(simp [zba,zbp,bB,zh7,zh6,stl,sth,e6,hb0,ro0,ro1,ro2];done)|(simp [zba,zbp,bB,zh7,zh6,stl,sth,e6,hb0,ro0,ro1,ro2];rfl)
      have e6:=eh (3+j)
      obtain ⟨bo,hb0⟩:∃ x,zt9 w v i (3+j)=x:=⟨_,rfl⟩
      generalize hS:tiS b off n cap w N v i (2+4*j+4) [(8,.int .i64 j)] (zcy w (i+1)) 2800=S1
      rw [hb0] at e6
      have h3:=lt3 hj
      unfold tiS bB zh7 zh6
      rcases h3 with rfl|rfl|rfl
      all_goals
       simp only [stl,sth,lcC,hcC,Nat.reduceAdd,Nat.reduceLT,Nat.reduceMul,Nat.reduceSub,if_true,if_false] at e6 hb0 |-
       cases bo with
       | true =>
        repeat' first|refine gwZ ?_|(refine gwX ?_;intro Q hQ _;simp [hC,hY,hb0,Int.ofNat_zero];refine gwq hQ ?_)|refine gwC ?_ ?_<;>intro hb
        rw [<-hS]
        refine wks (by omega) (by simp) ?_ ?_ ?_ ?_ ?_ ?_<;>simp [bB,zh7,zh6,stl,sth,e6,hb0]
       | false =>
        unfold zba zbp
        repeat' first|refine gwZ ?_|(refine gwX ?_;intro Q hQ _;simp [hC,hY,hb0,hi,hi',hz,q0,q1,q2,q3,q4,q5,Int.ofNat_zero];refine gwq hQ ?_)|refine gwC ?_ ?_<;>intro hb
        rw [<-hS]
        refine wks (by omega) (by simp) ?_ ?_ ?_ ?_ ?_ ?_<;>first|(simp [zba,zbp,bB,zh7,zh6,stl,sth,e6,hb0,ro0,ro1,ro2];done)|(simp [zba,zbp,bB,zh7,zh6,stl,sth,e6,hb0,ro0,ro1,ro2];rfl)
     ·unfold tiS
      repeat' first|refine gwZ ?_|(refine gwX ?_;intro Q hQ _;simp [hC,hY,js];refine gwq hQ ?_)|refine gwC ?_ ?_<;>intro hb
      refine wks (by omega) (by simp) ?_ ?_ ?_ ?_ ?_ ?_<;>simp [js,Nat.mul_add,Nat.add_assoc]
    ·unfold tiS
     repeat' first|refine gwZ ?_|refine gwW ?_|refine gwC ?_ ?_<;>intro hb
     simp only [if_true]
     refine wks (by omega) (by simp) ?_ ?_ ?_ ?_ ?_ ?_<;>simp
   ·unfold tiS
    repeat' first|refine gwZ ?_|(refine gwX ?_;intro Q hQ _;simp [hC,hY,hs];refine gwq hQ ?_)|refine gwC ?_ ?_<;>intro hb
    refine wks (by omega) (by simp) ?_ ?_ ?_ ?_ ?_ ?_
    ·simp [hs]
    ·simp
    ·simp [zxy,z8l]
    ·simp [zw9,z7x]
    ·simp
    ·rfl
 ·unfold tiS
  rw [zxy,zw9]
  have hNc:N=(zcy w n:Int):=by omega
  by_cases hc:zcy w n=0
  ·have hN0:N=0:=by omega
   subst hN0
   have hv0:=(z9n (h:=⟨0,v⟩) rfl).1 hrg
   simp only at hv0
   have v0:=hv0 0 (by omega)
   have v1:=hv0 1 (by omega)
   have v2:=hv0 2 (by omega)
   have v3:=hv0 3 (by omega)
   have v4:=hv0 4 (by omega)
   have v5:=hv0 5 (by omega)
   have v6:=hv0 6 (by omega)
   have v7:=hv0 7 (by omega)
   have v8:=hv0 8 (by omega)
   have v9:=hv0 9 (by omega)
   have v10:=hv0 10 (by omega)
   have v11:=hv0 11 (by omega)
   have v12:=hv0 12 (by omega)
   have v13:=hv0 13 (by omega)
   have hc0:((zcy w n:Nat):Int)=0:=by omega
   unfold zba zbp
   rw [v0,v1,v2,v3,v4,v5,v6,v7,v8,v9,v10,v11,v12,v13,hc0]
   simp only [zag]
   repeat' first|refine gwZ ?_|(refine gwX ?_;intro Q hQ _;simp [hC,hY,wk];refine gwq hQ ?_)|refine gwC ?_ ?_<;>intro hb
   refine ⟨.inr rfl,by simp [results6],kpS G0F⟩
  ·have hlo:bB (zum w v n)=bB λ_=>true:=zgg λc _=>zwr.2 (by obtain ⟨i,a,b,e⟩:=hti (lcC c) hc;exact ⟨i,a,b,e.symm⟩)
   have hhi:bB (zt9 w v n)=bB λ_=>true:=zgg λc _=>zwr.2 (by obtain ⟨i,a,b,e⟩:=hti (hcC c) hc;exact ⟨i,a,b,e.symm⟩)
   have hcz:¬((zcy w n:Nat):Int)=0:=by omega
   have hcy:(((zcy w n:Nat):Int)==0)=false:=by simpa using hc
   rw [hlo,hhi]
   unfold zba zbp bB
   rw [hNc]
   repeat' first|refine zam ?_|refine zar ?_|refine gwZ ?_|(refine gwX ?_;intro Q hQ _;simp [hC,hY,wk,hcz,hcy];refine gwq hQ ?_)|refine gwC ?_ ?_<;>intro hb
   refine ⟨.inr rfl,by simp [results6],kpS G0F⟩
theorem zl0 (b:Blk) (off n cap:Nat) (w:Nat->Nat->Int) (hL:LB b off n w) (hcap:n<=cap) :
  Fun prog G0 6 #[.slice (some ⟨100,off,none⟩) n cap] (hpL G0 [(100,b)]) (zab [(100,b)]) (.ret (.bool true) []):=by
 by_cases h:1<=n/\n<=12
 ·exact zl1 b off n cap w hL h.1 h.2
 ·exact zlz b off n cap w hL (by omega)
theorem zpx:Ret prog G0 6 #[.slice none 0 0] (.bool true):=by
 refine zas G0F func6 rfl call6 (by simp) (by simp) (by simp [ntmps6]) ?_
 intro C hC hC0 hY
 have wk:=zkk
 repeat' first|refine gwZ ?_|(refine gwX ?_;intro Q hQ _;simp [hC,hY,wk];refine gwq hQ ?_)|refine gwC ?_ ?_<;>intro hb
 refine ⟨.inr trivial,?_⟩
 simp [results6]
def twoB (sta stb:Int) (pa pb:Option Addr) (na capa nb capb:Nat):Blk:=⟨#[.int .i64 sta,.slice pa na capa,.int .i64 stb,.slice pb nb capb],.ty 27⟩
def gsL (L:List (Nat×Blk)) (sta stb:Int) (pa pb:Option Addr) (na capa nb capb:Nat):List (Nat×Blk):=(256,twoB sta stb pa pb na capa nb capb)::L
section
variable {L:List (Nat×Blk)} {p pa pb:Option Addr} {n cap na capa nb capb:Nat} {g bx tp nr md sta stb:Int}
theorem gsL_ok (hT:LAny L) (h2:SlI L pa) (h3:SlI L pb):LOk (gsL L sta stb pa pb na capa nb capb) 300:=by
 have hL:=hT.ok
 have h9:∀ q,200<=q->q∉zab L:=λq hq h=>by
  obtain ⟨p,hp,e⟩:=zaf.1 h
  have:=hL.big p hp
  omega
 refine ⟨?_,?_,?_⟩
 ·intro p hp
  simp only [gsL,List.mem_cons] at hp
  rcases hp with rfl|hp
  ·simp
  ·have:=hL.big p hp;omega
 ·show (256::zab L).Nodup
  simp only [List.nodup_cons]
  exact ⟨h9 256 (by omega),hL.one⟩
 ·intro q hq
  have up:∀ {v:Value},zah (λk=>k∈zab L) v->zah (λk=>k∈zab (gsL L sta stb pa pb na capa nb capb)) v:=λ{v} h=>zf4 (λk hk=>List.mem_cons_of_mem _ hk) h
  have u2:=up (h2 na capa)
  have u3:=up (h3 nb capb)
  simp only [gsL,List.mem_cons] at hq
  rcases hq with rfl|hq
  ·simp only [twoB]
   refine Blk.ids_of λx hx=>?_
   simp at hx
   rcases hx with rfl|rfl|rfl|rfl
   ·simp [zah,zai]
   ·exact u2
   ·simp [zah,zai]
   ·exact u3
  ·exact Blk.fx_ids (hT.fx q hq) _
def grS (L:List (Nat×Blk)) (p pa pb:Option Addr) (n cap na capa nb capb:Nat) (g bx tp nr md sta stb:Int) (i:Nat):GS :=
 ⟨tsL [(1,.slice (some ⟨256,0,none⟩) 2 2),(2,.pointer (some ⟨300,0,none⟩)),(4,.bool false),(5,.int .i64 i)],hpL G0 ([(300,cfB (.slice p n cap) g bx tp nr md)]++gsL L sta stb pa pb na capa nb capb),400,0⟩
theorem grS_weak {C:Ctx} (hT:LAny L) (h1:SlI L p) (h2:SlI L pa) (h3:SlI L pb) {s:GS} (hC:C.G=G0) (h0:C.hp0=hpL G0 (gsL L sta stb pa pb na capa nb capb)) {i:Nat}
  (t1:s.ts 1=.slice (some ⟨256,0,none⟩) 2 2) (t2:s.ts 2=.pointer (some ⟨300,0,none⟩)) (t4:s.ts 4=.bool false) (t5:s.ts 5=.int .i64 i) (a:s.hp 300=some (cfB (.slice p n cap) g bx tp nr md)) (b:∀ q∈gsL L sta stb pa pb na capa nb capb,s.hp q.1=some q.2) (hy:s.yc=0):Weak C s (grS L p pa pb n cap na capa nb capb g bx tp nr md sta stb i):=by
 have hLs:=gsL_ok (sta:=sta) (stb:=stb) (na:=na) (capa:=capa) (nb:=nb) (capb:=capb) hT h2 h3
 have d6:dom (hpL G0 ([(300,cfB (.slice p n cap) g bx tp nr md)]++gsL L sta stb pa pb na capa nb capb)) 256:=zqb (by simp [gsL,zab])
 unfold grS
 have key:∀ y,s.yc=y->Weak C s ⟨tsL [(1,.slice (some ⟨256,0,none⟩) 2 2),(2,.pointer (some ⟨300,0,none⟩)),(4,.bool false),(5,.int .i64 i)],hpL G0 ([(300,cfB (.slice p n cap) g bx tp nr md)]++gsL L sta stb pa pb na capa nb capb),400,y⟩:=λy hy=>by
  subst hy
  refine za3 _ 400 hC G0F (m0:=gsL L sta stb pa pb na capa nb capb) h0 (by omega) ?_ ?_ ?_
  ·simp only [List.mem_cons,List.not_mem_nil,or_false,forall_eq_or_imp,forall_eq]
   exact ⟨⟨t1,by simpa [zap,za0,zah,zai] using d6⟩,⟨t2,by simp [zap,za0,zah,zai,dom]⟩,⟨t4,by simp [zap,za0,zah,zai]⟩,t5,by simp [zap,za0,zah,zai]⟩
  ·intro q hq
   rcases List.mem_append.1 hq with h|h
   ·simp only [List.mem_singleton] at h
    subst h
    refine ⟨a,?_,by simp,by simp⟩
    simp only [cfB]
    refine Blk.ids_of λx hx=>?_
    simp at hx
    rcases hx with rfl|rfl|rfl|rfl|rfl|rfl
    ·exact zf4 (λk hk=>zqb (List.mem_cons_of_mem _ hk)) (h1 n cap)
    all_goals simp [zah,zai]
   ·have hb:=hLs.big q h
    exact ⟨b q h,Blk.ids_mono (λk hk=>zqb hk) (hLs.ids q h),hb.1,by omega⟩
  ·intro q hq
   have hb:=hLs.big q hq
   refine ⟨hb.1,?_⟩
   rw [b q hq]
   show upd (hpL G0 (gsL L sta stb pa pb na capa nb capb)) 300 _ q.1=_
   unfold upd
   rw [if_neg (by omega)]
   exact LOk.at hLs.one q hq
 exact key 0 hy
theorem great24_fun (hT:LAny L) (h1:SlI L p) (h2:SlI L pa) (h3:SlI L pb) :
  Fun prog G0 8 #[cfV (.slice p n cap) g bx tp nr md,.slice (some ⟨256,0,none⟩) 2 2] (hpL G0 (gsL L sta stb pa pb na capa nb capb)) (zab (gsL L sta stb pa pb na capa nb capb)) (.ret (.bool (decide (9<na)||decide (9<nb)||decide (9<n))) []):=by
 have hLs:=gsL_ok (sta:=sta) (stb:=stb) (na:=na) (capa:=capa) (nb:=nb) (capb:=capb) hT h2 h3
 refine zaw (B:=300) G0F func8 rfl call8 hLs ?_ (by simp) (by simp) (by simp) (by simp [ntmps8]) (by omega) ?_
 ·have u1:zah (λk=>k∈zab (gsL L sta stb pa pb na capa nb capb)) (.slice p n cap):=zf4 (λk hk=>List.mem_cons_of_mem _ hk) (h1 n cap)
  intro x hx
  simp at hx
  rcases hx with rfl|rfl
  ·simp only [cfV,zap,za0]
   intro x hx
   simp at hx
   rcases hx with rfl|rfl|rfl|rfl|rfl|rfl
   ·exact u1
   all_goals simp [zah,zai]
  ·simp [zap,za0,zah,zai,gsL,zab]
 intro C hC hC0 hY
 have hLow:=hLs.low (G:=G0)
 have hx2:∀ {hp:Hp},(∀ q,q≠300->hp q=hpL G0 (gsL L sta stb pa pb na capa nb capb) q)->∀ q∈gsL L sta stb pa pb na capa nb capb,hp q.1=some q.2:=λh q hq=>by
  have:=hLs.big q hq
  rw [h _ (by omega)];exact LOk.at hLs.one q hq
 have fin:∀ {hp:Hp},(∀ q,q≠300->hp q=hpL G0 (gsL L sta stb pa pb na capa nb capb) q)->∀ k,dom (hpL G0 (gsL L sta stb pa pb na capa nb capb)) k->hp k=hpL G0 (gsL L sta stb pa pb na capa nb capb) k:=λh=>zb6 G0F (λq hq=>h _ (by have:=hLs.big q hq;omega)) (λk hk=>h _ (by omega))
 have gs:∀ q,q≠300->hpL G0 ([(300,cfB (.slice p n cap) g bx tp nr md)]++gsL L sta stb pa pb na capa nb capb) q=hpL G0 (gsL L sta stb pa pb na capa nb capb) q:=λq h=>by
  show upd (hpL G0 (gsL L sta stb pa pb na capa nb capb)) 300 _ q=_
  unfold upd
  rw [if_neg h]
 have w:=λ{s:GS} {i:Nat}=>grS_weak (s:=s) (i:=i) (p:=p) (n:=n) (cap:=cap) (g:=g) (bx:=bx) (tp:=tp) (nr:=nr) (md:=md) (sta:=sta) (stb:=stb) (na:=na) (capa:=capa) (nb:=nb) (capb:=capb) hT h1 h2 h3 hC hC0
 unfold cfV
 by_cases c1:9<na
 ·have c1':(9:Int)<(na:Int):=by omega
  rw [decide_eq_true c1,Bool.true_or,Bool.true_or]
  repeat' first|refine gwZ ?_|refine gwW ?_|refine gwC ?_ ?_<;>intro hb
  refine zb1 0 (λi=>grS L p pa pb n cap na capa nb capb g bx tp nr md sta stb i) ?_ (λi hi=>by omega) ?_
  ·exact w rfl rfl rfl rfl rfl (hx2 λq hq=>if_neg hq) rfl
  ·unfold grS gsL twoB
   repeat' first|refine gwZ ?_|(refine gwX ?_;intro Q hQ _;simp [hC,hY,c1'];refine gwq hQ ?_)|refine gwC ?_ ?_<;>intro hb
   refine ⟨.inr rfl,by simp [results8],fin gs⟩
 ·have c1':¬(9:Int)<(na:Int):=by omega
  rw [decide_eq_false c1,Bool.false_or]
  by_cases c2:9<nb
  ·have c2':(9:Int)<(nb:Int):=by omega
   rw [decide_eq_true c2,Bool.true_or]
   repeat' first|refine gwZ ?_|refine gwW ?_|refine gwC ?_ ?_<;>intro hb
   refine zb1 1 (λi=>grS L p pa pb n cap na capa nb capb g bx tp nr md sta stb i) ?_ (λi hi=>?_) ?_
   ·exact w rfl rfl rfl rfl rfl (hx2 λq hq=>if_neg hq) rfl
   ·obtain rfl:i=0:=by omega
    unfold grS gsL twoB
    repeat' first|refine gwZ ?_|(refine gwX ?_;intro Q hQ _;simp [hC,hY,c1'];refine gwq hQ ?_)|refine gwC ?_ ?_<;>intro hb
    exact w rfl rfl rfl rfl rfl (hx2 gs) rfl
   ·unfold grS gsL twoB
    repeat' first|refine gwZ ?_|(refine gwX ?_;intro Q hQ _;simp [hC,hY,c2'];refine gwq hQ ?_)|refine gwC ?_ ?_<;>intro hb
    refine ⟨.inr rfl,by simp [results8],fin gs⟩
  ·have c2':¬(9:Int)<(nb:Int):=by omega
   rw [decide_eq_false c2,Bool.false_or]
   repeat' first|refine gwZ ?_|refine gwW ?_|refine gwC ?_ ?_<;>intro hb
   refine zb1 2 (λi=>grS L p pa pb n cap na capa nb capb g bx tp nr md sta stb i) ?_ (λi hi=>?_) ?_
   ·exact w rfl rfl rfl rfl rfl (hx2 λq hq=>if_neg hq) rfl
   ·have:i=0\/i=1:=by omega
    unfold grS gsL twoB
    rcases this with rfl|rfl
    ·
     repeat' first|refine gwZ ?_|(refine gwX ?_;intro Q hQ _;simp [hC,hY,c1'];refine gwq hQ ?_)|refine gwC ?_ ?_<;>intro hb
     exact w rfl rfl rfl rfl rfl (hx2 gs) rfl
    ·
     repeat' first|refine gwZ ?_|(refine gwX ?_;intro Q hQ _;simp [hC,hY,c2'];refine gwq hQ ?_)|refine gwC ?_ ?_<;>intro hb
     exact w rfl rfl rfl rfl rfl (hx2 gs) rfl
   ·unfold grS gsL twoB cfB
    by_cases c3:9<n
    ·have c3':(9:Int)<(n:Int):=by omega
     rw [decide_eq_true c3]
     repeat' first|refine gwZ ?_|(refine gwX ?_;intro Q hQ _;simp [hC,hY,c3'];refine gwq hQ ?_)|refine gwC ?_ ?_<;>intro hb
     refine ⟨.inr rfl,by simp [results8],fin gs⟩
    ·have c3':¬(9:Int)<(n:Int):=by omega
     rw [decide_eq_false c3]
     repeat' first|refine gwZ ?_|(refine gwX ?_;intro Q hQ _;simp [hC,hY,c3'];refine gwq hQ ?_)|refine gwC ?_ ?_<;>intro hb
     refine ⟨.inr rfl,by simp [results8],fin gs⟩
end
theorem rwidth_small (lo hi:Int) (hl:wr lo) (hh:wr hi) (h0:lo<=hi) (h1:i64 (hi - lo)):Ret prog G0 25 #[spV lo hi] (.tuple #[.int .i64 (hi - lo),.bool true]):=by
 have w:=zdf h1
 have h:=jb2 lo hi _ _ _ (z4k hh) (z4k hl) (zqs w (by omega))
 rw [zci w] at h
 have c:i64 (hi - lo)/\0<=hi - lo/\(decide (hi<0) != decide (lo<0)&&false != decide (hi<0))=false:=by
  refine ⟨h1,by omega,?_⟩
  by_cases a:hi<0
  ·have b:lo<0:=by omega
   simp [a,b]
  ·simp [a]
 rw [if_pos c,decide_eq_true c] at h
 exact h
theorem hold_0 {lo hi:Int} (a:wr lo) (b:wr hi) (h:lo<=0) (h2:0<=hi):zoo lo hi 0=true:=by
 unfold zoo
 rw [zci a,zci b,zci (show wr 0 by unfold wr;omega)]
 unfold zby
 have e1:(if lo<0 then (-1:Int) else if lo=0 then 0 else 1)<=0:=by
  split
  ·decide
  ·rw [if_pos (by omega)];decide
 have e2:(if (0:Int)<hi then (-1:Int) else if 0=hi then 0 else 1)<=0:=by
  split
  ·decide
  ·rw [if_pos (by omega)];decide
 rw [decide_eq_true e1,decide_eq_true e2]
 rfl
theorem LAny.gs {L:List (Nat×Blk)} (hT:LAny L) {sta stb:Int} {pa pb:Option Addr} {na capa nb capb:Nat} {hp:Hp} (a:hp 256=some (twoB sta stb pa pb na capa nb capb)) (d:∀ q∈L,hp q.1=some q.2):∀ q∈gsL L sta stb pa pb na capa nb capb,hp q.1=some q.2:=λq hq=>by
 simp only [gsL,List.mem_cons] at hq
 rcases hq with rfl|hq
 ·exact a
 ·exact d q hq
section
variable {L:List (Nat×Blk)} {p pa pb:Option Addr} {n cap na capa nb capb:Nat} {g bx tp nr md sta stb:Int}
theorem HullLoss_great (hT:LAny L) (h1:SlI L p) (h2:SlI L pa) (h3:SlI L pb) (hgr:(decide (9<na)||decide (9<nb)||decide (9<n))=true) :
  Fun prog G0 4 #[cfV (.slice p n cap) g bx tp nr md,.agg #[.int .i64 sta,.slice pa na capa],.agg #[.int .i64 stb,.slice pb nb capb]] (hpL G0 L) (zab L) (.ret (.bool true) []):=by
 refine zaw (B:=200) G0F func4 rfl call4 hT.ok (zwa h1 h2 h3) (zal (by simp)) (by simp) (by simp) (by simp [ntmps4]) (by omega) ?_
 intro C hC hC0 hY
 have hLow:=hT.low
 have wk:=zkk
 have hG:=great24_fun (n:=n) (cap:=cap) (g:=g) (bx:=bx) (tp:=tp) (nr:=nr) (md:=md) (sta:=sta) (stb:=stb) (na:=na) (capa:=capa) (nb:=nb) (capb:=capb) hT h1 h2 h3
 have hGs:=gsL_ok (sta:=sta) (stb:=stb) (na:=na) (capa:=capa) (nb:=nb) (capb:=capb) hT h2 h3
 rw [hgr] at hG
 unfold cfV at hG |-
 repeat' first|refine gwZ ?_|((first|refine gwR [8] ?_|refine gwD [8] ?_);intro Q hQ _;(repeat first|simp [hC,hY,wk]|refine zr2 hG hGs (hT.gs (by simp [twoB]) zel) ?_);refine gwq hQ ?_)|refine gwC ?_ ?_<;>intro hb
 refine ⟨.inr rfl,by simp [results4],kpT G0F⟩
theorem HullLoss_unfit (hT:LAny L) (h1:SlI L p) (h2:SlI L pa) (h3:SlI L pb) (hgr:(decide (9<na)||decide (9<nb)||decide (9<n))=false) {fa fb:Bool} (hf:(fa&&fb)=false)
  (hFa:Fun prog G0 22 #[cfV (.slice p n cap) g bx tp nr md,.agg #[.int .i64 sta,.slice pa na capa]] (hpL G0 L) (zab L) (.ret (.bool fa) []))
  (hFb:Fun prog G0 22 #[cfV (.slice p n cap) g bx tp nr md,.agg #[.int .i64 stb,.slice pb nb capb]] (hpL G0 L) (zab L) (.ret (.bool fb) [])) :
  Fun prog G0 4 #[cfV (.slice p n cap) g bx tp nr md,.agg #[.int .i64 sta,.slice pa na capa],.agg #[.int .i64 stb,.slice pb nb capb]] (hpL G0 L) (zab L) (.ret (.bool true) []):=by
 refine zaw (B:=200) G0F func4 rfl call4 hT.ok (zwa h1 h2 h3) (zal (by simp)) (by simp) (by simp) (by simp [ntmps4]) (by omega) ?_
 intro C hC hC0 hY
 have hLow:=hT.low
 have wk:=zkk
 have hG:=great24_fun (n:=n) (cap:=cap) (g:=g) (bx:=bx) (tp:=tp) (nr:=nr) (md:=md) (sta:=sta) (stb:=stb) (na:=na) (capa:=capa) (nb:=nb) (capb:=capb) hT h1 h2 h3
 have hGs:=gsL_ok (sta:=sta) (stb:=stb) (na:=na) (capa:=capa) (nb:=nb) (capb:=capb) hT h2 h3
 rw [hgr] at hG
 unfold cfV at hG hFa hFb |-
 cases fa with
 | false =>
  repeat' first|refine gwZ ?_|((first|refine gwR [8,22] ?_|refine gwD [8,22] ?_);intro Q hQ _;(repeat first|simp [hC,hY,wk]|refine zr2 hG hGs (hT.gs (by simp [twoB]) zel) ?_|refine zbv hFa hT.ok zel ?_);refine gwq hQ ?_)|refine gwC ?_ ?_<;>intro hb
  refine ⟨.inr rfl,by simp [results4],kpT G0F⟩
 | true =>
  obtain rfl:fb=false:=by simpa using hf
  repeat' first|refine gwZ ?_|((first|refine gwR [8,22] ?_|refine gwD [8,22] ?_);intro Q hQ _;(repeat first|simp [hC,hY,wk]|refine zr2 hG hGs (hT.gs (by simp [twoB]) zel) ?_|refine zbv hFa hT.ok zel ?_|refine zbv hFb hT.ok zel ?_);refine gwq hQ ?_)|refine gwC ?_ ?_<;>intro hb
  refine ⟨.inr rfl,by simp [results4],kpT G0F⟩
theorem HullLoss_err (hT:LAny L) (h1:SlI L p) (h2:SlI L pa) (h3:SlI L pb) (hgr:(decide (9<na)||decide (9<nb)||decide (9<n))=false) {xl xh yl yh e f:Int} (hef:¬(e=0/\f=0))
  (hFa:Fun prog G0 22 #[cfV (.slice p n cap) g bx tp nr md,.agg #[.int .i64 sta,.slice pa na capa]] (hpL G0 L) (zab L) (.ret (.bool true) []))
  (hFb:Fun prog G0 22 #[cfV (.slice p n cap) g bx tp nr md,.agg #[.int .i64 stb,.slice pb nb capb]] (hpL G0 L) (zab L) (.ret (.bool true) []))
  (hEa:Fun prog G0 23 #[cfV (.slice p n cap) g bx tp nr md,.agg #[.int .i64 sta,.slice pa na capa]] (hpL G0 L) (zab L) (.ret (.tuple #[spV xl xh,.int .i64 e]) []))
  (hEb:Fun prog G0 23 #[cfV (.slice p n cap) g bx tp nr md,.agg #[.int .i64 stb,.slice pb nb capb]] (hpL G0 L) (zab L) (.ret (.tuple #[spV yl yh,.int .i64 f]) []))
  (hLab:Fun prog G0 10 #[cfV (.slice p n cap) g bx tp nr md,.agg #[.int .i64 sta,.slice pa na capa],.agg #[.int .i64 stb,.slice pb nb capb]] (hpL G0 L) (zab L) (.ret (.tuple #[zcv λ_=>0,.int .i64 30]) []))
  (hLba:Fun prog G0 10 #[cfV (.slice p n cap) g bx tp nr md,.agg #[.int .i64 stb,.slice pb nb capb],.agg #[.int .i64 sta,.slice pa na capa]] (hpL G0 L) (zab L) (.ret (.tuple #[zcv λ_=>0,.int .i64 30]) [])) :
  Fun prog G0 4 #[cfV (.slice p n cap) g bx tp nr md,.agg #[.int .i64 sta,.slice pa na capa],.agg #[.int .i64 stb,.slice pb nb capb]] (hpL G0 L) (zab L) (.ret (.bool true) []):=by
 refine zaw (B:=200) G0F func4 rfl call4 hT.ok (zwa h1 h2 h3) (zal (by simp)) (by simp) (by simp) (by simp [ntmps4]) (by omega) ?_
 intro C hC hC0 hY
 have hLow:=hT.low
 have wk:=zkk
 have hG:=great24_fun (n:=n) (cap:=cap) (g:=g) (bx:=bx) (tp:=tp) (nr:=nr) (md:=md) (sta:=sta) (stb:=stb) (na:=na) (capa:=capa) (nb:=nb) (capb:=capb) hT h1 h2 h3
 have hGs:=gsL_ok (sta:=sta) (stb:=stb) (na:=na) (capa:=capa) (nb:=nb) (capb:=capb) hT h2 h3
 rw [hgr] at hG
 unfold cfV at hG hFa hFb hEa hEb hLab hLba |-
 unfold spV at hEa hEb
 unfold zcv at hLab hLba
 simp only [zag] at hLab hLba
 by_cases he:e=0
 ·have hf:¬f=0:=λh=>hef ⟨he,h⟩
  subst he
  have hf2:(f != 0)=true:=by simpa using hf
  repeat' first|refine gwZ ?_|((first|refine gwR [8,22,23,10] ?_|refine gwD [8,22,23,10] ?_);intro Q hQ _;(repeat first|simp [hC,hY,wk,hf,hf2]|refine zr2 hG hGs (hT.gs (by simp [twoB]) zel) ?_|refine zbv hFa hT.ok zel ?_|refine zbv hFb hT.ok zel ?_|refine zbv hEa hT.ok zel ?_|refine zbv hEb hT.ok zel ?_|refine zbv hLab hT.ok zel ?_|refine zbv hLba hT.ok zel ?_);refine gwq hQ ?_)|refine gwC ?_ ?_<;>intro hb
  refine ⟨.inr rfl,by simp [results4],kpT G0F⟩
 ·have he2:(e != 0)=true:=by simpa using he
  repeat' first|refine gwZ ?_|((first|refine gwR [8,22,23,10] ?_|refine gwD [8,22,23,10] ?_);intro Q hQ _;(repeat first|simp [hC,hY,wk,he,he2]|refine zr2 hG hGs (hT.gs (by simp [twoB]) zel) ?_|refine zbv hFa hT.ok zel ?_|refine zbv hFb hT.ok zel ?_|refine zbv hEa hT.ok zel ?_|refine zbv hEb hT.ok zel ?_|refine zbv hLab hT.ok zel ?_|refine zbv hLba hT.ok zel ?_);refine gwq hQ ?_)|refine gwC ?_ ?_<;>intro hb
  refine ⟨.inr rfl,by simp [results4],kpT G0F⟩
end
section
variable {L:List (Nat×Blk)} {p pa pb:Option Addr} {n cap na capa nb capb:Nat} {g bx tp nr md sta stb:Int}
def hlB (lo hi p0 p1 p2 q0 q1 q2:Int):Blk:=⟨#[.int .u64 (wi lo 0),.int .u64 (wi lo 1),.int .u64 (wi lo 2),.int .u64 (wi lo 3),.int .u64 (wi hi 0),.int .u64 (wi hi 1),.int .u64 (wi hi 2),.int .u64 (wi hi 3),.int .i64 p0,.int .i64 p1,.int .i64 p2,.int .i64 q0,.int .i64 q1,.int .i64 q2],.ty 38⟩
theorem hlB_fx (lo hi p0 p1 p2 q0 q1 q2:Int):(hlB lo hi p0 p1 p2 q0 q1 q2).fx:=λx hx=>by
 simp only [hlB,List.mem_toArray,List.mem_cons,List.not_mem_nil,or_false] at hx
 rcases hx with rfl|rfl|rfl|rfl|rfl|rfl|rfl|rfl|rfl|rfl|rfl|rfl|rfl|rfl<;>rfl
def hlS (L:List (Nat×Blk)) (p pa:Option Addr) (n cap na capa:Nat) (g bx tp nr md sta:Int) (bl bk:Blk) (i:Nat):GS :=
 ⟨tsL [(3,.pointer (some ⟨200,0,none⟩)),(4,.pointer (some ⟨208,0,none⟩)),(6,.bool false),(11,.pointer (some ⟨568,0,none⟩)),(13,.pointer (some ⟨648,0,none⟩)),(27,.int .i64 i)],hpL G0 ([(200,cfB (.slice p n cap) g bx tp nr md),(208,stP sta pa na capa),(568,bl),(648,bk)]++L),1500,0⟩
theorem hlS_weak {C:Ctx} (hT:LAny L) (h1:SlI L p) (h2:SlI L pa) {s:GS} (hC:C.G=G0) (h0:C.hp0=hpL G0 L) {bl bk:Blk} (fl:bl.fx) (fk:bk.fx) {i:Nat}
  (t3:s.ts 3=.pointer (some ⟨200,0,none⟩)) (t4:s.ts 4=.pointer (some ⟨208,0,none⟩)) (t6:s.ts 6=.bool false) (t11:s.ts 11=.pointer (some ⟨568,0,none⟩)) (t13:s.ts 13=.pointer (some ⟨648,0,none⟩)) (t27:s.ts 27=.int .i64 i)
  (a:s.hp 200=some (cfB (.slice p n cap) g bx tp nr md)) (b:s.hp 208=some (stP sta pa na capa)) (c:s.hp 568=some bl) (d:s.hp 648=some bk) (e:∀ q∈L,s.hp q.1=some q.2) (hy:s.yc=0):Weak C s (hlS L p pa n cap na capa g bx tp nr md sta bl bk i):=by
 have up:∀ {v:Value},zah (λk=>k∈zab L) v->zah (dom (hpL G0 ([(200,cfB (.slice p n cap) g bx tp nr md),(208,stP sta pa na capa),(568,bl),(648,bk)]++L))) v:=λ{v} h=>zf4 (λk hk=>zqb hk) h
 have u1:=up (h1 n cap)
 have u2:=up (h2 na capa)
 unfold hlS
 have key:∀ y,s.yc=y->Weak C s ⟨tsL [(3,.pointer (some ⟨200,0,none⟩)),(4,.pointer (some ⟨208,0,none⟩)),(6,.bool false),(11,.pointer (some ⟨568,0,none⟩)),(13,.pointer (some ⟨648,0,none⟩)),(27,.int .i64 i)],hpL G0 ([(200,cfB (.slice p n cap) g bx tp nr md),(208,stP sta pa na capa),(568,bl),(648,bk)]++L),1500,y⟩:=λy hy=>by
  subst hy
  refine zlt _ 1500 hC G0F hT.ok hT.fx h0 (by omega) ?_ ?_ e
  ·simp only [List.mem_cons,List.not_mem_nil,or_false,forall_eq_or_imp,forall_eq]
   exact ⟨⟨t3,by simp [zap,za0,zah,zai,dom]⟩,⟨t4,by simp [zap,za0,zah,zai,dom]⟩,⟨t6,by simp [zap,za0,zah,zai]⟩,⟨t11,by simp [zap,za0,zah,zai,dom]⟩,⟨t13,by simp [zap,za0,zah,zai,dom]⟩,t27,by simp [zap,za0,zah,zai]⟩
  ·simp only [List.mem_cons,List.not_mem_nil,or_false,forall_eq_or_imp,forall_eq]
   refine ⟨⟨a,?_,by omega,by omega⟩,⟨b,?_,by omega,by omega⟩,⟨c,Blk.fx_ids fl _,by omega,by omega⟩,d,Blk.fx_ids fk _,by omega,by omega⟩
   ·simp only [cfB] at u1 |-
    refine Blk.ids_of λx hx=>?_
    simp at hx
    rcases hx with rfl|rfl|rfl|rfl|rfl|rfl
    ·exact u1
    all_goals simp [zah,zai]
   ·simp only [stP] at u2 |-
    refine Blk.ids_of λx hx=>?_
    simp at hx
    rcases hx with rfl|rfl
    ·simp [zah,zai]
    ·exact u2
 exact key 0 hy
theorem HullLoss_ok (hT:LAny L) (h1:SlI L p) (h2:SlI L pa) (h3:SlI L pb) (hgr:(decide (9<na)||decide (9<nb)||decide (9<n))=false) {xl xh yl yh p0 p1 p2 q0 q1 q2 m:Int}
  (hx:xl<=xh) (hy:yl<=yh) (bx0:-1000000000000000000000000000000000000000000000000<=xl) (bx1:xh<=1000000000000000000000000000000000000000000000000) (by0:-1000000000000000000000000000000000000000000000000<=yl) (by1:yh<=1000000000000000000000000000000000000000000000000) (hm:yh - xl - (yl - xh)<=m) (hm9:m<=1000000)
  (ip0:i64 p0) (ip1:i64 p1) (ip2:i64 p2) (iq0:i64 q0) (iq1:i64 q1) (iq2:i64 q2) (hn1:Int.bmod ((na:Int) - 1) 18446744073709551616=(na:Int) - 1) (hn2:Int.bmod ((na:Int)*((na:Int) - 1)) 18446744073709551616=m)
  (hFa:Fun prog G0 22 #[cfV (.slice p n cap) g bx tp nr md,.agg #[.int .i64 sta,.slice pa na capa]] (hpL G0 L) (zab L) (.ret (.bool true) []))
  (hFb:Fun prog G0 22 #[cfV (.slice p n cap) g bx tp nr md,.agg #[.int .i64 stb,.slice pb nb capb]] (hpL G0 L) (zab L) (.ret (.bool true) []))
  (hEa:Fun prog G0 23 #[cfV (.slice p n cap) g bx tp nr md,.agg #[.int .i64 sta,.slice pa na capa]] (hpL G0 L) (zab L) (.ret (.tuple #[spV xl xh,.int .i64 0]) []))
  (hEb:Fun prog G0 23 #[cfV (.slice p n cap) g bx tp nr md,.agg #[.int .i64 stb,.slice pb nb capb]] (hpL G0 L) (zab L) (.ret (.tuple #[spV yl yh,.int .i64 0]) []))
  (hLab:Fun prog G0 10 #[cfV (.slice p n cap) g bx tp nr md,.agg #[.int .i64 sta,.slice pa na capa],.agg #[.int .i64 stb,.slice pb nb capb]] (hpL G0 L) (zab L) (.ret (.tuple #[zcv (lsN (yl - xh) (yh - xl) p0 p1 p2 q0 q1 q2),.int .i64 0]) []))
  (hLba:Fun prog G0 10 #[cfV (.slice p n cap) g bx tp nr md,.agg #[.int .i64 stb,.slice pb nb capb],.agg #[.int .i64 sta,.slice pa na capa]] (hpL G0 L) (zab L) (.ret (.tuple #[zcv (lsN (xl - yh) (xh - yl) (-p0) (-p1) (-p2) (-q0) (-q1) (-q2)),.int .i64 0]) []))
  (hLaa:Fun prog G0 10 #[cfV (.slice p n cap) g bx tp nr md,.agg #[.int .i64 sta,.slice pa na capa],.agg #[.int .i64 sta,.slice pa na capa]] (hpL G0 L) (zab L) (.ret (.tuple #[zcv (lsN (xl - xh) (xh - xl) 0 0 0 0 0 0),.int .i64 0]) []))
  (hMo:Fun prog G0 20 #[cfV (.slice p n cap) g bx tp nr md] (hpL G0 L) (zab L) (.ret (.int .i64 m) [])) :
  Fun prog G0 4 #[cfV (.slice p n cap) g bx tp nr md,.agg #[.int .i64 sta,.slice pa na capa],.agg #[.int .i64 stb,.slice pb nb capb]] (hpL G0 L) (zab L) (.ret (.bool true) []):=by
 refine zaw (B:=200) G0F func4 rfl call4 hT.ok (zwa h1 h2 h3) (zal (by simp)) (by simp) (by simp) (by simp [ntmps4]) (by omega) ?_
 intro C hC hC0 hY
 have hLow:=hT.low
 have wk:=zkk
 have hG:=great24_fun (n:=n) (cap:=cap) (g:=g) (bx:=bx) (tp:=tp) (nr:=nr) (md:=md) (sta:=sta) (stb:=stb) (na:=na) (capa:=capa) (nb:=nb) (capb:=capb) hT h1 h2 h3
 have hGs:=gsL_ok (sta:=sta) (stb:=stb) (na:=na) (capa:=capa) (nb:=nb) (capb:=capb) hT h2 h3
 rw [hgr] at hG
 have hwd:=λ(K:Value->Prop)=>zad (K:=K) G0W (by kernel_rfl) (rwidth_small (yl - xh) (yh - xl) (by unfold wr;omega) (by unfold wr;omega) (by omega) ⟨by omega,by omega⟩)
 have hho:=λ(K:Value->Prop)=>zad (K:=K) G0W (by kernel_rfl) (jb0 (xl - xh) (xh - xl) 0)
 rw [hold_0 (by unfold wr;omega) (by unfold wr;omega) (by omega) (by omega)] at hho
 have e1:yl - xh+xh=yl:=by omega
 have e2:yh - xl+xl=yh:=by omega
 have e3:-(xh - yl)=yl - xh:=by omega
 have e4:-(xl - yh)=yh - xl:=by omega
 have hm':¬m<yh - xl - (yl - xh):=by omega
 unfold cfV at hG hFa hFb hEa hEb hLab hLba hLaa hMo |-
 unfold spV at hEa hEb hwd hho
 unfold wd at hho
 unfold zcv at hLab hLba hLaa
 simp only [zag,lsN] at hLab hLba hLaa hho
 repeat' first|refine gwZ ?_|((first|refine gwR [8,22,23,10,20] ?_|refine gwD [8,22,23,10,20] ?_);intro Q hQ _;(repeat first|simp [hC,hY,wk,zag,hwd,hho,e1,e2,e3,e4,hm']|refine zr2 hG hGs (hT.gs (by simp [twoB]) zel) ?_|refine zbv hFa hT.ok zel ?_|refine zbv hFb hT.ok zel ?_|refine zbv hEa hT.ok zel ?_|refine zbv hEb hT.ok zel ?_|refine zbv hLab hT.ok zel ?_|refine zbv hLba hT.ok zel ?_|refine zbv hLaa hT.ok zel ?_|refine zbv hMo hT.ok zel ?_);refine gwq hQ ?_)|refine gwC ?_ ?_<;>intro hb
 simp only [List.append_eq,List.cons_append,List.nil_append]
 repeat' first|refine gwZ ?_|((first|refine gwR [8,22,23,10,20] ?_|refine gwD [8,22,23,10,20] ?_);intro Q hQ _;(repeat first|simp [hC,hY,wk,zag,hwd,hho,e1,e2,e3,e4,hm']|refine zr2 hG hGs (hT.gs (by simp [twoB]) zel) ?_|refine zbv hFa hT.ok zel ?_|refine zbv hFb hT.ok zel ?_|refine zbv hEa hT.ok zel ?_|refine zbv hEb hT.ok zel ?_|refine zbv hLab hT.ok zel ?_|refine zbv hLba hT.ok zel ?_|refine zbv hLaa hT.ok zel ?_|refine zbv hMo hT.ok zel ?_);refine gwq hQ ?_)|refine gwC ?_ ?_<;>intro hb
 have w:=λ{s:GS} {i:Nat}=>hlS_weak (s:=s) (i:=i) (n:=n) (cap:=cap) (g:=g) (bx:=bx) (tp:=tp) (nr:=nr) (md:=md) (sta:=sta) (na:=na) (capa:=capa) hT h1 h2 hC hC0 (hlB_fx (yl - xh) (yh - xl) p0 p1 p2 q0 q1 q2) (hlB_fx (xl - yh) (xh - yl) (-p0) (-p1) (-p2) (-q0) (-q1) (-q2))
 refine zb1 3 (λi=>hlS L p pa n cap na capa g bx tp nr md sta (hlB (yl - xh) (yh - xl) p0 p1 p2 q0 q1 q2) (hlB (xl - yh) (xh - yl) (-p0) (-p1) (-p2) (-q0) (-q1) (-q2)) i) ?_ (λi hi=>?_) ?_
 ·refine w rfl rfl rfl rfl rfl rfl (by simp [cfB]) (by simp [stP]) (by simp [hlB]) (by simp [hlB]) zel rfl
 ·have n0:Int.bmod p0 18446744073709551616=p0:=bm ip0.1 (by have:=ip0.2;omega)
  have n1:Int.bmod p1 18446744073709551616=p1:=bm ip1.1 (by have:=ip1.2;omega)
  have n2:Int.bmod p2 18446744073709551616=p2:=bm ip2.1 (by have:=ip2.2;omega)
  have m0:Int.bmod q0 18446744073709551616=q0:=bm iq0.1 (by have:=iq0.2;omega)
  have m1:Int.bmod q1 18446744073709551616=q1:=bm iq1.1 (by have:=iq1.2;omega)
  have m2:Int.bmod q2 18446744073709551616=q2:=bm iq2.1 (by have:=iq2.2;omega)
  have:i=0\/i=1\/i=2:=by omega
  unfold hlS hlB cfB stP
  rcases this with rfl|rfl|rfl
  all_goals
   repeat' first|refine gwZ ?_|(refine gwX ?_;intro Q hQ _;simp [hC,hY,n0,n1,n2,m0,m1,m2];refine gwq hQ ?_)|refine gwC ?_ ?_<;>intro hb
   refine w rfl rfl rfl rfl rfl rfl (by simp [cfB]) (by simp [stP]) (by simp [hlB]) (by simp [hlB]) zel rfl
 ·unfold hlS hlB cfB stP
  repeat' first|refine gwZ ?_|((first|refine gwR [20] ?_|refine gwD [20] ?_);intro Q hQ _;(repeat first|simp [hC,hY,wk,hn1,hn2]|refine zbv hMo hT.ok zel ?_);refine hQ _ _ _ _ ?_ ?_;(focus (first|(rfl;done)|(refine zwk ?_;repeat (first|(exact λq hq=>roN hq;done)|refine ro1 ?_|refine ro2 ?_)))))|refine gwC ?_ ?_<;>intro hb
  refine ⟨.inr rfl,by simp [results4],kpT G0F⟩
end
def NS (p:Option Addr) (n cap:Nat):Prop:=p=none/\n=0/\cap=0
def MS (L:List (Nat×Blk)) (p:Option Addr) (n cap:Nat):Prop:=∃ k off b fm,p=some ⟨k,off,none⟩/\(k,b)∈L/\MB b off n fm/\n<=cap
def SS (L:List (Nat×Blk)) (p:Option Addr) (n cap:Nat):Prop:=∃ k off b fs,p=some ⟨k,off,none⟩/\(k,b)∈L/\SB b off n fs/\n<=cap
theorem NS.sl {L:List (Nat×Blk)} {p:Option Addr} {n cap:Nat} (h:NS p n cap):SlI L p:=by rw [h.1];exact SlI.nil
theorem MS.sl {L:List (Nat×Blk)} {p:Option Addr} {n cap:Nat} (h:MS L p n cap):SlI L p:=by obtain ⟨k,off,b,fm,rfl,h1,_⟩:=h;exact SlI.at h1
theorem SS.sl {L:List (Nat×Blk)} {p:Option Addr} {n cap:Nat} (h:SS L p n cap):SlI L p:=by obtain ⟨k,off,b,fm,rfl,h1,_⟩:=h;exact SlI.at h1
theorem LAny.mv0 {L:List (Nat×Blk)} (hT:LAny L):MvG G0 G0 [] L (λk=>k) :=
 ⟨G0F,G0F,⟨200,zim⟩,⟨200,hT.ok⟩,λk b hk=>⟨hk,rfl⟩,(λp hp=>by cases hp),(λk hk=>by cases hk),(λk hk=>by cases hk)⟩
theorem fits_00F (g bx tp nr md st:Int):Fun prog G0 22 #[cfV (.slice none 0 0) g bx tp nr md,.agg #[.int .i64 st,.slice none 0 0]] (hpL G0 []) (zab []) (.ret (.bool false) []):=by
 unfold cfV
 refine zaw (B:=200) G0F func22 rfl call22 zim ?_ (by simp) (by simp) (by simp) (by simp [ntmps22]) (by omega) ?_
 ·simp [zap,za0,zah,zai,zab]
 intro C hC hC0 hY
 repeat' first|refine gwZ ?_|refine gwW ?_|refine gwC ?_ ?_<;>intro hb
 refine ⟨.inr rfl,by simp [results22],kpS G0F⟩
section
variable {L:List (Nat×Blk)} {p pa pb:Option Addr} {n cap na capa nb capb:Nat} {g bx tp nr md sta stb:Int}
theorem fits_none (hT:LAny L) (hp:NS p n cap\/MS L p n cap) (ha:NS pa na capa\/SS L pa na capa) (hn:NS p n cap\/NS pa na capa) :
  Fun prog G0 22 #[cfV (.slice p n cap) g bx tp nr md,.agg #[.int .i64 sta,.slice pa na capa]] (hpL G0 L) (zab L) (.ret (.bool false) []):=by
 rcases hp with ⟨rfl,rfl,rfl⟩|⟨k,off,b,fm,rfl,hk,hm,hc⟩
 ·rcases ha with ⟨rfl,rfl,rfl⟩|⟨k,off,b,fs,rfl,hk,hm,hc⟩
  ·exact (fits_00F g bx tp nr md sta).mvG (args':=#[cfV (.slice none 0 0) g bx tp nr md,.agg #[.int .i64 sta,.slice none 0 0]]) hT.mv0 (by simp [zab]) (by simp [cfV,ren,za1,zak,zan])
  ·exact (jkq b off na capa fs hm g bx tp nr md sta).mvG (args':=#[cfV (.slice none 0 0) g bx tp nr md,.agg #[.int .i64 sta,.slice (some ⟨k,off,none⟩) na capa]]) (hT.mv1 (kb:=k) hk) (by simp [zab]) (by simp [cfV,ren,za1,zak,zan,Gy.mv2])
 ·obtain ⟨rfl,rfl,rfl⟩:NS pa na capa:=by
   rcases hn with h|h
   ·cases h.1
   ·exact h
  exact (jkr b off n cap fm hm g bx tp nr md sta).mvG (args':=#[cfV (.slice (some ⟨k,off,none⟩) n cap) g bx tp nr md,.agg #[.int .i64 sta,.slice none 0 0]]) (hT.mv1 (kb:=k) hk) (by simp [zab]) (by simp [cfV,ren,za1,zak,zan,Gy.mv2])
theorem fits_ex (hT:LAny L) (hp:NS p n cap\/MS L p n cap) (ha:NS pa na capa\/SS L pa na capa) :
  ∃ f,Fun prog G0 22 #[cfV (.slice p n cap) g bx tp nr md,.agg #[.int .i64 sta,.slice pa na capa]] (hpL G0 L) (zab L) (.ret (.bool f) []):=by
 by_cases hn:NS p n cap\/NS pa na capa
 ·exact ⟨_,fits_none hT hp ha hn⟩
 ·rcases hp with h|⟨k,off,b,fm,rfl,hk,hm,hc⟩
  ·exact absurd (.inl h) hn
  ·rcases ha with h|⟨k2,off2,b2,fs,rfl,hk2,hm2,hc2⟩
   ·exact absurd (.inr h) hn
   ·exact ⟨_,zlr (cap2:=capa) (by simp) hT hk hk2 λL' ks hL=>zr0 L' ks b b2 hL off n cap off2 na capa fm fs hm hm2 g bx tp nr md sta⟩
end
theorem pr_len {n:Nat} (h:1<=n/\n<=4):(2*((zg2 n).length:Int)=2*prC true n)/\Int.bmod ((n:Int) - 1) 18446744073709551616=(n:Int) - 1/\Int.bmod ((n:Int)*((n:Int) - 1)) 18446744073709551616=2*prC true n/\2*prC true n<=1000000:=by
 have:n=1\/n=2\/n=3\/n=4:=by omega
 rcases this with rfl|rfl|rfl|rfl<;>decide
theorem enE_30 {n n2:Nat} {fm fs:Nat->Int} {g bx tp nr md st:Int} (hf:zoh n n2 (zd6 n fm g bx tp nr md) (zbi st fs n2)=true) (h:¬enE n n2 fm fs g bx tp nr md st=0):enE n n2 fm fs g bx tp nr md st=30:=by
 unfold enE z3f at h |-
 rw [if_pos hf] at h |-
 split at h
 ·exact absurd rfl h
 ·rename_i hz
  rw [if_neg hz]
theorem pS_two4 {F H:Nat->Nat->Int}:∀ {l:List (Nat×Nat)},(∀ p∈l,0<=F p.1 p.2/\F p.1 p.2<=H p.1 p.2/\H p.1 p.2<=F p.1 p.2+1/\H p.1 p.2<=1152921504606846976)->0<=pS F l/\pS F l<=pS H l/\pS H l<=pS F l+l.length/\pS H l<=l.length*1152921504606846976
 | [],_=>by simp [pS]
 | p::l,h=>by
  have h1:=pS_two4 (l:=l) λq hq=>h q (List.mem_cons_of_mem _ hq)
  have h2:=h p (by simp)
  simp only [pS,List.length_cons,Int.natCast_succ,Int.add_mul]
  omega
theorem pot_in4 {n:Nat} {fm fs:Nat->Int} {g bx tp nr md st:Int} (c:zd6 n fm g bx tp nr md=true) (r:zbi st fs n=true) (hz:zyh fs n=0):0<=zkv g fm fs n/\zkv g fm fs n<=zku g fm fs n/\zku g fm fs n<=zkv g fm fs n+(zg2 n).length/\zku g fm fs n<=6917529027641081856:=by
 have hn:=(zf8 r).2.1
 unfold zkv zku
 rw [zq5 _ hn,zq5 _ hn]
 have h:=pS_two4 (F:=λi k=>zd7 g (fm i) (fm k) (zfm fs i k)) (H:=λi k=>zi6 g (fm i) (fm k) (zfm fs i k)) (l:=zg2 n) (λp hp=>by
  obtain ⟨hl1,hl2⟩:=zqd hp
  have hsq:=zrv r (i:=p.1) (k:=p.2) hl2 (by omega)
  have hz1:¬zfm fs p.1 p.2=0:=λe=>by
   have:=(zkh (Z:=λi k=>if zfm fs i k=0 then 1 else 0) (λi k=>by by_cases c:zfm fs i k=0<;>simp [c]) n).1 hz p.1 p.2 hl1 hl2
   simp [e] at this
  have hg:=zn1 c
  have hm1:=zb4 c (i:=p.1) hl2
  have hm2:=zb4 c (i:=p.2) (by omega)
  have hEI:EIn g (fm p.1) (fm p.2) (zfm fs p.1 p.2):=⟨hg.1,hg.2,hm1.1,hm1.2,hm2.1,hm2.2,hsq.1,hsq.2⟩
  have hlo:=hEI.lo (by omega)
  have hhi:=hEI.hi (by omega)
  exact ⟨hlo.1,hhi.1,hhi.2.1,hhi.2.2⟩)
 have hl:=jhs n
 exact ⟨h.1,h.2.1,h.2.2.1,by have:=h.2.2.2;omega⟩
theorem kin_in4 {n:Nat} {fm fs:Nat->Int} {g bx tp nr md st:Int} (c:zd6 n fm g bx tp nr md=true) (r:zbi st fs n=true):0<=z2g fm fs n/\z2g fm fs n<=27670116110564327424:=by
 have hn:=(zf8 r).2.1
 have h:=zit (f:=zfa fm fs) (lo:=0) (hi:=13194139533312) (n:=n) λi hi=>zj6 c r hi
 unfold z2g
 generalize zb2 (zfa fm fs) n=S at *
 have:n=1\/n=2\/n=3\/n=4:=by omega
 rcases this with rfl|rfl|rfl|rfl<;>omega
theorem en_bd {n:Nat} {fm fs:Nat->Int} {g bx tp nr md st:Int} (c:zd6 n fm g bx tp nr md=true) (r:zbi st fs n=true) (hz:zyh fs n=0) :
  eLo 0 g fm fs n<=eHi 0 g fm fs n/\-1000000000000000000000000000000000000000000000000<=eLo 0 g fm fs n/\eHi 0 g fm fs n<=1000000000000000000000000000000000000000000000000/\eHi 0 g fm fs n - eLo 0 g fm fs n<=(zg2 n).length:=by
 obtain ⟨a0,a1,a2,a3⟩:=pot_in4 c r hz
 obtain ⟨b0,b1⟩:=kin_in4 c r
 unfold eLo eHi
 rw [if_pos rfl,if_pos rfl]
 omega
theorem HullLoss_some {L:List (Nat×Blk)} (hT:LAny L) {ka kb kc:Nat} {bm ba bb:Blk} (h1:(ka,bm)∈L) (h2:(kb,ba)∈L) (h3:(kc,bb)∈L) {off n cap offa na capa offb nb capb:Nat} {fm fa fb:Nat->Int} (hm:MB bm off n fm) (hA:SB ba offa na fa) (hB:SB bb offb nb fb) (hcm:n<=cap) (hca:na<=capa) (hcb:nb<=capb) {g bx tp nr md sta stb:Int} (hsa:i64 sta) (hsb:i64 stb) :
  Fun prog G0 4 #[cfV (.slice (some ⟨ka,off,none⟩) n cap) g bx tp nr md,.agg #[.int .i64 sta,.slice (some ⟨kb,offa,none⟩) na capa],.agg #[.int .i64 stb,.slice (some ⟨kc,offb,none⟩) nb capb]] (hpL G0 L) (zab L) (.ret (.bool true) []):=by
 cases hgr:(decide (9<na)||decide (9<nb)||decide (9<n)) with
 | true=>exact HullLoss_great hT (SlI.at h1) (SlI.at h2) (SlI.at h3) hgr
 | false =>
  have fA:=zlr (cap2:=capa) (by simp) hT h1 h2 λL' ks hL=>zr0 L' ks bm ba hL off n cap offa na capa fm fa hm hA g bx tp nr md sta
  have fB:=zlr (cap2:=capb) (by simp) hT h1 h3 λL' ks hL=>zr0 L' ks bm bb hL off n cap offb nb capb fm fb hm hB g bx tp nr md stb
  cases hfa:zoh n na (zd6 n fm g bx tp nr md) (zbi sta fa na) with
  | false =>
   rw [hfa] at fA
   exact HullLoss_unfit hT (SlI.at h1) (SlI.at h2) (SlI.at h3) hgr (Bool.false_and _) fA fB
  | true =>
   cases hfb:zoh n nb (zd6 n fm g bx tp nr md) (zbi stb fb nb) with
   | false =>
    rw [hfb] at fB
    exact HullLoss_unfit hT (SlI.at h1) (SlI.at h2) (SlI.at h3) hgr (Bool.and_false _) fA fB
   | true =>
    rw [hfa] at fA
    rw [hfb] at fB
    have eA:=zlr (cap2:=capa) (zrr n na fm fa g bx tp nr md sta) hT h1 h2 λL' ks hL=>jf2 L' ks bm ba hL off n cap offa na capa fm fa hm hA hcm hca g bx tp nr md sta hsa
    have eB:=zlr (cap2:=capb) (zrr n nb fm fb g bx tp nr md stb) hT h1 h3 λL' ks hL=>jf2 L' ks bm bb hL off n cap offb nb capb fm fb hm hB hcm hcb g bx tp nr md stb hsb
    have lab:=z73 hT h1 h2 h3 hm hA hB hcm hca hcb (g:=g) (bx:=bx) (tp:=tp) (nr:=nr) (md:=md) hsa hsb
    have lba:=z73 hT h1 h3 h2 hm hB hA hcm hcb hca (g:=g) (bx:=bx) (tp:=tp) (nr:=nr) (md:=md) hsb hsa
    have laa:=z73 hT h1 h2 h2 hm hA hA hcm hca hca (g:=g) (bx:=bx) (tp:=tp) (nr:=nr) (md:=md) hsa hsa
    unfold enV at eA eB
    by_cases hef:enE n na fm fa g bx tp nr md sta=0/\enE n nb fm fb g bx tp nr md stb=0
    ·obtain ⟨he,hf⟩:=hef
     unfold lsW lsE at lab lba laa
     rw [he,hf] at lab lba
     rw [he] at laa eA
     rw [hf] at eB
     rw [if_pos ⟨rfl,rfl⟩,if_pos rfl] at lab lba laa
     obtain ⟨rfl,hok,hra,hza⟩:=jde he
     obtain ⟨rfl,_,hrb,hzb⟩:=jde hf
     obtain ⟨x0,x1,x2,x3⟩:=en_bd hok hra hza
     obtain ⟨y0,y1,y2,y3⟩:=en_bd hok hrb hzb
     obtain ⟨p0,p1,p2,p3⟩:=pr_len (zp7 hok)
     have mo:=(z2t bm off n cap fm hm g bx tp nr md).mvG (args':=#[cfV (.slice (some ⟨ka,off,none⟩) n cap) g bx tp nr md]) (hT.mv1 (kb:=ka) h1) (by simp [zab]) (by simp [cfV,ren,za1,zak,zan,Gy.mv2])
     rw [hok] at mo
     have qa:=λu=>z2y hok (z:=zP fa) (λu i hi=>by have:=jad hra u i hi;omega) u
     have qb:=λu=>z2y hok (z:=zP fb) (λu i hi=>by have:=jad hrb u i hi;omega) u
     have ra:=λu=>z2y hok (z:=zL fa) (λu i hi=>jac hra u i hi) u
     have rb:=λu=>z2y hok (z:=zL fb) (λu i hi=>jac hrb u i hi) u
     have dP:∀ u,i64 (sP fm fb n u - sP fm fa n u):=λu=>by have:=qa u;have:=qb u;unfold sP;exact ⟨by omega,by omega⟩
     have dL:∀ u,i64 (sL fm fb n u - sL fm fa n u):=λu=>by have:=ra u;have:=rb u;unfold sL;exact ⟨by omega,by omega⟩
     have ng:∀ x y:Int,x - y=-(y - x):=λx y=>by omega
     rw [ng (sP fm fa n 0),ng (sP fm fa n 1),ng (sP fm fa n 2),ng (sL fm fa n 0),ng (sL fm fa n 1),ng (sL fm fa n 2)] at lba
     simp only [Int.sub_self] at laa
     have hw:eHi 0 g fm fb n - eLo 0 g fm fa n - (eLo 0 g fm fb n - eHi 0 g fm fa n)<=2*prC true n:=by omega
     exact HullLoss_ok hT (SlI.at h1) (SlI.at h2) (SlI.at h3) hgr x0 y0 x1 x2 y1 y2 hw p3 (dP 0) (dP 1) (dP 2) (dL 0) (dL 1) (dL 2) p1 p2 fA fB eA eB lab lba laa mo
    ·have k30:lsE (enE n na fm fa g bx tp nr md sta) (enE n nb fm fb g bx tp nr md stb)=30/\lsE (enE n nb fm fb g bx tp nr md stb) (enE n na fm fa g bx tp nr md sta)=30:=by
      have a:=enE_30 hfa
      have b:=enE_30 hfb
      generalize enE n na fm fa g bx tp nr md sta=e at *
      generalize enE n nb fm fb g bx tp nr md stb=f at *
      unfold lsE
      by_cases he:e=0
      ·have hf:¬f=0:=λh=>hef ⟨he,h⟩
       rw [if_pos he,if_neg hf]
       exact ⟨b hf,b hf⟩
      ·rw [if_neg he]
       by_cases hf:f=0
       ·rw [if_pos hf];exact ⟨a he,a he⟩
       ·rw [if_neg hf];exact ⟨a he,b hf⟩
     rw [k30.1] at lab
     rw [k30.2] at lba
     unfold lsW at lab lba
     rw [if_neg hef] at lab
     rw [if_neg (λh=>hef ⟨h.2,h.1⟩)] at lba
     exact HullLoss_err hT (SlI.at h1) (SlI.at h2) (SlI.at h3) hgr hef fA fB eA eB lab lba
theorem HullLoss_in {L:List (Nat×Blk)} (hT:LAny L) {p pa pb:Option Addr} {n cap na capa nb capb:Nat} {g bx tp nr md sta stb:Int} (_:i64 g) (_:i64 bx) (_:i64 tp) (_:i64 nr) (_:i64 md) (hsa:i64 sta) (hsb:i64 stb) (hp:NS p n cap\/MS L p n cap) (ha:NS pa na capa\/SS L pa na capa) (hb:NS pb nb capb\/SS L pb nb capb) :
  Fun prog G0 4 #[cfV (.slice p n cap) g bx tp nr md,.agg #[.int .i64 sta,.slice pa na capa],.agg #[.int .i64 stb,.slice pb nb capb]] (hpL G0 L) (zab L) (.ret (.bool true) []):=by
 have s1:SlI L p:=hp.elim NS.sl MS.sl
 have s2:SlI L pa:=ha.elim NS.sl SS.sl
 have s3:SlI L pb:=hb.elim NS.sl SS.sl
 by_cases hn:NS p n cap\/NS pa na capa\/NS pb nb capb
 ·cases hgr:(decide (9<na)||decide (9<nb)||decide (9<n)) with
  | true=>exact HullLoss_great hT s1 s2 s3 hgr
  | false =>
   obtain ⟨f,fA⟩:=fits_ex (g:=g) (bx:=bx) (tp:=tp) (nr:=nr) (md:=md) (sta:=sta) hT hp ha
   obtain ⟨f',fB⟩:=fits_ex (g:=g) (bx:=bx) (tp:=tp) (nr:=nr) (md:=md) (sta:=stb) hT hp hb
   rcases hn with h|h|h
   ·exact HullLoss_unfit hT s1 s2 s3 hgr (Bool.false_and _) (fits_none hT hp ha (.inl h)) fB
   ·exact HullLoss_unfit hT s1 s2 s3 hgr (Bool.false_and _) (fits_none hT hp ha (.inr h)) fB
   ·exact HullLoss_unfit hT s1 s2 s3 hgr (Bool.and_false _) fA (fits_none hT hp hb (.inr h))
 ·rcases hp with h|⟨k,off,b,fm,rfl,hk,hm,hc⟩
  ·exact absurd (.inl h) hn
  ·rcases ha with h|⟨k2,off2,b2,fs,rfl,hk2,hm2,hc2⟩
   ·exact absurd (.inr (.inl h)) hn
   ·rcases hb with h|⟨k3,off3,b3,ft,rfl,hk3,hm3,hc3⟩
    ·exact absurd (.inr (.inr h)) hn
    ·exact HullLoss_some hT hk hk2 hk3 hm hm2 hm3 hc hc2 hc3 hsa hsb
end Go.Gy
namespace Go.Gy
set_option maxRecDepth 100000
open Go Go.RowKit Go.Proofs Go.ChangeShapes Go.WideShapes Go.ChangeAt

section
variable {H:Type} {enc:TypeId×Value->H} {P:Program}
theorem zmv {f:Func} {s:ChangeSpec} {apart fresh handsOn again:Bool} {W W':World} {args:Array Value} {v:Value} {ds gs:List (DataW H)} {before pa pv:List MemPlace}
  (hW:DataW.Whole enc P f.params.toList s.vars apart W args.toList ds gs before)
  (hres:∀ (b:Nat) (sp:Nat->Bool) (hd:Bool),DataW.TrodAll enc P W' b sp hd f.resultTypes.toList (v.resultList f.resultTypes.size) (s.fn H (ds++gs)).results [])
  (hargs:∀ sp:Nat->Bool,(∀ p∈before,sp p.block=true)->DataW.TrodAll enc P W' 0 sp true f.params.toList args.toList (s.fn H (ds++gs)).args pa)
  (hvars:∀ sp:Nat->Bool,(∀ p∈before,sp p.block=true)->DataW.TrodVars enc P W' sp s.vars (s.fn H (ds++gs)).vars pv)
  (hps:before=pa++pv) (hb:Below W.heap.size W W')
  (hok:∀ (j:Nat) (t:TypeId) (r:Value),f.resultTypes[j]? = some t->(v.resultList f.resultTypes.size)[j]? = some r->Value.okWide P W' .any 0 t r) :
  s.post enc P f apart fresh handsOn again W args v W':=by
 have hlt:∀ p∈before,p.block<W.heap.size:=λp hp=>hW.lt p hp
 have hold:∀ p∈before,(λb=>decide (b<W.heap.size)) p.block=true:=λp hp=>by simpa using hlt p hp
 refine ⟨ds,gs,before,[],pa,pv,hW,hres _ _ _,hargs _ hold,hvars _ hold,World.keptBut_mono (λp hp=>⟨hp,?_⟩) (hb.frame (·∈before)),λ_=>?_⟩
 ·rw [hps,List.mem_append] at hp
  exact Or.inr hp
 ·obtain ⟨_,_,_,_,_,hz,hn⟩:=hW
  refine ⟨hok,_,_,([]++pa)++pv,⟨[]++pa,pv,trodAll_append (hargs _ (λ_ _=>rfl)) (hres _ _ _),hvars _ (λ_ _=>rfl),rfl,?_,?_⟩,?_⟩
  ·intro b off hp
   have hin:MemPlace.cell b off∈before:=by rw [hps];simpa using hp
   rw [hb.frozen (hlt _ hin)]
   exact hz b off hin
  ·intro ha
   have:=hn ha
   rw [hps] at this
   simpa using this
  ·intro p hp _
   rw [hps]
   simpa using hp
end

theorem znz:Tryz.prog.cellsOf 28=1:=by kernel_rfl
theorem zic:Tryz.prog.cellsOf 30=4:=by kernel_rfl
theorem z5t:IntKind.u64.min=0/\IntKind.u64.max=18446744073709551615:=by decide
theorem z5s:IntKind.i64.min=-9223372036854775808/\IntKind.i64.max=9223372036854775807:=by decide
theorem jg3 {z:Int} (h:(Lit.int .u64 z).wf=true):0<=z/\z<18446744073709551616:=by
 simp only [Lit.wf,Bool.and_eq_true,decide_eq_true_eq,z5t.1,z5t.2] at h;omega
theorem zh3 {z:Int} (h:(Lit.int .i64 z).wf=true):i64 z:=by
 simp only [Lit.wf,Bool.and_eq_true,decide_eq_true_eq,z5s.1,z5s.2] at h;unfold i64;omega
theorem z4j (w0 w1 w2 w3:Int) (h0:0<=w0/\w0<18446744073709551616) (h1:0<=w1/\w1<18446744073709551616) (h2:0<=w2/\w2<18446744073709551616) (h3:0<=w3/\w3<18446744073709551616) :
  ∃ z,wr z/\wi z 0=w0/\wi z 1=w1/\wi z 2=w2/\wi z 3=w3:=by
 refine ⟨w0+18446744073709551616*w1+340282366920938463463374607431768211456*w2+6277101735386680763835789423207666416102355444464034512896*(if w3<9223372036854775808 then w3 else w3 - 18446744073709551616),?_,?_,?_,?_,?_⟩
 ·unfold wr;split<;>omega
 all_goals (simp only [wi];split<;>omega)
section
variable {H:Type} {enc:TypeId×Value->H} {w:World}
end

theorem own:ownKnob Tryz.prog.godebug=none:=by kernel_rfl
theorem zj2 {P:Program} {W:World} {name:String} {g:Nat} {cs:Array Value} {z:Array Value} {T:TypeId} (hg:P.globalNamed name=some g) (hlt:g<P.globals.size) (hrow:((begin P (λ_ _=>0) default).world.heap[g]?).bind Obj.row? = some (z,T))
  (hS:W.ShapedOpen P) (hv:W.var? P name=some cs):W.heap[g]? = some (.cells cs T (0,0)):=by
 obtain ⟨c,h1,_⟩:=hS.1 g z T hlt hrow
 unfold World.var? at hv
 rw [hg] at hv
 simp only [Option.bind_some,h1,Option.some.injEq] at hv
 rw [h1,hv]
theorem z5b : Tryz.prog.globalNamed "gyre/quot.least" = some 1 := by kernel_rfl
theorem zt5:(Tryz.prog.globals[1]?).map (·.type)=some 30:=by kernel_rfl
theorem zw3:((begin Tryz.prog (λ_ _=>0) default).world.heap[1]?).bind Obj.row? = some (#[.int .u64 0,.int .u64 0,.int .u64 0,.int .u64 0],30):=by kernel_rfl
theorem z2j {W : World} {rest : List (String × DataW Unit)} (h : laidMet Tryz.prog (("gyre/quot.least", Proofs.YtamodcpmplmaoaaGreatDoor.Rows.laid_gyre_quot_least) :: rest) W) : W.var? Tryz.prog "gyre/quot.least" = some lsB.c :=
 Lib.tabIs_of_head (zs:=[0,0,0,9223372036854775808]) z5b zt5 Tryz.underlying30 Tryz.underlying28 znz zic h
theorem zma {H:Type} {enc:TypeId×Value->H} {P:Program} {w:World} {base:Nat} {sp:Nat->Bool} {held:Bool} {fuel:Nat} {t e:TypeId} {n:Nat} {cs:List Value} {ss:List (List UInt8)} {p:List MemPlace}
  (ht:P.underlying t=some (.array n e)) (he:P.underlying e=some .string) (hce:P.cellsOf e=1) (hct:P.cellsOf t=n)
  (h:DataW.trod enc P w base sp held fuel t cs=some (.agg (ss.map λs=>.lit (.string s)),p)):cs=ss.map λs=>Value.string ⟨s.toArray⟩:=by
 cases fuel with
 | zero=>simp [DataW.trod] at h
 | succ fuel =>
  simp only [DataW.trod,ht,hce,hct,Nat.mul_one] at h
  split at h
  ·rename_i hl
   obtain ⟨xs,hm,hx⟩:=Option.map_eq_some_iff.1 h
   have hxs:xs.map (·.1)=ss.map λs=>(DataW.lit (.string s):DataW H):=by
    have:=congrArg Prod.fst hx
    simpa using this
   have hxl:xs.length=n:=by simpa using Lib.mapM_length hm
   have hzl:ss.length=n:=by
    have:=congrArg List.length hxs
    simp at this
    omega
   apply List.ext_getElem?
   intro i
   by_cases hi:i<n
   ·obtain ⟨b,hb,hf⟩:=Lib.mapM_at hm i i (by simp [hi])
    obtain ⟨s,hc,rfl,_⟩:=DataW.trod_string he hf
    have h1:cs[i]? = some (.string s):=by
     have:=congrArg (·[0]?) hc
     simpa [List.getElem?_take,List.getElem?_drop] using this
    have h2:(xs.map (·.1))[i]? = some (DataW.lit (.string s.data.toList):DataW H):=by simp [hb]
    rw [hxs] at h2
    simp only [List.getElem?_map,Option.map_eq_some_iff,DataW.lit.injEq,Lit.string.injEq] at h2
    obtain ⟨z',hz',rfl⟩:=h2
    simp [h1,hz']
   ·rw [List.getElem?_eq_none (by omega),List.getElem?_eq_none (by simp;omega)]
  ·cases h
theorem z5c : Tryz.prog.globalNamed "gyre/conf.names" = some 0 := by kernel_rfl
theorem zt6:(Tryz.prog.globals[0]?).map (·.type)=some 171:=by kernel_rfl
theorem zwi:Tryz.prog.cellsOf 9=1:=by kernel_rfl
theorem zp5:Tryz.prog.cellsOf 171=7:=by kernel_rfl
theorem zw4:((begin Tryz.prog (λ_ _=>0) default).world.heap[0]?).bind Obj.row? = some (#[.string ⟨#[]⟩,.string ⟨#[]⟩,.string ⟨#[]⟩,.string ⟨#[]⟩,.string ⟨#[]⟩,.string ⟨#[]⟩,.string ⟨#[]⟩],171):=by kernel_rfl
theorem z2z {W : World} {rest : List (String × DataW Unit)} (h : laidMet Tryz.prog (("gyre/conf.names", Proofs.YtamodcpmplmaoaaGreatDoor.Rows.laid_gyre_conf_names) :: rest) W) : W.var? Tryz.prog "gyre/conf.names" = some cnB.c := by
 obtain ⟨ps,⟨g',t',cs,fuel,p,q,hg',ht',hvar,hd,_,_⟩,_⟩:=h
 obtain rfl:=Option.some.inj (z5c.symm.trans hg')
 obtain rfl:=Option.some.inj (zt6.symm.trans ht')
 have h9:=zma (ss:=[[98,111,100,105,101,115],[109,97,115,115],[99,111,110,115,116,97,110,116],[98,111,120],[116,111,112],[110,101,97,114],[109,101,116,104,111,100]]) Tryz.underlying171 Tryz.underlying9 zwi zp5 hd
 rw [hvar]
 congr 1
 exact Array.ext' h9
theorem z1z {W : World} (hS : W.ShapedOpen Tryz.prog) (h : laidMet Tryz.prog [("gyre/conf.names", Proofs.YtamodcpmplmaoaaGreatDoor.Rows.laid_gyre_conf_names), ("gyre/quot.least", Proofs.YtamodcpmplmaoaaGreatDoor.Rows.laid_gyre_quot_least)] W) : GOK G0 W := λk b hk => by
 have h9:=znh hk
 simp [G0L] at h9
 rcases h9 with ⟨rfl,rfl⟩|⟨rfl,rfl⟩
 ·exact zj2 z5b (of_decide_eq_true (by kernel_rfl)) zw3 hS (z2j (laidMet.tail h))
 ·exact zj2 z5c (of_decide_eq_true (by kernel_rfl)) zw4 hS (z2z h)
theorem zfr:Tryz.prog.cellsOf 3=1:=by kernel_rfl
theorem zn0:Tryz.prog.cellsOf 70=3:=by kernel_rfl
theorem zk2:Tryz.prog.cellsOf 72=6:=by kernel_rfl
theorem ziy:Tryz.prog.cellsOf 25=1:=by kernel_rfl
theorem zp6:Tryz.prog.cellsOf 27=2:=by kernel_rfl
theorem zn3:Tryz.prog.cellTypes Tryz.prog.depth 27=some [3,25]:=by kernel_rfl
section
variable {H:Type} {enc:TypeId×Value->H} {w:World} {base:Nat} {spare:Nat->Bool} {held:Bool}
theorem zpk {fuel:Nat} {cs:List Value} {x:DataW H×List MemPlace} (h:DataW.trod enc Tryz.prog w base spare held fuel 70 cs=some x):cs.length=3/\∀ j,j<3->∃ z,cs[j]? = some (.int .i64 z)/\i64 z:=by
 obtain ⟨xs,m,_,rfl,hl,hxs,hi⟩:=DataW.trod_array Tryz.underlying70 h
 rw [zn0] at hl
 refine ⟨hl,λj hj=>?_⟩
 have h1:=hi j hj
 rw [zfr,Nat.mul_one,List.getElem?_eq_getElem (by omega)] at h1
 obtain ⟨z,e,_,hw⟩:=DataW.trod_int Tryz.underlying3 h1
 refine ⟨z,?_,zh3 hw⟩
 have:=congrArg (·[0]?) e
 simpa [List.getElem?_take,List.getElem?_drop] using this
theorem ztj {fuel:Nat} {cs:List Value} {x:DataW H×List MemPlace} (h:DataW.trod enc Tryz.prog w base spare held fuel 72 cs=some x):cs.length=6/\∀ j,j<6->∃ z,cs[j]? = some (.int .i64 z)/\i64 z:=by
 obtain ⟨y0,y1,n,rfl,hl,h0,h1⟩:=trod_struct2 Tryz.underlying72 h
 rw [zk2] at hl
 simp only [zn0] at h0 h1
 refine ⟨hl,λj hj=>?_⟩
 by_cases c:j<3
 ·obtain ⟨z,e,hz⟩:=(zpk h0).2 j c
  refine ⟨z,?_,hz⟩
  simpa [List.getElem?_take,List.getElem?_drop,c] using e
 ·obtain ⟨z,e,hz⟩:=(zpk h1).2 (j - 3) (by omega)
  refine ⟨z,?_,hz⟩
  rw [List.getElem?_take,if_pos (by omega),List.getElem?_drop,show 3+(j - 3)=j by omega] at e
  exact e
theorem zqt {fuel:Nat} {cs:List Value} {x:DataW H×List MemPlace} (h:DataW.trod enc Tryz.prog w 0 (λ_=>true) held fuel 25 cs=some x) :
  cs=[.slice none 0 0]\/∃ (a:Addr) (len cap:Nat) (f:Nat->Int),cs=[.slice (some a) len cap]/\len<=cap/\∀ j,j<6*cap->w.cell? (a.add j)=some (.int .i64 (f j))/\i64 (f j):=by
 rcases Deep.open_slice Tryz.underlying25 h with ⟨h0,_⟩|⟨a,len,cap,m,n,D,Pl,rfl,_,hlc,hcm,hm,_,hel⟩
 ·exact .inl h0
 right
 rw [if_pos rfl] at hm
 subst hm
 refine ⟨a,len,m,λj=>match w.cell? (a.add j) with|some (.int _ z)=>z|_=>0,rfl,hlc,λj hj=>?_⟩
 obtain ⟨cs',h1,h2⟩:=hel (j / 6) (by omega)
 rw [zk2] at h1
 obtain ⟨z,e,hz⟩:=(ztj h2).2 (j%6) (by omega)
 unfold World.cells? at h1
 rw [if_pos (Nat.zero_le _)] at h1
 have h3:=mapM_some_get h1 (j%6) (j%6) (List.getElem?_range (by omega))
 rw [e,Deep.add_add,show j / 6*6+j%6=j by omega] at h3
 dsimp only
 rw [h3]
 exact ⟨rfl,hz⟩
theorem zu0 {fits:TypeId->Bool} (h:fits 28=false) (d c o n:Nat):rowAt Tryz.prog fits d 28 c o n=false:=by
 cases d with
 | zero=>rfl
 | succ d=>simp [rowAt,h,Tryz.underlying28]
theorem ziq {fits:TypeId->Bool} (h:fits 28=false) (h2:fits 30=false) (d c o n:Nat):rowAt Tryz.prog fits d 30 c o n=false:=by
 cases d with
 | zero=>rfl
 | succ d=>simp [rowAt,h2,Tryz.underlying30,zu0 h]
theorem zxo (d c o n:Nat):liesAt Tryz.prog d 30 c o 72 n=false:=by
 cases d with
 | zero=>rfl
 | succ d =>
  unfold liesAt
  rw [ziq (by kernel_rfl) (by kernel_rfl),Tryz.underlying72]
  rfl
theorem zy0 {fits:TypeId->Bool} (h:fits 9=false) (d c o n:Nat):rowAt Tryz.prog fits d 9 c o n=false:=by
 cases d with
 | zero=>rfl
 | succ d=>simp [rowAt,h,Tryz.underlying9]
theorem zhf {fits:TypeId->Bool} (h:fits 9=false) (h2:fits 171=false) (d c o n:Nat):rowAt Tryz.prog fits d 171 c o n=false:=by
 cases d with
 | zero=>rfl
 | succ d=>simp [rowAt,h2,Tryz.underlying171,zy0 h]
theorem zuh (d c o n:Nat):liesAt Tryz.prog d 171 c o 72 n=false:=by
 cases d with
 | zero=>rfl
 | succ d =>
  unfold liesAt
  rw [zhf (by kernel_rfl) (by kernel_rfl),Tryz.underlying72]
  rfl
theorem z6i:∀ p∈G0L,∃ t,p.2.T=.ty t/\∀ d c o n,liesAt Tryz.prog d t c o 72 n=false:=by
 intro p hp
 unfold G0L at hp
 rcases List.mem_cons.1 hp with rfl|hp
 ·exact ⟨_,rfl,zxo⟩
 rcases List.mem_cons.1 hp with rfl|hp
 ·exact ⟨_,rfl,zuh⟩
 cases hp
structure StAt (W:World) (k off n cap:Nat) (b:Blk) (f:Nat->Int):Prop where
 le:n<=cap
 heap:W.heap[k]? = some b.obj0
 fx:b.fx
 raw:∃ c T fr,b=⟨c,.raw T fr⟩
 rd:rdI b off (6*cap) f
 i6:∀ j,j<6*cap->i64 (f j)
 lies:∃ row c,W.shape? k=some (row,c)/\liesAt Tryz.prog Tryz.prog.depth row (c / Tryz.prog.cellsOf row) off 72 cap=true
theorem StAt.sb {W:World} {k off n cap:Nat} {b:Blk} {f:Nat->Int} (h:StAt W k off n cap b f) (hn:n<=2932031007402):SB b off n f:=⟨h.rd.le (by have:=h.le;omega),h.fx,λj hj=>h.i6 j (by have:=h.le;omega),hn⟩
theorem jbp {r:Reach} {b0:Nat} {v:Value} {d:DataW H} {p:List MemPlace} (hv:Value.okWide Tryz.prog w r b0 27 v) (h:DataW.Trod enc Tryz.prog w 0 (λ_=>true) held 27 v d p) :
  ∃ st,i64 st/\(v=.agg #[.int .i64 st,.slice none 0 0]\/∃ (k off n cap:Nat) (b:Blk) (f:Nat->Int),v=.agg #[.int .i64 st,.slice (some ⟨k,off,none⟩) n cap]/\StAt w k off n cap b f):=by
 simp only [Value.okWide,Tryz.underlying27] at hv
 obtain ⟨cs,rfl,hsz,ts,hts,_,hall⟩:=hv
 rw [zn3] at hts
 simp only [Option.some.injEq] at hts
 subst hts
 obtain ⟨fuel,hf⟩:=h
 obtain ⟨y0,y1,n,_,hl,h0,h1⟩:=trod_struct2 Tryz.underlying27 hf
 rw [zfr] at h0
 rw [ziy] at h1
 simp only [Value.cells] at h0 h1
 obtain ⟨st,e0,_,hw⟩:=DataW.trod_int Tryz.underlying3 h0
 rw [zp6] at hsz
 obtain ⟨c0,c1,rfl⟩:∃ c0 c1,cs=#[c0,c1]:=by
  obtain ⟨l⟩:=cs
  match l,hsz with
  | [c0,c1],_=>exact ⟨c0,c1,rfl⟩
 simp at e0
 subst e0
 refine ⟨st,zh3 hw,?_⟩
 rcases zqt h1 with e1|⟨a,len,cap,f,e1,hle,hc⟩
 ·simp at e1
  subst e1
  exact .inl rfl
 ·simp at e1
  subst e1
  right
  obtain ⟨u,hu,hok⟩:=hall 1 _ rfl
  simp at hu
  subst hu
  simp only [Cell.okWide,Cell.ok,Tryz.underlying25] at hok
  obtain ⟨_,_,_,hsp,row,cells,hsh,hlies⟩:=hok
  obtain ⟨k,off,sp⟩:=a
  simp only at hsp hsh hlies
  subst hsp
  have hsh':=hsh
  unfold World.shape? at hsh'
  split at hsh'
  ·rename_i c T fr hh
   simp only [Option.some.injEq,Prod.mk.injEq] at hsh'
   obtain ⟨rfl,rfl⟩:=hsh'
   refine ⟨k,off,len,cap,⟨c,.raw T fr⟩,f,rfl,hle,hh,trivial,⟨c,T,fr,rfl⟩,λj hj=>?_,λj hj=>(hc j hj).2,T,_,hsh,hlies⟩
   have h2:=(hc j hj).1
   rw [Addr.add_lit] at h2
   simpa [World.cell?,hh] using h2
  ·cases hsh'
end
theorem zh2 {H:Type} {enc:TypeId×Value->H} {P:Program} {base:Nat} (hl:laidOutB P=true) {W W':World} {sp':Nat->Bool}:∀ (ts:List TypeId) (vs:List Value) (ds:List (DataW H)) (ps:List MemPlace),(∀ t∈ts,P.readableRec t=true/\t<P.types.size) ->
  DataW.TrodAll enc P W base (λ_=>true) true ts vs ds ps->(∀ p∈ps,W.sameAt W' p)->(∀ p∈ps,sp' p.block=true)->DataW.TrodAll enc P W' base sp' true ts vs ds ps
 | [],[],[],_,_,h,_,_=>h
 | t::_,_::_,_::_,_,hT,⟨p,q,h1,h2,e⟩,hm,hs=>⟨p,q,WideElems.Trod_stays hl (hT t (by simp)).1 (hT t (by simp)).2 h1 (λx hx=>hm x (by rw [e];exact List.mem_append_left _ hx)) (λx hx=>hs x (by rw [e];exact List.mem_append_left _ hx)),
   zh2 hl _ _ _ _ (λt ht=>hT t (List.mem_cons_of_mem _ ht)) h2 (λx hx=>hm x (by rw [e];exact List.mem_append_right _ hx)) (λx hx=>hs x (by rw [e];exact List.mem_append_right _ hx)),e⟩
theorem z2h:laidOutB Tryz.prog=true:=by kernel_rfl
theorem ztl:Tryz.prog.bytesOf 72=48:=by kernel_rfl
theorem jnn {H:Type} {enc:TypeId×Value->H} {w:World} {held:Bool} {st:Int} {a:Addr} {n cap:Nat} {d:DataW H} {p:List MemPlace} (h:DataW.Trod enc Tryz.prog w 0 (λ_=>true) held 27 (.agg #[.int .i64 st,.slice (some a) n cap]) d p) (hw:∀ x∈d.weights Tryz.prog 27,x<=reachBytes):cap<=2932031007402:=by
 obtain ⟨fuel,hf⟩:=h
 obtain ⟨y0,y1,m,hx,hl,h0,h1⟩:=trod_struct2 Tryz.underlying27 hf
 rw [ziy] at h1
 simp only [Value.cells] at h1
 rcases Deep.open_slice Tryz.underlying25 h1 with ⟨e1,_⟩|⟨a',len,cap',m',n',D,Pl,e1,_,hlc,hcm,hm,hy1,_⟩
 ·simp at e1
 ·simp at e1
  obtain ⟨rfl,rfl,rfl⟩:=e1
  rw [if_pos rfl] at hm
  subst hm
  simp only [Prod.mk.injEq] at hx
  have hd:=hx.1
  rw [hd,hy1] at hw
  have:=hw ((n+(m' - n))*48) (by
   simp only [DataW.weights,Tryz.underlying27]
   simp [DataW.weightsEach,DataW.weights,Tryz.underlying25,ztl])
  unfold reachBytes at this
  omega
theorem StAt.ne {W:World} {k off n cap:Nat} {b:Blk} {f:Nat->Int} (h:StAt W k off n cap b f) (hg:GOK G0 W):∀ g c,G0 g=some c->k≠g:=λg c hc e=>by
 have h1:=hg g c hc
 obtain ⟨t,ht,hl'⟩:=z6i _ (znh hc)
 obtain ⟨row,q,hsh,hl⟩:=h.lies
 rw [e] at hsh
 unfold World.shape? at hsh
 rw [h1] at hsh
 obtain ⟨cc,T⟩:=c
 simp only at ht
 subst ht
 simp only [Blk.obj0,Option.some.injEq,Prod.mk.injEq] at hsh
 obtain ⟨rfl,rfl⟩:=hsh
 rw [hl'] at hl
 cases hl
theorem zw1 {P:Program} {G:Hp} {fn:FuncId} {args:Array Value} {b:Blk} {v:Value} {W:World} {k:Nat} (hGF:zbj G) (hF:Fun P G fn args (hpL G [(100,b)]) (zab [(100,b)]) (.ret v [])) (hv:zay v=true) (hgok:GOK G W) (hfx:b.fx) (hk:W.heap[k]? = some b.obj0) (hne:∀ g c,G g=some c->k≠g) :
  zd3 P fn (args.map (ren λq=>if q=100 then k else q)) W λe W'=>e=.returned v/\Below W.heap.size W W':=by
 have er:rst (hpL G [(100,b)]) (zab [(100,b)])=hpL G [(100,b)]:=LOk.rst hGF
 have hobj:∀ r,b.obj r=b.obj0:=λr=>by
  obtain ⟨c,T⟩:=b
  cases T with
  | ty t=>exact Blk.obj_flat hfx
  | raw t fr=>rfl
  | mp=>exact hfx.elim
 have hmem:∀ q c,hpL G [(100,b)] q=some c->(q=100/\c=b)\/(q<100/\G q=some c):=λq c hq=>by
  rcases za5 hq with h|h
  ·simp at h;exact .inl h
  ·exact .inr ⟨(hGF q c h).1,h⟩
 have hrun:=hF.run (λq=>if q=100 then k else q) W hgok ?_ ?_ ?_
 ·refine hrun.mono λe W' h=>?_
  obtain ⟨he,ht⟩:=h
  rw [zau hv] at he
  exact ⟨he,ht.os,ht.tape,ht.output,ht.size,λq hq=>ht.same q hq (by simp)⟩
 ·rw [er]
  intro q c hq
  rcases hmem q c hq with ⟨rfl,rfl⟩|⟨hlt,hG⟩
  ·exact ⟨by simp only [if_true];rw [hobj];exact hk,Blk.fx_ids hfx _⟩
  ·refine ⟨?_,Blk.flat_ids (hGF q c hG).2⟩
   have e1:(λq=>if q=100 then k else q) q=q:=if_neg (by omega)
   rw [e1,hgok q c hG]
   congr 1
   obtain ⟨cc,T⟩:=c
   cases T with
   | ty t=>exact (Blk.obj_flat (hGF q _ hG).2).symm
   | raw t fr=>rfl
   | mp=>exact (Blk.obj_flat (hGF q _ hG).2).symm
 ·rw [er]
  intro q q' hq hq' e
  have e:(if q=100 then k else q)=if q'=100 then k else q':=e
  unfold dom at hq hq'
  cases h1:hpL G [(100,b)] q with
  | none=>exact absurd h1 hq
  | some c =>
   cases h2:hpL G [(100,b)] q' with
   | none=>exact absurd h2 hq'
   | some c' =>
    rcases hmem q c h1 with ⟨rfl,_⟩|⟨hlt,hG⟩<;>rcases hmem q' c' h2 with ⟨rfl,_⟩|⟨hlt',hG'⟩
    ·rfl
    ·rw [if_pos rfl,if_neg (by omega)] at e;exact absurd e (hne _ _ hG')
    ·rw [if_neg (by omega),if_pos rfl] at e;exact absurd e.symm (hne _ _ hG)
    ·rw [if_neg (by omega),if_neg (by omega)] at e;exact e
 ·intro q hq _
  exact if_neg (by omega)
section
variable {H:Type} {enc:TypeId×Value->H} {w:World} {base:Nat} {spare:Nat->Bool} {held:Bool}
end
theorem jjf {W:World} {k:Nat} {b b':Blk} (h:W.heap[k]? = some b.obj0) (h':W.heap[k]? = some b'.obj0) (r:∃ c T fr,b=⟨c,.raw T fr⟩) (r':∃ c T fr,b'=⟨c,.raw T fr⟩):b=b':=by
 obtain ⟨c,T,fr,rfl⟩:=r
 obtain ⟨c',T',fr',rfl⟩:=r'
 rw [h] at h'
 simp only [Blk.obj0,Option.some.injEq,Obj.cells.injEq] at h'
 obtain ⟨rfl,rfl,rfl⟩:=h'
 rfl
theorem jpw {P:Program} {G:Hp} {fn:FuncId} {args:Array Value} {L:List (Nat×Blk)} {v:Value} {W:World} (r:Nat->Nat) (hGF:zbj G) (hF:Fun P G fn args (hpL G L) (zab L) (.ret v [])) (hv:zay v=true) (hgok:GOK G W) (hL:LOk L 200) (hfx:∀ p∈L,p.2.fx)
  (hr:∀ p∈L,W.heap[r p.1]? = some p.2.obj0) (hne:∀ p∈L,∀ g c,G g=some c->r p.1≠g) (hinj:∀ p∈L,∀ q∈L,r p.1=r q.1->p.1=q.1) (hlow:∀ q,q<100->r q=q) :
  zd3 P fn (args.map (ren r)) W λe W'=>e=.returned v/\Below W.heap.size W W':=by
 have er:rst (hpL G L) (zab L)=hpL G L:=LOk.rst hGF
 have hobj:∀ (b:Blk),b.fx->∀ r,b.obj r=b.obj0:=λb hb r=>by
  obtain ⟨c,T⟩:=b
  cases T with
  | ty t=>exact Blk.obj_flat hb
  | raw t fr=>rfl
  | mp=>exact hb.elim
 have hmem:∀ q c,hpL G L q=some c->(q,c)∈L\/(q<100/\G q=some c):=λq c hq=>by
  rcases za5 hq with h|h
  ·exact .inl h
  ·exact .inr ⟨(hGF q c h).1,h⟩
 have hrun:=hF.run r W hgok ?_ ?_ ?_
 ·refine hrun.mono λe W' h=>?_
  obtain ⟨he,ht⟩:=h
  rw [zau hv] at he
  exact ⟨he,ht.os,ht.tape,ht.output,ht.size,λq hq=>ht.same q hq (by simp)⟩
 ·rw [er]
  intro q c hq
  rcases hmem q c hq with h|⟨hlt,hG⟩
  ·exact ⟨by rw [hobj c (hfx _ h)];exact hr _ h,Blk.fx_ids (hfx _ h) _⟩
  ·refine ⟨?_,Blk.flat_ids (hGF q c hG).2⟩
   rw [hlow q hlt,hgok q c hG]
   congr 1
   obtain ⟨cc,T⟩:=c
   cases T with
   | ty t=>exact (Blk.obj_flat (hGF q _ hG).2).symm
   | raw t fr=>rfl
   | mp=>exact (Blk.obj_flat (hGF q _ hG).2).symm
 ·rw [er]
  intro q q' hq hq' e
  unfold dom at hq hq'
  cases h1:hpL G L q with
  | none=>exact absurd h1 hq
  | some c =>
   cases h2:hpL G L q' with
   | none=>exact absurd h2 hq'
   | some c' =>
    rcases hmem q c h1 with h|⟨hlt,hG⟩<;>rcases hmem q' c' h2 with h'|⟨hlt',hG'⟩
    ·exact hinj _ h _ h' e
    ·rw [hlow q' hlt'] at e;exact absurd e (hne _ h _ _ hG')
    ·rw [hlow q hlt] at e;exact absurd e.symm (hne _ h' _ _ hG)
    ·rw [hlow q hlt,hlow q' hlt'] at e;exact e
 ·intro q hq _
  exact hlow q hq
theorem ztq:Tryz.prog.cellsOf 22=1:=by kernel_rfl
theorem ztp:Tryz.prog.cellsOf 24=6:=by kernel_rfl
theorem zqa:Tryz.prog.cellTypes Tryz.prog.depth 24=some [22,3,3,3,3,3]:=by kernel_rfl
theorem zwh:Tryz.prog.bytesOf 3=8:=by kernel_rfl
theorem zql (d c o n:Nat):liesAt Tryz.prog d 171 c o 3 n=false:=by
 cases d with
 | zero=>rfl
 | succ d =>
  unfold liesAt
  rw [zhf (by kernel_rfl) (by kernel_rfl),Tryz.underlying3]
  rfl
theorem zui (d c o n:Nat):liesAt Tryz.prog d 30 c o 3 n=false:=by
 cases d with
 | zero=>rfl
 | succ d =>
  unfold liesAt
  rw [ziq (by kernel_rfl) (by kernel_rfl),Tryz.underlying3]
  rfl
theorem z0h:∀ p∈G0L,∃ t,p.2.T=.ty t/\∀ d c o n,liesAt Tryz.prog d t c o 3 n=false:=by
 intro p hp
 unfold G0L at hp
 rcases List.mem_cons.1 hp with rfl|hp
 ·exact ⟨_,rfl,zui⟩
 rcases List.mem_cons.1 hp with rfl|hp
 ·exact ⟨_,rfl,zql⟩
 cases hp
structure CfAt (W:World) (k off n cap:Nat) (b:Blk) (f:Nat->Int):Prop where
 le:n<=cap
 heap:W.heap[k]? = some b.obj0
 fx:b.fx
 raw:∃ c T fr,b=⟨c,.raw T fr⟩
 rd:rdI b off cap f
 i6:∀ j,j<cap->i64 (f j)
 lies:∃ row c,W.shape? k=some (row,c)/\liesAt Tryz.prog Tryz.prog.depth row (c / Tryz.prog.cellsOf row) off 3 cap=true
theorem CfAt.mb {W:World} {k off n cap:Nat} {b:Blk} {f:Nat->Int} (h:CfAt W k off n cap b f) (hn:n<=17592186044416):MB b off n f:=⟨h.rd.le h.le,h.fx,λj hj=>h.i6 j (Nat.lt_of_lt_of_le hj h.le),hn⟩
theorem CfAt.ne {W:World} {k off n cap:Nat} {b:Blk} {f:Nat->Int} (h:CfAt W k off n cap b f) (hg:GOK G0 W):∀ g c,G0 g=some c->k≠g:=λg c hc e=>by
 have h1:=hg g c hc
 obtain ⟨t,ht,hl'⟩:=z0h _ (znh hc)
 obtain ⟨row,q,hsh,hl⟩:=h.lies
 rw [e] at hsh
 unfold World.shape? at hsh
 rw [h1] at hsh
 obtain ⟨cc,T⟩:=c
 simp only at ht
 subst ht
 simp only [Blk.obj0,Option.some.injEq,Prod.mk.injEq] at hsh
 obtain ⟨rfl,rfl⟩:=hsh
 rw [hl'] at hl
 cases hl
section
variable {H:Type} {enc:TypeId×Value->H} {w:World} {held:Bool}
theorem zpi {P:Program} {base:Nat} {spare:Nat->Bool} {t:TypeId} {f0 f1 f2 f3 f4 f5:Field} {fuel:Nat} {cs:List Value} {x:DataW H×List MemPlace} (ht:P.underlying t=some (.struct #[f0,f1,f2,f3,f4,f5])) (h:DataW.trod enc P w base spare held fuel t cs=some x) :
  ∃ y0 y1 y2 y3 y4 y5 n,x.1=.agg [y0.1,y1.1,y2.1,y3.1,y4.1,y5.1]/\DataW.trod enc P w base spare held n f0.type ((cs.drop f0.offset).take (P.cellsOf f0.type))=some y0/\DataW.trod enc P w base spare held n f1.type ((cs.drop f1.offset).take (P.cellsOf f1.type))=some y1 /\
   DataW.trod enc P w base spare held n f2.type ((cs.drop f2.offset).take (P.cellsOf f2.type))=some y2/\DataW.trod enc P w base spare held n f3.type ((cs.drop f3.offset).take (P.cellsOf f3.type))=some y3/\DataW.trod enc P w base spare held n f4.type ((cs.drop f4.offset).take (P.cellsOf f4.type))=some y4/\DataW.trod enc P w base spare held n f5.type ((cs.drop f5.offset).take (P.cellsOf f5.type))=some y5:=by
 obtain ⟨xs,n,_,hx,hl,hlen,hf⟩:=DataW.trod_struct ht h
 match xs,hlen with
 | [y0,y1,y2,y3,y4,y5],_=>exact ⟨y0,y1,y2,y3,y4,y5,n,by rw [hx];rfl,by simpa using hf 0 f0 rfl,by simpa using hf 1 f1 rfl,by simpa using hf 2 f2 rfl,by simpa using hf 3 f3 rfl,by simpa using hf 4 f4 rfl,by simpa using hf 5 f5 rfl⟩
theorem zpg {fuel:Nat} {cs:List Value} {x:DataW H×List MemPlace} (h:DataW.trod enc Tryz.prog w 0 (λ_=>true) held fuel 24 cs=some x) :
  ∃ y0 y1 y2 y3 y4 y5 n,x.1=.agg [y0.1,y1.1,y2.1,y3.1,y4.1,y5.1]/\DataW.trod enc Tryz.prog w 0 (λ_=>true) held n 22 ((cs.drop 0).take 1)=some y0/\DataW.trod enc Tryz.prog w 0 (λ_=>true) held n 3 ((cs.drop 1).take 1)=some y1/\DataW.trod enc Tryz.prog w 0 (λ_=>true) held n 3 ((cs.drop 2).take 1)=some y2 /\
   DataW.trod enc Tryz.prog w 0 (λ_=>true) held n 3 ((cs.drop 3).take 1)=some y3/\DataW.trod enc Tryz.prog w 0 (λ_=>true) held n 3 ((cs.drop 4).take 1)=some y4/\DataW.trod enc Tryz.prog w 0 (λ_=>true) held n 3 ((cs.drop 5).take 1)=some y5:=by
 obtain ⟨y0,y1,y2,y3,y4,y5,n,hx,f0,f1,f2,f3,f4,f5⟩:=zpi Tryz.underlying24 h
 rw [ztq] at f0
 rw [zfr] at f1 f2 f3 f4 f5
 exact ⟨y0,y1,y2,y3,y4,y5,n,hx,f0,f1,f2,f3,f4,f5⟩
theorem jfj {r:Reach} {b0:Nat} {v:Value} {d:DataW H} {p:List MemPlace} (hv:Value.okWide Tryz.prog w r b0 24 v) (h:DataW.Trod enc Tryz.prog w 0 (λ_=>true) held 24 v d p) :
  ∃ g bx tp nr md,i64 g/\i64 bx/\i64 tp/\i64 nr/\i64 md/\(v=cfV (.slice none 0 0) g bx tp nr md\/∃ (k off n cap:Nat) (b:Blk) (f:Nat->Int),v=cfV (.slice (some ⟨k,off,none⟩) n cap) g bx tp nr md/\CfAt w k off n cap b f):=by
 simp only [Value.okWide,Tryz.underlying24] at hv
 obtain ⟨cs,rfl,hsz,ts,hts,_,hall⟩:=hv
 rw [zqa] at hts
 simp only [Option.some.injEq] at hts
 subst hts
 obtain ⟨fuel,hf⟩:=h
 obtain ⟨y0,y1,y2,y3,y4,y5,n,_,h0,h1,h2,h3,h4,h5⟩:=zpg hf
 simp only [Value.cells] at h0 h1 h2 h3 h4 h5
 obtain ⟨g,e1,_,w1⟩:=DataW.trod_int Tryz.underlying3 h1
 obtain ⟨bx,e2,_,w2⟩:=DataW.trod_int Tryz.underlying3 h2
 obtain ⟨tp,e3,_,w3⟩:=DataW.trod_int Tryz.underlying3 h3
 obtain ⟨nr,e4,_,w4⟩:=DataW.trod_int Tryz.underlying3 h4
 obtain ⟨md,e5,_,w5⟩:=DataW.trod_int Tryz.underlying3 h5
 rw [ztp] at hsz
 obtain ⟨c0,c1,c2,c3,c4,c5,rfl⟩:∃ c0 c1 c2 c3 c4 c5,cs=#[c0,c1,c2,c3,c4,c5]:=by
  obtain ⟨l⟩:=cs
  match l,hsz with
  | [c0,c1,c2,c3,c4,c5],_=>exact ⟨c0,c1,c2,c3,c4,c5,rfl⟩
 simp at e1 e2 e3 e4 e5
 subst e1 e2 e3 e4 e5
 refine ⟨g,bx,tp,nr,md,zh3 w1,zh3 w2,zh3 w3,zh3 w4,zh3 w5,?_⟩
 rcases open_ints Tryz.underlying22 Tryz.underlying3 zfr h0 with ⟨e0,_⟩|⟨a,len,cap,zs,e0,_,hle,_,hzl,_,hc,hw⟩
 ·simp at e0
  subst e0
  exact .inl rfl
 ·simp at e0
  subst e0
  right
  rw [if_pos rfl] at hzl
  obtain ⟨u,hu,hok⟩:=hall 0 _ rfl
  simp at hu
  subst hu
  simp only [Cell.okWide,Cell.ok,Tryz.underlying22] at hok
  obtain ⟨_,_,_,hsp,row,cells,hsh,hlies⟩:=hok
  obtain ⟨k,off,sp⟩:=a
  simp only at hsp hsh hlies
  subst hsp
  have hsh':=hsh
  unfold World.shape? at hsh'
  split at hsh'
  ·rename_i c T fr hh
   simp only [Option.some.injEq,Prod.mk.injEq] at hsh'
   obtain ⟨rfl,rfl⟩:=hsh'
   refine ⟨k,off,len,cap,⟨c,.raw T fr⟩,λj=>zs.getD j 0,rfl,hle,hh,trivial,⟨c,T,fr,rfl⟩,λj hj=>?_,λj hj=>?_,T,_,hsh,hlies⟩
   ·have h2:=hc j (by omega)
    rw [Addr.add_lit] at h2
    simpa [World.cell?,hh] using h2
   ·have hjz:j<zs.length:=by omega
    exact zh3 (hw _ (by simp [List.getD,List.getElem?_eq_getElem hjz]))
  ·cases hsh'
theorem jj9 {g bx tp nr md:Int} {a:Addr} {n cap:Nat} {d:DataW H} {p:List MemPlace} (h:DataW.Trod enc Tryz.prog w 0 (λ_=>true) held 24 (cfV (.slice (some a) n cap) g bx tp nr md) d p) (hw:∀ x∈d.weights Tryz.prog 24,x<=reachBytes):cap<=17592186044416:=by
 obtain ⟨fuel,hf⟩:=h
 obtain ⟨y0,y1,y2,y3,y4,y5,m,hx,h0,_⟩:=zpg hf
 simp only [cfV,Value.cells] at h0
 rcases Deep.open_slice Tryz.underlying22 h0 with ⟨e1,_⟩|⟨a',len,cap',m',n',D,Pl,e1,_,hlc,hcm,hm,hy1,_⟩
 ·simp at e1
 ·simp at e1
  obtain ⟨rfl,rfl,rfl⟩:=e1
  rw [if_pos rfl] at hm
  subst hm
  rw [show d=_ from hx,hy1] at hw
  have:=hw ((n+(m' - n))*8) (by
   simp only [DataW.weights,Tryz.underlying24]
   simp [DataW.weightsEach,DataW.weights,Tryz.underlying22,zwh])
  unfold reachBytes at this
  omega
end
theorem zts:Tryz.prog.cellsOf 32=8:=by kernel_rfl
section
variable {H:Type} {enc:TypeId×Value->H} {w:World} {base:Nat} {spare:Nat->Bool} {held:Bool}
theorem zlu {fuel:Nat} {cs:List Value} {x:DataW H×List MemPlace} (h:DataW.trod enc Tryz.prog w base spare held fuel 30 cs=some x):cs.length=4/\∀ j,j<4->∃ z,cs[j]? = some (.int .u64 z)/\0<=z/\z<18446744073709551616:=by
 obtain ⟨xs,m,_,rfl,hl,hxs,hi⟩:=DataW.trod_array Tryz.underlying30 h
 rw [zic] at hl
 refine ⟨hl,λj hj=>?_⟩
 have h1:=hi j hj
 rw [znz,Nat.mul_one,List.getElem?_eq_getElem (by omega)] at h1
 obtain ⟨z,e,_,hw⟩:=DataW.trod_int Tryz.underlying28 h1
 refine ⟨z,?_,jg3 hw⟩
 have:=congrArg (·[0]?) e
 simpa [List.getElem?_take,List.getElem?_drop] using this
end
theorem zrq:Tryz.prog.cellsOf 33=3:=by kernel_rfl
theorem ztr:Tryz.prog.cellsOf 38=14:=by kernel_rfl
theorem ztm:Tryz.prog.bytesOf 38=112:=by kernel_rfl
theorem zqm (d c o n:Nat):liesAt Tryz.prog d 171 c o 38 n=false:=by
 cases d with
 | zero=>rfl
 | succ d =>
  unfold liesAt
  rw [zhf (by kernel_rfl) (by kernel_rfl),Tryz.underlying38]
  rfl
theorem zuj (d c o n:Nat):liesAt Tryz.prog d 30 c o 38 n=false:=by
 cases d with
 | zero=>rfl
 | succ d =>
  unfold liesAt
  rw [ziq (by kernel_rfl) (by kernel_rfl),Tryz.underlying38]
  rfl
theorem z0i:∀ p∈G0L,∃ t,p.2.T=.ty t/\∀ d c o n,liesAt Tryz.prog d t c o 38 n=false:=by
 intro p hp
 unfold G0L at hp
 rcases List.mem_cons.1 hp with rfl|hp
 ·exact ⟨_,rfl,zuj⟩
 rcases List.mem_cons.1 hp with rfl|hp
 ·exact ⟨_,rfl,zqm⟩
 cases hp
section
variable {H:Type} {enc:TypeId×Value->H} {w:World} {base:Nat} {spare:Nat->Bool} {held:Bool}
theorem zr5 {fuel:Nat} {cs:List Value} {x:DataW H×List MemPlace} (h:DataW.trod enc Tryz.prog w base spare held fuel 33 cs=some x):cs.length=3/\∀ j,j<3->∃ z,cs[j]? = some (.int .i64 z)/\i64 z:=by
 obtain ⟨xs,m,_,rfl,hl,hxs,hi⟩:=DataW.trod_array Tryz.underlying33 h
 rw [zrq] at hl
 refine ⟨hl,λj hj=>?_⟩
 have h1:=hi j hj
 rw [zfr,Nat.mul_one,List.getElem?_eq_getElem (by omega)] at h1
 obtain ⟨z,e,_,hw⟩:=DataW.trod_int Tryz.underlying3 h1
 refine ⟨z,?_,zh3 hw⟩
 have:=congrArg (·[0]?) e
 simpa [List.getElem?_take,List.getElem?_drop] using this
theorem zs1 {cs:List Value} (hl:cs.length=4) (h:∀ j,j<4->∃ z,cs[j]? = some (.int .u64 z)/\0<=z/\z<18446744073709551616):∃ z,wr z/\∀ j,j<4->cs[j]? = some (.int .u64 (wi z j)):=by
 obtain ⟨a,ea,ha⟩:=h 0 (by omega)
 obtain ⟨b,eb,hb⟩:=h 1 (by omega)
 obtain ⟨c,ec,hc⟩:=h 2 (by omega)
 obtain ⟨d,ed,hd⟩:=h 3 (by omega)
 obtain ⟨z,hz,e0,e1,e2,e3⟩:=z4j a b c d ha hb hc hd
 refine ⟨z,hz,λj hj=>?_⟩
 have:j=0\/j=1\/j=2\/j=3:=by omega
 rcases this with rfl|rfl|rfl|rfl
 ·rw [e0];exact ea
 ·rw [e1];exact eb
 ·rw [e2];exact ec
 ·rw [e3];exact ed
theorem zph {P:Program} {t:TypeId} {f0 f1 f2:Field} {fuel:Nat} {cs:List Value} {x:DataW H×List MemPlace} (ht:P.underlying t=some (.struct #[f0,f1,f2])) (h:DataW.trod enc P w base spare held fuel t cs=some x) :
  ∃ y0 y1 y2 n,cs.length=P.cellsOf t/\DataW.trod enc P w base spare held n f0.type ((cs.drop f0.offset).take (P.cellsOf f0.type))=some y0/\DataW.trod enc P w base spare held n f1.type ((cs.drop f1.offset).take (P.cellsOf f1.type))=some y1 /\
   DataW.trod enc P w base spare held n f2.type ((cs.drop f2.offset).take (P.cellsOf f2.type))=some y2:=by
 obtain ⟨xs,n,_,hx,hl,hlen,hf⟩:=DataW.trod_struct ht h
 match xs,hlen with
 | [y0,y1,y2],_=>exact ⟨y0,y1,y2,n,hl,by simpa using hf 0 f0 rfl,by simpa using hf 1 f1 rfl,by simpa using hf 2 f2 rfl⟩
theorem zu5 {fuel:Nat} {cs:List Value} {x:DataW H×List MemPlace} (h:DataW.trod enc Tryz.prog w base spare held fuel 32 cs=some x):∃ lo hi,wr lo/\wr hi/\(∀ j,j<4->cs[j]? = some (.int .u64 (wi lo j)))/\∀ j,j<4->cs[4+j]? = some (.int .u64 (wi hi j)):=by
 obtain ⟨y0,y1,n,_,hl,h0,h1⟩:=trod_struct2 Tryz.underlying32 h
 simp only [zic] at h0 h1
 obtain ⟨l0,w0⟩:=zlu h0
 obtain ⟨l1,w1⟩:=zlu h1
 obtain ⟨lo,hlo,e0⟩:=zs1 l0 w0
 obtain ⟨hi,hhi,e1⟩:=zs1 l1 w1
 refine ⟨lo,hi,hlo,hhi,λj hj=>?_,λj hj=>?_⟩
 ·have:=e0 j hj
  simpa [List.getElem?_take,List.getElem?_drop,hj] using this
 ·have:=e1 j hj
  rw [List.getElem?_take,if_pos hj,List.getElem?_drop] at this
  exact this
def jeq (lo hi:Int) (p l:Nat->Int) (c:Nat):Int:=if c=0 then lo else if c=1 then hi else if c<5 then p (c - 2) else if c<8 then p (c - 5) else if c<11 then l (c - 8) else l (c - 11)
theorem zuk {fuel:Nat} {cs:List Value} {x:DataW H×List MemPlace} (h:DataW.trod enc Tryz.prog w base spare held fuel 38 cs=some x):∃ lw,LsOk lw/\∀ j,j<14->cs[j]? = some (zox lw j):=by
 obtain ⟨y0,y1,y2,n,hl,h0,h1,h2⟩:=zph Tryz.underlying38 h
 simp only [zts,zrq] at h0 h1 h2
 obtain ⟨lo,hi,a,b,e0,e1⟩:=zu5 h0
 obtain ⟨_,p⟩:=zr5 h1
 obtain ⟨_,l⟩:=zr5 h2
 obtain ⟨p0,ep0,ip0⟩:=p 0 (by omega)
 obtain ⟨p1,ep1,ip1⟩:=p 1 (by omega)
 obtain ⟨p2,ep2,ip2⟩:=p 2 (by omega)
 obtain ⟨l0,el0,il0⟩:=l 0 (by omega)
 obtain ⟨l1,el1,il1⟩:=l 1 (by omega)
 obtain ⟨l2,el2,il2⟩:=l 2 (by omega)
 simp only [List.getElem?_take,List.getElem?_drop,Nat.reduceLT,if_true,Nat.reduceAdd,Nat.add_zero] at ep0 ep1 ep2 el0 el1 el2
 have f0:∀ j,j<4->cs[j]? = some (.int .u64 (wi lo j)):=λj hj=>by
  have:=e0 j hj
  rw [List.getElem?_take,if_pos (by omega),List.getElem?_drop,Nat.zero_add] at this
  exact this
 have f1:∀ j,j<4->cs[4+j]? = some (.int .u64 (wi hi j)):=λj hj=>by
  have:=e1 j hj
  rw [List.getElem?_take,if_pos (by omega),List.getElem?_drop,Nat.zero_add] at this
  exact this
 refine ⟨jeq lo hi (λq=>if q=0 then p0 else if q=1 then p1 else p2) (λq=>if q=0 then l0 else if q=1 then l1 else l2),⟨a,b,λc k1 k2=>?_,λq hq=>?_⟩,λj hj=>?_⟩
 ·unfold jeq
  rw [if_neg (by omega),if_neg (by omega)]
  split
  ·dsimp only;split;exact ip0;split;exact ip1;exact ip2
  ·split
   ·dsimp only;split;exact ip0;split;exact ip1;exact ip2
   ·split
    ·dsimp only;split;exact il0;split;exact il1;exact il2
    ·dsimp only;split;exact il0;split;exact il1;exact il2
 ·have:q=0\/q=1\/q=2:=by omega
  rcases this with rfl|rfl|rfl<;>exact ⟨rfl,rfl⟩
 ·have:j=0\/j=1\/j=2\/j=3\/j=4\/j=5\/j=6\/j=7\/j=8\/j=9\/j=10\/j=11\/j=12\/j=13:=by omega
  rcases this with rfl|rfl|rfl|rfl|rfl|rfl|rfl|rfl|rfl|rfl|rfl|rfl|rfl|rfl
  ·exact f0 0 (by omega)
  ·exact f0 1 (by omega)
  ·exact f0 2 (by omega)
  ·exact f0 3 (by omega)
  ·exact f1 0 (by omega)
  ·exact f1 1 (by omega)
  ·exact f1 2 (by omega)
  ·exact f1 3 (by omega)
  ·exact ep0
  ·exact ep1
  ·exact ep2
  ·exact el0
  ·exact el1
  ·exact el2
structure LsAt (W:World) (k off n cap:Nat) (b:Blk) (f:Nat->Nat->Int):Prop where
 le:n<=cap
 heap:W.heap[k]? = some b.obj0
 fx:b.fx
 raw:∃ c T fr,b=⟨c,.raw T fr⟩
 rd:rdV b off (14*cap) (zhs f)
 ok:∀ i,i<cap->LsOk (f i)
 row:zy1 f
 lies:∃ row c,W.shape? k=some (row,c)/\liesAt Tryz.prog Tryz.prog.depth row (c / Tryz.prog.cellsOf row) off 38 cap=true
theorem LsAt.lb {W:World} {k off n cap:Nat} {b:Blk} {f:Nat->Nat->Int} (h:LsAt W k off n cap b f) (hn:n<=1256598820000):LB b off n f :=
 ⟨h.rd.le (by have:=h.le;omega),h.fx,h.row,λi hi=>(h.ok i (Nat.lt_of_lt_of_le hi h.le)).i,λi hi=>⟨(h.ok i (Nat.lt_of_lt_of_le hi h.le)).w0,(h.ok i (Nat.lt_of_lt_of_le hi h.le)).w1⟩,hn⟩
theorem LsAt.ne {W:World} {k off n cap:Nat} {b:Blk} {f:Nat->Nat->Int} (h:LsAt W k off n cap b f) (hg:GOK G0 W):∀ g c,G0 g=some c->k≠g:=λg c hc e=>by
 have h1:=hg g c hc
 obtain ⟨t,ht,hl'⟩:=z0i _ (znh hc)
 obtain ⟨row,q,hsh,hl⟩:=h.lies
 rw [e] at hsh
 unfold World.shape? at hsh
 rw [h1] at hsh
 obtain ⟨cc,T⟩:=c
 simp only at ht
 subst ht
 simp only [Blk.obj0,Option.some.injEq,Prod.mk.injEq] at hsh
 obtain ⟨rfl,rfl⟩:=hsh
 rw [hl'] at hl
 cases hl
theorem zqu {r:Reach} {b0:Nat} {v:Value} {d:DataW H} {p:List MemPlace} (hv:Value.okWide Tryz.prog w r b0 36 v) (h:DataW.Trod enc Tryz.prog w 0 (λ_=>true) held 36 v d p) :
  v=.slice none 0 0\/∃ (k off n cap:Nat) (b:Blk) (f:Nat->Nat->Int),v=.slice (some ⟨k,off,none⟩) n cap/\LsAt w k off n cap b f:=by
 simp only [Value.okWide,Tryz.underlying36] at hv
 obtain ⟨q,n0,c0,rfl⟩:∃ q n0 c0,v=.slice q n0 c0:=by
  cases v<;>simp [Cell.okWide,Cell.ok,Tryz.underlying36] at hv |-
 obtain ⟨fuel,hf⟩:=h
 simp only [Value.cells] at hf
 rcases Deep.open_slice Tryz.underlying36 hf with ⟨e0,_⟩|⟨a,len,cap,m,n,D,Pl,e0,_,hlc,hcm,hm,_,hel⟩
 ·left
  simpa using e0
 ·right
  simp at e0
  obtain ⟨rfl,rfl,rfl⟩:=e0
  rw [if_pos rfl] at hm
  subst hm
  simp only [Cell.okWide,Cell.ok,Tryz.underlying36] at hv
  obtain ⟨_,_,_,hsp,row,cells,hsh,hlies⟩:=hv
  obtain ⟨k,off,sp⟩:=a
  simp only at hsp hsh hlies
  subst hsp
  have hel2:∀ i,i<m->∃ lw,LsOk lw/\∀ j,j<14->w.cell? (Addr.add ⟨k,off,none⟩ (i*14+j))=some (zox lw j):=λi hi=>by
   obtain ⟨cs',h1,h2⟩:=hel i hi
   rw [ztr] at h1
   obtain ⟨lw,hlw,hc⟩:=zuk h2
   refine ⟨lw,hlw,λj hj=>?_⟩
   unfold World.cells? at h1
   rw [if_pos (Nat.zero_le _)] at h1
   have h3:=mapM_some_get h1 j j (List.getElem?_range (by omega))
   rw [hc j hj,Deep.add_add] at h3
   exact h3
  let f:Nat->Nat->Int:=λi=>if h:i<m then Classical.choose (hel2 i h) else λ_=>0
  have hf1:∀ i (hi:i<m),LsOk (f i)/\∀ j,j<14->w.cell? (Addr.add ⟨k,off,none⟩ (i*14+j))=some (zox (f i) j):=λi hi=>by
   have:=Classical.choose_spec (hel2 i hi)
   simp only [f,dif_pos hi]
   exact this
  have hf2:zy1 f:=λi q hq=>by
   by_cases hi:i<m
   ·exact (hf1 i hi).1.r q hq
   ·simp only [f,dif_neg hi]
    exact ⟨trivial,trivial⟩
  have hsh':=hsh
  unfold World.shape? at hsh'
  split at hsh'
  ·rename_i c T fr hh
   simp only [Option.some.injEq,Prod.mk.injEq] at hsh'
   obtain ⟨rfl,rfl⟩:=hsh'
   refine ⟨k,off,_,m,⟨c,.raw T fr⟩,f,rfl,hlc,hh,trivial,⟨c,T,fr,rfl⟩,λj hj=>?_,λi hi=>(hf1 i hi).1,hf2,T,_,hsh,hlies⟩
   have h2:=(hf1 (j / 14) (by omega)).2 (j%14) (by omega)
   rw [Addr.add_lit,show j / 14*14+j%14=j by omega] at h2
   unfold zhs
   simpa [World.cell?,hh] using h2
  ·cases hsh'
theorem z7c {a:Addr} {n cap:Nat} {d:DataW H} {p:List MemPlace} (h:DataW.Trod enc Tryz.prog w 0 (λ_=>true) held 36 (.slice (some a) n cap) d p) (hw:∀ x∈d.weights Tryz.prog 36,x<=reachBytes):cap<=1256598820000:=by
 obtain ⟨fuel,hf⟩:=h
 simp only [Value.cells] at hf
 rcases Deep.open_slice Tryz.underlying36 hf with ⟨e1,_⟩|⟨a',len,cap',m',n',D,Pl,e1,_,hlc,hcm,hm,hy1,_⟩
 ·simp at e1
 ·simp at e1
  obtain ⟨rfl,rfl,rfl⟩:=e1
  rw [if_pos rfl] at hm
  subst hm
  simp only [Prod.mk.injEq] at hy1
  rw [hy1.1] at hw
  have:=hw ((n+(m' - n))*112) (by
   simp [DataW.weights,Tryz.underlying36,ztm])
  unfold reachBytes at this
  omega
end
structure Mine (W:World) (k:Nat) (b:Blk):Prop where
 heap:W.heap[k]? = some b.obj0
 fx:b.fx
 raw:∃ c T fr,b=⟨c,.raw T fr⟩
 ne:∀ g c,G0 g=some c->k≠g
structure Laid (W:World) (L:List (Nat×Blk)) (nm:Nat->Nat):Prop where
 ok:LOk L (100+8*L.length)
 fx:∀ p∈L,p.2.fx
 mine:∀ p∈L,Mine W (nm p.1) p.2
 inj:∀ p∈L,∀ q∈L,nm p.1=nm q.1->p.1=q.1
 low:∀ k,k<100->nm k=k
def nmX (a x:Nat) (nm:Nat->Nat) (k:Nat):Nat:=if k=a then x else nm k
theorem nmX_new (a x:Nat) (nm:Nat->Nat):nmX a x nm a=x:=if_pos rfl
theorem nmX_old {a x k:Nat} {nm:Nat->Nat} (h:k≠a):nmX a x nm k=nm k:=if_neg h
theorem lay {W:World}:∀ (xs:List (Nat×Blk)),(∀ x∈xs,Mine W x.1 x.2)->∃ L nm,Laid W L nm/\L.length<=xs.length/\∀ x∈xs,∃ m,(m,x.2)∈L/\nm m=x.1
 | [],_=>⟨[],λk=>k,⟨⟨(λp hp=>by cases hp),List.nodup_nil,(λp hp=>by cases hp)⟩,(λp hp=>by cases hp),(λp hp=>by cases hp),(λp hp=>by cases hp),λk _=>rfl⟩,Nat.le_refl _,λx hx=>by cases hx⟩
 | x::xs,h=>by
  obtain ⟨L,nm,hL,hl,hx⟩:=lay xs λy hy=>h y (List.mem_cons_of_mem _ hy)
  have hm:=h x (List.mem_cons_self ..)
  by_cases hin:∃ p∈L,nm p.1=x.1
  ·obtain ⟨p,hp,e⟩:=hin
   have hp2:=hL.mine p hp
   rw [e] at hp2
   have e2:p.2=x.2:=jjf hp2.heap hm.heap hp2.raw hm.raw
   refine ⟨L,nm,hL,by simp only [List.length_cons];omega,λy hy=>?_⟩
   rcases List.mem_cons.1 hy with rfl|hy
   ·exact ⟨p.1,by rw [<-e2];exact hp,e⟩
   ·exact hx y hy
  ·have hfr:∀ p∈L,p.1≠100+8*L.length:=λp hp=>by have:=hL.ok.big p hp;omega
   have hnk:100+8*L.length∉zab L:=λhk=>by
    obtain ⟨p,hp,e⟩:=zaf.1 hk
    exact hfr p hp e
   have old:∀ p∈L,nmX (100+8*L.length) x.1 nm p.1=nm p.1:=λp hp=>nmX_old (hfr p hp)
   have new:nmX (100+8*L.length) x.1 nm (100+8*L.length)=x.1:=nmX_new _ _ _
   refine ⟨(100+8*L.length,x.2)::L,nmX (100+8*L.length) x.1 nm,⟨⟨?_,?_,?_⟩,?_,?_,?_,?_⟩,by simp only [List.length_cons];omega,?_⟩
   ·intro p hp
    simp only [List.length_cons]
    rcases List.mem_cons.1 hp with rfl|hp
    ·simp only;omega
    ·have:=hL.ok.big p hp;omega
   ·show ((100+8*L.length)::zab L).Nodup
    exact List.nodup_cons.2 ⟨hnk,hL.ok.one⟩
   ·intro p hp
    rcases List.mem_cons.1 hp with rfl|hp
    ·exact Blk.fx_ids hm.fx _
    ·exact Blk.fx_ids (hL.fx p hp) _
   ·intro p hp
    rcases List.mem_cons.1 hp with rfl|hp
    ·exact hm.fx
    ·exact hL.fx p hp
   ·intro p hp
    rcases List.mem_cons.1 hp with rfl|hp
    ·rw [show ((100+8*L.length,x.2):Nat×Blk).1=100+8*L.length from rfl,new];exact hm
    ·rw [old p hp];exact hL.mine p hp
   ·intro p hp q hq e
    rcases List.mem_cons.1 hp with rfl|hp<;>rcases List.mem_cons.1 hq with rfl|hq
    ·rfl
    ·rw [old q hq,show ((100+8*L.length,x.2):Nat×Blk).1=100+8*L.length from rfl,new] at e
     exact absurd ⟨q,hq,e.symm⟩ hin
    ·rw [old p hp,show ((100+8*L.length,x.2):Nat×Blk).1=100+8*L.length from rfl,new] at e
     exact absurd ⟨p,hp,e⟩ hin
    ·rw [old p hp,old q hq] at e
     exact hL.inj p hp q hq e
   ·intro k hk
    rw [nmX_old (by omega)]
    exact hL.low k hk
   ·intro y hy
    rcases List.mem_cons.1 hy with rfl|hy
    ·exact ⟨100+8*L.length,List.mem_cons_self ..,new⟩
    ·obtain ⟨m,hm1,hm2⟩:=hx y hy
     exact ⟨m,List.mem_cons_of_mem _ hm1,by rw [old _ hm1];exact hm2⟩
theorem Laid.any {W:World} {L:List (Nat×Blk)} {nm:Nat->Nat} (h:Laid W L nm) (hl:L.length<=12):LAny L:=⟨⟨λp hp=>by have:=h.ok.big p hp;omega,h.ok.one,h.ok.ids⟩,h.fx⟩
theorem fun_laid {fn:FuncId} {args:Array Value} {W:World} {L:List (Nat×Blk)} {nm:Nat->Nat} {v:Value} (h:Laid W L nm) (hl:L.length<=12) (hF:Fun Tryz.prog G0 fn args (hpL G0 L) (zab L) (.ret v [])) (hv:zay v=true) (hgok:GOK G0 W) :
  zd3 Tryz.prog fn (args.map (ren nm)) W λe W'=>e=.returned v/\Below W.heap.size W W' :=
 jpw nm G0F hF hv hgok (h.any hl).ok h.fx (λp hp=>(h.mine p hp).heap) (λp hp=>(h.mine p hp).ne) h.inj h.low
def LS (L:List (Nat×Blk)) (p:Option Addr) (n cap:Nat):Prop:=∃ k off b w,p=some ⟨k,off,none⟩/\(k,b)∈L/\LB b off n w/\n<=cap
def Op1 (W:World) (Good:List (Nat×Blk)->Option Addr->Nat->Nat->Prop) (p:Option Addr) (n cap:Nat):Prop :=
 ∃ xs:List (Nat×Blk),xs.length<=1/\(∀ x∈xs,Mine W x.1 x.2)/\∀ L nm,(∀ x∈xs,∃ m,(m,x.2)∈L/\nm m=x.1)->∃ q,(NS q n cap\/Good L q n cap)/\ren nm (.slice q n cap)=.slice p n cap
theorem Op1.nil {W:World} {Good:List (Nat×Blk)->Option Addr->Nat->Nat->Prop}:Op1 W Good none 0 0:=⟨[],by simp,by simp,λL nm h=>⟨none,.inl ⟨rfl,rfl,rfl⟩,rfl⟩⟩
theorem Op1.conf {W:World} {k off n cap:Nat} {b:Blk} {f:Nat->Int} (h:CfAt W k off n cap b f) (hg:GOK G0 W) (hn:n<=17592186044416):Op1 W MS (some ⟨k,off,none⟩) n cap :=
 ⟨[(k,b)],by simp,by simp only [List.mem_singleton,forall_eq];exact ⟨h.heap,h.fx,h.raw,h.ne hg⟩,λL nm hx=>by
  obtain ⟨m,hm,e⟩:=hx (k,b) (by simp)
  exact ⟨some ⟨m,off,none⟩,.inr ⟨m,off,b,f,rfl,hm,h.mb hn,h.le⟩,by simp only at e;subst e;simp [ren,za1,zak,zan]⟩⟩
theorem Op1.state {W:World} {k off n cap:Nat} {b:Blk} {f:Nat->Int} (h:StAt W k off n cap b f) (hg:GOK G0 W) (hn:n<=2932031007402):Op1 W SS (some ⟨k,off,none⟩) n cap :=
 ⟨[(k,b)],by simp,by simp only [List.mem_singleton,forall_eq];exact ⟨h.heap,h.fx,h.raw,h.ne hg⟩,λL nm hx=>by
  obtain ⟨m,hm,e⟩:=hx (k,b) (by simp)
  exact ⟨some ⟨m,off,none⟩,.inr ⟨m,off,b,f,rfl,hm,h.sb hn,h.le⟩,by simp only at e;subst e;simp [ren,za1,zak,zan]⟩⟩
theorem Op1.losses {W:World} {k off n cap:Nat} {b:Blk} {f:Nat->Nat->Int} (h:LsAt W k off n cap b f) (hg:GOK G0 W) (hn:n<=1256598820000):Op1 W LS (some ⟨k,off,none⟩) n cap :=
 ⟨[(k,b)],by simp,by simp only [List.mem_singleton,forall_eq];exact ⟨h.heap,h.fx,h.raw,h.ne hg⟩,λL nm hx=>by
  obtain ⟨m,hm,e⟩:=hx (k,b) (by simp)
  exact ⟨some ⟨m,off,none⟩,.inr ⟨m,off,b,f,rfl,hm,h.lb hn,h.le⟩,by simp only at e;subst e;simp [ren,za1,zak,zan]⟩⟩
theorem ren_cf {ρ:Nat->Nat} {q p:Option Addr} {n cap:Nat} {g bx tp nr md:Int} (h:ren ρ (.slice q n cap)=.slice p n cap):ren ρ (cfV (.slice q n cap) g bx tp nr md)=cfV (.slice p n cap) g bx tp nr md:=by
 cases q with
 | none=>cases h;simp [cfV,ren,za1,zak,zan]
 | some a=>simp [ren,za1,zak,zan] at h;simp [cfV,ren,za1,zak,zan,h]
theorem ren_st {ρ:Nat->Nat} {q p:Option Addr} {n cap:Nat} {st:Int} (h:ren ρ (.slice q n cap)=.slice p n cap):ren ρ (.agg #[.int .i64 st,.slice q n cap])=.agg #[.int .i64 st,.slice p n cap]:=by
 cases q with
 | none=>cases h;simp [ren,za1,zak,zan]
 | some a=>simp [ren,za1,zak,zan] at h;simp [ren,za1,zak,zan,h]
section
variable {H:Type} {enc:TypeId×Value->H} {w:World} {held:Bool}
theorem op_conf {r:Reach} {b0:Nat} {v:Value} {d:DataW H} {p:List MemPlace} (hv:Value.okWide Tryz.prog w r b0 24 v) (h:DataW.Trod enc Tryz.prog w 0 (λ_=>true) held 24 v d p) (hw:∀ x∈d.weights Tryz.prog 24,x<=reachBytes) (hg:GOK G0 w) :
  ∃ g bx tp nr md q n cap,i64 g/\i64 bx/\i64 tp/\i64 nr/\i64 md/\v=cfV (.slice q n cap) g bx tp nr md/\Op1 w MS q n cap:=by
 obtain ⟨g,bx,tp,nr,md,w1,w2,w3,w4,w5,h0⟩:=jfj hv h
 rcases h0 with rfl|⟨k,off,n,cap,b,f,rfl,at0⟩
 ·exact ⟨g,bx,tp,nr,md,none,0,0,w1,w2,w3,w4,w5,rfl,Op1.nil⟩
 ·exact ⟨g,bx,tp,nr,md,_,n,cap,w1,w2,w3,w4,w5,rfl,Op1.conf at0 hg (Nat.le_trans at0.le (jj9 h hw))⟩
theorem op_state {r:Reach} {b0:Nat} {v:Value} {d:DataW H} {p:List MemPlace} (hv:Value.okWide Tryz.prog w r b0 27 v) (h:DataW.Trod enc Tryz.prog w 0 (λ_=>true) held 27 v d p) (hw:∀ x∈d.weights Tryz.prog 27,x<=reachBytes) (hg:GOK G0 w) :
  ∃ st q n cap,i64 st/\v=.agg #[.int .i64 st,.slice q n cap]/\Op1 w SS q n cap:=by
 obtain ⟨st,ws,h0⟩:=jbp hv h
 rcases h0 with rfl|⟨k,off,n,cap,b,f,rfl,at0⟩
 ·exact ⟨st,none,0,0,ws,rfl,Op1.nil⟩
 ·exact ⟨st,_,n,cap,ws,rfl,Op1.state at0 hg (Nat.le_trans at0.le (jnn h hw))⟩
end
end Go.Gy
