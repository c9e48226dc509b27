/-
  Lemmas of this claim, in their order (GyGZ, GyH, GyHS, GyHP, GyHT, GyHC, GyH3, GyHK).
  Conditions: those of each theorem.
-/
import Derived.Test.YtmnknnojkhkceaaGreatDoorGz07
import Derived.Stop.LaidErr
import Derived.Test.YtmnknnojkhkceaaGreatDoorCards
import Derived.Test.YtmnknnojkhkceaaGreatDoorTie
import Derived.WalkKit
import Derived.ProofKit
import Derived.OpenShut
import Derived.Below
import Derived.ChangeSame
import Derived.Deep.DeepHandedRow
import Derived.Lib.LaidTab
import Derived.Deep.Slices
import Derived.ReadAgain
import Derived.Carry
import Derived.Deep.Strs
import Derived.ChangeSlices
set_option linter.unusedSimpArgs false
set_option linter.unusedVariables false
namespace Go.Gy
open Go Go.RowKit Go.Proofs Go.Proofs.Tryz
theorem zly (nk:Nat) (hnk:200<=nk) (st:Int):FunS prog G1 22 #[.agg #[.int .i64 st,.slice none 0 0]] (hpL G1 []) (zab []) (zwh nk st 0 λ_=>0):=by
 have h:=FunS.up1 (m:=[]) (B:=200) (zzo st) zbf
 refine h.nmL zbf (by simp) nk hnk (λv ns=>zcm) (by simp [ren,zas,zan,zao]) ?_
 have h2:=zng (ρ:=r1n nk) (nk:=nk) rfl st 0 λ_=>0
 exact h2
theorem z7j (b':Blk) (c':Nat) (hb:b'.fx) (st:Int) :
  Fun prog G1 16 #[.agg #[.int .i64 st,.slice none 0 0],.agg #[.int .i64 st,.slice (some ⟨100,0,none⟩) 0 c']] (hpL G1 [(100,b')]) (zab [(100,b')]) (.ret (.bool true) []):=by
 refine za5 (B:=200) G1F func16 rfl call16 (zam hb) ?_ (by simp) (by simp) (by simp) (by simp [ntmps16]) (by omega) ?_
 ·simp [zap,zau,zaj,zal,zab]
 intro C hC hC0 hY
 repeat' first|refine zad ?_|refine zag ?_|refine gwZ ?_|refine gwW ?_|refine gwC ?_ ?_<;>intro hb
 refine ⟨.inr rfl,by simp [results16],kpS G1F⟩
theorem jfc (g bx tp nr md st:Int) (p q:Int) (z:Int):Fun prog G1 9 #[.agg #[.slice none 0 0,.int .i64 g,.int .i64 bx,.int .i64 tp,.int .i64 nr,.int .i64 md],.agg #[.int .i64 st,.slice none 0 0],.int .i64 p,.int .i64 q,.int .i64 z] (hpL G1 []) (zab []) (.ret (.tuple #[.agg #[.int .i64 0,.int .i64 0,.int .i64 0],.int .i64 2]) []):=by
 refine za5 (B:=200) G1F func9 rfl call9 zbf ?_ (zak (by simp)) (by simp) (by simp) (by simp [ntmps9]) (by omega) ?_
 ·simp [zap,zau,zaj,zal,zab]
 intro C hC hC0 hY
 have hf:=zkk g bx tp nr md st
 repeat' first|refine gwZ ?_|((first|refine gwR [19] ?_|refine gwD [19] ?_);intro Q hQ _;(repeat first|simp [hC,hY]|refine zac hf G1F (B:=200) zbf (λk=>k) (λk hk=>rfl) (by simp [ren,zas,zan,zao,cfV]) (by simp) (by simp) (by simp [zab]) (by simp [zab];try rfl) ?_);refine gwq hQ ?_)|refine gwC ?_ ?_<;>intro hb
 refine zeg 0 (λm s=>s=z10 [] 0 0 0 2) rfl ?_ ?_
 ·rintro m _ rfl
  unfold z10 vb eb
  repeat' first|refine gwZ ?_|refine gwW ?_|refine gwC ?_ ?_<;>intro hb
  refine ⟨.inr rfl,by simp [results9],kpS G1F⟩
 ·intro _
  repeat' first|refine gwZ ?_|((first|refine gwR [19] ?_|refine gwD [19] ?_);intro Q hQ _;(repeat first|simp [hC,hY]|refine zac hf G1F (B:=200) zbf (λk=>k) (λk hk=>rfl) (by simp [ren,zas,zan,zao,cfV]) (by simp) (by simp) (by simp [zab]) (by simp [zab];try rfl) ?_);refine gwq hQ ?_)|refine gwC ?_ ?_<;>intro hb
  refine ⟨rfl,_,0,zc1 _ 1000 hC G1F zbf (by simp) hC0 (by omega) ?_ ?_ (by simp),rfl⟩
  ·simp [zap,zau,zaj,zal,dom,zab]
  ·simp [vb,eb,zae,zaj,zal,dom]
theorem jg2 (g bx tp nr md st:Int) (p q:Int) (z:Int):Fun prog G1 10 #[.agg #[.slice none 0 0,.int .i64 g,.int .i64 bx,.int .i64 tp,.int .i64 nr,.int .i64 md],.agg #[.int .i64 st,.slice none 0 0],.int .i64 p,.int .i64 q,.int .i64 z] (hpL G1 []) (zab []) (.ret (.tuple #[.agg #[.int .i64 0,.int .i64 0,.int .i64 0],.int .i64 2]) []):=by
 refine za5 (B:=200) G1F func10 rfl call10 zbf ?_ (zak (by simp)) (by simp) (by simp) (by simp [ntmps10]) (by omega) ?_
 ·simp [zap,zau,zaj,zal,zab]
 intro C hC hC0 hY
 have hf:=zqw g bx tp nr md st
 repeat' first|refine gwZ ?_|(refine gwX ?_;intro Q hQ _;simp [hC,hY,hf];refine gwq hQ ?_)|refine gwC ?_ ?_<;>intro hb
 refine ⟨.inr rfl,by simp [results10],kpS G1F⟩
theorem zi4 (g bx tp nr md st:Int) (p q:Int):Fun prog G1 12 #[.agg #[.slice none 0 0,.int .i64 g,.int .i64 bx,.int .i64 tp,.int .i64 nr,.int .i64 md],.agg #[.int .i64 st,.slice none 0 0],.int .i64 p,.int .i64 q] (hpL G1 []) (zab []) (.ret (.tuple #[.slice none 0 0,.int .i64 2]) []):=by
 refine za5 (B:=200) G1F func12 rfl call12 zbf ?_ (zak (by simp)) (by simp) (by simp) (by simp [ntmps12]) (by omega) ?_
 ·simp [zap,zau,zaj,zal,zab]
 intro C hC hC0 hY
 have hf:=zqw g bx tp nr md st
 repeat' first|refine gwZ ?_|(refine gwX ?_;intro Q hQ _;simp [hC,hY,hf];refine gwq hQ ?_)|refine gwC ?_ ?_<;>intro hb
 refine ⟨.inr rfl,by simp [results12],kpS G1F⟩
theorem zvt (g bx tp nr md st:Int) (p q:Int):Fun prog G1 18 #[.agg #[.slice none 0 0,.int .i64 g,.int .i64 bx,.int .i64 tp,.int .i64 nr,.int .i64 md],.agg #[.int .i64 st,.slice none 0 0],.int .i64 p,.int .i64 q] (hpL G1 []) (zab []) (.ret (.bool false) []):=by
 refine za5 (B:=200) G1F func18 rfl call18 zbf ?_ (zak (by simp)) (by simp) (by simp) (by simp [ntmps18]) (by omega) ?_
 ·simp [zap,zau,zaj,zal,zab]
 intro C hC hC0 hY
 have hk:=zi4 g bx tp nr md st p q
 repeat' first|refine zad ?_|refine zag ?_|refine gwZ ?_|((first|refine gwR [12] ?_|refine gwD [12] ?_);intro Q hQ _;(repeat first|simp [hC,hY]|refine zac hk G1F (B:=200) zbf (λk=>k) (λk hk=>rfl) (by simp [ren,zas,zan,zao,cfV]) (by simp) (by simp) (by simp [zab]) (by simp [zab];try rfl) ?_);refine gwq hQ ?_)|refine gwC ?_ ?_<;>intro hb
 refine ⟨.inr rfl,by simp [results18],kpS G1F⟩
theorem z0k (g bx tp nr md st:Int) (p q:Int):FunS prog G1 15 #[.agg #[.slice none 0 0,.int .i64 g,.int .i64 bx,.int .i64 tp,.int .i64 nr,.int .i64 md],.agg #[.int .i64 st,.slice none 0 0],.int .i64 p,.int .i64 q] (hpL G1 []) (zab []) (zn9 1000 st 0 (λ_=>0) 2):=by
 refine zdz (B:=200) G1F func15 rfl call15 zbf ?_ zee (by simp [ntmps15]) (by omega) ?_
 ·simp [zap,zau,zaj,zal,zab]
 intro C hC hC0 hY
 have hk:=zi4 g bx tp nr md st p q
 repeat' first|refine gwZ ?_|((first|refine gwR [12] ?_|refine gwD [12] ?_);intro Q hQ _;(repeat first|simp [hC,hY]|refine zac hk G1F (B:=200) zbf (λk=>k) (λk hk=>rfl) (by simp [ren,zas,zan,zao,cfV]) (by simp) (by simp) (by simp [zab]) (by simp [zab];try rfl) ?_);refine gwq hQ ?_)|refine gwC ?_ ?_<;>intro hb
 have dO:=zly 336 (by omega) st
 refine za7 ?_
 simp only [Array.toList]
 refine gwl 1 ?_;intro Q hQ;simp [hC,hY];apply hQ
 simp only [wT,wM,Nat.reduceAdd]
 refine zbd (f:=.func 22) (cap:=#[]) hC dO rfl (by simp) rfl rfl (by simp [okT]) (by simp [gev]) (by simp) (by simp [okX,zbz]) (by simp [gev]) (by simp [zaw,zab]) (by (intro k hk;first|rfl|(simp (disch:=omega) only [zb9,List.mem_cons,List.not_mem_nil,or_false,zaa,zai,zat,if_neg,zaw]<;>done))) ?_ ?_
 ·intro v ns hV k hk
  rw [zcm hV k hk]
  omega
 rintro v ns ⟨c1,M1,g1,x1,y1,z1,rfl,rfl⟩
 refine gwl 3 ?_;intro Q hQ;simp [hC,hY,zbl,zaw];apply hQ
 simp only [wT,wM,Nat.reduceAdd]
 refine zbh ?_
 repeat' first|refine gwZ ?_|(refine gwX ?_;intro Q hQ _;simp [hC,hY,zbl,zaw];refine gwq hQ ?_)|refine gwC ?_ ?_<;>intro hb
 refine ⟨.inr trivial,kpS G1F,_,_,λk=>if k=1000 then 336 else k,⟨_,⟨c1,M1,g1,x1,y1,z1,rfl,rfl⟩,rfl⟩,λk hk=>if_neg (by omega),by simp,by simp,by simp [results15,ren,zas,zan,zao,zaw],?_⟩
 simp [zd3,zaw]
theorem zn4 (g bx tp nr md st:Int) (p q x:Int) (_:i64 g) (_:i64 bx) (_:i64 tp) (_:i64 nr) (_:i64 md) (_:i64 st) (_:i64 p) (_:i64 q) (_:i64 x):Ret prog G1 3 #[.agg #[.slice none 0 0,.int .i64 g,.int .i64 bx,.int .i64 tp,.int .i64 nr,.int .i64 md],.agg #[.int .i64 st,.slice none 0 0],.int .i64 p,.int .i64 q,.int .i64 x] (.bool true):=by
 refine zav G1F func3 rfl call3 (by simp) (by simp) (by simp [ntmps3]) ?_
 intro C hC hC0 hY
 have hg:=zuz g bx tp nr md st
 have wk:=zl5
 have sn:=zs3
 have h1:=jfc g bx tp nr md st p q x
 have h2:=jg2 g bx tp nr md st p q x
 have h3:=zix g bx tp nr md st p q
 have h4:=zi4 g bx tp nr md st p q
 have h5:=zu2 g bx tp nr md st p q
 have h6:=zvt g bx tp nr md st p q
 have f1:=zkk g bx tp nr md st
 have f2:=zqw g bx tp nr md st
 have k1:=zyr g bx tp nr md st p q
 have k2:=(z0k g bx tp nr md st p q).nmL zbf (by simp) 872 (by omega) (λv ns=>zcf) (by simp [r1n,ren,zas,zan,zao]) (zf3 (ρ:=r1n 872) (nk:=872) rfl st 0 (λ_=>0) 2)
 repeat' first|refine gwZ ?_|((first|refine gwR [7,9,10,11,12,14] ?_|refine gwD [7,9,10,11,12,14] ?_);intro Q hQ _;(repeat first|simp [hC,hY,wk,sn]|refine zac hg G1F (B:=200) zbf (λk=>k) (λk hk=>rfl) (by simp [ren,zas,zan,zao,cfV]) (by simp) (by simp) (by simp [zab]) (by simp [zab];try rfl) ?_|refine zac h1 G1F (B:=200) zbf (λk=>k) (λk hk=>rfl) (by simp [ren,zas,zan,zao,cfV]) (by simp) (by simp) (by simp [zab]) (by simp [zab];try rfl) ?_|refine zac h2 G1F (B:=200) zbf (λk=>k) (λk hk=>rfl) (by simp [ren,zas,zan,zao,cfV]) (by simp) (by simp) (by simp [zab]) (by simp [zab];try rfl) ?_|refine zac h3 G1F (B:=200) zbf (λk=>k) (λk hk=>rfl) (by simp [ren,zas,zan,zao,cfV]) (by simp) (by simp) (by simp [zab]) (by simp [zab];try rfl) ?_|refine zac h4 G1F (B:=200) zbf (λk=>k) (λk hk=>rfl) (by simp [ren,zas,zan,zao,cfV]) (by simp) (by simp) (by simp [zab]) (by simp [zab];try rfl) ?_|refine zac k1 G1F (B:=200) zbf (λk=>k) (λk hk=>rfl) (by simp [ren,zas,zan,zao,cfV]) (by simp) (by simp) (by simp [zab]) (by simp [zab];try rfl) ?_);refine gwq hQ ?_)|refine gwC ?_ ?_<;>intro hb
 refine za7 ?_
 simp only [Array.toList]
 refine gwl 4 ?_;intro Q hQ;simp [hC,hY,zbl,zaw];apply hQ
 simp only [wT,wM,Nat.reduceAdd]
 refine zbd (f:=.func 15) (cap:=#[]) hC k2 rfl (by simp) rfl rfl (by simp [okT]) (by simp [gev]) (by simp) (by simp [okX,zbz]) (by simp [gev]) (by simp [zaw,zab]) (by (intro k hk;first|rfl|(simp (disch:=omega) only [zb9,List.mem_cons,List.not_mem_nil,or_false,zaa,zai,zat,if_neg,zaw]<;>done))) ?_ ?_
 ·intro v ns hV k hk
  rw [zcf hV k hk]
  omega
 rintro v ns ⟨_,⟨c2,M2,g2,x2,y2,z2,rfl,rfl⟩,rfl⟩
 refine gwl 6 ?_;intro Q hQ;simp [hC,hY,zbl,zaw];apply hQ
 simp only [wT,wM,Nat.reduceAdd]
 refine zbh ?_
 have hsm:=z7j ⟨fa M2 .i64 g2,.ty 45⟩ c2 (zba _ _ _) st
 have hr2:=λρ=>Blk.fx_rn (zba M2 g2 45) ρ
 repeat' first|refine gwZ ?_|((first|refine gwR [16,17,18,19] ?_|refine gwD [16,17,18,19] ?_);intro Q hQ _;(repeat first|simp [hC,hY,zbl,zaw,wk,f2]|refine zac hsm G1F (B:=200) (zam (zba _ _ _)) (λk=>if k=100 then 872 else k) (λk hk=>if_neg (by omega)) (by simp [ren,zas,zan,zao]) (by simp) (by simp [hr2,zaw]) (by simp [zab]) (by simp [zab];try rfl) ?_|refine zac h5 G1F (B:=200) zbf (λk=>k) (λk hk=>rfl) (by simp [ren,zas,zan,zao,cfV]) (by simp) (by simp) (by simp [zab]) (by simp [zab];try rfl) ?_|refine zac h6 G1F (B:=200) zbf (λk=>k) (λk hk=>rfl) (by simp [ren,zas,zan,zao,cfV]) (by simp) (by simp) (by simp [zab]) (by simp [zab];try rfl) ?_|refine zac f1 G1F (B:=200) zbf (λk=>k) (λk hk=>rfl) (by simp [ren,zas,zan,zao,cfV]) (by simp) (by simp) (by simp [zab]) (by simp [zab];try rfl) ?_);refine gwq hQ ?_)|refine gwC ?_ ?_<;>intro hb
 refine ⟨.inr trivial,?_⟩
 simp [results3]
theorem jfd (b:Blk) (off n cap:Nat) (f:Nat->Int) (h:SB b off n f) (g bx tp nr md st:Int) (p q:Int) (z:Int):Fun prog G1 9 #[.agg #[.slice none 0 0,.int .i64 g,.int .i64 bx,.int .i64 tp,.int .i64 nr,.int .i64 md],.agg #[.int .i64 st,.slice (some ⟨100,off,none⟩) n cap],.int .i64 p,.int .i64 q,.int .i64 z] (hpL G1 [(100,b)]) (zab [(100,b)]) (.ret (.tuple #[.agg #[.int .i64 0,.int .i64 0,.int .i64 0],.int .i64 2]) []):=by
 refine za5 (B:=200) G1F func9 rfl call9 (zam h.fx) ?_ (zak (by simp)) (by simp) (by simp) (by simp [ntmps9]) (by omega) ?_
 ·simp [zap,zau,zaj,zal,zab]
 intro C hC hC0 hY
 have hr:=λρ=>Blk.fx_rn h.fx ρ
 have hf:=zkl b off n cap f h g bx tp nr md st
 repeat' first|refine gwZ ?_|((first|refine gwR [19] ?_|refine gwD [19] ?_);intro Q hQ _;(repeat first|simp [hC,hY]|refine zac hf G1F (B:=200) (zam h.fx) (λk=>k) (λk hk=>rfl) (by simp [ren,zas,zan,zao,cfV]) (by simp) (by simp [hr]) (by simp [zab]) (by simp [zab];try rfl) ?_);refine gwq hQ ?_)|refine gwC ?_ ?_<;>intro hb
 refine zeg 0 (λm s=>s=z10 [(100,b)] 0 0 0 2) rfl ?_ ?_
 ·rintro m _ rfl
  unfold z10 vb eb
  repeat' first|refine gwZ ?_|refine gwW ?_|refine gwC ?_ ?_<;>intro hb
  refine ⟨.inr rfl,by simp [results9],kpS G1F⟩
 ·intro _
  repeat' first|refine gwZ ?_|((first|refine gwR [19] ?_|refine gwD [19] ?_);intro Q hQ _;(repeat first|simp [hC,hY]|refine zac hf G1F (B:=200) (zam h.fx) (λk=>k) (λk hk=>rfl) (by simp [ren,zas,zan,zao,cfV]) (by simp) (by simp [hr]) (by simp [zab]) (by simp [zab];try rfl) ?_);refine gwq hQ ?_)|refine gwC ?_ ?_<;>intro hb
  refine ⟨rfl,_,0,zc1 _ 1000 hC G1F (zam h.fx) (by simpa using h.fx) hC0 (by omega) ?_ ?_ (by simp),rfl⟩
  ·simp [zap,zau,zaj,zal,dom,zab]
  ·simp [vb,eb,zae,zaj,zal,dom]
theorem jg3 (b:Blk) (off n cap:Nat) (f:Nat->Int) (h:SB b off n f) (g bx tp nr md st:Int) (p q:Int) (z:Int):Fun prog G1 10 #[.agg #[.slice none 0 0,.int .i64 g,.int .i64 bx,.int .i64 tp,.int .i64 nr,.int .i64 md],.agg #[.int .i64 st,.slice (some ⟨100,off,none⟩) n cap],.int .i64 p,.int .i64 q,.int .i64 z] (hpL G1 [(100,b)]) (zab [(100,b)]) (.ret (.tuple #[.agg #[.int .i64 0,.int .i64 0,.int .i64 0],.int .i64 2]) []):=by
 refine za5 (B:=200) G1F func10 rfl call10 (zam h.fx) ?_ (zak (by simp)) (by simp) (by simp) (by simp [ntmps10]) (by omega) ?_
 ·simp [zap,zau,zaj,zal,zab]
 intro C hC hC0 hY
 have hr:=λρ=>Blk.fx_rn h.fx ρ
 have hf:=zyi b off n cap f h g bx tp nr md st
 repeat' first|refine gwZ ?_|((first|refine gwR [20] ?_|refine gwD [20] ?_);intro Q hQ _;(repeat first|simp [hC,hY]|refine zac hf G1F (B:=200) (zam h.fx) (λk=>k) (λk hk=>rfl) (by simp [ren,zas,zan,zao,cfV]) (by simp) (by simp [hr]) (by simp [zab]) (by simp [zab];try rfl) ?_);refine gwq hQ ?_)|refine gwC ?_ ?_<;>intro hb
 refine ⟨.inr rfl,by simp [results10],kpS G1F⟩
theorem zi5 (b:Blk) (off n cap:Nat) (f:Nat->Int) (h:SB b off n f) (g bx tp nr md st:Int) (p q:Int):Fun prog G1 12 #[.agg #[.slice none 0 0,.int .i64 g,.int .i64 bx,.int .i64 tp,.int .i64 nr,.int .i64 md],.agg #[.int .i64 st,.slice (some ⟨100,off,none⟩) n cap],.int .i64 p,.int .i64 q] (hpL G1 [(100,b)]) (zab [(100,b)]) (.ret (.tuple #[.slice none 0 0,.int .i64 2]) []):=by
 refine za5 (B:=200) G1F func12 rfl call12 (zam h.fx) ?_ (zak (by simp)) (by simp) (by simp) (by simp [ntmps12]) (by omega) ?_
 ·simp [zap,zau,zaj,zal,zab]
 intro C hC hC0 hY
 have hr:=λρ=>Blk.fx_rn h.fx ρ
 have hf:=zyi b off n cap f h g bx tp nr md st
 repeat' first|refine gwZ ?_|((first|refine gwR [20] ?_|refine gwD [20] ?_);intro Q hQ _;(repeat first|simp [hC,hY]|refine zac hf G1F (B:=200) (zam h.fx) (λk=>k) (λk hk=>rfl) (by simp [ren,zas,zan,zao,cfV]) (by simp) (by simp [hr]) (by simp [zab]) (by simp [zab];try rfl) ?_);refine gwq hQ ?_)|refine gwC ?_ ?_<;>intro hb
 refine ⟨.inr rfl,by simp [results12],kpS G1F⟩
theorem zvu (b:Blk) (off n cap:Nat) (f:Nat->Int) (h:SB b off n f) (g bx tp nr md st:Int) (p q:Int):Fun prog G1 18 #[.agg #[.slice none 0 0,.int .i64 g,.int .i64 bx,.int .i64 tp,.int .i64 nr,.int .i64 md],.agg #[.int .i64 st,.slice (some ⟨100,off,none⟩) n cap],.int .i64 p,.int .i64 q] (hpL G1 [(100,b)]) (zab [(100,b)]) (.ret (.bool false) []):=by
 refine za5 (B:=200) G1F func18 rfl call18 (zam h.fx) ?_ (zak (by simp)) (by simp) (by simp) (by simp [ntmps18]) (by omega) ?_
 ·simp [zap,zau,zaj,zal,zab]
 intro C hC hC0 hY
 have hr:=λρ=>Blk.fx_rn h.fx ρ
 have hk:=zi5 b off n cap f h g bx tp nr md st p q
 repeat' first|refine zad ?_|refine zag ?_|refine gwZ ?_|((first|refine gwR [12] ?_|refine gwD [12] ?_);intro Q hQ _;(repeat first|simp [hC,hY]|refine zac hk G1F (B:=200) (zam h.fx) (λk=>k) (λk hk=>rfl) (by simp [ren,zas,zan,zao,cfV]) (by simp) (by simp [hr]) (by simp [zab]) (by simp [zab];try rfl) ?_);refine gwq hQ ?_)|refine gwC ?_ ?_<;>intro hb
 refine ⟨.inr rfl,by simp [results18],kpS G1F⟩
theorem z0l (b:Blk) (off n cap:Nat) (f:Nat->Int) (h:SB b off n f) (hcap:n<=cap) (g bx tp nr md st:Int) (p q:Int):FunS prog G1 15 #[.agg #[.slice none 0 0,.int .i64 g,.int .i64 bx,.int .i64 tp,.int .i64 nr,.int .i64 md],.agg #[.int .i64 st,.slice (some ⟨100,off,none⟩) n cap],.int .i64 p,.int .i64 q] (hpL G1 [(100,b)]) (zab [(100,b)]) (zn9 1000 st n f 2):=by
 refine zdz (B:=200) G1F func15 rfl call15 (zam h.fx) ?_ zee (by simp [ntmps15]) (by omega) ?_
 ·simp [zap,zau,zaj,zal,zab]
 intro C hC hC0 hY
 have hr:=λρ=>Blk.fx_rn h.fx ρ
 have hk:=zi5 b off n cap f h g bx tp nr md st p q
 repeat' first|refine gwZ ?_|((first|refine gwR [12] ?_|refine gwD [12] ?_);intro Q hQ _;(repeat first|simp [hC,hY]|refine zac hk G1F (B:=200) (zam h.fx) (λk=>k) (λk hk=>rfl) (by simp [ren,zas,zan,zao,cfV]) (by simp) (by simp [hr]) (by simp [zab]) (by simp [zab];try rfl) ?_);refine gwq hQ ?_)|refine gwC ?_ ?_<;>intro hb
 have dO:=zfp 100 336 (by omega) (by omega) (by omega) b off n cap f h hcap st
 refine za7 ?_
 simp only [Array.toList]
 refine gwl 1 ?_;intro Q hQ;simp [hC,hY];apply hQ
 simp only [wT,wM,Nat.reduceAdd]
 refine zbd (f:=.func 22) (cap:=#[]) hC dO rfl (by simp) rfl rfl (by simp [okT]) (by simp [gev]) (by simp) (by simp [okX,zbz]) (by simp [gev]) (by simp [zaw,zab]) (by (intro k hk;first|rfl|(simp (disch:=omega) only [zb9,List.mem_cons,List.not_mem_nil,or_false,zaa,zai,zat,if_neg,zaw]<;>done))) ?_ ?_
 ·intro v ns hV k hk
  rw [zcm hV k hk]
  omega
 rintro v ns ⟨c1,M1,g1,x1,y1,z1,rfl,rfl⟩
 refine gwl 3 ?_;intro Q hQ;simp [hC,hY,zbl,zaw];apply hQ
 simp only [wT,wM,Nat.reduceAdd]
 refine zbh ?_
 repeat' first|refine gwZ ?_|(refine gwX ?_;intro Q hQ _;simp [hC,hY,zbl,zaw];refine gwq hQ ?_)|refine gwC ?_ ?_<;>intro hb
 refine ⟨.inr trivial,kpS G1F,_,_,λk=>if k=1000 then 336 else k,⟨_,⟨c1,M1,g1,x1,y1,z1,rfl,rfl⟩,rfl⟩,λk hk=>if_neg (by omega),by simp,by simp,by simp [results15,ren,zas,zan,zao,zaw],?_⟩
 simp [zd3,zaw]
theorem zn5 (b:Blk) (off n cap:Nat) (f:Nat->Int) (h:SB b off n f) (hcap:n<=cap) (g bx tp nr md st:Int) (p q x:Int) (_:i64 g) (_:i64 bx) (_:i64 tp) (_:i64 nr) (_:i64 md) (_:i64 st) (_:i64 p) (_:i64 q) (_:i64 x):Fun prog G1 3 #[.agg #[.slice none 0 0,.int .i64 g,.int .i64 bx,.int .i64 tp,.int .i64 nr,.int .i64 md],.agg #[.int .i64 st,.slice (some ⟨100,off,none⟩) n cap],.int .i64 p,.int .i64 q,.int .i64 x] (hpL G1 [(100,b)]) (zab [(100,b)]) (.ret (.bool true) []):=by
 refine za5 (B:=200) G1F func3 rfl call3 (zam h.fx) ?_ (zak (by simp)) (by simp) (by simp) (by simp [ntmps3]) (by omega) ?_
 ·simp [zap,zau,zaj,zal,zab]
 intro C hC hC0 hY
 have hr:=λρ=>Blk.fx_rn h.fx ρ
 have hg:=zu0 b off n cap f h g bx tp nr md st
 have wk:=zl5
 have sn:=zs3
 have h1:=jfd b off n cap f h g bx tp nr md st p q x
 have h2:=jg3 b off n cap f h g bx tp nr md st p q x
 have h3:=ziy b off n cap f h g bx tp nr md st p q
 have h4:=zi5 b off n cap f h g bx tp nr md st p q
 have h5:=zu3 b off n cap f h g bx tp nr md st p q
 have h6:=zvu b off n cap f h g bx tp nr md st p q
 have f1:=zkl b off n cap f h g bx tp nr md st
 have f2:=zyi b off n cap f h g bx tp nr md st
 have k1:=zyt 784 (by omega) b off n cap f h hcap g bx tp nr md st p q
 have k2:=(z0l b off n cap f h hcap g bx tp nr md st p q).nmL (zam h.fx) (by simpa using h.fx) 872 (by omega) (λv ns=>zcf) (by simp [r1n,ren,zas,zan,zao]) (zf3 (ρ:=r1n 872) (nk:=872) rfl st n f 2)
 by_cases h9:9<n
 ·rw [decide_eq_true h9] at hg
  repeat' first|refine gwZ ?_|((first|refine gwR [7] ?_|refine gwD [7] ?_);intro Q hQ _;(repeat first|simp [hC,hY,wk]|refine zac hg G1F (B:=200) (zam h.fx) (λk=>k) (λk hk=>rfl) (by simp [ren,zas,zan,zao,cfV]) (by simp) (by simp [hr]) (by simp [zab]) (by simp [zab];try rfl) ?_);refine gwq hQ ?_)|refine gwC ?_ ?_<;>intro hb
  refine ⟨.inr rfl,by simp [results3],kpS G1F⟩
 ·rw [decide_eq_false h9] at hg
  repeat' first|refine gwZ ?_|((first|refine gwR [7,9,10,11,12] ?_|refine gwD [7,9,10,11,12] ?_);intro Q hQ _;(repeat first|simp [hC,hY,wk,sn]|refine zac hg G1F (B:=200) (zam h.fx) (λk=>k) (λk hk=>rfl) (by simp [ren,zas,zan,zao,cfV]) (by simp) (by simp [hr]) (by simp [zab]) (by simp [zab];try rfl) ?_|refine zac h1 G1F (B:=200) (zam h.fx) (λk=>k) (λk hk=>rfl) (by simp [ren,zas,zan,zao,cfV]) (by simp) (by simp [hr]) (by simp [zab]) (by simp [zab];try rfl) ?_|refine zac h2 G1F (B:=200) (zam h.fx) (λk=>k) (λk hk=>rfl) (by simp [ren,zas,zan,zao,cfV]) (by simp) (by simp [hr]) (by simp [zab]) (by simp [zab];try rfl) ?_|refine zac h3 G1F (B:=200) (zam h.fx) (λk=>k) (λk hk=>rfl) (by simp [ren,zas,zan,zao,cfV]) (by simp) (by simp [hr]) (by simp [zab]) (by simp [zab];try rfl) ?_|refine zac h4 G1F (B:=200) (zam h.fx) (λk=>k) (λk hk=>rfl) (by simp [ren,zas,zan,zao,cfV]) (by simp) (by simp [hr]) (by simp [zab]) (by simp [zab];try rfl) ?_);refine gwq hQ ?_)|refine gwC ?_ ?_<;>intro hb
  refine za7 ?_
  simp only [Array.toList]
  refine gwl 4 ?_;intro Q hQ;simp [hC,hY,zbl,zaw];apply hQ
  simp only [wT,wM,Nat.reduceAdd]
  refine zbd (f:=.func 14) (cap:=#[]) hC k1 rfl (by simp) rfl rfl (by simp [okT]) (by simp [gev]) (by simp) (by simp [okX,zbz]) (by simp [gev]) (by simp [zaw,zab]) (by (intro k hk;first|rfl|(simp (disch:=omega) only [zb9,List.mem_cons,List.not_mem_nil,or_false,zaa,zai,zat,if_neg,zaw]<;>done))) ?_ ?_
  ·intro v ns hV k hk
   rw [zcf hV k hk]
   omega
  rintro v ns ⟨_,⟨c1,M1,g1,x1,y1,z1,rfl,rfl⟩,rfl⟩
  refine gwl 6 ?_;intro Q hQ;simp [hC,hY,zbl,zaw];apply hQ
  simp only [wT,wM,Nat.reduceAdd]
  refine zbh ?_
  simp only [zca]
  refine zf6 ?_
  refine za7 ?_
  simp only [Array.toList]
  refine gwl 4 ?_;intro Q hQ;simp [hC,hY,zbl,zaw];apply hQ
  simp only [wT,wM,Nat.reduceAdd]
  refine zbd (f:=.func 15) (cap:=#[]) hC k2 rfl (by simp) rfl rfl (by simp [okT]) (by simp [gev]) (by simp) (by simp [okX,zbz]) (by simp [gev]) (by simp [zaw,zab]) (by (intro k hk;first|rfl|(simp (disch:=omega) only [zb9,List.mem_cons,List.not_mem_nil,or_false,zaa,zai,zat,if_neg,zaw]<;>done))) ?_ ?_
  ·intro v ns hV k hk
   rw [zcf hV k hk]
   omega
  rintro v ns ⟨_,⟨c2,M2,g2,x2,y2,z2,rfl,rfl⟩,rfl⟩
  refine gwl 6 ?_;intro Q hQ;simp [hC,hY,zbl,zaw];apply hQ
  simp only [wT,wM,Nat.reduceAdd]
  refine zbh ?_
  have hsm:=(zno ⟨fa M1 .i64 g1,.ty 45⟩ ⟨fa M2 .i64 g2,.ty 45⟩ 0 0 n n c1 c2 f f (zfi y1 z1 h.i6 h.nn) (zfi y2 z2 h.i6 h.nn) st st).up1 (zk3 (zba _ _ _) (zba _ _ _))
  rw [zk2.2 ⟨rfl,rfl,λ_ _=>rfl⟩] at hsm
  have hr1:=λρ=>Blk.fx_rn (zba M1 g1 45) ρ
  have hr2:=λρ=>Blk.fx_rn (zba M2 g2 45) ρ
  repeat' first|refine gwZ ?_|((first|refine gwR [16,17,18,19,20] ?_|refine gwD [16,17,18,19,20] ?_);intro Q hQ _;(repeat first|simp [hC,hY,zbl,zaw,wk,f2]|refine zac hsm G1F (B:=200) (zk3 (zba _ _ _) (zba _ _ _)) (λk=>if k=100 then 784 else if k=108 then 872 else k) (λk hk=>(if_neg (by omega)).trans (if_neg (by omega))) (by simp [ren,zas,zan,zao]) (by simp) (by simp [smL,hr1,hr2,zaw]) (by simp [zab,smL]) (by simp [zab,smL];rfl) ?_|refine zac h5 G1F (B:=200) (zam h.fx) (λk=>k) (λk hk=>rfl) (by simp [ren,zas,zan,zao,cfV]) (by simp) (by simp [hr]) (by simp [zab]) (by simp [zab];try rfl) ?_|refine zac h6 G1F (B:=200) (zam h.fx) (λk=>k) (λk hk=>rfl) (by simp [ren,zas,zan,zao,cfV]) (by simp) (by simp [hr]) (by simp [zab]) (by simp [zab];try rfl) ?_|refine zac f1 G1F (B:=200) (zam h.fx) (λk=>k) (λk hk=>rfl) (by simp [ren,zas,zan,zao,cfV]) (by simp) (by simp [hr]) (by simp [zab]) (by simp [zab];try rfl) ?_|refine zac f2 G1F (B:=200) (zam h.fx) (λk=>k) (λk hk=>rfl) (by simp [ren,zas,zan,zao,cfV]) (by simp) (by simp [hr]) (by simp [zab]) (by simp [zab];try rfl) ?_);refine gwq hQ ?_)|refine gwC ?_ ?_<;>intro hb
  refine ⟨.inr rfl,by simp [results3],kpS G1F⟩
theorem jfe (L:List (Nat×Blk)) (ka:Nat) (b:Blk) (hT:LKb L ka b) (off n cap:Nat) (f:Nat->Int) (h:MB b off n f) (g bx tp nr md st:Int) (p q:Int) (z:Int):Fun prog G1 9 #[.agg #[.slice (some ⟨ka,off,none⟩) n cap,.int .i64 g,.int .i64 bx,.int .i64 tp,.int .i64 nr,.int .i64 md],.agg #[.int .i64 st,.slice none 0 0],.int .i64 p,.int .i64 q,.int .i64 z] (hpL G1 L) (zab L) (.ret (.tuple #[.agg #[.int .i64 0,.int .i64 0,.int .i64 0],.int .i64 2]) []):=by
 refine zbr (B:=200) G1F func9 rfl call9 hT.ok ?_ (zak (by simp)) (by simp) (by simp) (by simp [ntmps9]) (by omega) ?_
 ·simp [zap,zau,zaj,zal,zab,hT.ia]
 intro C hC hC0 hY
 have hA:=hT.a
 have hna:=hT.na
 have hLow:=hT.low
 have hf:=zkm L ka b hT off n cap f h g bx tp nr md st
 repeat' first|refine gwZ ?_|((first|refine gwR [19] ?_|refine gwD [19] ?_);intro Q hQ _;(repeat first|simp [hC,hY,hA,hna]|refine zar hf hT.ok zby ?_);refine gwq hQ ?_)|refine gwC ?_ ?_<;>intro hb
 refine zeg 0 (λm s=>s=z10 L 0 0 0 2) rfl ?_ ?_
 ·rintro m _ rfl
  unfold z10 vb eb
  repeat' first|refine gwZ ?_|(refine gwX ?_;intro Q hQ _;simp [hC,hY,hA,hna];refine gwq hQ ?_)|refine gwC ?_ ?_<;>intro hb
  refine ⟨.inr rfl,by simp [results9],kpT G1F⟩
 ·intro _
  repeat' first|refine gwZ ?_|((first|refine gwR [19] ?_|refine gwD [19] ?_);intro Q hQ _;(repeat first|simp [hC,hY,hA,hna]|refine zar hf hT.ok zby ?_);refine gwq hQ ?_)|refine gwC ?_ ?_<;>intro hb
  refine ⟨rfl,_,0,zc1 _ 1000 hC G1F hT.ok (by rcases hT.a8 with ⟨_,e⟩|⟨_,e,_⟩<;>subst e<;>simp [hT.fb]) hC0 (by omega) ?_ ?_ zby,rfl⟩
  ·simp [zap,zau,zaj,zal,dom,zab,hA,hna]
  ·simp [vb,eb,zae,zaj,zal,dom,hA,hna]
theorem jg4 (L:List (Nat×Blk)) (ka:Nat) (b:Blk) (hT:LKb L ka b) (off n cap:Nat) (f:Nat->Int) (h:MB b off n f) (g bx tp nr md st:Int) (p q:Int) (z:Int):Fun prog G1 10 #[.agg #[.slice (some ⟨ka,off,none⟩) n cap,.int .i64 g,.int .i64 bx,.int .i64 tp,.int .i64 nr,.int .i64 md],.agg #[.int .i64 st,.slice none 0 0],.int .i64 p,.int .i64 q,.int .i64 z] (hpL G1 L) (zab L) (.ret (.tuple #[.agg #[.int .i64 0,.int .i64 0,.int .i64 0],.int .i64 2]) []):=by
 refine zbr (B:=200) G1F func10 rfl call10 hT.ok ?_ (zak (by simp)) (by simp) (by simp) (by simp [ntmps10]) (by omega) ?_
 ·simp [zap,zau,zaj,zal,zab,hT.ia]
 intro C hC hC0 hY
 have hA:=hT.a
 have hna:=hT.na
 have hLow:=hT.low
 have hf:=zyj L ka b hT off n cap f h g bx tp nr md st
 repeat' first|refine gwZ ?_|((first|refine gwR [20] ?_|refine gwD [20] ?_);intro Q hQ _;(repeat first|simp [hC,hY,hA,hna]|refine zar hf hT.ok zby ?_);refine gwq hQ ?_)|refine gwC ?_ ?_<;>intro hb
 refine ⟨.inr rfl,by simp [results10],kpT G1F⟩
theorem zi6 (L:List (Nat×Blk)) (ka:Nat) (b:Blk) (hT:LKb L ka b) (off n cap:Nat) (f:Nat->Int) (h:MB b off n f) (g bx tp nr md st:Int) (p q:Int):Fun prog G1 12 #[.agg #[.slice (some ⟨ka,off,none⟩) n cap,.int .i64 g,.int .i64 bx,.int .i64 tp,.int .i64 nr,.int .i64 md],.agg #[.int .i64 st,.slice none 0 0],.int .i64 p,.int .i64 q] (hpL G1 L) (zab L) (.ret (.tuple #[.slice none 0 0,.int .i64 2]) []):=by
 refine zbr (B:=200) G1F func12 rfl call12 hT.ok ?_ (zak (by simp)) (by simp) (by simp) (by simp [ntmps12]) (by omega) ?_
 ·simp [zap,zau,zaj,zal,zab,hT.ia]
 intro C hC hC0 hY
 have hA:=hT.a
 have hna:=hT.na
 have hLow:=hT.low
 have hf:=zyj L ka b hT off n cap f h g bx tp nr md st
 repeat' first|refine gwZ ?_|((first|refine gwR [20] ?_|refine gwD [20] ?_);intro Q hQ _;(repeat first|simp [hC,hY,hA,hna]|refine zar hf hT.ok zby ?_);refine gwq hQ ?_)|refine gwC ?_ ?_<;>intro hb
 refine ⟨.inr rfl,by simp [results12],kpT G1F⟩
theorem zvv (L:List (Nat×Blk)) (ka:Nat) (b:Blk) (hT:LKb L ka b) (off n cap:Nat) (f:Nat->Int) (h:MB b off n f) (g bx tp nr md st:Int) (p q:Int):Fun prog G1 18 #[.agg #[.slice (some ⟨ka,off,none⟩) n cap,.int .i64 g,.int .i64 bx,.int .i64 tp,.int .i64 nr,.int .i64 md],.agg #[.int .i64 st,.slice none 0 0],.int .i64 p,.int .i64 q] (hpL G1 L) (zab L) (.ret (.bool false) []):=by
 refine zbr (B:=200) G1F func18 rfl call18 hT.ok ?_ (zak (by simp)) (by simp) (by simp) (by simp [ntmps18]) (by omega) ?_
 ·simp [zap,zau,zaj,zal,zab,hT.ia]
 intro C hC hC0 hY
 have hA:=hT.a
 have hna:=hT.na
 have hLow:=hT.low
 have hk:=zi6 L ka b hT off n cap f h g bx tp nr md st p q
 repeat' first|refine zad ?_|refine zag ?_|refine gwZ ?_|((first|refine gwR [12] ?_|refine gwD [12] ?_);intro Q hQ _;(repeat first|simp [hC,hY,hA,hna]|refine zar hk hT.ok zby ?_);refine gwq hQ ?_)|refine gwC ?_ ?_<;>intro hb
 refine ⟨.inr rfl,by simp [results18],kpT G1F⟩
theorem z0m (L:List (Nat×Blk)) (ka:Nat) (b:Blk) (hT:LKb L ka b) (off n cap:Nat) (f:Nat->Int) (h:MB b off n f) (g bx tp nr md st:Int) (p q:Int):FunS prog G1 15 #[.agg #[.slice (some ⟨ka,off,none⟩) n cap,.int .i64 g,.int .i64 bx,.int .i64 tp,.int .i64 nr,.int .i64 md],.agg #[.int .i64 st,.slice none 0 0],.int .i64 p,.int .i64 q] (hpL G1 L) (zab L) (zn9 1000 st 0 (λ_=>0) 2):=by
 refine zec (B:=200) G1F func15 rfl call15 hT.ok ?_ zee (by simp [ntmps15]) (by omega) ?_
 ·simp [zap,zau,zaj,zal,zab,hT.ia]
 intro C hC hC0 hY
 have hA:=hT.a
 have hna:=hT.na
 have hLow:=hT.low
 have hk:=zi6 L ka b hT off n cap f h g bx tp nr md st p q
 repeat' first|refine gwZ ?_|((first|refine gwR [12] ?_|refine gwD [12] ?_);intro Q hQ _;(repeat first|simp [hC,hY,hA,hna]|refine zar hk hT.ok zby ?_);refine gwq hQ ?_)|refine gwC ?_ ?_<;>intro hb
 have dO:=zly 336 (by omega) st
 refine za7 ?_
 simp only [Array.toList]
 refine gwl 1 ?_;intro Q hQ;simp [hC,hY,hA,hna];apply hQ
 simp only [wT,wM,Nat.reduceAdd]
 refine zbd (f:=.func 22) (cap:=#[]) hC dO rfl (by simp) rfl rfl (by simp [okT]) (by simp [gev]) (by simp) (by simp [okX,zbz]) (by simp [gev]) (by simp [zaw,zab]) (by (intro k hk;first|exact hLow k hk|(simp (disch:=omega) only [hLow,zb9,List.mem_cons,List.not_mem_nil,or_false,zaa,zai,zat,if_neg,zaw,List.cons_append,List.nil_append]<;>done))) ?_ ?_
 ·intro v ns hV k hk
  rw [zcm hV k hk]
  omega
 rintro v ns ⟨c1,M1,g1,x1,y1,z1,rfl,rfl⟩
 refine gwl 3 ?_;intro Q hQ;simp [hC,hY,zbl,zaw];apply hQ
 simp only [wT,wM,Nat.reduceAdd]
 refine zbh ?_
 repeat' first|refine gwZ ?_|(refine gwX ?_;intro Q hQ _;simp [hC,hY,zbl,zaw,hA,hna];refine gwq hQ ?_)|refine gwC ?_ ?_<;>intro hb
 refine ⟨.inr trivial,kpT G1F,_,_,λk=>if k=1000 then 336 else k,⟨_,⟨c1,M1,g1,x1,y1,z1,rfl,rfl⟩,rfl⟩,λk hk=>if_neg (by omega),by simp,by simp,by simp [results15,ren,zas,zan,zao,zaw],?_⟩
 simp [zd3,zaw]
theorem zjd (L:List (Nat×Blk)) (ka:Nat) (b:Blk) (hT:LKb L ka b) (off n cap:Nat) (f:Nat->Int) (h:MB b off n f) (hcap:n<=cap) (g bx tp nr md st:Int) (p q x:Int) (_:i64 g) (_:i64 bx) (_:i64 tp) (_:i64 nr) (_:i64 md) (_:i64 st) (_:i64 p) (_:i64 q) (_:i64 x):Fun prog G1 3 #[.agg #[.slice (some ⟨ka,off,none⟩) n cap,.int .i64 g,.int .i64 bx,.int .i64 tp,.int .i64 nr,.int .i64 md],.agg #[.int .i64 st,.slice none 0 0],.int .i64 p,.int .i64 q,.int .i64 x] (hpL G1 L) (zab L) (.ret (.bool true) []):=by
 refine zbr (B:=200) G1F func3 rfl call3 hT.ok ?_ (zak (by simp)) (by simp) (by simp) (by simp [ntmps3]) (by omega) ?_
 ·simp [zap,zau,zaj,zal,zab,hT.ia]
 intro C hC hC0 hY
 have hA:=hT.a
 have hna:=hT.na
 have hLow:=hT.low
 have hg:=zu1 L ka b hT off n cap f h g bx tp nr md st
 have wk:=zl5
 have sn:=zs3
 have h1:=jfe L ka b hT off n cap f h g bx tp nr md st p q x
 have h2:=jg4 L ka b hT off n cap f h g bx tp nr md st p q x
 have h3:=ziz L ka b hT off n cap f h g bx tp nr md st p q
 have h4:=zi6 L ka b hT off n cap f h g bx tp nr md st p q
 have h5:=zu4 L ka b hT off n cap f h g bx tp nr md st p q
 have h6:=zvv L ka b hT off n cap f h g bx tp nr md st p q
 have f1:=zkm L ka b hT off n cap f h g bx tp nr md st
 have f2:=zyj L ka b hT off n cap f h g bx tp nr md st
 have k1:=zyu L ka b hT off n cap f h g bx tp nr md st p q
 have k2:=(z0m L ka b hT off n cap f h g bx tp nr md st p q).nmL hT.ok (by rcases hT.a8 with ⟨_,e⟩|⟨_,e,_⟩<;>subst e<;>simp [hT.fb]) 872 (by omega) (λv ns=>zcf) (by have hl:r1n 872 ka=ka:=if_neg (by rcases hT.a8 with ⟨e,_⟩|⟨e,_⟩<;>omega);simp [ren,zas,zan,zao,hl]) (zf3 (ρ:=r1n 872) (nk:=872) rfl st 0 (λ_=>0) 2)
 by_cases h9:9<n
 ·rw [decide_eq_true h9] at hg
  repeat' first|refine gwZ ?_|((first|refine gwR [7] ?_|refine gwD [7] ?_);intro Q hQ _;(repeat first|simp [hC,hY,wk]|refine zar hg hT.ok zby ?_);refine gwq hQ ?_)|refine gwC ?_ ?_<;>intro hb
  refine ⟨.inr rfl,by simp [results3],kpT G1F⟩
 ·rw [decide_eq_false h9] at hg
  repeat' first|refine gwZ ?_|((first|refine gwR [7,9,10,11,12,14] ?_|refine gwD [7,9,10,11,12,14] ?_);intro Q hQ _;(repeat first|simp [hC,hY,wk,sn,hA,hna]|refine zar hg hT.ok zby ?_|refine zar h1 hT.ok zby ?_|refine zar h2 hT.ok zby ?_|refine zar h3 hT.ok zby ?_|refine zar h4 hT.ok zby ?_|refine zar k1 hT.ok zby ?_);refine gwq hQ ?_)|refine gwC ?_ ?_<;>intro hb
  refine za7 ?_
  simp only [Array.toList]
  refine gwl 4 ?_;intro Q hQ;simp [hC,hY,zbl,zaw,hA,hna];apply hQ
  simp only [wT,wM,Nat.reduceAdd]
  refine zbd (f:=.func 15) (cap:=#[]) hC k2 rfl (by simp) rfl rfl (by simp [okT]) (by simp [gev]) (by simp) (by simp [okX,zbz]) (by simp [gev]) (by intro q hq;obtain ⟨p,hp,rfl⟩:=zah.1 hq;have hpb:=hT.ok.big p hp;(try dsimp only);simp (disch:=omega) only [zaa,zai,if_neg,zaw]) (by (intro k hk;first|exact hLow k hk|(simp (disch:=omega) only [hLow,zb9,List.mem_cons,List.not_mem_nil,or_false,zaa,zai,zat,if_neg,zaw,List.cons_append,List.nil_append]<;>done))) ?_ ?_
  ·intro v ns hV k hk
   rw [zcf hV k hk]
   omega
  rintro v ns ⟨_,⟨c2,M2,g2,x2,y2,z2,rfl,rfl⟩,rfl⟩
  refine gwl 6 ?_;intro Q hQ;simp [hC,hY,zbl,zaw];apply hQ
  simp only [wT,wM,Nat.reduceAdd]
  refine zbh ?_
  have hsm:=z7j ⟨fa M2 .i64 g2,.ty 45⟩ c2 (zba _ _ _) st
  have hr2:=λρ=>Blk.fx_rn (zba M2 g2 45) ρ
  repeat' first|refine gwZ ?_|((first|refine gwR [16,17,18,19,20] ?_|refine gwD [16,17,18,19,20] ?_);intro Q hQ _;(repeat first|simp [hC,hY,zbl,zaw,wk,f2,hA,hna]|refine zac hsm G1F (B:=200) (zam (zba _ _ _)) (λk=>if k=100 then 872 else k) (λk hk=>if_neg (by omega)) (by simp [ren,zas,zan,zao]) (by simp) (by simp [hr2,zaw]) (by simp [zab]) (by simp [zab];try rfl) ?_|refine zar h5 hT.ok zby ?_|refine zar h6 hT.ok zby ?_|refine zar f1 hT.ok zby ?_|refine zar f2 hT.ok zby ?_);refine hQ _ _ _ _ ?_ ?_;(focus (first|(rfl;done)|(refine zsp ?_;repeat (first|(exact λq hq=>roN hq;done)|refine ro1 ?_|refine ro2 ?_)))))|refine gwC ?_ ?_<;>intro hb
  refine ⟨.inr rfl,by simp [results3],kpT G1F⟩
end Go.Gy
namespace Go.Gy
set_option maxRecDepth 100000
open Go Go.RowKit Go.Proofs Go.ChangeShapes Go.WideShapes Go.ChangeAt

section
variable {H:Type} {enc:TypeId×Value->H} {P:Program}
theorem zni {f:Func} {s:ChangeSpec} {apart fresh handsOn again:Bool} {W W':World} {args:Array Value} {v:Value} {ds gs:List (DataW H)} {before pa pv:List MemPlace}
  (hW:DataW.Whole enc P f.params.toList s.vars apart W args.toList ds gs before)
  (hres:∀ (b:Nat) (sp:Nat->Bool) (hd:Bool),DataW.TrodAll enc P W' b sp hd f.resultTypes.toList (v.resultList f.resultTypes.size) (s.fn H (ds++gs)).results [])
  (hargs:∀ sp:Nat->Bool,(∀ p∈before,sp p.block=true)->DataW.TrodAll enc P W' 0 sp true f.params.toList args.toList (s.fn H (ds++gs)).args pa)
  (hvars:∀ sp:Nat->Bool,(∀ p∈before,sp p.block=true)->DataW.TrodVars enc P W' sp s.vars (s.fn H (ds++gs)).vars pv)
  (hps:before=pa++pv) (hb:Below W.heap.size W W')
  (hok:∀ (j:Nat) (t:TypeId) (r:Value),f.resultTypes[j]? = some t->(v.resultList f.resultTypes.size)[j]? = some r->Value.okWide P W' .any 0 t r) :
  s.post enc P f apart fresh handsOn again W args v W':=by
 have hlt:∀ p∈before,p.block<W.heap.size:=λp hp=>hW.lt p hp
 have hold:∀ p∈before,(λb=>decide (b<W.heap.size)) p.block=true:=λp hp=>by simpa using hlt p hp
 refine ⟨ds,gs,before,[],pa,pv,hW,hres _ _ _,hargs _ hold,hvars _ hold,World.keptBut_mono (λp hp=>⟨hp,?_⟩) (hb.frame (·∈before)),λ_=>?_⟩
 ·rw [hps,List.mem_append] at hp
  exact Or.inr hp
 ·obtain ⟨_,_,_,_,_,hz,hn⟩:=hW
  refine ⟨hok,_,_,([]++pa)++pv,⟨[]++pa,pv,trodAll_append (hargs _ (λ_ _=>rfl)) (hres _ _ _),hvars _ (λ_ _=>rfl),rfl,?_,?_⟩,?_⟩
  ·intro b off hp
   have hin:MemPlace.cell b off∈before:=by rw [hps];simpa using hp
   rw [hb.frozen (hlt _ hin)]
   exact hz b off hin
  ·intro ha
   have:=hn ha
   rw [hps] at this
   simpa using this
  ·intro p hp _
   rw [hps]
   simpa using hp
end

theorem zxl:Tryz.prog.cellsOf 84=1:=by kernel_rfl
theorem zul:Tryz.prog.cellsOf 86=4:=by kernel_rfl
theorem z61:IntKind.i64.min=-9223372036854775808/\IntKind.i64.max=9223372036854775807:=by decide
theorem zc4 {z:Int} (h:(Lit.int .i64 z).wf=true):i64 z:=by
 simp only [Lit.wf,Bool.and_eq_true,decide_eq_true_eq,z61.1,z61.2] at h;unfold i64;omega
section
variable {H:Type} {enc:TypeId×Value->H} {w:World}
end

theorem own:ownKnob Tryz.prog.godebug=none:=by kernel_rfl
theorem zhp {P:Program} {W:World} {name:String} {g:Nat} {cs:Array Value} {z:Array Value} {T:TypeId} (hg:P.globalNamed name=some g) (hlt:g<P.globals.size) (hrow:((begin P (λ_ _=>0) default).world.heap[g]?).bind Obj.row? = some (z,T))
  (hS:W.ShapedOpen P) (hv:W.var? P name=some cs):W.heap[g]? = some (.cells cs T (0,0)):=by
 obtain ⟨c,h1,_⟩:=hS.1 g z T hlt hrow
 unfold World.var? at hv
 rw [hg] at hv
 simp only [Option.bind_some,h1,Option.some.injEq] at hv
 rw [h1,hv]
theorem z6e : Tryz.prog.globalNamed "gyre/quot.least" = some 2 := by kernel_rfl
theorem zuq:(Tryz.prog.globals[2]?).map (·.type)=some 86:=by kernel_rfl
theorem zx2:((begin Tryz.prog (λ_ _=>0) default).world.heap[2]?).bind Obj.row? = some (#[.int .u64 0,.int .u64 0,.int .u64 0,.int .u64 0],86):=by kernel_rfl
theorem z3s {W : World} {rest : List (String × DataW Unit)} (h : laidMet Tryz.prog (("gyre/quot.least", Proofs.YtmnknnojkhkceaaGreatDoor.Rows.laid_gyre_quot_least) :: rest) W) : W.var? Tryz.prog "gyre/quot.least" = some lsB.c :=
 Lib.tabIs_of_head (zs:=[0,0,0,9223372036854775808]) z6e zuq Tryz.underlying86 Tryz.underlying84 zxl zul h
theorem zmy {H:Type} {enc:TypeId×Value->H} {P:Program} {w:World} {base:Nat} {sp:Nat->Bool} {held:Bool} {fuel:Nat} {t e:TypeId} {n:Nat} {cs:List Value} {ss:List (List UInt8)} {p:List MemPlace}
  (ht:P.underlying t=some (.array n e)) (he:P.underlying e=some .string) (hce:P.cellsOf e=1) (hct:P.cellsOf t=n)
  (h:DataW.trod enc P w base sp held fuel t cs=some (.agg (ss.map λs=>.lit (.string s)),p)):cs=ss.map λs=>Value.string ⟨s.toArray⟩:=by
 cases fuel with
 | zero=>simp [DataW.trod] at h
 | succ fuel =>
  simp only [DataW.trod,ht,hce,hct,Nat.mul_one] at h
  split at h
  ·rename_i hl
   obtain ⟨xs,hm,hx⟩:=Option.map_eq_some_iff.1 h
   have hxs:xs.map (·.1)=ss.map λs=>(DataW.lit (.string s):DataW H):=by
    have:=congrArg Prod.fst hx
    simpa using this
   have hxl:xs.length=n:=by simpa using Lib.mapM_length hm
   have hzl:ss.length=n:=by
    have:=congrArg List.length hxs
    simp at this
    omega
   apply List.ext_getElem?
   intro i
   by_cases hi:i<n
   ·obtain ⟨b,hb,hf⟩:=Lib.mapM_at hm i i (by simp [hi])
    obtain ⟨s,hc,rfl,_⟩:=DataW.trod_string he hf
    have h1:cs[i]? = some (.string s):=by
     have:=congrArg (·[0]?) hc
     simpa [List.getElem?_take,List.getElem?_drop] using this
    have h2:(xs.map (·.1))[i]? = some (DataW.lit (.string s.data.toList):DataW H):=by simp [hb]
    rw [hxs] at h2
    simp only [List.getElem?_map,Option.map_eq_some_iff,DataW.lit.injEq,Lit.string.injEq] at h2
    obtain ⟨z',hz',rfl⟩:=h2
    simp [h1,hz']
   ·rw [List.getElem?_eq_none (by omega),List.getElem?_eq_none (by simp;omega)]
  ·cases h
theorem z6f : Tryz.prog.globalNamed "gyre/conf.names" = some 1 := by kernel_rfl
theorem zur:(Tryz.prog.globals[1]?).map (·.type)=some 104:=by kernel_rfl
theorem zxk:Tryz.prog.cellsOf 9=1:=by kernel_rfl
theorem zqm:Tryz.prog.cellsOf 104=7:=by kernel_rfl
theorem zx3:((begin Tryz.prog (λ_ _=>0) default).world.heap[1]?).bind Obj.row? = some (#[.string ⟨#[]⟩,.string ⟨#[]⟩,.string ⟨#[]⟩,.string ⟨#[]⟩,.string ⟨#[]⟩,.string ⟨#[]⟩,.string ⟨#[]⟩],104):=by kernel_rfl
theorem z32 {W : World} {rest : List (String × DataW Unit)} (h : laidMet Tryz.prog (("gyre/conf.names", Proofs.YtmnknnojkhkceaaGreatDoor.Rows.laid_gyre_conf_names) :: rest) W) : W.var? Tryz.prog "gyre/conf.names" = some cnB.c := by
 obtain ⟨ps,⟨g',t',cs,fuel,p,q,hg',ht',hvar,hd,_,_⟩,_⟩:=h
 obtain rfl:=Option.some.inj (z6f.symm.trans hg')
 obtain rfl:=Option.some.inj (zur.symm.trans ht')
 have h9:=zmy (ss:=[[98,111,100,105,101,115],[109,97,115,115],[99,111,110,115,116,97,110,116],[98,111,120],[116,111,112],[110,101,97,114],[109,101,116,104,111,100]]) Tryz.underlying104 Tryz.underlying9 zxk zqm hd
 rw [hvar]
 congr 1
 exact Array.ext' h9
theorem zhz:Tryz.prog.cellsOf 3=1:=by kernel_rfl
theorem zog:Tryz.prog.cellsOf 31=3:=by kernel_rfl
theorem zlo:Tryz.prog.cellsOf 45=6:=by kernel_rfl
theorem zje:Tryz.prog.cellsOf 25=1:=by kernel_rfl
theorem zqn:Tryz.prog.cellsOf 27=2:=by kernel_rfl
theorem zoj:Tryz.prog.cellTypes Tryz.prog.depth 27=some [3,25]:=by kernel_rfl
section
variable {H:Type} {enc:TypeId×Value->H} {w:World} {base:Nat} {spare:Nat->Bool} {held:Bool}
theorem zpz {fuel:Nat} {cs:List Value} {x:DataW H×List MemPlace} (h:DataW.trod enc Tryz.prog w base spare held fuel 31 cs=some x):cs.length=3/\∀ j,j<3->∃ z,cs[j]? = some (.int .i64 z)/\i64 z:=by
 obtain ⟨xs,m,_,rfl,hl,hxs,hi⟩:=DataW.trod_array Tryz.underlying31 h
 rw [zog] at hl
 refine ⟨hl,λj hj=>?_⟩
 have h1:=hi j hj
 rw [zhz,Nat.mul_one,List.getElem?_eq_getElem (by omega)] at h1
 obtain ⟨z,e,_,hw⟩:=DataW.trod_int Tryz.underlying3 h1
 refine ⟨z,?_,zc4 hw⟩
 have:=congrArg (·[0]?) e
 simpa [List.getElem?_take,List.getElem?_drop] using this
theorem zue {fuel:Nat} {cs:List Value} {x:DataW H×List MemPlace} (h:DataW.trod enc Tryz.prog w base spare held fuel 45 cs=some x):cs.length=6/\∀ j,j<6->∃ z,cs[j]? = some (.int .i64 z)/\i64 z:=by
 obtain ⟨y0,y1,n,rfl,hl,h0,h1⟩:=trod_struct2 Tryz.underlying45 h
 rw [zlo] at hl
 simp only [zog] at h0 h1
 refine ⟨hl,λj hj=>?_⟩
 by_cases c:j<3
 ·obtain ⟨z,e,hz⟩:=(zpz h0).2 j c
  refine ⟨z,?_,hz⟩
  simpa [List.getElem?_take,List.getElem?_drop,c] using e
 ·obtain ⟨z,e,hz⟩:=(zpz h1).2 (j - 3) (by omega)
  refine ⟨z,?_,hz⟩
  rw [List.getElem?_take,if_pos (by omega),List.getElem?_drop,show 3+(j - 3)=j by omega] at e
  exact e
theorem zq8 {fuel:Nat} {cs:List Value} {x:DataW H×List MemPlace} (h:DataW.trod enc Tryz.prog w 0 (λ_=>true) held fuel 25 cs=some x) :
  cs=[.slice none 0 0]\/∃ (a:Addr) (len cap:Nat) (f:Nat->Int),cs=[.slice (some a) len cap]/\len<=cap/\∀ j,j<6*cap->w.cell? (a.add j)=some (.int .i64 (f j))/\i64 (f j):=by
 rcases Deep.open_slice Tryz.underlying25 h with ⟨h0,_⟩|⟨a,len,cap,m,n,D,Pl,rfl,_,hlc,hcm,hm,_,hel⟩
 ·exact .inl h0
 right
 rw [if_pos rfl] at hm
 subst hm
 refine ⟨a,len,m,λj=>match w.cell? (a.add j) with|some (.int _ z)=>z|_=>0,rfl,hlc,λj hj=>?_⟩
 obtain ⟨cs',h1,h2⟩:=hel (j / 6) (by omega)
 rw [zlo] at h1
 obtain ⟨z,e,hz⟩:=(zue h2).2 (j%6) (by omega)
 unfold World.cells? at h1
 rw [if_pos (Nat.zero_le _)] at h1
 have h3:=mapM_some_get h1 (j%6) (j%6) (List.getElem?_range (by omega))
 rw [e,Deep.add_add,show j / 6*6+j%6=j by omega] at h3
 dsimp only
 rw [h3]
 exact ⟨rfl,hz⟩
theorem zvx {fits:TypeId->Bool} (h:fits 84=false) (d c o n:Nat):rowAt Tryz.prog fits d 84 c o n=false:=by
 cases d with
 | zero=>rfl
 | succ d=>simp [rowAt,h,Tryz.underlying84]
theorem zmg {fits:TypeId->Bool} (h:fits 84=false) (h2:fits 86=false) (d c o n:Nat):rowAt Tryz.prog fits d 86 c o n=false:=by
 cases d with
 | zero=>rfl
 | succ d=>simp [rowAt,h2,Tryz.underlying86,zvx h]
theorem zy8 (d c o n:Nat):liesAt Tryz.prog d 86 c o 45 n=false:=by
 cases d with
 | zero=>rfl
 | succ d =>
  unfold liesAt
  rw [zmg (by kernel_rfl) (by kernel_rfl),Tryz.underlying45]
  rfl
theorem z0o {fits:TypeId->Bool} (h:fits 9=false) (d c o n:Nat):rowAt Tryz.prog fits d 9 c o n=false:=by
 cases d with
 | zero=>rfl
 | succ d=>simp [rowAt,h,Tryz.underlying9]
theorem zk0 {fits:TypeId->Bool} (h:fits 9=false) (h2:fits 104=false) (d c o n:Nat):rowAt Tryz.prog fits d 104 c o n=false:=by
 cases d with
 | zero=>rfl
 | succ d=>simp [rowAt,h2,Tryz.underlying104,z0o h]
theorem zu7 (d c o n:Nat):liesAt Tryz.prog d 104 c o 45 n=false:=by
 cases d with
 | zero=>rfl
 | succ d =>
  unfold liesAt
  rw [zk0 (by kernel_rfl) (by kernel_rfl),Tryz.underlying45]
  rfl
theorem z7v:∀ p∈G0L,∃ t,p.2.T=.ty t/\∀ d c o n,liesAt Tryz.prog d t c o 45 n=false:=by
 intro p hp
 unfold G0L at hp
 rcases List.mem_cons.1 hp with rfl|hp
 ·exact ⟨_,rfl,zy8⟩
 rcases List.mem_cons.1 hp with rfl|hp
 ·exact ⟨_,rfl,zu7⟩
 cases hp
structure StAt (W:World) (k off n cap:Nat) (b:Blk) (f:Nat->Int):Prop where
 le:n<=cap
 heap:W.heap[k]? = some b.obj0
 fx:b.fx
 raw:∃ c T fr,b=⟨c,.raw T fr⟩
 rd:rdI b off (6*cap) f
 i6:∀ j,j<6*cap->i64 (f j)
 lies:∃ row c,W.shape? k=some (row,c)/\liesAt Tryz.prog Tryz.prog.depth row (c / Tryz.prog.cellsOf row) off 45 cap=true
theorem StAt.sb {W:World} {k off n cap:Nat} {b:Blk} {f:Nat->Int} (h:StAt W k off n cap b f) (hn:n<=2932031007402):SB b off n f:=⟨h.rd.le (by have:=h.le;omega),h.fx,λj hj=>h.i6 j (by have:=h.le;omega),hn⟩
theorem zvc {r:Reach} {b0:Nat} {v:Value} {d:DataW H} {p:List MemPlace} (hv:Value.okWide Tryz.prog w r b0 27 v) (h:DataW.Trod enc Tryz.prog w 0 (λ_=>true) held 27 v d p) :
  ∃ st,i64 st/\(v=.agg #[.int .i64 st,.slice none 0 0]\/∃ (k off n cap:Nat) (b:Blk) (f:Nat->Int),v=.agg #[.int .i64 st,.slice (some ⟨k,off,none⟩) n cap]/\StAt w k off n cap b f):=by
 simp only [Value.okWide,Tryz.underlying27] at hv
 obtain ⟨cs,rfl,hsz,ts,hts,_,hall⟩:=hv
 rw [zoj] at hts
 simp only [Option.some.injEq] at hts
 subst hts
 obtain ⟨fuel,hf⟩:=h
 obtain ⟨y0,y1,n,_,hl,h0,h1⟩:=trod_struct2 Tryz.underlying27 hf
 rw [zhz] at h0
 rw [zje] at h1
 simp only [Value.cells] at h0 h1
 obtain ⟨st,e0,_,hw⟩:=DataW.trod_int Tryz.underlying3 h0
 rw [zqn] at hsz
 obtain ⟨c0,c1,rfl⟩:∃ c0 c1,cs=#[c0,c1]:=by
  obtain ⟨l⟩:=cs
  match l,hsz with
  | [c0,c1],_=>exact ⟨c0,c1,rfl⟩
 simp at e0
 subst e0
 refine ⟨st,zc4 hw,?_⟩
 rcases zq8 h1 with e1|⟨a,len,cap,f,e1,hle,hc⟩
 ·simp at e1
  subst e1
  exact .inl rfl
 ·simp at e1
  subst e1
  right
  obtain ⟨u,hu,hok⟩:=hall 1 _ rfl
  simp at hu
  subst hu
  simp only [Cell.okWide,Cell.ok,Tryz.underlying25] at hok
  obtain ⟨_,_,_,hsp,row,cells,hsh,hlies⟩:=hok
  obtain ⟨k,off,sp⟩:=a
  simp only at hsp hsh hlies
  subst hsp
  have hsh':=hsh
  unfold World.shape? at hsh'
  split at hsh'
  ·rename_i c T fr hh
   simp only [Option.some.injEq,Prod.mk.injEq] at hsh'
   obtain ⟨rfl,rfl⟩:=hsh'
   refine ⟨k,off,len,cap,⟨c,.raw T fr⟩,f,rfl,hle,hh,trivial,⟨c,T,fr,rfl⟩,λj hj=>?_,λj hj=>(hc j hj).2,T,_,hsh,hlies⟩
   have h2:=(hc j hj).1
   rw [Addr.add_lit] at h2
   simpa [World.cell?,hh] using h2
  ·cases hsh'
end
theorem zin {H:Type} {enc:TypeId×Value->H} {P:Program} {base:Nat} (hl:laidOutB P=true) {W W':World} {sp':Nat->Bool}:∀ (ts:List TypeId) (vs:List Value) (ds:List (DataW H)) (ps:List MemPlace),(∀ t∈ts,P.readableRec t=true/\t<P.types.size) ->
  DataW.TrodAll enc P W base (λ_=>true) true ts vs ds ps->(∀ p∈ps,W.sameAt W' p)->(∀ p∈ps,sp' p.block=true)->DataW.TrodAll enc P W' base sp' true ts vs ds ps
 | [],[],[],_,_,h,_,_=>h
 | t::_,_::_,_::_,_,hT,⟨p,q,h1,h2,e⟩,hm,hs=>⟨p,q,WideElems.Trod_stays hl (hT t (by simp)).1 (hT t (by simp)).2 h1 (λx hx=>hm x (by rw [e];exact List.mem_append_left _ hx)) (λx hx=>hs x (by rw [e];exact List.mem_append_left _ hx)),
   zin hl _ _ _ _ (λt ht=>hT t (List.mem_cons_of_mem _ ht)) h2 (λx hx=>hm x (by rw [e];exact List.mem_append_right _ hx)) (λx hx=>hs x (by rw [e];exact List.mem_append_right _ hx)),e⟩
theorem z3r:laidOutB Tryz.prog=true:=by kernel_rfl
theorem zug:Tryz.prog.bytesOf 45=48:=by kernel_rfl
theorem z56 {H:Type} {enc:TypeId×Value->H} {w:World} {held:Bool} {st:Int} {a:Addr} {n cap:Nat} {d:DataW H} {p:List MemPlace} (h:DataW.Trod enc Tryz.prog w 0 (λ_=>true) held 27 (.agg #[.int .i64 st,.slice (some a) n cap]) d p) (hw:∀ x∈d.weights Tryz.prog 27,x<=reachBytes):cap<=2932031007402:=by
 obtain ⟨fuel,hf⟩:=h
 obtain ⟨y0,y1,m,hx,hl,h0,h1⟩:=trod_struct2 Tryz.underlying27 hf
 rw [zje] at h1
 simp only [Value.cells] at h1
 rcases Deep.open_slice Tryz.underlying25 h1 with ⟨e1,_⟩|⟨a',len,cap',m',n',D,Pl,e1,_,hlc,hcm,hm,hy1,_⟩
 ·simp at e1
 ·simp at e1
  obtain ⟨rfl,rfl,rfl⟩:=e1
  rw [if_pos rfl] at hm
  subst hm
  simp only [Prod.mk.injEq] at hx
  have hd:=hx.1
  rw [hd,hy1] at hw
  have:=hw ((n+(m' - n))*48) (by
   simp only [DataW.weights,Tryz.underlying27]
   simp [DataW.weightsEach,DataW.weights,Tryz.underlying25,zug])
  unfold reachBytes at this
  omega
theorem StAt.ne {W:World} {k off n cap:Nat} {b:Blk} {f:Nat->Int} (h:StAt W k off n cap b f) (hg:GOK G0 W):∀ g c,G0 g=some c->k≠g:=λg c hc e=>by
 have h1:=hg g c hc
 obtain ⟨t,ht,hl'⟩:=z7v _ (zsa hc)
 obtain ⟨row,q,hsh,hl⟩:=h.lies
 rw [e] at hsh
 unfold World.shape? at hsh
 rw [h1] at hsh
 obtain ⟨cc,T⟩:=c
 simp only at ht
 subst ht
 simp only [Blk.obj0,Option.some.injEq,Prod.mk.injEq] at hsh
 obtain ⟨rfl,rfl⟩:=hsh
 rw [hl'] at hl
 cases hl
theorem zkh {P:Program} {G:Hp} {fn:FuncId} {args:Array Value} {b:Blk} {v:Value} {W:World} {k:Nat} (hGF:zbm G) (hF:Fun P G fn args (hpL G [(100,b)]) (zab [(100,b)]) (.ret v [])) (hv:za0 v=true) (hgok:GOK G W) (hfx:b.fx) (hk:W.heap[k]? = some b.obj0) (hne:∀ g c,G g=some c->k≠g) :
  zef P fn (args.map (ren λq=>if q=100 then k else q)) W λe W'=>e=.returned v/\Below W.heap.size W W':=by
 have er:rst (hpL G [(100,b)]) (zab [(100,b)])=hpL G [(100,b)]:=LOk.rst hGF
 have hobj:∀ r,b.obj r=b.obj0:=λr=>by
  obtain ⟨c,T⟩:=b
  cases T with
  | ty t=>exact Blk.obj_flat hfx
  | raw t fr=>rfl
  | mp=>exact hfx.elim
 have hmem:∀ q c,hpL G [(100,b)] q=some c->(q=100/\c=b)\/(q<100/\G q=some c):=λq c hq=>by
  rcases za8 hq with h|h
  ·simp at h;exact .inl h
  ·exact .inr ⟨(hGF q c h).1,h⟩
 have hrun:=hF.run (λq=>if q=100 then k else q) W hgok ?_ ?_ ?_
 ·refine hrun.mono λe W' h=>?_
  obtain ⟨he,ht⟩:=h
  rw [zax hv] at he
  exact ⟨he,ht.os,ht.tape,ht.output,ht.size,λq hq=>ht.same q hq (by simp)⟩
 ·rw [er]
  intro q c hq
  rcases hmem q c hq with ⟨rfl,rfl⟩|⟨hlt,hG⟩
  ·exact ⟨by simp only [if_true];rw [hobj];exact hk,Blk.fx_ids hfx _⟩
  ·refine ⟨?_,Blk.flat_ids (hGF q c hG).2⟩
   have e1:(λq=>if q=100 then k else q) q=q:=if_neg (by omega)
   rw [e1,hgok q c hG]
   congr 1
   obtain ⟨cc,T⟩:=c
   cases T with
   | ty t=>exact (Blk.obj_flat (hGF q _ hG).2).symm
   | raw t fr=>rfl
   | mp=>exact (Blk.obj_flat (hGF q _ hG).2).symm
 ·rw [er]
  intro q q' hq hq' e
  have e:(if q=100 then k else q)=if q'=100 then k else q':=e
  unfold dom at hq hq'
  cases h1:hpL G [(100,b)] q with
  | none=>exact absurd h1 hq
  | some c =>
   cases h2:hpL G [(100,b)] q' with
   | none=>exact absurd h2 hq'
   | some c' =>
    rcases hmem q c h1 with ⟨rfl,_⟩|⟨hlt,hG⟩<;>rcases hmem q' c' h2 with ⟨rfl,_⟩|⟨hlt',hG'⟩
    ·rfl
    ·rw [if_pos rfl,if_neg (by omega)] at e;exact absurd e (hne _ _ hG')
    ·rw [if_neg (by omega),if_pos rfl] at e;exact absurd e.symm (hne _ _ hG)
    ·rw [if_neg (by omega),if_neg (by omega)] at e;exact e
 ·intro q hq _
  exact if_neg (by omega)
section
variable {H:Type} {enc:TypeId×Value->H} {w:World} {base:Nat} {spare:Nat->Bool} {held:Bool}
end
theorem z4s {W:World} {k:Nat} {b b':Blk} (h:W.heap[k]? = some b.obj0) (h':W.heap[k]? = some b'.obj0) (r:∃ c T fr,b=⟨c,.raw T fr⟩) (r':∃ c T fr,b'=⟨c,.raw T fr⟩):b=b':=by
 obtain ⟨c,T,fr,rfl⟩:=r
 obtain ⟨c',T',fr',rfl⟩:=r'
 rw [h] at h'
 simp only [Blk.obj0,Option.some.injEq,Obj.cells.injEq] at h'
 obtain ⟨rfl,rfl,rfl⟩:=h'
 rfl
theorem jet {P:Program} {G:Hp} {fn:FuncId} {args:Array Value} {L:List (Nat×Blk)} {v:Value} {W:World} (r:Nat->Nat) (hGF:zbm G) (hF:Fun P G fn args (hpL G L) (zab L) (.ret v [])) (hv:za0 v=true) (hgok:GOK G W) (hL:LOk L 200) (hfx:∀ p∈L,p.2.fx)
  (hr:∀ p∈L,W.heap[r p.1]? = some p.2.obj0) (hne:∀ p∈L,∀ g c,G g=some c->r p.1≠g) (hinj:∀ p∈L,∀ q∈L,r p.1=r q.1->p.1=q.1) (hlow:∀ q,q<100->r q=q) :
  zef P fn (args.map (ren r)) W λe W'=>e=.returned v/\Below W.heap.size W W':=by
 have er:rst (hpL G L) (zab L)=hpL G L:=LOk.rst hGF
 have hobj:∀ (b:Blk),b.fx->∀ r,b.obj r=b.obj0:=λb hb r=>by
  obtain ⟨c,T⟩:=b
  cases T with
  | ty t=>exact Blk.obj_flat hb
  | raw t fr=>rfl
  | mp=>exact hb.elim
 have hmem:∀ q c,hpL G L q=some c->(q,c)∈L\/(q<100/\G q=some c):=λq c hq=>by
  rcases za8 hq with h|h
  ·exact .inl h
  ·exact .inr ⟨(hGF q c h).1,h⟩
 have hrun:=hF.run r W hgok ?_ ?_ ?_
 ·refine hrun.mono λe W' h=>?_
  obtain ⟨he,ht⟩:=h
  rw [zax hv] at he
  exact ⟨he,ht.os,ht.tape,ht.output,ht.size,λq hq=>ht.same q hq (by simp)⟩
 ·rw [er]
  intro q c hq
  rcases hmem q c hq with h|⟨hlt,hG⟩
  ·exact ⟨by rw [hobj c (hfx _ h)];exact hr _ h,Blk.fx_ids (hfx _ h) _⟩
  ·refine ⟨?_,Blk.flat_ids (hGF q c hG).2⟩
   rw [hlow q hlt,hgok q c hG]
   congr 1
   obtain ⟨cc,T⟩:=c
   cases T with
   | ty t=>exact (Blk.obj_flat (hGF q _ hG).2).symm
   | raw t fr=>rfl
   | mp=>exact (Blk.obj_flat (hGF q _ hG).2).symm
 ·rw [er]
  intro q q' hq hq' e
  unfold dom at hq hq'
  cases h1:hpL G L q with
  | none=>exact absurd h1 hq
  | some c =>
   cases h2:hpL G L q' with
   | none=>exact absurd h2 hq'
   | some c' =>
    rcases hmem q c h1 with h|⟨hlt,hG⟩<;>rcases hmem q' c' h2 with h'|⟨hlt',hG'⟩
    ·exact hinj _ h _ h' e
    ·rw [hlow q' hlt'] at e;exact absurd e (hne _ h _ _ hG')
    ·rw [hlow q hlt] at e;exact absurd e.symm (hne _ h' _ _ hG)
    ·rw [hlow q hlt,hlow q' hlt'] at e;exact e
 ·intro q hq _
  exact hlow q hq
def nmL (k k2 q:Nat):Nat:=if q=100 then k else if q=108 then k2 else q
theorem zzh (k k2 q:Nat) (h:q<100):nmL k k2 q=q:=by
 unfold nmL
 rw [if_neg (by omega),if_neg (by omega)]
@[simp] theorem jpu (k k2:Nat):nmL k k2 100=k:=by simp [nmL]
@[simp] theorem jpv (k k2:Nat):nmL k k2 108=k2:=by simp [nmL]
theorem z81 {P:Program} {G:Hp} {fn:FuncId} {args:Nat->Array Value} {b b2:Blk} {v:Value} {W:World} {k k2:Nat} (hGF:zbm G) (hF:∀ L ks,LTwo G L ks b b2->Fun P G fn (args ks) (hpL G L) (zab L) (.ret v [])) (hv:za0 v=true) (hgok:GOK G W)
  (h1:b.fx) (h2:b2.fx) (w1:W.heap[k]? = some b.obj0) (w2:W.heap[k2]? = some b2.obj0) (r1:∃ c T fr,b=⟨c,.raw T fr⟩) (r2:∃ c T fr,b2=⟨c,.raw T fr⟩) (n1:∀ g c,G g=some c->k≠g) (n2:∀ g c,G g=some c->k2≠g) {args':Array Value}
  (ha:∀ ks,ks=100/\k=k2\/ks=108->(args ks).map (ren (nmL k k2))=args'):zef P fn args' W λe W'=>e=.returned v/\Below W.heap.size W W':=by
 by_cases e:k=k2
 ·subst e
  obtain rfl:=z4s w1 w2 r1 r2
  have:=jet (nmL k k) hGF (hF _ _ (LTwo.one h1)) hv hgok (LTwo.one (G:=G) h1).ok (LTwo.one (G:=G) h1).fx (by simp [w1]) (by simp;exact n1) (by simp) (zzh k k)
  rwa [ha 100 (.inl ⟨rfl,rfl⟩)] at this
 ·have:=jet (nmL k k2) hGF (hF _ _ (LTwo.two h1 h2)) hv hgok (LTwo.two (G:=G) h1 h2).ok (LTwo.two (G:=G) h1 h2).fx (by simp [w1,w2]) (by simp;exact ⟨n1,n2⟩) (by simp;exact ⟨λh=>e h,λh=>e h.symm⟩) (zzh k k2)
  rwa [ha 108 (.inr rfl)] at this
theorem zuk:Tryz.prog.cellsOf 22=1:=by kernel_rfl
theorem zuj:Tryz.prog.cellsOf 24=6:=by kernel_rfl
theorem zqq:Tryz.prog.cellTypes Tryz.prog.depth 24=some [22,3,3,3,3,3]:=by kernel_rfl
theorem zxi:Tryz.prog.bytesOf 3=8:=by kernel_rfl
theorem zq4 (d c o n:Nat):liesAt Tryz.prog d 104 c o 3 n=false:=by
 cases d with
 | zero=>rfl
 | succ d =>
  unfold liesAt
  rw [zk0 (by kernel_rfl) (by kernel_rfl),Tryz.underlying3]
  rfl
theorem zu8 (d c o n:Nat):liesAt Tryz.prog d 86 c o 3 n=false:=by
 cases d with
 | zero=>rfl
 | succ d =>
  unfold liesAt
  rw [zmg (by kernel_rfl) (by kernel_rfl),Tryz.underlying3]
  rfl
theorem z15:∀ p∈G0L,∃ t,p.2.T=.ty t/\∀ d c o n,liesAt Tryz.prog d t c o 3 n=false:=by
 intro p hp
 unfold G0L at hp
 rcases List.mem_cons.1 hp with rfl|hp
 ·exact ⟨_,rfl,zu8⟩
 rcases List.mem_cons.1 hp with rfl|hp
 ·exact ⟨_,rfl,zq4⟩
 cases hp
structure CfAt (W:World) (k off n cap:Nat) (b:Blk) (f:Nat->Int):Prop where
 le:n<=cap
 heap:W.heap[k]? = some b.obj0
 fx:b.fx
 raw:∃ c T fr,b=⟨c,.raw T fr⟩
 rd:rdI b off cap f
 i6:∀ j,j<cap->i64 (f j)
 lies:∃ row c,W.shape? k=some (row,c)/\liesAt Tryz.prog Tryz.prog.depth row (c / Tryz.prog.cellsOf row) off 3 cap=true
theorem CfAt.mb {W:World} {k off n cap:Nat} {b:Blk} {f:Nat->Int} (h:CfAt W k off n cap b f) (hn:n<=17592186044416):MB b off n f:=⟨h.rd.le h.le,h.fx,λj hj=>h.i6 j (Nat.lt_of_lt_of_le hj h.le),hn⟩
theorem CfAt.ne {W:World} {k off n cap:Nat} {b:Blk} {f:Nat->Int} (h:CfAt W k off n cap b f) (hg:GOK G0 W):∀ g c,G0 g=some c->k≠g:=λg c hc e=>by
 have h1:=hg g c hc
 obtain ⟨t,ht,hl'⟩:=z15 _ (zsa hc)
 obtain ⟨row,q,hsh,hl⟩:=h.lies
 rw [e] at hsh
 unfold World.shape? at hsh
 rw [h1] at hsh
 obtain ⟨cc,T⟩:=c
 simp only at ht
 subst ht
 simp only [Blk.obj0,Option.some.injEq,Prod.mk.injEq] at hsh
 obtain ⟨rfl,rfl⟩:=hsh
 rw [hl'] at hl
 cases hl
section
variable {H:Type} {enc:TypeId×Value->H} {w:World} {held:Bool}
theorem zpx {P:Program} {base:Nat} {spare:Nat->Bool} {t:TypeId} {f0 f1 f2 f3 f4 f5:Field} {fuel:Nat} {cs:List Value} {x:DataW H×List MemPlace} (ht:P.underlying t=some (.struct #[f0,f1,f2,f3,f4,f5])) (h:DataW.trod enc P w base spare held fuel t cs=some x) :
  ∃ y0 y1 y2 y3 y4 y5 n,x.1=.agg [y0.1,y1.1,y2.1,y3.1,y4.1,y5.1]/\DataW.trod enc P w base spare held n f0.type ((cs.drop f0.offset).take (P.cellsOf f0.type))=some y0/\DataW.trod enc P w base spare held n f1.type ((cs.drop f1.offset).take (P.cellsOf f1.type))=some y1 /\
   DataW.trod enc P w base spare held n f2.type ((cs.drop f2.offset).take (P.cellsOf f2.type))=some y2/\DataW.trod enc P w base spare held n f3.type ((cs.drop f3.offset).take (P.cellsOf f3.type))=some y3/\DataW.trod enc P w base spare held n f4.type ((cs.drop f4.offset).take (P.cellsOf f4.type))=some y4/\DataW.trod enc P w base spare held n f5.type ((cs.drop f5.offset).take (P.cellsOf f5.type))=some y5:=by
 obtain ⟨xs,n,_,hx,hl,hlen,hf⟩:=DataW.trod_struct ht h
 match xs,hlen with
 | [y0,y1,y2,y3,y4,y5],_=>exact ⟨y0,y1,y2,y3,y4,y5,n,by rw [hx];rfl,by simpa using hf 0 f0 rfl,by simpa using hf 1 f1 rfl,by simpa using hf 2 f2 rfl,by simpa using hf 3 f3 rfl,by simpa using hf 4 f4 rfl,by simpa using hf 5 f5 rfl⟩
theorem zpw {fuel:Nat} {cs:List Value} {x:DataW H×List MemPlace} (h:DataW.trod enc Tryz.prog w 0 (λ_=>true) held fuel 24 cs=some x) :
  ∃ y0 y1 y2 y3 y4 y5 n,x.1=.agg [y0.1,y1.1,y2.1,y3.1,y4.1,y5.1]/\DataW.trod enc Tryz.prog w 0 (λ_=>true) held n 22 ((cs.drop 0).take 1)=some y0/\DataW.trod enc Tryz.prog w 0 (λ_=>true) held n 3 ((cs.drop 1).take 1)=some y1/\DataW.trod enc Tryz.prog w 0 (λ_=>true) held n 3 ((cs.drop 2).take 1)=some y2 /\
   DataW.trod enc Tryz.prog w 0 (λ_=>true) held n 3 ((cs.drop 3).take 1)=some y3/\DataW.trod enc Tryz.prog w 0 (λ_=>true) held n 3 ((cs.drop 4).take 1)=some y4/\DataW.trod enc Tryz.prog w 0 (λ_=>true) held n 3 ((cs.drop 5).take 1)=some y5:=by
 obtain ⟨y0,y1,y2,y3,y4,y5,n,hx,f0,f1,f2,f3,f4,f5⟩:=zpx Tryz.underlying24 h
 rw [zuk] at f0
 rw [zhz] at f1 f2 f3 f4 f5
 exact ⟨y0,y1,y2,y3,y4,y5,n,hx,f0,f1,f2,f3,f4,f5⟩
theorem zzl {r:Reach} {b0:Nat} {v:Value} {d:DataW H} {p:List MemPlace} (hv:Value.okWide Tryz.prog w r b0 24 v) (h:DataW.Trod enc Tryz.prog w 0 (λ_=>true) held 24 v d p) :
  ∃ g bx tp nr md,i64 g/\i64 bx/\i64 tp/\i64 nr/\i64 md/\(v=cfV (.slice none 0 0) g bx tp nr md\/∃ (k off n cap:Nat) (b:Blk) (f:Nat->Int),v=cfV (.slice (some ⟨k,off,none⟩) n cap) g bx tp nr md/\CfAt w k off n cap b f):=by
 simp only [Value.okWide,Tryz.underlying24] at hv
 obtain ⟨cs,rfl,hsz,ts,hts,_,hall⟩:=hv
 rw [zqq] at hts
 simp only [Option.some.injEq] at hts
 subst hts
 obtain ⟨fuel,hf⟩:=h
 obtain ⟨y0,y1,y2,y3,y4,y5,n,_,h0,h1,h2,h3,h4,h5⟩:=zpw hf
 simp only [Value.cells] at h0 h1 h2 h3 h4 h5
 obtain ⟨g,e1,_,w1⟩:=DataW.trod_int Tryz.underlying3 h1
 obtain ⟨bx,e2,_,w2⟩:=DataW.trod_int Tryz.underlying3 h2
 obtain ⟨tp,e3,_,w3⟩:=DataW.trod_int Tryz.underlying3 h3
 obtain ⟨nr,e4,_,w4⟩:=DataW.trod_int Tryz.underlying3 h4
 obtain ⟨md,e5,_,w5⟩:=DataW.trod_int Tryz.underlying3 h5
 rw [zuj] at hsz
 obtain ⟨c0,c1,c2,c3,c4,c5,rfl⟩:∃ c0 c1 c2 c3 c4 c5,cs=#[c0,c1,c2,c3,c4,c5]:=by
  obtain ⟨l⟩:=cs
  match l,hsz with
  | [c0,c1,c2,c3,c4,c5],_=>exact ⟨c0,c1,c2,c3,c4,c5,rfl⟩
 simp at e1 e2 e3 e4 e5
 subst e1 e2 e3 e4 e5
 refine ⟨g,bx,tp,nr,md,zc4 w1,zc4 w2,zc4 w3,zc4 w4,zc4 w5,?_⟩
 rcases open_ints Tryz.underlying22 Tryz.underlying3 zhz h0 with ⟨e0,_⟩|⟨a,len,cap,zs,e0,_,hle,_,hzl,_,hc,hw⟩
 ·simp at e0
  subst e0
  exact .inl rfl
 ·simp at e0
  subst e0
  right
  rw [if_pos rfl] at hzl
  obtain ⟨u,hu,hok⟩:=hall 0 _ rfl
  simp at hu
  subst hu
  simp only [Cell.okWide,Cell.ok,Tryz.underlying22] at hok
  obtain ⟨_,_,_,hsp,row,cells,hsh,hlies⟩:=hok
  obtain ⟨k,off,sp⟩:=a
  simp only at hsp hsh hlies
  subst hsp
  have hsh':=hsh
  unfold World.shape? at hsh'
  split at hsh'
  ·rename_i c T fr hh
   simp only [Option.some.injEq,Prod.mk.injEq] at hsh'
   obtain ⟨rfl,rfl⟩:=hsh'
   refine ⟨k,off,len,cap,⟨c,.raw T fr⟩,λj=>zs.getD j 0,rfl,hle,hh,trivial,⟨c,T,fr,rfl⟩,λj hj=>?_,λj hj=>?_,T,_,hsh,hlies⟩
   ·have h2:=hc j (by omega)
    rw [Addr.add_lit] at h2
    simpa [World.cell?,hh] using h2
   ·have hjz:j<zs.length:=by omega
    exact zc4 (hw _ (by simp [List.getD,List.getElem?_eq_getElem hjz]))
  ·cases hsh'
theorem zxj {g bx tp nr md:Int} {a:Addr} {n cap:Nat} {d:DataW H} {p:List MemPlace} (h:DataW.Trod enc Tryz.prog w 0 (λ_=>true) held 24 (cfV (.slice (some a) n cap) g bx tp nr md) d p) (hw:∀ x∈d.weights Tryz.prog 24,x<=reachBytes):cap<=17592186044416:=by
 obtain ⟨fuel,hf⟩:=h
 obtain ⟨y0,y1,y2,y3,y4,y5,m,hx,h0,_⟩:=zpw hf
 simp only [cfV,Value.cells] at h0
 rcases Deep.open_slice Tryz.underlying22 h0 with ⟨e1,_⟩|⟨a',len,cap',m',n',D,Pl,e1,_,hlc,hcm,hm,hy1,_⟩
 ·simp at e1
 ·simp at e1
  obtain ⟨rfl,rfl,rfl⟩:=e1
  rw [if_pos rfl] at hm
  subst hm
  rw [show d=_ from hx,hy1] at hw
  have:=hw ((n+(m' - n))*8) (by
   simp only [DataW.weights,Tryz.underlying24]
   simp [DataW.weightsEach,DataW.weights,Tryz.underlying22,zxi])
  unfold reachBytes at this
  omega
end
theorem zme:Tryz.prog.cellsOf 96=2:=by kernel_rfl
theorem zro:Tryz.prog.cellsOf 97=12:=by kernel_rfl
section
variable {H:Type} {enc:TypeId×Value->H} {w:World}
theorem z4p {base fuel:Nat} {spare:Nat->Bool} {held:Bool} {cs:List Value} {a b:Int} {p:List MemPlace} (h:DataW.trod enc Tryz.prog w base spare held fuel 96 cs=some (.agg [.lit (.int .i64 a),.lit (.int .i64 b)],p)):cs=[.int .i64 a,.int .i64 b]:=by
 cases fuel with
 | zero=>simp [DataW.trod] at h
 | succ fuel =>
  simp only [DataW.trod,Tryz.underlying96,zme] at h
  split at h
  ·rename_i hl
   obtain ⟨xs,hm,hx⟩:=Option.map_eq_some_iff.1 h
   have hx1:=congrArg Prod.fst hx
   simp only [DataW.agg.injEq] at hx1
   match cs,hl with
   | [c0,c1],_ =>
    have h0:=Lib.mapM_at hm 0 _ rfl
    have h1:=Lib.mapM_at hm 1 _ rfl
    obtain ⟨y0,hy0,hf0⟩:=h0
    obtain ⟨y1,hy1,hf1⟩:=h1
    obtain ⟨z0,hc0,rfl,_⟩:=DataW.trod_int Tryz.underlying3 hf0
    obtain ⟨z1,hc1,rfl,_⟩:=DataW.trod_int Tryz.underlying3 hf1
    have e0:(xs.map (·.1))[0]? = some (DataW.lit (.int .i64 z0):DataW H):=by simp [hy0]
    have e1:(xs.map (·.1))[1]? = some (DataW.lit (.int .i64 z1):DataW H):=by simp [hy1]
    rw [hx1] at e0 e1
    simp at e0 e1
    subst e0 e1
    have q0:[c0]=[Value.int .i64 a]:=hc0
    have q1:[c1]=[Value.int .i64 b]:=hc1
    simp at q0 q1
    rw [q0,q1]
  ·cases h
theorem z4o {base fuel:Nat} {spare:Nat->Bool} {held:Bool} {cs:List Value} {p:List MemPlace} (h:DataW.trod enc Tryz.prog w base spare held fuel 97 cs=some (Proofs.YtmnknnojkhkceaaGreatDoor.Rows.laid_gyre_pull_limits,p)):cs=lmB.c.toList:=by
 cases fuel with
 | zero=>simp [DataW.trod] at h
 | succ fuel =>
  simp only [DataW.trod,Tryz.underlying97,zro,zme] at h
  split at h
  ·rename_i hl
   obtain ⟨xs,hm,hx⟩:=Option.map_eq_some_iff.1 h
   have hx1:=congrArg Prod.fst hx
   simp only [Proofs.YtmnknnojkhkceaaGreatDoor.Rows.laid_gyre_pull_limits,DataW.agg.injEq] at hx1
   have key:∀ (i:Nat) (a b:Int),i<6->([DataW.agg [.lit (.int .i64 (-2097152)),.lit (.int .i64 2097152)],.agg [.lit (.int .i64 1),.lit (.int .i64 2097152)],.agg [.lit (.int .i64 1),.lit (.int .i64 1048576)],.agg [.lit (.int .i64 1),.lit (.int .i64 1024)],.agg [.lit (.int .i64 (-2097152)),.lit (.int .i64 2097152)],.agg [.lit (.int .i64 0),.lit (.int .i64 13194139533312)]]:List (DataW H))[i]? = some (.agg [.lit (.int .i64 a),.lit (.int .i64 b)]) ->
     (cs.drop (i*2)).take 2=[.int .i64 a,.int .i64 b]:=λi a b hi hab=>by
    obtain ⟨y,hy,hf⟩:=Lib.mapM_at hm i i (by simp [hi])
    have e:(xs.map (·.1))[i]? = some y.1:=by simp [hy]
    rw [hx1,hab] at e
    simp only [Option.some.injEq] at e
    obtain ⟨y1,y2⟩:=y
    simp only at e
    subst e
    exact z4p hf
   have k0:=key 0 _ _ (by omega) rfl
   have k1:=key 1 _ _ (by omega) rfl
   have k2:=key 2 _ _ (by omega) rfl
   have k3:=key 3 _ _ (by omega) rfl
   have k4:=key 4 _ _ (by omega) rfl
   have k5:=key 5 _ _ (by omega) rfl
   match cs,hl with
   | [c0,c1,c2,c3,c4,c5,c6,c7,c8,c9,c10,c11],_ =>
    simp at k0 k1 k2 k3 k4 k5
    simp [lmB,k0,k1,k2,k3,k4,k5]
  ·cases h
end
theorem z7e : Tryz.prog.globalNamed "gyre/pull.limits" = some 0 := by kernel_rfl
theorem zvk:(Tryz.prog.globals[0]?).map (·.type)=some 97:=by kernel_rfl
theorem zz2:((begin Tryz.prog (λ_ _=>0) default).world.heap[0]?).bind Obj.row? = some (#[.int .i64 0,.int .i64 0,.int .i64 0,.int .i64 0,.int .i64 0,.int .i64 0,.int .i64 0,.int .i64 0,.int .i64 0,.int .i64 0,.int .i64 0,.int .i64 0],97):=by kernel_rfl
theorem zvl {W : World} {rest : List (String × DataW Unit)} (h : laidMet Tryz.prog (("gyre/pull.limits", Proofs.YtmnknnojkhkceaaGreatDoor.Rows.laid_gyre_pull_limits) :: rest) W) : W.var? Tryz.prog "gyre/pull.limits" = some lmB.c := by
 obtain ⟨ps,⟨g',t',cs,fuel,p,q,hg',ht',hvar,hd,_,_⟩,_⟩:=h
 obtain rfl:=Option.some.inj (z7e.symm.trans hg')
 obtain rfl:=Option.some.inj (zvk.symm.trans ht')
 rw [hvar]
 congr 1
 apply Array.ext'
 exact z4o hd
theorem zx6 {W : World} (hS : W.ShapedOpen Tryz.prog) (h : laidMet Tryz.prog [("gyre/conf.names", Proofs.YtmnknnojkhkceaaGreatDoor.Rows.laid_gyre_conf_names), ("gyre/quot.least", Proofs.YtmnknnojkhkceaaGreatDoor.Rows.laid_gyre_quot_least), ("gyre/pull.limits", Proofs.YtmnknnojkhkceaaGreatDoor.Rows.laid_gyre_pull_limits)] W) : GOK G1 W := λk b hk => by
 rcases za8 hk with hm|hm
 ·simp at hm
  obtain ⟨rfl,rfl⟩:=hm
  exact zhp z7e (of_decide_eq_true (by kernel_rfl)) zz2 hS (zvl (laidMet.tail (laidMet.tail h)))
 ·have h9:=zsa hm
  simp [G0L] at h9
  rcases h9 with ⟨rfl,rfl⟩|⟨rfl,rfl⟩
  ·exact zhp z6e (of_decide_eq_true (by kernel_rfl)) zx2 hS (z3s (laidMet.tail h))
  ·exact zhp z6f (of_decide_eq_true (by kernel_rfl)) zx3 hS (z32 h)
theorem zvw {fits:TypeId->Bool} (h:fits 3=false) (d c o n:Nat):rowAt Tryz.prog fits d 3 c o n=false:=by
 cases d with
 | zero=>rfl
 | succ d=>simp [rowAt,h,Tryz.underlying3]
theorem zrv {fits:TypeId->Bool} (h:fits 3=false) (h2:fits 96=false) (d c o n:Nat):rowAt Tryz.prog fits d 96 c o n=false:=by
 cases d with
 | zero=>rfl
 | succ d=>simp [rowAt,h2,Tryz.underlying96,zvw h]
theorem zpo {fits:TypeId->Bool} (h:fits 3=false) (h2:fits 96=false) (h3:fits 97=false) (d c o n:Nat):rowAt Tryz.prog fits d 97 c o n=false:=by
 cases d with
 | zero=>rfl
 | succ d=>simp [rowAt,h3,Tryz.underlying97,zrv h h2]
theorem zq3 (d c o n:Nat):liesAt Tryz.prog d 97 c o 45 n=false:=by
 cases d with
 | zero=>rfl
 | succ d =>
  unfold liesAt
  rw [zpo (by kernel_rfl) (by kernel_rfl) (by kernel_rfl),Tryz.underlying45]
  rfl
theorem zsb {g:Nat} {c:Blk} (h:G1 g=some c):(g=0/\c=lmB)\/G0 g=some c:=by
 unfold G1 at h
 rw [zai] at h
 by_cases e:g=0
 ·rw [if_pos e] at h
  exact .inl ⟨e,(Option.some.inj h).symm⟩
 ·rw [if_neg e] at h
  exact .inr h
theorem StAt.ne1 {W:World} {k off n cap:Nat} {b:Blk} {f:Nat->Int} (h:StAt W k off n cap b f) (hg:GOK G1 W):∀ g c,G1 g=some c->k≠g:=λg c hc e=>by
 rcases zsb hc with ⟨rfl,rfl⟩|h0
 ·have h1:=hg _ _ hc
  obtain ⟨row,q,hsh,hl⟩:=h.lies
  rw [e] at hsh
  unfold World.shape? at hsh
  rw [h1] at hsh
  simp only [lmB,Blk.obj0,Option.some.injEq,Prod.mk.injEq] at hsh
  obtain ⟨rfl,rfl⟩:=hsh
  rw [zq3] at hl
  cases hl
 ·exact h.ne (zsc W hg) g c h0 e
theorem CfAt.ne1 {W:World} {k off n cap:Nat} {b:Blk} {f:Nat->Int} (h:CfAt W k off n cap b f) (hg:GOK G1 W) (hk:¬k=0):∀ g c,G1 g=some c->k≠g:=λg c hc e=>by
 rcases zsb hc with ⟨rfl,rfl⟩|h0
 ·exact hk e
 ·exact h.ne (zsc W hg) g c h0 e
theorem CfAt.lim {W:World} {k off n cap:Nat} {b:Blk} {f:Nat->Int} (h:CfAt W k off n cap b f) (hg:GOK G1 W) (hk:k=0) (hn:n<=17592186044416):MB lmB off n f:=by
 have h1:=hg _ _ zn1
 have h2:=h.heap
 rw [hk,h1] at h2
 have hc:b.c=lmB.c:=by
  obtain ⟨c,T,fr,rfl⟩:=h.raw
  simp only [lmB,Blk.obj0,Option.some.injEq,Obj.cells.injEq] at h2
  exact h2.1.symm
 have hm:=h.mb hn
 exact ⟨λj hj=>by rw [<-hc];exact hm.rd j hj,zjj,hm.i6,hm.nn⟩
theorem z3e {P:Program} {G:Hp} {fn:FuncId} {args:Array Value} {v:Value} {W:World} (hGF:zbm G) (hF:Fun P G fn args (hpL G []) (zab []) (.ret v [])) (hv:za0 v=true) (hgok:GOK G W) :
  zef P fn args W λe W'=>e=.returned v/\Below W.heap.size W W':=by
 have e:rst (hpL G []) (zab [])=hpL G []:=LOk.rst (m:=[]) hGF
 have hr:=hF.run (λk=>k) W hgok
 rw [e] at hr
 have h:=hr (λk b hk=>by
  rw [zat] at hk
  refine ⟨?_,Blk.flat_ids (hGF k b hk).2⟩
  rw [hgok k b hk]
  congr 1
  obtain ⟨cc,T⟩:=b
  cases T with
  | ty t=>exact (Blk.obj_flat (hGF k _ hk).2).symm
  | raw t fr=>rfl
  | mp=>exact (Blk.obj_flat (hGF k _ hk).2).symm) (λk l _ _ e=>e) (λk _ _=>rfl)
 rw [show args.map (ren λk=>k)=args by rw [show (ren λk=>k)=id from funext λv=>zkx v];simp] at h
 refine h.mono λe' W' ⟨h1,h2⟩=>⟨?_,?_⟩
 ·rw [h1,zkx]
 ·exact ⟨h2.os,h2.tape,h2.output,h2.size,λk hk=>h2.same k hk (by simp)⟩
end Go.Gy
