/-
  Lemmas of this claim, in their order (GyGK, GyGL, GyGM, GyFA, GyFM, GyGT, GyPC, GyFJ, GyU9, GyUA, GyUG, GyUI, GyRD, GyRE, GyRG, GyUJ, GyGP, GyGQ, GyFK, GyGR, GyGY).
  Conditions: those of each theorem.
-/
import Derived.Test.YtmnknnojkhkceaaGreatDoorGz06
set_option linter.unusedSimpArgs false
set_option linter.unusedVariables false
set_option maxRecDepth 100000
set_option maxHeartbeats 16000000
namespace Go.Gy
open Go Go.RowKit Go.Proofs Go.Proofs.Tryz
theorem zy2 {c:Nat} {g:Nat->Int} (i o:Nat) (a0 a1 a2:Int) (hc:i<c) (ho:o=3*i) (h0:g (3*i)=a0) (h1:g (3*i+1)=a1) (h2:g (3*i+2)=a2):zds prog 31 ⟨fa (3*c) .i64 g,.ty 31⟩ o=some (.agg #[.int .i64 a0,.int .i64 a1,.int .i64 a2]):=by
 subst h0 h1 h2
 rw [ho,show 3*i=i*3 by omega,zgs (n:=c) (Nat.le_refl _) hc,show i*3=3*i by omega]
theorem zs1 {M n:Nat} {g F:Nat->Int} (hM:6*n<=M) (hg:∀ j,j<6*n->g j=F j) (i o:Nat) (a0 a1 a2:Int) (hi:i<n) (ho:o=6*i+3) (h0:F (6*i+3)=a0) (h1:F (6*i+3+1)=a1) (h2:F (6*i+3+2)=a2):zds prog 31 ⟨fa M .i64 g,.ty 45⟩ o=some (.agg #[.int .i64 a0,.int .i64 a1,.int .i64 a2]):=by
 have:=zj0 (P:=prog) (T:=31) (m:=3) (j:=6*i+3) (zbv isAgg31) (zaq sizeOf31) (by omega) (ztm M g (.ty 45)) (by omega)
 rw [Nat.zero_add] at this
 rw [ho,this,zxw,hg _ (by omega),hg _ (by omega),hg _ (by omega),h0,h1,h2]
theorem zl1 {ρ:Nat->Nat}:kwM.rn ρ=kwM:=Blk.fx_rn zic ρ
theorem zl2 {ρ:Nat->Nat}:kwS.rn ρ=kwS:=Blk.fx_rn zid ρ
theorem zl3 {ρ:Nat->Nat}:kwT.rn ρ=kwT:=Blk.fx_rn zs4 ρ
theorem zl4 {ρ:Nat->Nat}:kwZ.rn ρ=kwZ:=Blk.fx_rn zy3 ρ
theorem jfk:tyB prog 45=some 48:=by kernel_rfl
theorem zr2:Ret prog G1 8 #[] (.bool true):=by
 refine zav G1F func8 rfl call8 rfl (by simp) (by simp [ntmps8]) ?_
 intro C hC hC0 hY
 have hT2:=LKa.two zic zid
 have hT3:=LKa.two zs4 zy3
 have hTF:=LKa.two zs4 zid
 have dKi:=(zgr _ 100 108 kwM kwS hT2 0 2 2 0 2 kwm kwb zl0 zko 100 1000 1000 2 0 0 (by decide) 1 1 zu6 zy5 (by decide) zy4).own3 (args':=#[cfV (.slice (some ⟨208,0,none⟩) 2 2) 100 1000 1000 2 0,.agg #[.int .i64 0,.slice (some ⟨209,0,none⟩) 2 2],.int .i64 1,.int .i64 1]) zic zid 208 209 288 (by omega) (by omega) (by omega) (by omega) (by omega) (by omega) (λv ns=>zc9) (by simp [cfV,ren,zas,zan,zao,zz5,zz6]) (zia jap _ _)
 have hKb:=zo2 _ 100 108 kwM kwS hT2 0 2 2 0 2 kwm kwb zl0 zko 100 1000 1000 2 0 0 (by decide) 1 0 zu6 zy5 (by decide)
 have dKk:=(zym _ 100 108 kwM kwS hT2 0 2 2 0 2 kwm kwb zl0 zko (by omega) 100 1000 1000 2 0 0 (by decide) (-1) 1 zu6 zy5 (by decide) zy4 jlk).own3 (args':=#[cfV (.slice (some ⟨208,0,none⟩) 2 2) 100 1000 1000 2 0,.agg #[.int .i64 0,.slice (some ⟨209,0,none⟩) 2 2],.int .i64 (-1),.int .i64 1]) zic zid 208 209 352 (by omega) (by omega) (by omega) (by omega) (by omega) (by omega) (λv ns=>zcf) (by simp [cfV,ren,zas,zan,zao,zz5,zz6]) (zf3 jap _ _ _ _)
 have dOw:=zfp 209 480 (by omega) (by omega) (by omega) kwS 0 2 2 kwb zko (by omega) 0
 have hS1:=zkn _ 100 108 kwT kwZ hT3 0 1 1 0 1 (λ_=>3) (λ_=>0) z6p jfi 1 1 1 1 0 0 (by decide) 7 1 jfg jfh (by decide) z9m
 have hS2:=zkn _ 100 108 kwM kwS hT2 0 2 2 0 2 kwm kwb zl0 zko 100 1000 1000 2 0 0 (by decide) 1 1 zu6 zy5 (by decide) zy4
 rw [jfj] at hS1
 rw [jlh] at hS2
 have hF1:=zdo _ 100 108 kwM kwS hT2 0 2 2 0 2 2 kwm kwb zl0 zko 100 1000 1000 2 0 0 (by decide)
 have hF2:=zdo _ 100 108 kwT kwS hTF 0 1 1 0 2 2 (λ_=>3) kwb z6p zko 1 1 1 1 0 0 (by decide)
 rw [zde.2 ⟨rfl,zu6,zy5⟩] at hF1
 have e2:zjo 1 2 (zd2 1 (λ_=>3) 1 1 1 1 0) (zay 0 kwb 2)=false:=by decide
 rw [e2] at hF2
 clear e2
 unfold cfV at dKi hKb dKk hS1 hS2 hF1 hF2
 repeat' first|refine gwZ ?_|refine gwW ?_|refine gwC ?_ ?_<;>intro hb
 refine za7 ?_
 simp only [Array.toList]
 refine zbd (f:=.func 25) (cap:=#[]) hC (jhh 208 (by omega)) rfl (by simp) rfl rfl (by simp [okT]) (by simp [gev]) (by simp) (by simp [okX,zbz]) (by simp [gev]) (by simp [zbl,zaw]) (by (intro k hk;first|rfl|(simp (disch:=omega) only [zb9,List.mem_cons,List.not_mem_nil,or_false,zaa,zai,zat,if_neg,zaw]<;>done))) ?_ ?_
 ·intro v ns hV k hk
  have:=zj4 hV k hk
  omega
 rintro v ns ⟨rfl,rfl⟩
 refine gwl 7 ?_;intro Q hQ;simp [hC,hY,zbl,zaw,cfV];apply hQ
 simp only [wT,wM,Nat.reduceAdd]
 refine zbh ?_
 repeat' first|refine gwZ ?_|(refine gwX ?_;intro Q hQ _;simp [hC,hY,zbl,zaw];refine gwq hQ ?_)|refine gwC ?_ ?_<;>intro hb
 refine za7 ?_
 simp only [Array.toList]
 refine gwl 2 ?_;intro Q hQ;simp [hC,hY,zbl,zaw];apply hQ
 simp only [wT,wM,Nat.reduceAdd]
 refine zbd (f:=.func 11) (cap:=#[]) hC dKi rfl (by simp) rfl rfl (by simp [okT]) (by simp [gev]) (by simp) (by simp [okX,zbz]) (by simp [gev]) (by simp [zbl,zaw]) (by (intro k hk;first|rfl|(simp (disch:=omega) only [zb9,List.mem_cons,List.not_mem_nil,or_false,zaa,zai,zat,if_neg,zaw]<;>done))) ?_ ?_
 ·intro v ns hV k hk
  have:=zc9 hV k hk
  omega
 rintro v ns ⟨cL,gL,lc,lg,rfl,rfl⟩
 refine gwl 5 ?_;intro Q hQ;simp [hC,hY,zbl,zaw,cfV];apply hQ
 simp only [wT,wM,Nat.reduceAdd]
 refine zbh ?_
 repeat' first|refine gwZ ?_|(refine gwX ?_;intro Q hQ _;simp [hC,hY,zbl,zaw];refine gwq hQ ?_)|refine gwC ?_ ?_<;>intro hb
 have hxr:=λρ=>Blk.fx_rn (zba (3*cL) gL 31) ρ
 refine za7 ?_
 simp only [Array.toList]
 refine gwl 2 ?_;intro Q hQ;simp [hC,hY,zbl,zaw];apply hQ
 simp only [wT,wM,Nat.reduceAdd]
 refine zbd (f:=.func 14) (cap:=#[]) hC dKk rfl (by simp) rfl rfl (by simp [okT]) (by simp [gev]) (by simp) (by simp [okX,zbz]) (by simp [gev]) (by simp [zbl,zaw]) (by (intro k hk;first|rfl|(simp (disch:=omega) only [zb9,List.mem_cons,List.not_mem_nil,or_false,zaa,zai,zat,if_neg,zaw]<;>done))) ?_ ?_
 ·intro v ns hV k hk
  have:=zcf hV k hk
  omega
 rintro v ns ⟨_,⟨cO,MO,gO,oc,oM,og,rfl,rfl⟩,rfl⟩
 refine gwl 6 ?_;intro Q hQ;simp [hC,hY,zbl,zaw,cfV];apply hQ
 simp only [wT,wM,Nat.reduceAdd]
 refine zbh ?_
 repeat' first|refine gwZ ?_|((first|refine gwR [11] ?_|refine gwD [11] ?_);intro Q hQ _;(repeat first|simp [hC,hY,zbl,zaw]|(refine zac hKb G1F hT2.ok (λk=>if k=100 then 208 else if k=108 then 209 else k) (λk hk=>(if_neg (by omega)).trans (if_neg (by omega))) ?_ (by simp) (by simp [zl1,zl2,zl3,zl4,hxr]<;>(try simp [kwM,kwS,kwT,kwZ])) (by simp [zab]) (by simp [zab];rfl) ?_;focus (simp [ren,zas,zan,zao];done)));refine gwq hQ ?_)|refine gwC ?_ ?_<;>intro hb
 refine za7 ?_
 simp only [Array.toList]
 refine gwl 1 ?_;intro Q hQ;simp [hC,hY,zbl,zaw];apply hQ
 simp only [wT,wM,Nat.reduceAdd]
 refine zbd (f:=.func 22) (cap:=#[]) hC dOw rfl (by simp) rfl rfl (by simp [okT]) (by simp [gev]) (by simp) (by simp [okX,zbz]) (by simp [gev]) (by simp [zbl,zaw]) (by (intro k hk;first|rfl|(simp (disch:=omega) only [zb9,List.mem_cons,List.not_mem_nil,or_false,zaa,zai,zat,if_neg,zaw]<;>done))) ?_ ?_
 ·intro v ns hV k hk
  have:=zcm hV k hk
  omega
 rintro v ns ⟨cX,MX,gX,xc,xM,xg,rfl,rfl⟩
 refine gwl 2 ?_;intro Q hQ;simp [hC,hY,zbl,zaw,cfV];apply hQ
 simp only [wT,wM,Nat.reduceAdd]
 refine zbh ?_
 have m9:6+3<=MX:=by omega
 have m9':9<=MX:=by omega
 have x2:1<cX:=by omega
 have o2:1<cO:=by omega
 have hXx:∀ j,j<6*2->zwl gX 6 0 0 0 j=kwx j:=λj hj=>by
  unfold zwl
  have hj9:=xg j hj
  rw [hj9]
  have:j=0\/j=1\/j=2\/j=3\/j=4\/j=5\/j=6\/j=7\/j=8\/j=9\/j=10\/j=11:=by omega
  rcases this with rfl|rfl|rfl|rfl|rfl|rfl|rfl|rfl|rfl|rfl|rfl|rfl<;>rfl
 have hSx:SB ⟨fa MX .i64 (zwl gX 6 0 0 0),.ty 45⟩ 0 2 kwx:=zfi xM hXx (λj hj=>by
  have:j=0\/j=1\/j=2\/j=3\/j=4\/j=5\/j=6\/j=7\/j=8\/j=9\/j=10\/j=11:=by omega
  rcases this with rfl|rfl|rfl|rfl|rfl|rfl|rfl|rfl|rfl|rfl|rfl|rfl<;>decide) (by omega)
 have hTX:=LKa.two zic hSx.fx
 have hOn:=zyw _ 100 108 kwM _ hTX 0 2 2 0 cX kwm kwx zl0 hSx 100 1000 1000 2 0 0 (by decide) 1 1 1 zu6 jlm (by decide) 1 (by omega) rfl jln
 have hxr:=λρ=>Blk.fx_rn hSx.fx ρ
 unfold cfV at hOn
 obtain ⟨f0,f1,f2,f3,f4,f5⟩:=joc
 have l2:1<cL:=by omega
 have l1:0<cL:=by omega
 have v0:=zy2 (c:=cL) (g:=gL) 0 0 2 0 0 l1 rfl ((lg _ (by omega)).trans f0) ((lg _ (by omega)).trans f1) ((lg _ (by omega)).trans f2)
 have v1:=zy2 (c:=cL) (g:=gL) 1 3 (-1) 0 0 l2 rfl ((lg _ (by omega)).trans f3) ((lg _ (by omega)).trans f4) ((lg _ (by omega)).trans f5)
 have b0:=zs1 (M:=MO) (g:=gO) oM og 0 3 (-2) 0 0 (by omega) rfl (zq0 _ (by omega)) (zq0 _ (by omega)) (zq0 _ (by omega))
 have b1:=zs1 (M:=MO) (g:=gO) oM og 1 9 6 0 0 (by omega) rfl (zq0 _ (by omega)) (zq0 _ (by omega)) (zq0 _ (by omega))
 have tyb:=jfk
 have e9:(((fa MX .i64 gX).setIfInBounds 6 (Value.int .i64 0)).setIfInBounds 7 (Value.int .i64 0)).setIfInBounds 8 (Value.int .i64 0)=fa MX .i64 (zwl gX 6 0 0 0):=by
  rw [zcw,zcw,zcw]
  exact congrArg _ (zj1 gX 6 0 0 0)
 repeat' first|refine gwZ ?_|((first|refine gwR [9] ?_|refine gwD [9] ?_);intro Q hQ _;(repeat first|simp [hC,hY,zbl,zaw,m9,m9',x2,o2,e9]|(refine zac hOn G1F hTX.ok (λk=>if k=100 then 208 else if k=108 then 480 else k) (λk hk=>(if_neg (by omega)).trans (if_neg (by omega))) ?_ (by simp) (by simp [zl1,zl2,zl3,zl4,hxr]<;>(try simp [kwM,kwS,kwT,kwZ])) (by simp [zab]) (by simp [zab];rfl) ?_;focus (simp [ren,zas,zan,zao];done)));refine gwq hQ ?_)|refine gwC ?_ ?_<;>intro hb
 repeat' first|refine gwZ ?_|((first|refine gwR [17,19] ?_|refine gwD [17,19] ?_);intro Q hQ _;(repeat first|simp [hC,hY,zbl,zaw,v0,v1,b0,b1,tyb,x2,o2,l1,l2]|(refine zac hS1 G1F hT3.ok (λk=>if k=100 then 624 else if k=108 then 1112 else k) (λk hk=>(if_neg (by omega)).trans (if_neg (by omega))) ?_ (by simp) (by simp [zl1,zl2,zl3,zl4,hxr]<;>(try simp [kwM,kwS,kwT,kwZ])) (by simp [zab]) (by simp [zab];rfl) ?_;focus (simp [ren,zas,zan,zao];done))|(refine zac hS2 G1F hT2.ok (λk=>if k=100 then 208 else if k=108 then 209 else k) (λk hk=>(if_neg (by omega)).trans (if_neg (by omega))) ?_ (by simp) (by simp [zl1,zl2,zl3,zl4,hxr]<;>(try simp [kwM,kwS,kwT,kwZ])) (by simp [zab]) (by simp [zab];rfl) ?_;focus (simp [ren,zas,zan,zao];done))|(refine zac hF1 G1F hT2.ok (λk=>if k=100 then 208 else if k=108 then 209 else k) (λk hk=>(if_neg (by omega)).trans (if_neg (by omega))) ?_ (by simp) (by simp [zl1,zl2,zl3,zl4,hxr]<;>(try simp [kwM,kwS,kwT,kwZ])) (by simp [zab]) (by simp [zab];rfl) ?_;focus (simp [ren,zas,zan,zao];done))|(refine zac hF2 G1F hTF.ok (λk=>if k=100 then 624 else if k=108 then 209 else k) (λk hk=>(if_neg (by omega)).trans (if_neg (by omega))) ?_ (by simp) (by simp [zl1,zl2,zl3,zl4,hxr]<;>(try simp [kwM,kwS,kwT,kwZ])) (by simp [zab]) (by simp [zab];rfl) ?_;focus (simp [ren,zas,zan,zao];done)));refine gwq hQ ?_)|refine gwC ?_ ?_<;>intro hb
 refine ⟨.inr trivial,?_⟩
 simp [results8]
theorem zl5 (K:Value->Prop):za2 prog G1 8 #[] K↔K (.bool true):=zaf G1W (by kernel_rfl) zr2
theorem zna (L:List (Nat×Blk)) (ka ks:Nat) (bm bs:Blk) (hT:LKa L ka ks bm bs) (off n cap off2 n2 cap2:Nat) (g bx tp nr md st:Int) :
  Fun prog G1 7 #[cfV (.slice (some ⟨ka,off,none⟩) n cap) g bx tp nr md,.agg #[.int .i64 st,.slice (some ⟨ks,off2,none⟩) n2 cap2]] (hpL G1 L) (zab L) (.ret (.bool (decide (9<n)||decide (9<n2))) []):=by
 refine zbr (B:=200) G1F func7 rfl call7 hT.ok ?_ (by simp) (by simp) (by simp) (by simp [ntmps7]) (by omega) ?_
 ·simp [zap,zau,zaj,zal,hT.ia,hT.ib,cfV]
 intro C hC hC0 hY
 have hLow:=hT.low
 unfold cfV
 by_cases h1:9<n
 ·have h1':(9:Int)<(n:Int):=by omega
  rw [decide_eq_true h1,Bool.true_or]
  repeat' first|refine gwZ ?_|(refine gwX ?_;intro Q hQ _;simp [hC,hY,h1,h1'];refine gwq hQ ?_)|refine gwC ?_ ?_<;>intro hb
  refine ⟨.inr rfl,by simp [results7],kpT G1F⟩
 ·have h1':¬(9:Int)<(n:Int):=by omega
  rw [decide_eq_false h1,Bool.false_or]
  by_cases h2:9<n2
  ·have h2':(9:Int)<(n2:Int):=by omega
   rw [decide_eq_true h2]
   repeat' first|refine gwZ ?_|(refine gwX ?_;intro Q hQ _;simp [hC,hY,h1,h2,h1',h2'];refine gwq hQ ?_)|refine gwC ?_ ?_<;>intro hb
   refine ⟨.inr rfl,by simp [results7],kpT G1F⟩
  ·have h2':¬(9:Int)<(n2:Int):=by omega
   rw [decide_eq_false h2]
   repeat' first|refine gwZ ?_|(refine gwX ?_;intro Q hQ _;simp [hC,hY,h1,h2,h1',h2'];refine gwq hQ ?_)|refine gwC ?_ ?_<;>intro hb
   refine ⟨.inr rfl,by simp [results7],kpT G1F⟩
theorem zbf:LOk [] 200:=⟨by simp,by simp [zab],by simp⟩
@[simp] theorem jpm (st:Int) (K:Value->Prop):za2 prog G1 31 #[.agg #[.int .i64 st,.slice none 0 0]] K↔K (.agg #[.int .i64 st,.slice none 0 0]):=zaf G1W (by kernel_rfl) ((jad st).up zsc)
structure LKb (L:List (Nat×Blk)) (ka:Nat) (b:Blk):Prop where
 a8:(ka=100/\L=[(100,b)])\/(ka=0/\L=[]/\b=lmB)
 fb:b.fx
section
variable {L:List (Nat×Blk)} {ka:Nat} {b:Blk}
theorem LKb.ok (h:LKb L ka b):LOk L 200:=by
 rcases h.a8 with ⟨_,rfl⟩|⟨_,rfl,_⟩
 ·exact zam h.fb
 ·exact zbf
theorem LKb.mem (h:LKb L ka b) (p:Nat×Blk) (hp:p∈L):hpL G1 L p.1=some p.2:=LOk.at h.ok.one p hp
theorem LKb.a (h:LKb L ka b):hpL G1 L ka=some b:=by
 rcases h.a8 with ⟨rfl,rfl⟩|⟨rfl,rfl,rfl⟩
 ·simp
 ·simp [G1]
theorem LKb.na (h:LKb L ka b) (k:Nat) (hk:200<=k):(ka=k)=False:=by
 have:ka<200:=by rcases h.a8 with ⟨e,_⟩|⟨e,_⟩<;>omega
 simp only [eq_iff_iff,iff_false]
 omega
theorem LKb.low (h:LKb L ka b) (k:Nat) (hk:k<100):hpL G1 L k=G1 k:=h.ok.low k hk
theorem LKb.ia (h:LKb L ka b):dom (hpL G1 L) ka:=by unfold dom;rw [h.a];simp
end
theorem z64:MvG G0 G1 [(100,lmB)] [] gmv:=by
 refine ⟨G0F,G1F,⟨200,zam zjj⟩,⟨200,zbf⟩,λk b hk=>⟨zwm hk,?_⟩,?_,?_,?_⟩
 ·have:=(G0F k b hk).1
  unfold gmv
  rw [if_neg (by omega),if_neg (by omega)]
 ·intro p hp
  simp only [List.mem_cons,List.not_mem_nil,or_false] at hp
  subst hp
  exact ⟨lmB,by simp [gmv,G1],λr=>by rw [Blk.fx_rn zjj]⟩
 ·intro k hk l hl e
  simp only [zab,List.map_cons,List.map_nil,List.mem_cons,List.not_mem_nil,or_false] at hk hl
  rw [hk,hl]
 ·intro k hk l b hl e
  simp only [zab,List.map_cons,List.map_nil,List.mem_cons,List.not_mem_nil,or_false] at hk
  subst hk
  unfold gmv at e
  rw [if_pos rfl] at e
  rw [<-e,z7w] at hl
  cases hl
theorem zuw (g bx tp nr md st:Int):Fun prog G0 19 #[.agg #[.slice none 0 0,.int .i64 g,.int .i64 bx,.int .i64 tp,.int .i64 nr,.int .i64 md],.agg #[.int .i64 st,.slice none 0 0]] (hpL G0 []) (zab []) (.ret (.bool false) []):=by
 refine za5 (B:=200) G0F func19 rfl call19 zbf ?_ (zak (by simp)) (by simp) (by simp) (by simp [ntmps19]) (by omega) ?_
 ·simp [zap,zau,zaj,zal,zab]
 intro C hC hC0 hY
 have hfx:Blk.fx (⟨#[.slice none 0 0,.int .i64 g,.int .i64 bx,.int .i64 tp,.int .i64 nr,.int .i64 md],.ty 24⟩:Blk):=λx hx=>by
  simp at hx
  rcases hx with rfl|rfl|rfl|rfl|rfl|rfl<;>rfl
 have hck:=zlp (⟨#[.slice none 0 0,.int .i64 g,.int .i64 bx,.int .i64 tp,.int .i64 nr,.int .i64 md],.ty 24⟩:Blk) hfx g bx tp nr md
 have hbr:=λρ=>Blk.fx_rn hfx ρ
 unfold cfV at hck
 repeat' first|refine gwZ ?_|((first|refine gwR [37] ?_|refine gwD [37] ?_);intro Q hQ _;(repeat first|simp [hC,hY]|refine zac hck G0F (B:=200) (zam hfx) (λk=>if k=100 then 200 else k) (λk hk=>if_neg (by omega)) (by simp [ren,zas,zan,zao,cfV]) (by simp) (by simp [hbr]) (by simp [zab]) (by simp [zab];try rfl) ?_);refine gwq hQ ?_)|refine gwC ?_ ?_<;>intro hb
 refine ⟨.inr rfl,by simp [results19],kpS G0F⟩
theorem zux (b:Blk) (off n cap:Nat) (f:Nat->Int) (h:SB b off n f) (g bx tp nr md st:Int):Fun prog G0 19 #[.agg #[.slice none 0 0,.int .i64 g,.int .i64 bx,.int .i64 tp,.int .i64 nr,.int .i64 md],.agg #[.int .i64 st,.slice (some ⟨100,off,none⟩) n cap]] (hpL G0 [(100,b)]) (zab [(100,b)]) (.ret (.bool false) []):=by
 refine za5 (B:=200) G0F func19 rfl call19 (zam h.fx) ?_ (zak (by simp)) (by simp) (by simp) (by simp [ntmps19]) (by omega) ?_
 ·simp [zap,zau,zaj,zal,zab]
 intro C hC hC0 hY
 have hr:=λρ=>Blk.fx_rn h.fx ρ
 have hck:=zlp b h.fx g bx tp nr md
 unfold cfV at hck
 by_cases h0:n=0
 ·subst h0
  repeat' first|refine gwZ ?_|((first|refine gwR [37] ?_|refine gwD [37] ?_);intro Q hQ _;(repeat first|simp [hC,hY]|refine zac hck G0F (B:=200) (zam h.fx) (λk=>k) (λk hk=>rfl) (by simp [ren,zas,zan,zao,cfV]) (by simp) (by simp [hr]) (by simp [zab]) (by simp [zab];try rfl) ?_);refine gwq hQ ?_)|refine gwC ?_ ?_<;>intro hb
  refine ⟨.inr rfl,by simp [results19],kpS G0F⟩
 ·have h1:¬(n:Int)=0:=by omega
  have h2:((n:Int)==0)=false:=by simpa using h1
  have h3:((0:Int)==(n:Int))=false:=by simp;omega
  have h4:¬(0:Int)=(n:Int):=by omega
  have h5:¬0=n:=by omega
  repeat' first|refine gwZ ?_|(refine gwX ?_;intro Q hQ _;simp [hC,hY,h0,h1,h2,h3,h4,h5];refine gwq hQ ?_)|refine gwC ?_ ?_<;>intro hb
  refine ⟨.inr rfl,by simp [results19],kpS G0F⟩
theorem zlx (b:Blk) (off n cap:Nat) (f:Nat->Int) (h:MB b off n f) (g bx tp nr md st:Int):Fun prog G0 19 #[.agg #[.slice (some ⟨100,off,none⟩) n cap,.int .i64 g,.int .i64 bx,.int .i64 tp,.int .i64 nr,.int .i64 md],.agg #[.int .i64 st,.slice none 0 0]] (hpL G0 [(100,b)]) (zab [(100,b)]) (.ret (.bool false) []):=by
 refine za5 (B:=200) G0F func19 rfl call19 (zam h.fx) ?_ (zak (by simp)) (by simp) (by simp) (by simp [ntmps19]) (by omega) ?_
 ·simp [zap,zau,zaj,zal,zab]
 intro C hC hC0 hY
 have hr:=λρ=>Blk.fx_rn h.fx ρ
 have hck:=zoh b off n cap f h g bx tp nr md
 unfold cfV at hck
 by_cases h0:n=0
 ·subst h0
  rw [show zd2 0 f g bx tp nr md=false from rfl] at hck
  repeat' first|refine gwZ ?_|((first|refine gwR [37] ?_|refine gwD [37] ?_);intro Q hQ _;(repeat first|simp [hC,hY]|refine zac hck G0F (B:=200) (zam h.fx) (λk=>k) (λk hk=>rfl) (by simp [ren,zas,zan,zao,cfV]) (by simp) (by simp [hr]) (by simp [zab]) (by simp [zab];try rfl) ?_);refine gwq hQ ?_)|refine gwC ?_ ?_<;>intro hb
  refine ⟨.inr rfl,by simp [results19],kpS G0F⟩
 ·have h1:¬(n:Int)=0:=by omega
  have h2:((n:Int)==0)=false:=by simpa using h1
  have h3:((0:Int)==(n:Int))=false:=by simp;omega
  have h4:¬(0:Int)=(n:Int):=by omega
  have h5:¬0=n:=by omega
  repeat' first|refine gwZ ?_|(refine gwX ?_;intro Q hQ _;simp [hC,hY,h0,h1,h2,h3,h4,h5];refine gwq hQ ?_)|refine gwC ?_ ?_<;>intro hb
  refine ⟨.inr rfl,by simp [results19],kpS G0F⟩
theorem zkk (g bx tp nr md st:Int):Fun prog G1 19 #[.agg #[.slice none 0 0,.int .i64 g,.int .i64 bx,.int .i64 tp,.int .i64 nr,.int .i64 md],.agg #[.int .i64 st,.slice none 0 0]] (hpL G1 []) (zab []) (.ret (.bool false) []):=(zuw g bx tp nr md st).up1 zbf
theorem zkl (b:Blk) (off n cap:Nat) (f:Nat->Int) (h:SB b off n f) (g bx tp nr md st:Int):Fun prog G1 19 #[.agg #[.slice none 0 0,.int .i64 g,.int .i64 bx,.int .i64 tp,.int .i64 nr,.int .i64 md],.agg #[.int .i64 st,.slice (some ⟨100,off,none⟩) n cap]] (hpL G1 [(100,b)]) (zab [(100,b)]) (.ret (.bool false) []):=(zux b off n cap f h g bx tp nr md st).up1 (zam h.fx)
theorem zkm (L:List (Nat×Blk)) (ka:Nat) (b:Blk) (hT:LKb L ka b) (off n cap:Nat) (f:Nat->Int) (h:MB b off n f) (g bx tp nr md st:Int):Fun prog G1 19 #[.agg #[.slice (some ⟨ka,off,none⟩) n cap,.int .i64 g,.int .i64 bx,.int .i64 tp,.int .i64 nr,.int .i64 md],.agg #[.int .i64 st,.slice none 0 0]] (hpL G1 L) (zab L) (.ret (.bool false) []):=by
 rcases hT.a8 with ⟨rfl,rfl⟩|⟨rfl,rfl,rfl⟩
 ·exact (zlx b off n cap f h g bx tp nr md st).up1 hT.ok
 ·have h2:=(zlx lmB off n cap f h g bx tp nr md st).mvG z64 (λk hk=>by cases hk) rfl
  simpa [cfV,ren,zas,zan,zao,gmv,rnL] using h2
theorem zix (g bx tp nr md st:Int) (p q:Int):Fun prog G1 11 #[.agg #[.slice none 0 0,.int .i64 g,.int .i64 bx,.int .i64 tp,.int .i64 nr,.int .i64 md],.agg #[.int .i64 st,.slice none 0 0],.int .i64 p,.int .i64 q] (hpL G1 []) (zab []) (.ret (.tuple #[.slice none 0 0,.int .i64 2]) []):=by
 refine za5 (B:=200) G1F func11 rfl call11 zbf ?_ (zak (by simp)) (by simp) (by simp) (by simp [ntmps11]) (by omega) ?_
 ·simp [zap,zau,zaj,zal,zab]
 intro C hC hC0 hY
 have hf:=zkk g bx tp nr md st
 repeat' first|refine gwZ ?_|((first|refine gwR [19] ?_|refine gwD [19] ?_);intro Q hQ _;(repeat first|simp [hC,hY]|refine zac hf G1F (B:=200) zbf (λk=>k) (λk hk=>rfl) (by simp [ren,zas,zan,zao,cfV]) (by simp) (by simp) (by simp [zab]) (by simp [zab];try rfl) ?_);refine gwq hQ ?_)|refine gwC ?_ ?_<;>intro hb
 refine ⟨.inr rfl,by simp [results11],kpS G1F⟩
theorem zu2 (g bx tp nr md st:Int) (p q:Int):Fun prog G1 17 #[.agg #[.slice none 0 0,.int .i64 g,.int .i64 bx,.int .i64 tp,.int .i64 nr,.int .i64 md],.agg #[.int .i64 st,.slice none 0 0],.int .i64 p,.int .i64 q] (hpL G1 []) (zab []) (.ret (.bool false) []):=by
 refine za5 (B:=200) G1F func17 rfl call17 zbf ?_ (zak (by simp)) (by simp) (by simp) (by simp [ntmps17]) (by omega) ?_
 ·simp [zap,zau,zaj,zal,zab]
 intro C hC hC0 hY
 have hk:=zix g bx tp nr md st p q
 repeat' first|refine gwZ ?_|((first|refine gwR [11] ?_|refine gwD [11] ?_);intro Q hQ _;(repeat first|simp [hC,hY]|refine zac hk G1F (B:=200) zbf (λk=>k) (λk hk=>rfl) (by simp [ren,zas,zan,zao,cfV]) (by simp) (by simp) (by simp [zab]) (by simp [zab];try rfl) ?_);refine gwq hQ ?_)|refine gwC ?_ ?_<;>intro hb
 refine ⟨.inr rfl,by simp [results17],kpS G1F⟩
theorem zyr (g bx tp nr md st:Int) (p q:Int):Fun prog G1 14 #[.agg #[.slice none 0 0,.int .i64 g,.int .i64 bx,.int .i64 tp,.int .i64 nr,.int .i64 md],.agg #[.int .i64 st,.slice none 0 0],.int .i64 p,.int .i64 q] (hpL G1 []) (zab []) (.ret (.tuple #[.agg #[.int .i64 st,.slice none 0 0],.int .i64 2]) []):=by
 refine za5 (B:=200) G1F func14 rfl call14 zbf ?_ (zak (by simp)) (by simp) (by simp) (by simp [ntmps14]) (by omega) ?_
 ·simp [zap,zau,zaj,zal,zab]
 intro C hC hC0 hY
 have hk:=zix g bx tp nr md st p q
 repeat' first|refine gwZ ?_|((first|refine gwR [11] ?_|refine gwD [11] ?_);intro Q hQ _;(repeat first|simp [hC,hY]|refine zac hk G1F (B:=200) zbf (λk=>k) (λk hk=>rfl) (by simp [ren,zas,zan,zao,cfV]) (by simp) (by simp) (by simp [zab]) (by simp [zab];try rfl) ?_);refine gwq hQ ?_)|refine gwC ?_ ?_<;>intro hb
 refine ⟨.inr rfl,by simp [results14],kpS G1F⟩
theorem zuz (g bx tp nr md st:Int):Fun prog G1 7 #[.agg #[.slice none 0 0,.int .i64 g,.int .i64 bx,.int .i64 tp,.int .i64 nr,.int .i64 md],.agg #[.int .i64 st,.slice none 0 0]] (hpL G1 []) (zab []) (.ret (.bool false) []):=by
 refine za5 (B:=200) G1F func7 rfl call7 zbf ?_ (zak (by simp)) (by simp) (by simp) (by simp [ntmps7]) (by omega) ?_
 ·simp [zap,zau,zaj,zal,zab]
 intro C hC hC0 hY
 repeat' first|refine gwZ ?_|refine gwW ?_|refine gwC ?_ ?_<;>intro hb
 refine ⟨.inr rfl,by simp [results7],kpS G1F⟩
theorem ziy (b:Blk) (off n cap:Nat) (f:Nat->Int) (h:SB b off n f) (g bx tp nr md st:Int) (p q:Int):Fun prog G1 11 #[.agg #[.slice none 0 0,.int .i64 g,.int .i64 bx,.int .i64 tp,.int .i64 nr,.int .i64 md],.agg #[.int .i64 st,.slice (some ⟨100,off,none⟩) n cap],.int .i64 p,.int .i64 q] (hpL G1 [(100,b)]) (zab [(100,b)]) (.ret (.tuple #[.slice none 0 0,.int .i64 2]) []):=by
 refine za5 (B:=200) G1F func11 rfl call11 (zam h.fx) ?_ (zak (by simp)) (by simp) (by simp) (by simp [ntmps11]) (by omega) ?_
 ·simp [zap,zau,zaj,zal,zab]
 intro C hC hC0 hY
 have hr:=λρ=>Blk.fx_rn h.fx ρ
 have hf:=zkl b off n cap f h g bx tp nr md st
 repeat' first|refine gwZ ?_|((first|refine gwR [19] ?_|refine gwD [19] ?_);intro Q hQ _;(repeat first|simp [hC,hY]|refine zac hf G1F (B:=200) (zam h.fx) (λk=>k) (λk hk=>rfl) (by simp [ren,zas,zan,zao,cfV]) (by simp) (by simp [hr]) (by simp [zab]) (by simp [zab];try rfl) ?_);refine gwq hQ ?_)|refine gwC ?_ ?_<;>intro hb
 refine ⟨.inr rfl,by simp [results11],kpS G1F⟩
theorem zu3 (b:Blk) (off n cap:Nat) (f:Nat->Int) (h:SB b off n f) (g bx tp nr md st:Int) (p q:Int):Fun prog G1 17 #[.agg #[.slice none 0 0,.int .i64 g,.int .i64 bx,.int .i64 tp,.int .i64 nr,.int .i64 md],.agg #[.int .i64 st,.slice (some ⟨100,off,none⟩) n cap],.int .i64 p,.int .i64 q] (hpL G1 [(100,b)]) (zab [(100,b)]) (.ret (.bool false) []):=by
 refine za5 (B:=200) G1F func17 rfl call17 (zam h.fx) ?_ (zak (by simp)) (by simp) (by simp) (by simp [ntmps17]) (by omega) ?_
 ·simp [zap,zau,zaj,zal,zab]
 intro C hC hC0 hY
 have hr:=λρ=>Blk.fx_rn h.fx ρ
 have hk:=ziy b off n cap f h g bx tp nr md st p q
 repeat' first|refine gwZ ?_|((first|refine gwR [11] ?_|refine gwD [11] ?_);intro Q hQ _;(repeat first|simp [hC,hY]|refine zac hk G1F (B:=200) (zam h.fx) (λk=>k) (λk hk=>rfl) (by simp [ren,zas,zan,zao,cfV]) (by simp) (by simp [hr]) (by simp [zab]) (by simp [zab];try rfl) ?_);refine gwq hQ ?_)|refine gwC ?_ ?_<;>intro hb
 refine ⟨.inr rfl,by simp [results17],kpS G1F⟩
theorem zu0 (b:Blk) (off n cap:Nat) (f:Nat->Int) (h:SB b off n f) (g bx tp nr md st:Int):Fun prog G1 7 #[.agg #[.slice none 0 0,.int .i64 g,.int .i64 bx,.int .i64 tp,.int .i64 nr,.int .i64 md],.agg #[.int .i64 st,.slice (some ⟨100,off,none⟩) n cap]] (hpL G1 [(100,b)]) (zab [(100,b)]) (.ret (.bool (decide (9<n))) []):=by
 refine za5 (B:=200) G1F func7 rfl call7 (zam h.fx) ?_ (zak (by simp)) (by simp) (by simp) (by simp [ntmps7]) (by omega) ?_
 ·simp [zap,zau,zaj,zal,zab]
 intro C hC hC0 hY
 by_cases h1:9<n
 ·have h1':(9:Int)<(n:Int):=by omega
  rw [decide_eq_true h1]
  repeat' first|refine gwZ ?_|(refine gwX ?_;intro Q hQ _;simp [hC,hY,h1,h1'];refine gwq hQ ?_)|refine gwC ?_ ?_<;>intro hb
  refine ⟨.inr rfl,by simp [results7],kpS G1F⟩
 ·have h1':¬(9:Int)<(n:Int):=by omega
  rw [decide_eq_false h1]
  repeat' first|refine gwZ ?_|(refine gwX ?_;intro Q hQ _;simp [hC,hY,h1,h1'];refine gwq hQ ?_)|refine gwC ?_ ?_<;>intro hb
  refine ⟨.inr rfl,by simp [results7],kpS G1F⟩
theorem ziz (L:List (Nat×Blk)) (ka:Nat) (b:Blk) (hT:LKb L ka b) (off n cap:Nat) (f:Nat->Int) (h:MB b off n f) (g bx tp nr md st:Int) (p q:Int):Fun prog G1 11 #[.agg #[.slice (some ⟨ka,off,none⟩) n cap,.int .i64 g,.int .i64 bx,.int .i64 tp,.int .i64 nr,.int .i64 md],.agg #[.int .i64 st,.slice none 0 0],.int .i64 p,.int .i64 q] (hpL G1 L) (zab L) (.ret (.tuple #[.slice none 0 0,.int .i64 2]) []):=by
 refine zbr (B:=200) G1F func11 rfl call11 hT.ok ?_ (zak (by simp)) (by simp) (by simp) (by simp [ntmps11]) (by omega) ?_
 ·simp [zap,zau,zaj,zal,zab,hT.ia]
 intro C hC hC0 hY
 have hA:=hT.a
 have hna:=hT.na
 have hLow:=hT.low
 have hf:=zkm L ka b hT off n cap f h g bx tp nr md st
 repeat' first|refine gwZ ?_|((first|refine gwR [19] ?_|refine gwD [19] ?_);intro Q hQ _;(repeat first|simp [hC,hY]|refine zar hf hT.ok zby ?_);refine gwq hQ ?_)|refine gwC ?_ ?_<;>intro hb
 refine ⟨.inr rfl,by simp [results11],kpT G1F⟩
theorem zu4 (L:List (Nat×Blk)) (ka:Nat) (b:Blk) (hT:LKb L ka b) (off n cap:Nat) (f:Nat->Int) (h:MB b off n f) (g bx tp nr md st:Int) (p q:Int):Fun prog G1 17 #[.agg #[.slice (some ⟨ka,off,none⟩) n cap,.int .i64 g,.int .i64 bx,.int .i64 tp,.int .i64 nr,.int .i64 md],.agg #[.int .i64 st,.slice none 0 0],.int .i64 p,.int .i64 q] (hpL G1 L) (zab L) (.ret (.bool false) []):=by
 refine zbr (B:=200) G1F func17 rfl call17 hT.ok ?_ (zak (by simp)) (by simp) (by simp) (by simp [ntmps17]) (by omega) ?_
 ·simp [zap,zau,zaj,zal,zab,hT.ia]
 intro C hC hC0 hY
 have hA:=hT.a
 have hna:=hT.na
 have hLow:=hT.low
 have hk:=ziz L ka b hT off n cap f h g bx tp nr md st p q
 repeat' first|refine gwZ ?_|((first|refine gwR [11] ?_|refine gwD [11] ?_);intro Q hQ _;(repeat first|simp [hC,hY]|refine zar hk hT.ok zby ?_);refine gwq hQ ?_)|refine gwC ?_ ?_<;>intro hb
 refine ⟨.inr rfl,by simp [results17],kpT G1F⟩
theorem zyu (L:List (Nat×Blk)) (ka:Nat) (b:Blk) (hT:LKb L ka b) (off n cap:Nat) (f:Nat->Int) (h:MB b off n f) (g bx tp nr md st:Int) (p q:Int):Fun prog G1 14 #[.agg #[.slice (some ⟨ka,off,none⟩) n cap,.int .i64 g,.int .i64 bx,.int .i64 tp,.int .i64 nr,.int .i64 md],.agg #[.int .i64 st,.slice none 0 0],.int .i64 p,.int .i64 q] (hpL G1 L) (zab L) (.ret (.tuple #[.agg #[.int .i64 st,.slice none 0 0],.int .i64 2]) []):=by
 refine zbr (B:=200) G1F func14 rfl call14 hT.ok ?_ (zak (by simp)) (by simp) (by simp) (by simp [ntmps14]) (by omega) ?_
 ·simp [zap,zau,zaj,zal,zab,hT.ia]
 intro C hC hC0 hY
 have hA:=hT.a
 have hna:=hT.na
 have hLow:=hT.low
 have hk:=ziz L ka b hT off n cap f h g bx tp nr md st p q
 repeat' first|refine gwZ ?_|((first|refine gwR [11] ?_|refine gwD [11] ?_);intro Q hQ _;(repeat first|simp [hC,hY]|refine zar hk hT.ok zby ?_);refine gwq hQ ?_)|refine gwC ?_ ?_<;>intro hb
 refine ⟨.inr rfl,by simp [results14],kpT G1F⟩
theorem zu1 (L:List (Nat×Blk)) (ka:Nat) (b:Blk) (hT:LKb L ka b) (off n cap:Nat) (f:Nat->Int) (h:MB b off n f) (g bx tp nr md st:Int):Fun prog G1 7 #[.agg #[.slice (some ⟨ka,off,none⟩) n cap,.int .i64 g,.int .i64 bx,.int .i64 tp,.int .i64 nr,.int .i64 md],.agg #[.int .i64 st,.slice none 0 0]] (hpL G1 L) (zab L) (.ret (.bool (decide (9<n))) []):=by
 refine zbr (B:=200) G1F func7 rfl call7 hT.ok ?_ (zak (by simp)) (by simp) (by simp) (by simp [ntmps7]) (by omega) ?_
 ·simp [zap,zau,zaj,zal,zab,hT.ia]
 intro C hC hC0 hY
 have hA:=hT.a
 have hna:=hT.na
 have hLow:=hT.low
 by_cases h1:9<n
 ·have h1':(9:Int)<(n:Int):=by omega
  rw [decide_eq_true h1]
  repeat' first|refine gwZ ?_|(refine gwX ?_;intro Q hQ _;simp [hC,hY,h1,h1'];refine gwq hQ ?_)|refine gwC ?_ ?_<;>intro hb
  refine ⟨.inr rfl,by simp [results7],kpT G1F⟩
 ·have h1':¬(9:Int)<(n:Int):=by omega
  rw [decide_eq_false h1]
  repeat' first|refine gwZ ?_|(refine gwX ?_;intro Q hQ _;simp [hC,hY,h1,h1'];refine gwq hQ ?_)|refine gwC ?_ ?_<;>intro hb
  refine ⟨.inr rfl,by simp [results7],kpT G1F⟩
theorem zys (b:Blk) (off n cap:Nat) (f:Nat->Int) (h:SB b off n f) (hcap:n<=cap) (g bx tp nr md st:Int) (p q:Int) :
  FunS prog G1 14 #[.agg #[.slice none 0 0,.int .i64 g,.int .i64 bx,.int .i64 tp,.int .i64 nr,.int .i64 md],.agg #[.int .i64 st,.slice (some ⟨100,off,none⟩) n cap],.int .i64 p,.int .i64 q] (hpL G1 [(100,b)]) (zab [(100,b)]) (zn9 1000 st n f 2):=by
 refine zdz (B:=200) G1F func14 rfl call14 (zam h.fx) ?_ zee (by simp [ntmps14]) (by omega) ?_
 ·simp [zap,zau,zaj,zal,zab]
 intro C hC hC0 hY
 have hr:=λρ=>Blk.fx_rn h.fx ρ
 have hk:=ziy b off n cap f h g bx tp nr md st p q
 have dO:=zpe 100 328 (by omega) (by omega) (by omega) b off n cap f h hcap st
 repeat' first|refine gwZ ?_|((first|refine gwR [11] ?_|refine gwD [11] ?_);intro Q hQ _;(repeat first|simp [hC,hY]|refine zac hk G1F (B:=200) (zam h.fx) (λk=>k) (λk hk=>rfl) (by simp [ren,zas,zan,zao,cfV]) (by simp) (by simp [hr]) (by simp [zab]) (by simp [zab];try rfl) ?_);refine gwq hQ ?_)|refine gwC ?_ ?_<;>intro hb
 refine za7 ?_
 simp only [Array.toList]
 refine gwl 1 ?_;intro Q hQ;simp [hC,hY];apply hQ
 simp only [wT,wM,Nat.reduceAdd]
 refine zbd (f:=.func 31) (cap:=#[]) hC dO rfl (by simp) rfl rfl (by simp [okT]) (by simp [gev]) (by simp) (by simp [okX,zbz]) (by simp [gev]) (by simp [zaw]) (by (intro k hk;first|rfl|(simp (disch:=omega) only [zb9,List.mem_cons,List.not_mem_nil,or_false,zaa,zai,zat,if_neg,zaw]<;>done))) ?_ ?_
 ·intro v ns hV k hk
  rw [zcm hV k hk]
  omega
 rintro v ns ⟨c1,M1,g1,x1,y1,z1,rfl,rfl⟩
 refine gwl 2 ?_;intro Q hQ;simp [hC,hY,zbl,zaw];apply hQ
 simp only [wT,wM,Nat.reduceAdd]
 refine zbh ?_
 repeat' first|refine gwZ ?_|(refine gwX ?_;intro Q hQ _;simp [hC,hY,zbl,zaw];refine gwq hQ ?_)|refine gwC ?_ ?_<;>intro hb
 refine ⟨.inr trivial,kpS G1F,_,_,λk=>if k=1000 then 328 else k,⟨_,⟨c1,M1,g1,x1,y1,z1,rfl,rfl⟩,rfl⟩,λk hk=>if_neg (by omega),by simp,by simp,by simp [results14,ren,zas,zan,zao,zaw],?_⟩
 simp [zd3,zaw]
theorem zyt (nk:Nat) (hnk:200<=nk) (b:Blk) (off n cap:Nat) (f:Nat->Int) (h:SB b off n f) (hcap:n<=cap) (g bx tp nr md st:Int) (p q:Int) :
  FunS prog G1 14 #[.agg #[.slice none 0 0,.int .i64 g,.int .i64 bx,.int .i64 tp,.int .i64 nr,.int .i64 md],.agg #[.int .i64 st,.slice (some ⟨100,off,none⟩) n cap],.int .i64 p,.int .i64 q] (hpL G1 [(100,b)]) (zab [(100,b)]) (zn9 nk st n f 2) :=
 (zys b off n cap f h hcap g bx tp nr md st p q).nmL (zam h.fx) (by simpa using h.fx) nk hnk (λv ns=>zcf) (by simp [r1n,ren,zas,zan,zao]) (zf3 (ρ:=r1n nk) (nk:=nk) rfl st n f 2)
theorem zsv (L:List (Nat×Blk)) (ks:Nat) (bm bs:Blk) (hT:LTwo G0 L ks bm bs) (off n cap off2 n2 cap2:Nat) (fm fs:Nat->Int) (hm:MB bm off n fm) (hSb:SB bs off2 n2 fs) (g bx tp nr md st:Int) :
  Fun prog G0 20 #[cfV (.slice (some ⟨100,off,none⟩) n cap) g bx tp nr md,.agg #[.int .i64 st,.slice (some ⟨ks,off2,none⟩) n2 cap2]] (hpL G0 L) (zab L) (.ret (.bool (zjo n n2 (zd2 n fm g bx tp nr md) (zay st fs n2))) []):=by
 refine za5 (B:=200) G0F func20 rfl call20 hT.ok ?_ (by simp) (by simp) (by simp) (by simp [ntmps20]) (by omega) ?_
 ·simp [zap,zau,zaj,zal,hT.ia,hT.ib,cfV]
 intro C hC hC0 hY
 have hA:=hT.a
 have hS:=hT.s
 have hne:=hT.ne
 have hLow:=hT.low
 have hks:=hT.k1
 have hks2:=hT.k2
 have hrm:=λρ=>Blk.fx_rn hm.fx ρ
 have hrs:=λρ=>Blk.fx_rn hSb.fx ρ
 have hck:=zoi bm off n cap fm hm g bx tp nr md
 have hri:=zky bs off2 n2 cap2 fs hSb st
 unfold zjo
 unfold cfV at hck |-
 cases hc:zd2 n fm g bx tp nr md with
 | false =>
  rw [hc] at hck
  rw [show (decide (n=n2)&&(false&&zay st fs n2))=false by simp]
  repeat' first|refine gwZ ?_|((first|refine gwR [38,34] ?_|refine gwD [38,34] ?_);intro Q hQ _;(repeat first|simp [hC,hY,hA,hS,hne]|refine zac hck G0F (B:=200) (zam hm.fx) (λk=>k) (λk hk=>rfl) (by simp [ren,zas,zan,zao,cfV]) (by simp) (by simp [hrm,hA]) (by simp [zab]) (by simp [zab];rfl) ?_);refine gwq hQ ?_)|refine gwC ?_ ?_<;>intro hb
  refine ⟨.inr rfl,by simp [results20],kpT G0F⟩
 | true =>
  rw [hc] at hck
  cases hr:zay st fs n2 with
  | false =>
   rw [hr] at hri
   rw [show (decide (n=n2)&&(true&&false))=false by simp]
   repeat' first|refine gwZ ?_|((first|refine gwR [38,34] ?_|refine gwD [38,34] ?_);intro Q hQ _;(repeat first|simp [hC,hY,hA,hS,hne]|refine zac hck G0F (B:=200) (zam hm.fx) (λk=>k) (λk hk=>rfl) (by simp [ren,zas,zan,zao,cfV]) (by simp) (by simp [hrm,hA]) (by simp [zab]) (by simp [zab];rfl) ?_|refine zac hri G0F (B:=200) (zam hSb.fx) (λk=>if k=100 then ks else k) (λk hk=>if_neg (by omega)) (by simp [ren,zas,zan,zao]) (by simp) (by simp [hrs,hS,hne,hks]) (by simp [zab]) (by simp [zab];rfl) ?_);refine gwq hQ ?_)|refine gwC ?_ ?_<;>intro hb
   refine ⟨.inr rfl,by simp [results20],kpT G0F⟩
  | true =>
   rw [hr] at hri
   by_cases hn:n=n2
   ·have hn':(n:Int)=(n2:Int):=by omega
    have hnb:((n:Int)==(n2:Int))=true:=by simpa using hn'
    rw [decide_eq_true hn]
    repeat' first|refine gwZ ?_|((first|refine gwR [38,34] ?_|refine gwD [38,34] ?_);intro Q hQ _;(repeat first|simp [hC,hY,hA,hS,hne,hn',hnb]|refine zac hck G0F (B:=200) (zam hm.fx) (λk=>k) (λk hk=>rfl) (by simp [ren,zas,zan,zao,cfV]) (by simp) (by simp [hrm,hA]) (by simp [zab]) (by simp [zab];rfl) ?_|refine zac hri G0F (B:=200) (zam hSb.fx) (λk=>if k=100 then ks else k) (λk hk=>if_neg (by omega)) (by simp [ren,zas,zan,zao]) (by simp) (by simp [hrs,hS,hne,hks]) (by simp [zab]) (by simp [zab];rfl) ?_);refine gwq hQ ?_)|refine gwC ?_ ?_<;>intro hb
    refine ⟨.inr rfl,by simp [results20],kpT G0F⟩
   ·have hn':¬(n:Int)=(n2:Int):=by omega
    have hnb:((n:Int)==(n2:Int))=false:=by simpa using hn'
    rw [decide_eq_false hn]
    repeat' first|refine gwZ ?_|((first|refine gwR [38,34] ?_|refine gwD [38,34] ?_);intro Q hQ _;(repeat first|simp [hC,hY,hA,hS,hne,hn',hnb]|refine zac hck G0F (B:=200) (zam hm.fx) (λk=>k) (λk hk=>rfl) (by simp [ren,zas,zan,zao,cfV]) (by simp) (by simp [hrm,hA]) (by simp [zab]) (by simp [zab];rfl) ?_|refine zac hri G0F (B:=200) (zam hSb.fx) (λk=>if k=100 then ks else k) (λk hk=>if_neg (by omega)) (by simp [ren,zas,zan,zao]) (by simp) (by simp [hrs,hS,hne,hks]) (by simp [zab]) (by simp [zab];rfl) ?_);refine gwq hQ ?_)|refine gwC ?_ ?_<;>intro hb
    refine ⟨.inr rfl,by simp [results20],kpT G0F⟩
theorem z8x (g bx tp nr md st:Int):Ret prog G0 20 #[.agg #[.slice none 0 0,.int .i64 g,.int .i64 bx,.int .i64 tp,.int .i64 nr,.int .i64 md],.agg #[.int .i64 st,.slice none 0 0]] (.bool false):=by
 refine zav G0F func20 rfl call20 (by simp) (by simp) (by simp [ntmps20]) ?_
 intro C hC hC0 hY
 repeat' first|refine gwZ ?_|refine gwW ?_|refine gwC ?_ ?_<;>intro hb
 refine ⟨.inr trivial,?_⟩
 simp [results20]
theorem z8y (b:Blk) (off n cap:Nat) (f:Nat->Int) (h:SB b off n f) (g bx tp nr md st:Int):Fun prog G0 20 #[.agg #[.slice none 0 0,.int .i64 g,.int .i64 bx,.int .i64 tp,.int .i64 nr,.int .i64 md],.agg #[.int .i64 st,.slice (some ⟨100,off,none⟩) n cap]] (hpL G0 [(100,b)]) (zab [(100,b)]) (.ret (.bool false) []):=by
 refine za5 (B:=200) G0F func20 rfl call20 (zam h.fx) ?_ (by simp) (by simp) (by simp) (by simp [ntmps20]) (by omega) ?_
 ·simp [zap,zau,zaj,zal,zab]
 intro C hC hC0 hY
 have hr:=λρ=>Blk.fx_rn h.fx ρ
 repeat' first|refine gwZ ?_|refine gwW ?_|refine gwC ?_ ?_<;>intro hb
 refine ⟨.inr rfl,by simp [results20],kpS G0F⟩
theorem zxx (b:Blk) (off n cap:Nat) (f:Nat->Int) (h:MB b off n f) (g bx tp nr md st:Int):Fun prog G0 20 #[.agg #[.slice (some ⟨100,off,none⟩) n cap,.int .i64 g,.int .i64 bx,.int .i64 tp,.int .i64 nr,.int .i64 md],.agg #[.int .i64 st,.slice none 0 0]] (hpL G0 [(100,b)]) (zab [(100,b)]) (.ret (.bool false) []):=by
 refine za5 (B:=200) G0F func20 rfl call20 (zam h.fx) ?_ (by simp) (by simp) (by simp) (by simp [ntmps20]) (by omega) ?_
 ·simp [zap,zau,zaj,zal,zab]
 intro C hC hC0 hY
 have hr:=λρ=>Blk.fx_rn h.fx ρ
 have hck:=zoi b off n cap f h g bx tp nr md
 unfold cfV at hck
 cases ok:zd2 n f g bx tp nr md with
 | false =>
  rw [ok] at hck
  simp only [Bool.false_eq_true,if_false] at hck
  repeat' first|refine gwZ ?_|((first|refine gwR [38] ?_|refine gwD [38] ?_);intro Q hQ _;(repeat first|simp [hC,hY]|refine zac hck G0F (B:=200) (zam h.fx) (λk=>k) (λk hk=>rfl) (by simp [ren,zas,zan,zao,cfV]) (by simp) (by simp [hr]) (by simp [zab]) (by simp [zab];rfl) ?_);refine gwq hQ ?_)|refine gwC ?_ ?_<;>intro hb
  refine ⟨.inr rfl,by simp [results20],kpS G0F⟩
 | true =>
  rw [ok] at hck
  simp only [if_true] at hck
  repeat' first|refine gwZ ?_|((first|refine gwR [38] ?_|refine gwD [38] ?_);intro Q hQ _;(repeat first|simp [hC,hY]|refine zac hck G0F (B:=200) (zam h.fx) (λk=>k) (λk hk=>rfl) (by simp [ren,zas,zan,zao,cfV]) (by simp) (by simp [hr]) (by simp [zab]) (by simp [zab];rfl) ?_);refine gwq hQ ?_)|refine gwC ?_ ?_<;>intro hb
  refine ⟨.inr rfl,by simp [results20],kpS G0F⟩
theorem zqw (g bx tp nr md st:Int) (K:Value->Prop):za2 prog G1 20 #[.agg #[.slice none 0 0,.int .i64 g,.int .i64 bx,.int .i64 tp,.int .i64 nr,.int .i64 md],.agg #[.int .i64 st,.slice none 0 0]] K↔K (.bool false):=zaf G1W (by kernel_rfl) ((z8x g bx tp nr md st).up zsc)
theorem zyi (b:Blk) (off n cap:Nat) (f:Nat->Int) (h:SB b off n f) (g bx tp nr md st:Int):Fun prog G1 20 #[.agg #[.slice none 0 0,.int .i64 g,.int .i64 bx,.int .i64 tp,.int .i64 nr,.int .i64 md],.agg #[.int .i64 st,.slice (some ⟨100,off,none⟩) n cap]] (hpL G1 [(100,b)]) (zab [(100,b)]) (.ret (.bool false) []):=(z8y b off n cap f h g bx tp nr md st).up1 (zam h.fx)
theorem zyj (L:List (Nat×Blk)) (ka:Nat) (b:Blk) (hT:LKb L ka b) (off n cap:Nat) (f:Nat->Int) (h:MB b off n f) (g bx tp nr md st:Int):Fun prog G1 20 #[.agg #[.slice (some ⟨ka,off,none⟩) n cap,.int .i64 g,.int .i64 bx,.int .i64 tp,.int .i64 nr,.int .i64 md],.agg #[.int .i64 st,.slice none 0 0]] (hpL G1 L) (zab L) (.ret (.bool false) []):=by
 rcases hT.a8 with ⟨rfl,rfl⟩|⟨rfl,rfl,rfl⟩
 ·exact (zxx b off n cap f h g bx tp nr md st).up1 hT.ok
 ·have h2:=(zxx lmB off n cap f h g bx tp nr md st).mvG z64 (λk hk=>by cases hk) rfl
  simpa [cfV,ren,zas,zan,zao,gmv,rnL] using h2
theorem jez {f:FuncId} {c:Array Value} {T:TypeId} {n nk b:Nat} {x:Int} {v:Value} {hp:Hp} {K:Eff->Prop} (h:Fun prog G0 f #[.int .i64 x,.slice (some ⟨100,0,none⟩) n n] (hpL G0 [(100,⟨c,.ty T⟩)]) [100] (.ret v [])) (hc:∀ x∈c,zbj x=true) (hv:za0 v=true) (hb:100<=b)
  (h1:hp b=some ⟨c,.ty T⟩) (hK:K ((Res.ret v []).eff [b])):zgn prog G0 f #[.int .i64 x,.slice (some ⟨b,0,none⟩) n n] hp nk K :=
 zac h G0F (B:=200) ⟨by simp,by simp [zab],λp hp1=>by simp at hp1;subst hp1;exact λx hx=>zdw (hc x hx)⟩ (λk=>if k=100 then b else k) (λk hk=>if_neg (by omega)) (by simp [ren,zas,zan,zao]) hv
  (by simp [hb,h1,Blk.rn];exact (zbn (λx hx=>zcc (hc x hx))).symm) (by simp [zab]) (by simp [zab]) hK
theorem zou {f:FuncId} {c:Array Value} {T:TypeId} {n nk b:Nat} {v:Value} {hp:Hp} {K:Eff->Prop} (h:Fun prog G0 f #[.slice (some ⟨100,0,none⟩) n n] (hpL G0 [(100,⟨c,.ty T⟩)]) [100] (.ret v [])) (hc:∀ x∈c,zbj x=true) (hv:za0 v=true) (hb:100<=b)
  (h1:hp b=some ⟨c,.ty T⟩) (hK:K ((Res.ret v []).eff [b])):zgn prog G0 f #[.slice (some ⟨b,0,none⟩) n n] hp nk K :=
 zac h G0F (B:=200) ⟨by simp,by simp [zab],λp hp1=>by simp at hp1;subst hp1;exact λx hx=>zdw (hc x hx)⟩ (λk=>if k=100 then b else k) (λk hk=>if_neg (by omega)) (by simp [ren,zas,zan,zao]) hv
  (by simp [hb,h1,Blk.rn];exact (zbn (λx hx=>zcc (hc x hx))).symm) (by simp [zab]) (by simp [zab]) hK
theorem z8v {a0 a1 a2:Int} (h:inV 536870912 a0 a1 a2=true):Fun prog G0 50 #[.slice (some ⟨100,0,none⟩) 1 1] (hpL G0 [(100,⟨#[.int .i64 a0,.int .i64 a1,.int .i64 a2],.ty 31⟩)]) (zab [(100,(⟨#[.int .i64 a0,.int .i64 a1,.int .i64 a2],.ty 31⟩:Blk))]) (.ret (.bool true) []):=by
 refine za5 (B:=200) G0F func50 rfl call50 ⟨by simp,by simp [zab],by simp [zae,zaj,zal]⟩ ?_ (by simp) (by simp) (by simp) (by simp [ntmps50]) (by omega) ?_
 ·simp [zap,zau,zaj,zal,zab]
 intro C hC hC0 hY
 have im:i64 536870912:=by unfold i64;omega
 repeat' first|refine zad ?_|refine zag ?_|refine gwZ ?_|(refine gwX ?_;intro Q hQ _;simp [hC,hY,h,im];refine gwq hQ ?_)|refine gwC ?_ ?_<;>intro hb
 refine ⟨.inr rfl,by simp [results50],kpS G0F⟩
theorem z8w {a0 a1 a2 b0 b1 b2:Int} (h:inV 536870912 a0 a1 a2=true) (k:inV 536870912 b0 b1 b2=true):Fun prog G0 50 #[.slice (some ⟨100,0,none⟩) 2 2] (hpL G0 [(100,⟨#[.int .i64 a0,.int .i64 a1,.int .i64 a2,.int .i64 b0,.int .i64 b1,.int .i64 b2],.ty 31⟩)]) (zab [(100,(⟨#[.int .i64 a0,.int .i64 a1,.int .i64 a2,.int .i64 b0,.int .i64 b1,.int .i64 b2],.ty 31⟩:Blk))]) (.ret (.bool true) []):=by
 refine za5 (B:=200) G0F func50 rfl call50 ⟨by simp,by simp [zab],by simp [zae,zaj,zal]⟩ ?_ (by simp) (by simp) (by simp) (by simp [ntmps50]) (by omega) ?_
 ·simp [zap,zau,zaj,zal,zab]
 intro C hC hC0 hY
 have im:i64 536870912:=by unfold i64;omega
 repeat' first|refine zad ?_|refine zag ?_|refine gwZ ?_|(refine gwX ?_;intro Q hQ _;simp [hC,hY,h,k,im];refine gwq hQ ?_)|refine gwC ?_ ?_<;>intro hb
 refine ⟨.inr rfl,by simp [results50],kpS G0F⟩
theorem jbc {a0 a1 a2:Int} (h:inV 536870912 a0 a1 a2=true):Ret prog G0 49 #[.agg #[.int .i64 a0,.int .i64 a1,.int .i64 a2],.bool true] (.tuple #[.agg #[.int .i64 a0,.int .i64 a1,.int .i64 a2],.int .i64 0]):=by
 refine zav G0F func49 rfl call49 (by simp) (by simp) (by simp [ntmps49]) ?_
 intro C hC hC0 hY
 repeat' first|refine gwZ ?_|((first|refine gwR [50] ?_|refine gwD [50] ?_);intro Q hQ _;(repeat first|simp [hC,hY]|(refine zou (z8v h) (by simp) (by simp) (by simp) ?_ ?_;focus (simp;done)));refine gwq hQ ?_)|refine gwC ?_ ?_<;>intro hb
 refine ⟨.inr trivial,?_⟩
 simp [results49]
theorem jhg {a0 a1 a2:Int} (h:inV 536870912 a0 a1 a2=true) (K:Value->Prop):za2 prog G0 49 #[.agg #[.int .i64 a0,.int .i64 a1,.int .i64 a2],.bool true] K↔K (.tuple #[.agg #[.int .i64 a0,.int .i64 a1,.int .i64 a2],.int .i64 0]):=zaf G0W (by kernel_rfl) (jbc h)
theorem zyd {m m' x y z:Int} (h:inW m x/\inW m y/\inW m z) (hm:m<=m'):inV m' x y z=true:=by
 refine zqu.2 ?_
 unfold inW at *
 omega
theorem z03 {m a b:Int} (h:inW m a) (k:inW m b):inW (2*m) (a - b):=by
 unfold inW at *
 omega
theorem z46 {a0 a1 a2 b0 b1 b2:Int} (h:inW 1048576 a0/\inW 1048576 a1/\inW 1048576 a2) (k:inW 1048576 b0/\inW 1048576 b1/\inW 1048576 b2):Ret prog G0 30 #[.agg #[.int .i64 a0,.int .i64 a1,.int .i64 a2],.agg #[.int .i64 b0,.int .i64 b1,.int .i64 b2]] (.tuple #[.agg #[.int .i64 (a0 - b0),.int .i64 (a1 - b1),.int .i64 (a2 - b2)],.int .i64 0]):=by
 refine zav G0F func30 rfl call30 (by simp) (by simp) (by simp [ntmps30]) ?_
 intro C hC hC0 hY
 have ha:=zyd (m':=536870912) h (by omega)
 have hb9:=zyd (m':=536870912) k (by omega)
 have hd:=zyd (m':=536870912) ⟨z03 h.1 k.1,z03 h.2.1 k.2.1,z03 h.2.2 k.2.2⟩ (by omega)
 have T:=jhg hd
 unfold inW at h k
 have q0:Int.bmod (a0 - b0) 18446744073709551616=a0 - b0:=bm (by omega) (by omega)
 have q1:Int.bmod (a1 - b1) 18446744073709551616=a1 - b1:=bm (by omega) (by omega)
 have q2:Int.bmod (a2 - b2) 18446744073709551616=a2 - b2:=bm (by omega) (by omega)
 repeat' first|refine gwZ ?_|((first|refine gwR [50] ?_|refine gwD [50] ?_);intro Q hQ _;(repeat first|simp [hC,hY,q0,q1,q2,T]|(refine zou (z8w ha hb9) (by simp) (by simp) (by simp) ?_ ?_;focus (simp;done)));refine gwq hQ ?_)|refine gwC ?_ ?_<;>intro hb
 refine ⟨.inr trivial,?_⟩
 simp [results30]
@[simp] theorem jl8 (n d g m x0 x1 x2:Int) (h0:inX x0) (h1:inX x1) (h2:inX x2) (k0:PIn n d g m x0 (x0*x0+x1*x1+x2*x2)) (k1:PIn n d g m x1 (x0*x0+x1*x1+x2*x2)) (k2:PIn n d g m x2 (x0*x0+x1*x1+x2*x2)) (K:Value->Prop) :
  za2 prog G1 27 #[.int .i64 n,.int .i64 d,.int .i64 g,.int .i64 m,.agg #[.int .i64 x0,.int .i64 x1,.int .i64 x2]] K↔K (.tuple #[.agg #[.int .i64 (zbe n d g m x0 (x0*x0+x1*x1+x2*x2)),.int .i64 (zbe n d g m x1 (x0*x0+x1*x1+x2*x2)),.int .i64 (zbe n d g m x2 (x0*x0+x1*x1+x2*x2))],.int .i64 0]) :=
 zaf G1W (by kernel_rfl) (ztl n d g m x0 x1 x2 h0 h1 h2 k0 k1 k2)
theorem jam {n d g m x0 x1 x2 p0 p1 p2:Int} {r:Int} (hr:x0*x0+x1*x1+x2*x2=r) (h0:inX x0) (h1:inX x1) (h2:inX x2) (k0:PIn n d g m x0 r) (k1:PIn n d g m x1 r) (k2:PIn n d g m x2 r)
  (e0:zbe n d g m x0 r=p0) (e1:zbe n d g m x1 r=p1) (e2:zbe n d g m x2 r=p2) (K:Value->Prop) :
  za2 prog G1 27 #[.int .i64 n,.int .i64 d,.int .i64 g,.int .i64 m,.agg #[.int .i64 x0,.int .i64 x1,.int .i64 x2]] K↔K (.tuple #[.agg #[.int .i64 p0,.int .i64 p1,.int .i64 p2],.int .i64 0]):=by
 subst hr e0 e1 e2
 exact jl8 n d g m x0 x1 x2 h0 h1 h2 k0 k1 k2 K
theorem jgm (n d g m r:Int):zf9 n d g m 0 r=0:=by
 unfold zf9
 rw [Int.mul_zero,Int.zero_mul,Int.zero_ediv,zd7 (r:=0) (by decide) (by decide) (by decide)]
 decide
structure MayP (n d g m x0 x1 x2:Int):Prop where
 i0:inX x0
 i1:inX x1
 i2:inX x2
 far:¬(x0=0/\x1=0/\x2=0)
 n0:-2097152<=n
 n1:n<=2097152
 d0:1<=d
 d1:d<=2097152
 g0:1<=g
 g1:g<=1048576
 m0:1<=m
 m1:m<=1024
theorem z02 {x:Int} (h:x≠0):1<=x*x:=by
 by_cases h0:0<=x
 ·exact Int.mul_pos (by omega) (by omega)
 ·rw [<-Int.neg_mul_neg];exact Int.mul_pos (by omega) (by omega)
theorem MayP.pin {n d g m x0 x1 x2:Int} (h:MayP n d g m x0 x1 x2):PIn n d g m x0 (x0*x0+x1*x1+x2*x2)/\PIn n d g m x1 (x0*x0+x1*x1+x2*x2)/\PIn n d g m x2 (x0*x0+x1*x1+x2*x2):=by
 have s0:=zgq h.i0
 have s1:=zgq h.i1
 have s2:=zgq h.i2
 have hr:1<=x0*x0+x1*x1+x2*x2:=by
  by_cases z0:x0=0
  ·by_cases z1:x1=0
   ·have:=z02 (x:=x2) (λz2=>h.far ⟨z0,z1,z2⟩);omega
   ·have:=z02 z1;omega
  ·have:=z02 z0;omega
 refine ⟨⟨h.n0,h.n1,h.d0,h.d1,h.g0,h.g1,h.m0,h.m1,h.i0.1,h.i0.2,hr,by omega,by omega⟩,⟨h.n0,h.n1,h.d0,h.d1,h.g0,h.g1,h.m0,h.m1,h.i1.1,h.i1.2,hr,by omega,by omega⟩,⟨h.n0,h.n1,h.d0,h.d1,h.g0,h.g1,h.m0,h.m1,h.i2.1,h.i2.2,hr,by omega,by omega⟩⟩
theorem MayP.at {n d g m x0 x1 x2 r p0 p1 p2:Int} (h:MayP n d g m x0 x1 x2) (hr:x0*x0+x1*x1+x2*x2=r) (e0:zbe n d g m x0 r=p0) (e1:zbe n d g m x1 r=p1) (e2:zbe n d g m x2 r=p2) (K:Value->Prop) :
  za2 prog G1 27 #[.int .i64 n,.int .i64 d,.int .i64 g,.int .i64 m,.agg #[.int .i64 x0,.int .i64 x1,.int .i64 x2]] K↔K (.tuple #[.agg #[.int .i64 p0,.int .i64 p1,.int .i64 p2],.int .i64 0]):=by
 have hp:=h.pin
 rw [hr] at hp
 exact jam hr h.i0 h.i1 h.i2 hp.1 hp.2.1 hp.2.2 e0 e1 e2 K
theorem jak (d g m x r:Int):zf9 0 d g m x r=0:=by
 unfold zf9
 simp only [Int.mul_zero,Int.zero_mul,Int.zero_ediv]
 rw [zd7 (r:=0) (by decide) (by decide) (by decide)]
 decide
theorem PIn.val {n d g m x r:Int} (h:PIn n d g m x r):-4503599627370496<=zbe n d g m x r/\zbe n d g m x r<=4503599627370496:=by
 have:=h.mag
 unfold zbe
 (repeat' split)<;>omega
theorem zv6 {q:Int} (h0:0<=q):(isq q+1) / 2=0↔q=0:=by
 obtain ⟨h1,h2,h3⟩:=zfz q h0
 constructor
 ·intro h
  have h4:isq q=0:=by omega
  rw [h4] at h3
  omega
 ·intro h
  subst h
  rw [zd7 (r:=0) (by decide) (by decide) (by decide)]
  decide
theorem PIn.zero {n d g m x r:Int} (h:PIn n d g m x r):zbe n d g m x r=0↔2*n*g*m*x*(2*n*g*m*x)<d*d*r*r*r:=by
 have hB:0<d*d*r*r*r:=by have:=h.q4.1;have:=h.r0;omega
 have hA:=zen (2*n*g*m*x)
 have e1:zbe n d g m x r=0↔zf9 n d g m x r=0:=by
  have:=h.mag
  unfold zbe
  (repeat' split)<;>omega
 rw [e1]
 unfold zf9
 rw [zv6 (Int.ediv_nonneg hA (by omega))]
 generalize 2*n*g*m*x*(2*n*g*m*x)=A at *
 generalize d*d*r*r*r=B at *
 constructor
 ·intro h
  have e2:=Int.emod_lt_of_pos A hB
  have e3:=Int.mul_ediv_add_emod A B
  rw [h] at e3
  omega
 ·intro h;exact Int.ediv_eq_zero_of_lt hA h
theorem zph (n a b:Int):Ret prog G1 57 #[.int .i64 n,.int .i64 a,.int .i64 b] (.bool (decide (a<=n)&&decide (n<=b))):=by
 refine zav G1F func57 rfl call57 rfl (by simp) (by simp [ntmps57]) ?_
 intro C hC hC0 hY
 by_cases h:a<=n
 ·skip
  repeat' first|refine gwZ ?_|(refine gwX ?_;intro Q hQ _;simp [hC,hY,h];refine gwq hQ ?_)|refine gwC ?_ ?_<;>intro hb
  refine ⟨.inr trivial,?_⟩
  simp [results57,h]
 ·skip
  repeat' first|refine gwZ ?_|(refine gwX ?_;intro Q hQ _;simp [hC,hY,h];refine gwq hQ ?_)|refine gwC ?_ ?_<;>intro hb
  refine ⟨.inr trivial,?_⟩
  simp [results57,h]
@[simp] theorem jjw (n a b:Int) (K:Value->Prop):za2 prog G1 57 #[.int .i64 n,.int .i64 a,.int .i64 b] K↔K (.bool (decide (a<=n)&&decide (n<=b))):=zaf G1W (by kernel_rfl) (zph n a b)
theorem zrw (a:Int):Ret prog G1 59 #[wd a] (wd (sz a*sz a)):=by
 refine zav G1F func59 rfl call59 (by simp) (by simp) (by simp [ntmps59]) ?_
 intro C hC hC0 hY
 repeat' first|refine gwZ ?_|refine gwW ?_|refine gwC ?_ ?_<;>intro hb
 refine ⟨.inr trivial,?_⟩
 simp [results59]
@[simp] theorem jmq (a:Int) (K:Value->Prop):za2 prog G1 59 #[Value.agg #[.int .u64 (wi (a) 0),.int .u64 (wi (a) 1),.int .u64 (wi (a) 2),.int .u64 (wi (a) 3)]] K↔K (wd (sz a*sz a)):=zaf G1W (by kernel_rfl) (zrw a)
theorem jc6 (a0 a1:Int) (hi:i64 a0/\i64 a1) (hw:wr (a0)/\wr (a0*a1)):Fun prog G1 60 #[.slice (some ⟨100,0,none⟩) 2 2] (hpL G1 [(100,⟨#[.int .i64 a0,.int .i64 a1],.ty 3⟩)]) [100] (.ret (wd (a0*a1)) []):=by
 have hrst:rst (hpL G1 [(100,⟨#[.int .i64 a0,.int .i64 a1],.ty 3⟩)]) [100]=hpL G1 [(100,⟨#[.int .i64 a0,.int .i64 a1],.ty 3⟩)]:=zdr G1F (by simp)
 have hfree:∀ k,200<=k->hpL G1 [(100,⟨#[.int .i64 a0,.int .i64 a1],.ty 3⟩)] k=none:=λk hk=>by simp [show ¬k=100 by omega,show 100<=k by omega]
 refine zfn (B:=200) G1F (λk hk=>za6 (by simp) hk) func60 rfl call60 ?_ ?_ ⟨zak (by simp),by simp [zab],by simp,by simp⟩ (by simp [ntmps60]) (by omega) ?_ ?_
 ·rw [hrst];simp [dom]
 ·rw [hrst]
  intro k c h
  rcases za8 h with h|h
  ·simp at h
   rcases h with ⟨_,rfl⟩
   simp
  ·exact zex _ _ _ h
 ·rw [hrst];exact hfree
 ·intro C hC hC0 hY
  rw [hrst] at hC0 |-
  obtain ⟨i0,i1⟩:=hi
  obtain ⟨w0,w1⟩:=hw
  have s0:=zcg w0
  have s1:=zcg w1
  have t1:=zcg (zh7 i1)
  have j1:=zqs
  have e1:sz 1=1:=by decide
  repeat' first|refine zad ?_|refine zag ?_|refine gwZ ?_|(refine gwX ?_;intro Q hQ _;simp [hC,hY,j1,e1,Int.one_mul,i0,i1,s0,s1,t1];refine gwq hQ ?_)|refine gwC ?_ ?_<;>intro hb
  refine ⟨.inr rfl,by simp [results60],λk hk=>?_⟩
  have hk3:k<200:=Classical.byContradiction λh=>hk (hfree k (by omega))
  simp (disch:=omega) only [zcz]
  rfl
theorem zmh (a0 a1 a2 a3 a4:Int) (hi:i64 a0/\i64 a1/\i64 a2/\i64 a3/\i64 a4) (hw:wr (a0)/\wr (a0*a1)/\wr (a0*a1*a2)/\wr (a0*a1*a2*a3)/\wr (a0*a1*a2*a3*a4)):Fun prog G1 60 #[.slice (some ⟨100,0,none⟩) 5 5] (hpL G1 [(100,⟨#[.int .i64 a0,.int .i64 a1,.int .i64 a2,.int .i64 a3,.int .i64 a4],.ty 3⟩)]) [100] (.ret (wd (a0*a1*a2*a3*a4)) []):=by
 have hrst:rst (hpL G1 [(100,⟨#[.int .i64 a0,.int .i64 a1,.int .i64 a2,.int .i64 a3,.int .i64 a4],.ty 3⟩)]) [100]=hpL G1 [(100,⟨#[.int .i64 a0,.int .i64 a1,.int .i64 a2,.int .i64 a3,.int .i64 a4],.ty 3⟩)]:=zdr G1F (by simp)
 have hfree:∀ k,200<=k->hpL G1 [(100,⟨#[.int .i64 a0,.int .i64 a1,.int .i64 a2,.int .i64 a3,.int .i64 a4],.ty 3⟩)] k=none:=λk hk=>by simp [show ¬k=100 by omega,show 100<=k by omega]
 refine zfn (B:=200) G1F (λk hk=>za6 (by simp) hk) func60 rfl call60 ?_ ?_ ⟨zak (by simp),by simp [zab],by simp,by simp⟩ (by simp [ntmps60]) (by omega) ?_ ?_
 ·rw [hrst];simp [dom]
 ·rw [hrst]
  intro k c h
  rcases za8 h with h|h
  ·simp at h
   rcases h with ⟨_,rfl⟩
   simp
  ·exact zex _ _ _ h
 ·rw [hrst];exact hfree
 ·intro C hC hC0 hY
  rw [hrst] at hC0 |-
  obtain ⟨i0,i1,i2,i3,i4⟩:=hi
  obtain ⟨w0,w1,w2,w3,w4⟩:=hw
  have s0:=zcg w0
  have s1:=zcg w1
  have s2:=zcg w2
  have s3:=zcg w3
  have s4:=zcg w4
  have t1:=zcg (zh7 i1)
  have t2:=zcg (zh7 i2)
  have t3:=zcg (zh7 i3)
  have t4:=zcg (zh7 i4)
  have j1:=zqs
  have e1:sz 1=1:=by decide
  repeat' first|refine zad ?_|refine zag ?_|refine gwZ ?_|(refine gwX ?_;intro Q hQ _;simp [hC,hY,j1,e1,Int.one_mul,i0,i1,i2,i3,i4,s0,s1,s2,s3,s4,t1,t2,t3,t4];refine gwq hQ ?_)|refine gwC ?_ ?_<;>intro hb
  refine ⟨.inr rfl,by simp [results60],λk hk=>?_⟩
  have hk3:k<200:=Classical.byContradiction λh=>hk (hfree k (by omega))
  simp (disch:=omega) only [zcz]
  rfl
theorem zvn (x0 x1 x2:Int) (h0:inX x0) (h1:inX x1) (h2:inX x2):Ret prog G1 39 #[vv x0 x1 x2] (.tuple #[.int .i64 (x0*x0+x1*x1+x2*x2),.int .i64 0]):=by
 refine zav G1F func39 rfl call39 (by simp [vv]) (by simp [vv]) (by simp [ntmps39]) ?_
 intro C hC hC0 hY
 have z0:=zgq h0
 have z1:=zgq h1
 have z2:=zgq h2
 obtain ⟨l0,u0⟩:=h0
 obtain ⟨l1,u1⟩:=h1
 obtain ⟨l2,u2⟩:=h2
 have b0:Int.bmod (x0*x0) 18446744073709551616=x0*x0:=bm (by omega) (by omega)
 have b1:Int.bmod (x1*x1) 18446744073709551616=x1*x1:=bm (by omega) (by omega)
 have b2:Int.bmod (x2*x2) 18446744073709551616=x2*x2:=bm (by omega) (by omega)
 have b3:Int.bmod (x0*x0+x1*x1) 18446744073709551616=x0*x0+x1*x1:=bm (by omega) (by omega)
 have b4:Int.bmod (x0*x0+x1*x1+x2*x2) 18446744073709551616=x0*x0+x1*x1+x2*x2:=bm (by omega) (by omega)
 repeat' first|refine zad ?_|refine zag ?_|refine gwZ ?_|(refine gwX ?_;intro Q hQ _;simp [hC,hY,vv,l0,u0,l1,u1,l2,u2,b0,b1,b2,b3,b4];refine gwq hQ ?_)|refine gwC ?_ ?_<;>intro hb
 refine ⟨.inr trivial,?_⟩
 simp [results39]
theorem zrs (x0 x1 x2:Int) (h:¬(inX x0/\inX x1/\inX x2)):Ret prog G1 39 #[vv x0 x1 x2] (.tuple #[.int .i64 0,.int .i64 2]):=by
 refine zav G1F func39 rfl call39 (by simp [vv]) (by simp [vv]) (by simp [ntmps39]) ?_
 intro C hC hC0 hY
 by_cases l0:-2097152<=x0
 rotate_left
 ·skip
  repeat' first|refine zad ?_|refine zag ?_|refine gwZ ?_|(refine gwX ?_;intro Q hQ _;simp [hC,hY,vv,l0];refine gwq hQ ?_)|refine gwC ?_ ?_<;>intro hb
  refine ⟨.inr trivial,?_⟩
  simp [results39]
 by_cases u0:x0<=2097152
 rotate_left
 ·skip
  repeat' first|refine zad ?_|refine zag ?_|refine gwZ ?_|(refine gwX ?_;intro Q hQ _;simp [hC,hY,vv,l0,u0];refine gwq hQ ?_)|refine gwC ?_ ?_<;>intro hb
  refine ⟨.inr trivial,?_⟩
  simp [results39]
 by_cases l1:-2097152<=x1
 rotate_left
 ·skip
  repeat' first|refine zad ?_|refine zag ?_|refine gwZ ?_|(refine gwX ?_;intro Q hQ _;simp [hC,hY,vv,l0,u0,l1];refine gwq hQ ?_)|refine gwC ?_ ?_<;>intro hb
  refine ⟨.inr trivial,?_⟩
  simp [results39]
 by_cases u1:x1<=2097152
 rotate_left
 ·skip
  repeat' first|refine zad ?_|refine zag ?_|refine gwZ ?_|(refine gwX ?_;intro Q hQ _;simp [hC,hY,vv,l0,u0,l1,u1];refine gwq hQ ?_)|refine gwC ?_ ?_<;>intro hb
  refine ⟨.inr trivial,?_⟩
  simp [results39]
 by_cases l2:-2097152<=x2
 rotate_left
 ·skip
  repeat' first|refine zad ?_|refine zag ?_|refine gwZ ?_|(refine gwX ?_;intro Q hQ _;simp [hC,hY,vv,l0,u0,l1,u1,l2];refine gwq hQ ?_)|refine gwC ?_ ?_<;>intro hb
  refine ⟨.inr trivial,?_⟩
  simp [results39]
 by_cases u2:x2<=2097152
 rotate_left
 ·skip
  repeat' first|refine zad ?_|refine zag ?_|refine gwZ ?_|(refine gwX ?_;intro Q hQ _;simp [hC,hY,vv,l0,u0,l1,u1,l2,u2];refine gwq hQ ?_)|refine gwC ?_ ?_<;>intro hb
  refine ⟨.inr trivial,?_⟩
  simp [results39]
 exact absurd ⟨⟨l0,u0⟩,⟨l1,u1⟩,⟨l2,u2⟩⟩ h
theorem z4w (n d g m x r:Int):Ret prog G1 58 #[.int .i64 n,.int .i64 d,.int .i64 g,.int .i64 m,.int .i64 x,.int .i64 r] (.int .i64 (zd5 n d g m x r)):=by
 refine zav G1F func58 rfl call58 (by simp) (by simp) (by simp [ntmps58]) ?_
 intro C hC hC0 hY
 by_cases f0:-2097152<=n
 rotate_left
 ·have hE:zd5 n d g m x r=2:=if_neg (by omega)
  rw [hE]
  repeat' first|refine gwZ ?_|(refine gwX ?_;intro Q hQ _;simp [hC,hY,f0];refine gwq hQ ?_)|refine gwC ?_ ?_<;>intro hb
  refine ⟨.inr trivial,?_⟩
  simp [results58]
 by_cases f1:n<=2097152
 rotate_left
 ·have hE:zd5 n d g m x r=2:=if_neg (by omega)
  rw [hE]
  repeat' first|refine gwZ ?_|(refine gwX ?_;intro Q hQ _;simp [hC,hY,f0,f1];refine gwq hQ ?_)|refine gwC ?_ ?_<;>intro hb
  refine ⟨.inr trivial,?_⟩
  simp [results58]
 by_cases f2:1<=d
 rotate_left
 ·have hE:zd5 n d g m x r=2:=if_neg (by omega)
  rw [hE]
  repeat' first|refine gwZ ?_|(refine gwX ?_;intro Q hQ _;simp [hC,hY,f0,f1,f2];refine gwq hQ ?_)|refine gwC ?_ ?_<;>intro hb
  refine ⟨.inr trivial,?_⟩
  simp [results58]
 by_cases f3:d<=2097152
 rotate_left
 ·have hE:zd5 n d g m x r=2:=if_neg (by omega)
  rw [hE]
  repeat' first|refine gwZ ?_|(refine gwX ?_;intro Q hQ _;simp [hC,hY,f0,f1,f2,f3];refine gwq hQ ?_)|refine gwC ?_ ?_<;>intro hb
  refine ⟨.inr trivial,?_⟩
  simp [results58]
 by_cases f4:1<=g
 rotate_left
 ·have hE:zd5 n d g m x r=2:=if_neg (by omega)
  rw [hE]
  repeat' first|refine gwZ ?_|(refine gwX ?_;intro Q hQ _;simp [hC,hY,f0,f1,f2,f3,f4];refine gwq hQ ?_)|refine gwC ?_ ?_<;>intro hb
  refine ⟨.inr trivial,?_⟩
  simp [results58]
 by_cases f5:g<=1048576
 rotate_left
 ·have hE:zd5 n d g m x r=2:=if_neg (by omega)
  rw [hE]
  repeat' first|refine gwZ ?_|(refine gwX ?_;intro Q hQ _;simp [hC,hY,f0,f1,f2,f3,f4,f5];refine gwq hQ ?_)|refine gwC ?_ ?_<;>intro hb
  refine ⟨.inr trivial,?_⟩
  simp [results58]
 by_cases f6:1<=m
 rotate_left
 ·have hE:zd5 n d g m x r=2:=if_neg (by omega)
  rw [hE]
  repeat' first|refine gwZ ?_|(refine gwX ?_;intro Q hQ _;simp [hC,hY,f0,f1,f2,f3,f4,f5,f6];refine gwq hQ ?_)|refine gwC ?_ ?_<;>intro hb
  refine ⟨.inr trivial,?_⟩
  simp [results58]
 by_cases f7:m<=1024
 rotate_left
 ·have hE:zd5 n d g m x r=2:=if_neg (by omega)
  rw [hE]
  repeat' first|refine gwZ ?_|(refine gwX ?_;intro Q hQ _;simp [hC,hY,f0,f1,f2,f3,f4,f5,f6,f7];refine gwq hQ ?_)|refine gwC ?_ ?_<;>intro hb
  refine ⟨.inr trivial,?_⟩
  simp [results58]
 by_cases f8:-2097152<=x
 rotate_left
 ·have hE:zd5 n d g m x r=2:=if_neg (by omega)
  rw [hE]
  repeat' first|refine gwZ ?_|(refine gwX ?_;intro Q hQ _;simp [hC,hY,f0,f1,f2,f3,f4,f5,f6,f7,f8];refine gwq hQ ?_)|refine gwC ?_ ?_<;>intro hb
  refine ⟨.inr trivial,?_⟩
  simp [results58]
 by_cases f9:x<=2097152
 rotate_left
 ·have hE:zd5 n d g m x r=2:=if_neg (by omega)
  rw [hE]
  repeat' first|refine gwZ ?_|(refine gwX ?_;intro Q hQ _;simp [hC,hY,f0,f1,f2,f3,f4,f5,f6,f7,f8,f9];refine gwq hQ ?_)|refine gwC ?_ ?_<;>intro hb
  refine ⟨.inr trivial,?_⟩
  simp [results58]
 by_cases f10:0<=r
 rotate_left
 ·have hE:zd5 n d g m x r=2:=if_neg (by omega)
  rw [hE]
  repeat' first|refine gwZ ?_|(refine gwX ?_;intro Q hQ _;simp [hC,hY,f0,f1,f2,f3,f4,f5,f6,f7,f8,f9,f10];refine gwq hQ ?_)|refine gwC ?_ ?_<;>intro hb
  refine ⟨.inr trivial,?_⟩
  simp [results58]
 by_cases f11:r<=13194139533312
 rotate_left
 ·have hE:zd5 n d g m x r=2:=if_neg (by omega)
  rw [hE]
  repeat' first|refine gwZ ?_|(refine gwX ?_;intro Q hQ _;simp [hC,hY,f0,f1,f2,f3,f4,f5,f6,f7,f8,f9,f10,f11];refine gwq hQ ?_)|refine gwC ?_ ?_<;>intro hb
  refine ⟨.inr trivial,?_⟩
  simp [results58]
 have hall:zd5 n d g m x r=(if r=0 then 30 else if x*x<=r then 0 else 2):=if_pos ⟨f0,f1,f2,f3,f4,f5,f6,f7,f8,f9,f10,f11⟩
 rw [hall]
 by_cases hr:r=0
 ·rw [if_pos hr]
  subst hr
  repeat' first|refine gwZ ?_|(refine gwX ?_;intro Q hQ _;simp [hC,hY,f0,f1,f2,f3,f4,f5,f6,f7,f8,f9,f10,f11];refine gwq hQ ?_)|refine gwC ?_ ?_<;>intro hb
  refine ⟨.inr trivial,?_⟩
  simp [results58]
 have hr1:(r==0)=false:=by simpa using hr
 rw [if_neg hr]
 have hb2:Int.bmod (x*x) 18446744073709551616=x*x:=bm (by have:=zgq (x:=x) ⟨f8,f9⟩;omega) (by have:=zgq (x:=x) ⟨f8,f9⟩;omega)
 by_cases hx:x*x<=r
 ·have hx':¬r<x*x:=by omega
  rw [if_pos hx]
  repeat' first|refine gwZ ?_|(refine gwX ?_;intro Q hQ _;simp [hC,hY,f0,f1,f2,f3,f4,f5,f6,f7,f8,f9,f10,f11,hr1,hx',hb2];refine gwq hQ ?_)|refine gwC ?_ ?_<;>intro hb
  refine ⟨.inr trivial,?_⟩
  simp [results58]
 ·have hx':r<x*x:=by omega
  rw [if_neg hx]
  repeat' first|refine gwZ ?_|(refine gwX ?_;intro Q hQ _;simp [hC,hY,f0,f1,f2,f3,f4,f5,f6,f7,f8,f9,f10,f11,hr1,hx',hb2];refine gwq hQ ?_)|refine gwC ?_ ?_<;>intro hb
  refine ⟨.inr trivial,?_⟩
  simp [results58]
@[simp] theorem jrs (n d g m x r:Int) (K:Value->Prop):za2 prog G1 58 #[.int .i64 n,.int .i64 d,.int .i64 g,.int .i64 m,.int .i64 x,.int .i64 r] K↔K (.int .i64 (zd5 n d g m x r)):=zaf G1W (by kernel_rfl) (z4w n d g m x r)
def bt (z:Int):Nat->Int
 | 0=>0
 | i+1=>if wi z i=0 then bt z i else 64*i+za1 (wi z i)
theorem jnm (z:Int):bt z 4=za1 (uz z):=by
 simp only [bt]
 by_cases h3:wi z 3=0
 ·by_cases h2:wi z 2=0
  ·by_cases h1:wi z 1=0
   ·rw [z0y z h3 h2 h1]
    by_cases h0:wi z 0=0
    ·simp [h0,h1,h2,h3];rfl
    ·simp [h0,h1,h2,h3]
   ·rw [z0z z h3 h2 h1];simp [h1,h2,h3]
  ·rw [z00 z h3 h2];simp [h2,h3]
 ·rw [z01 z h3];simp [h3]
theorem jpc (i j:Nat) (hi:i<4) (hj:j<64):Int.bmod (64*(i:Int)+(1+j)) 18446744073709551616=64*(i:Int)+(1+j):=bm (by omega) (by omega)
def jkq (z:Int) (i:Nat):GS :=
 ⟨tsL [(1,.pointer (some ⟨200,0,none⟩)),(3,.int .i64 (bt z i)),(4,.int .i64 i)],hpL G0 [(200,⟨fa 4 .u64 (wi z),.ty 86⟩)],300,0⟩
def z8g (z:Int) (i j:Nat):GS :=
 ⟨tsL [(1,.pointer (some ⟨200,0,none⟩)),(3,.int .i64 (if j=0 then bt z i else 64*i+j)),(4,.int .i64 i),(5,.int .u64 (wi z i / 2^j)),(6,.int .i64 (1+j))],hpL G0 [(200,⟨fa 4 .u64 (wi z),.ty 86⟩)],300,0⟩
theorem zzf:za1 0=0:=rfl
theorem jey (x:Int) (h0:0<=x):(∀ j:Nat,j<(za1 x).toNat->0<x / 2^j)/\x / 2^(za1 x).toNat=0:=by
 by_cases h:x=0
 ·subst h
  rw [zzf];simp
 ·obtain ⟨k,hk,k1,k2⟩:=ze0 (x:=x) (by omega)
  have e:(za1 x).toNat=k+1:=by omega
  rw [e]
  have hp:=Int.pow_pos (n:=2) (m:=k+1) (by decide)
  refine ⟨λj hj=>?_,Int.ediv_eq_zero_of_lt h0 k2⟩
  have h3:(2:Int)^j<=2^k:=by exact_mod_cast Nat.pow_le_pow_right (by omega) (by omega:j<=k)
  have hpj:=Int.pow_pos (n:=2) (m:=j) (by decide)
  have:1<=x / 2^j:=by
   rw [Int.le_ediv_iff_mul_le hpj];omega
  omega
theorem z2q (z:Int):Ret prog G0 128 #[wd z] (.int .i64 (za1 (uz z))):=by
 refine zav G0F func128 rfl call128 rfl (by simp) (by simp [ntmps128]) ?_
 intro C hC hC0 hY
 repeat' first|refine gwZ ?_|refine gwW ?_|refine gwC ?_ ?_<;>intro hb
 refine zb3 4 (jkq z) ?_ ?_ ?_
 ·refine zbc _ 300 hC G0F (m0:=[]) hC0 (by omega) ?_ ?_ ?_
  ·simp [zap,zau,zaj,zal,dom,bt]
  ·simp [Blk.ids,zaj,zal,ziu]
  ·simp
 ·intro i hi
  have hi':(i:Int)<4:=by omega
  have hz:(0:Int)<=i:=by omega
  have hs:Int.bmod ((i:Int)+1) 18446744073709551616=((i+1:Nat):Int):=by rw [bm (by omega) (by omega)];rfl
  unfold jkq
  repeat' first|refine gwZ ?_|(refine gwX ?_;intro Q hQ _;simp [hC,hY,hi,hi',hz,hs,zdh];refine gwq hQ ?_)|refine gwC ?_ ?_<;>intro hb
  have w0:=zbp z i
  have w1:=zbx z i
  have hN:=zf0 z i
  obtain ⟨hh,hhN⟩:=jey (wi z i) w0
  have hn0:(za1 (wi z i)).toNat=0↔wi z i=0:=by
   refine ⟨λh=>?_,λh=>by rw [h,zzf];rfl⟩
   rw [h] at hhN;simpa using hhN
  have hbt:bt z (i+1)=if (za1 (wi z i)).toNat=0 then bt z i else 64*i+((za1 (wi z i)).toNat:Int):=by
   simp only [bt]
   by_cases h:wi z i=0
   ·rw [if_pos h,if_pos (hn0.2 h)]
   ·rw [if_neg h,if_neg (λh'=>h (hn0.1 h'))];omega
  generalize (za1 (wi z i)).toNat=N at *
  have hN64:N<=64:=by
   refine Classical.byContradiction λhc=>?_
   have:=hh 64 (by omega)
   rw [Int.ediv_eq_zero_of_lt w0 (by omega)] at this
   omega
  refine zb3 N (z8g z i) ?_ ?_ ?_
  ·refine zbc _ 300 hC G0F (m0:=[]) hC0 (by omega) ?_ ?_ ?_
   ·simp [zap,zau,zaj,zal,dom]
   ·simp [zcv]
   ·simp
  ·intro j hj
   have hpos:=hh j hj
   have hw:wi z i / 2^j<18446744073709551616:=Int.lt_of_le_of_lt (Int.ediv_le_self _ w0) w1
   have hs2:Int.bmod (1+(j:Int)+1) 18446744073709551616=1+((j+1:Nat):Int):=by rw [bm (by omega) (by omega)];omega
   have hs3:Int.bmod (64*(i:Int)) 18446744073709551616=64*(i:Int):=bm (by omega) (by omega)
   have hs4:Int.bmod (64*(i:Int)+(1+j)) 18446744073709551616=64*(i:Int)+(1+j):=jpc i j hi (Nat.lt_of_lt_of_le hj hN64)
   have hd:(wi z i / 2^j).tdiv 2=wi z i / 2^(j+1):=by
    rw [Int.tdiv_eq_ediv_of_nonneg (by omega),Int.ediv_ediv_of_nonneg (Int.le_of_lt (Int.pow_pos (by decide))),Int.pow_succ]
   have hd1:wi z i / 2^(j+1)%18446744073709551616=wi z i / 2^(j+1):=by
    rw [<-hd,Int.tdiv_eq_ediv_of_nonneg (by omega)];omega
   unfold z8g
   repeat' first|refine gwZ ?_|(refine gwX ?_;intro Q hQ _;simp [hC,hY,hpos,hs2,hs3,hs4,hd,hd1];refine gwq hQ ?_)|refine gwC ?_ ?_<;>intro hb
   refine zbc _ 300 hC G0F (m0:=[]) hC0 (by omega) ?_ ?_ ?_
   ·simp [zap,zau,zaj,zal,dom];omega
   ·simp [zcv]
   ·simp
  ·unfold z8g
   repeat' first|refine gwZ ?_|(refine gwX ?_;intro Q hQ _;simp [hC,hY,hhN,hs];refine gwq hQ ?_)|refine gwC ?_ ?_<;>intro hb
   refine zbc _ 300 hC G0F (m0:=[]) hC0 (by omega) ?_ ?_ ?_
   ·simp [zap,zau,zaj,zal,dom,hbt,hs]
   ·simp [zcv]
   ·simp
 ·unfold jkq
  repeat' first|refine gwZ ?_|(refine gwX ?_;intro Q hQ _;simp [hC,hY,jnm];refine gwq hQ ?_)|refine gwC ?_ ?_<;>intro hb
  refine ⟨.inr trivial,?_⟩
  simp [results128,jnm]
@[simp] theorem jot (z:Int) (K:Value->Prop):za2 prog G0 128 #[Value.agg #[.int .u64 (wi (z) 0),.int .u64 (wi (z) 1),.int .u64 (wi (z) 2),.int .u64 (wi (z) 3)]] K↔K (.int .i64 (za1 (uz z))):=zaf G0W (by kernel_rfl) (z2q z)
theorem z7i (a:Int) (K:Nat):∀ i,i<=K->∃ c,rp a K i=c*2^(K - i)
 | 0,_=>⟨0,by simp [rp]⟩
 | i+1,h=>by
  obtain ⟨c,hc⟩:=z7i a K i (by omega)
  have e:K - i=(K - (i+1))+1:=by omega
  have e2:K - 1 - i=K - (i+1):=by omega
  rw [e,Int.pow_succ,Int.mul_comm _ 2,<-Int.mul_assoc] at hc
  unfold rp
  rw [e2]
  split
  ·exact ⟨c*2+1,by rw [hc,Int.add_mul,Int.one_mul]⟩
  ·exact ⟨c*2,hc⟩
theorem jge (c:Int) (t r:Nat) (hr:r<64) (ht:t<4):fa 4 .u64 (upd (wi (c*2^(64*t+r+1))) t (zeh .or .u64 (wi (c*2^(64*t+r+1)) t) (2^r)))=fa 4 .u64 (wi (c*2^(64*t+r+1)+2^(64*t+r))):=by
 refine zce λj hj=>?_
 by_cases h:j=t
 ·subst h;rw [zbg,z7r c j r hr]
 ·rw [zaa _ _ h,znw c t r j hr h]
def jgt (a r:Int) (m:Int):GS :=
 ⟨tsL [(1,.pointer (some ⟨200,0,none⟩)),(2,.pointer (some ⟨208,0,none⟩)),(3,.int .i64 0),(4,.pointer (some ⟨248,0,none⟩)),(5,.int .i64 m)],
 hpL G0 [(200,wb a),(208,wb 0),(248,⟨fa 4 .u64 (wi r),.ty 86⟩)],400,0⟩
theorem jar (a:Int) (ha:wr a) (h0:a<0):Ret prog G0 109 #[wd a] (.tuple #[wd 0,.int .i64 2]):=by
 refine zav G0F func109 rfl call109 (by simp) (by simp) (by simp [ntmps109]) ?_
 intro C hC hC0 hY
 have s1:zc2 (sz a) 0<0:=by rw [zcg ha];unfold zc2;split<;>(try split)<;>omega
 repeat' first|refine gwZ ?_|(refine gwX ?_;intro Q hQ _;simp [hC,hY,s1];refine gwq hQ ?_)|refine gwC ?_ ?_<;>intro hb
 refine ⟨.inr trivial,?_⟩
 simp [results109,zd9]
theorem zrq (a:Int) (ha:wr a) (h0:0<=a):Ret prog G0 109 #[wd a] (.tuple #[wd (isq a),.int .i64 0]):=by
 refine zav G0F func109 rfl call109 (by simp) (by simp) (by simp [ntmps109]) ?_
 intro C hC hC0 hY
 have s1:¬zc2 (sz a) 0<0:=by rw [zcg ha];unfold zc2;split<;>(try split)<;>omega
 have hnb:=zfc 255 ha.2
 have eu:uz a=a:=by unfold uz;have:=ha.2;omega
 have hinv:=ztp a (za1 a / 2+1).toNat h0 (zm8 a h0)
 have hdv:=z7i a (za1 a / 2+1).toNat
 have hisq:isq a=rp a (za1 a / 2+1).toNat (za1 a / 2+1).toNat:=rfl
 have hM:0<=za1 a / 2/\za1 a / 2<=127:=by omega
 have td:(za1 a).tdiv 2=za1 a / 2:=Int.tdiv_eq_ediv_of_nonneg (by omega)
 have tb:Int.bmod (za1 a / 2) 18446744073709551616=za1 a / 2:=bm (by omega) (by omega)
 repeat' first|refine gwZ ?_|(refine gwX ?_;intro Q hQ _;simp [hC,hY,s1,eu,td,tb];refine gwq hQ ?_)|refine gwC ?_ ?_<;>intro hb
 clear td tb
 generalize za1 a / 2=M at *
 generalize hK:(M+1).toNat=K at *
 refine zb3 K (λi=>jgt a (rp a K i) (M - i)) ?_ ?_ ?_
 ·refine zbc _ 400 hC G0F (m0:=[]) hC0 (by omega) ?_ ?_ ?_
  ·simp [zap,zau,zaj,zal,dom]
  ·simp [Blk.ids,zaj,zal,ziu,wb,rp,zd9]
  ·simp
 ·intro i hi
  obtain ⟨n,hn⟩:∃ n:Nat,M - (i:Int)=n:=⟨(M - i).toNat,by omega⟩
  obtain ⟨r0,r1,r2⟩:=hinv i (by omega)
  obtain ⟨c,hc⟩:=hdv i (by omega)
  have en:K - 1 - i=n:=by omega
  have en1:K - i=n+1:=by omega
  have hrs:rp a K (i+1)=if (rp a K i+2^n)*(rp a K i+2^n)<=a then rp a K i+2^n else rp a K i:=by
   rw [rp,en]
  rw [en1] at hc
  generalize rp a K i=r at *
  have hau:=ha.2
  have hr:r<340282366920938463463374607431768211456:=z41 _ r0 (by decide) (by omega)
  have hn2:(2:Int)^n<=2^127:=by exact_mod_cast Nat.pow_le_pow_right (by omega) (by omega:n<=127)
  have hn0:=zbi n
  have t0:0<=r+2^n:=by omega
  have t1:r+2^n<680564733841876926926749214863536422912:=by omega
  have szt:sz (r+2^n)=r+2^n:=zhk t0 (Int.lt_trans t1 (by decide))
  have tt0:0<=(r+2^n)*(r+2^n):=Int.mul_nonneg t0 t0
  have hmul:zie (r+2^n) (r+2^n)=decide (¬((r+2^n)*(r+2^n)<57896044618658097711785492504343953926634992332820282019728792003956564819968)):=by
   unfold zie;rw [szt];congr 1
   exact propext ⟨λh1 h2=>h1 ⟨Int.le_trans (by decide) tt0,h2⟩,λh1 h2=>h1 h2.2⟩
  have sza:sz a=a:=zcg ha
  obtain ⟨t,q,hq,hn'⟩:∃ t q,q<64/\n=64*t+q:=⟨n / 64,n%64,by omega,by omega⟩
  have g1:(0:Int)<=n:=by omega
  have g4:Int.bmod ((n:Int) - 1) 18446744073709551616=M - ((i+1:Nat):Int):=by rw [bm (by omega) (by omega)];omega
  have tq:((n:Int)).tdiv 64=t:=by rw [Int.tdiv_eq_ediv_of_nonneg (by omega)];omega
  have tm:((n:Int)).tmod 64=q:=by rw [Int.tmod_eq_emod_of_nonneg (by omega)];omega
  have t4:t<4:=by omega
  have t4':(t:Int)<4:=by omega
  have t00:(0:Int)<=t:=by omega
  have tb:Int.bmod (t:Int) 18446744073709551616=t:=bm (by omega) (by omega)
  have t3:t<=3:=Nat.le_of_lt_succ t4
  have m1:min q 64=q:=by omega
  have m2:(2:Int)^q%18446744073709551616=2^q:=Int.emod_eq_of_lt (Int.le_of_lt (zbi _)) (by
   have:(2:Int)^q<2^64:=by exact_mod_cast Nat.pow_lt_pow_right (by omega) hq
   exact this)
  have hset:=jge c t q hq t4
  rw [<-hn',<-hc] at hset
  rw [ziu .u64 (wi (r+2^n))] at hset
  simp only [hrs]
  generalize htt:(r+2^n)*(r+2^n)=T at *
  by_cases hov:T<57896044618658097711785492504343953926634992332820282019728792003956564819968
  ·have hm:zie (r+2^n) (r+2^n)=false:=by rw [hmul];simp [hov]
   have szT:sz T=T:=zhk tt0 hov
   by_cases hle:T<=a
   ·have hcmp:zc2 (sz T) (sz a)<=0:=by rw [szT,sza];unfold zc2;split<;>(try split)<;>omega
    rw [if_pos hle]
    unfold jgt
    repeat' first|refine gwZ ?_|(refine gwX ?_;intro Q hQ _;simp [hC,hY,hn,g1,g4,tq,tm,t4,t4',t00,tb,t3,m1,m2,zdh,zcw,hset,wb,szt,htt,hm,hcmp];refine gwq hQ ?_)|refine gwC ?_ ?_<;>intro hb
    refine zbc _ 400 hC G0F (m0:=[]) hC0 (by omega) ?_ ?_ ?_
    ·simp [dom]
    ·simp [wb,ziu]
    ·simp [wb]
   ·have hcmp:¬zc2 (sz T) (sz a)<=0:=by rw [szT,sza];unfold zc2;split<;>(try split)<;>omega
    rw [if_neg hle]
    unfold jgt
    repeat' first|refine gwZ ?_|(refine gwX ?_;intro Q hQ _;simp [hC,hY,hn,g1,g4,tq,tm,t4,t4',t00,tb,t3,m1,m2,zdh,zcw,hset,wb,szt,htt,hm,hcmp];refine gwq hQ ?_)|refine gwC ?_ ?_<;>intro hb
    refine zbc _ 400 hC G0F (m0:=[]) hC0 (by omega) ?_ ?_ ?_
    ·simp [dom]
    ·simp [wb,ziu]
    ·simp [wb]
  ·have hm:zie (r+2^n) (r+2^n)=true:=by rw [hmul];simp only [hov,not_false_eq_true,decide_true]
   have hle:¬T<=a:=λh=>hov (Int.lt_of_le_of_lt h hau)
   rw [if_neg hle]
   unfold jgt
   repeat' first|refine gwZ ?_|(refine gwX ?_;intro Q hQ _;simp [hC,hY,hn,g1,g4,tq,tm,t4,t4',t00,tb,t3,m1,m2,zdh,zcw,hset,wb,szt,htt,hm];refine gwq hQ ?_)|refine gwC ?_ ?_<;>intro hb
   refine zbc _ 400 hC G0F (m0:=[]) hC0 (by omega) ?_ ?_ ?_
   ·simp [dom]
   ·simp [wb,ziu]
   ·simp [wb]
 ·have g1:¬(K:Int)<=M:=by omega
  unfold jgt
  repeat' first|refine gwZ ?_|(refine gwX ?_;intro Q hQ _;simp [hC,hY,wb,g1,ziu];refine gwq hQ ?_)|refine gwC ?_ ?_<;>intro hb
  refine ⟨.inr trivial,?_⟩
  simp [results109,hisq]
@[simp] theorem jmi (a:Int) (ha:wr a) (h0:0<=a) (K:Value->Prop):za2 prog G0 109 #[Value.agg #[.int .u64 (wi (a) 0),.int .u64 (wi (a) 1),.int .u64 (wi (a) 2),.int .u64 (wi (a) 3)]] K↔K (.tuple #[wd (isq a),.int .i64 0]):=zaf G0W (by kernel_rfl) (zrq a ha h0)
theorem zvm (a b:Int) (ha:wr a) (hB:wr b) (h0:0<=a) (hb0:0<b):Ret prog G0 82 #[wd a,wd b] (.tuple #[wd (isq (a / b)),.int .i64 0]):=by
 refine zav G0F func82 rfl call82 (by simp) (by simp) (by simp [ntmps82]) ?_
 intro C hC hC0 hY
 have s1:¬zc2 (sz a) 0<0:=by rw [zcg ha];unfold zc2;split<;>(try split)<;>omega
 have s2:¬zc2 (sz b) 0<0:=by rw [zcg hB];unfold zc2;split<;>(try split)<;>omega
 have z1:=zmw (z1o hB (by omega))
 have hd:=zsq ha h0 hb0
 have hd1:=hd.1
 have hd2:=hd.2
 repeat' first|refine gwZ ?_|(refine gwX ?_;intro Q hQ _;simp [hC,hY,s1,s2,z1,ha,h0,hB,hb0,hd1,hd2];refine gwq hQ ?_)|refine gwC ?_ ?_<;>intro hb
 refine ⟨.inr trivial,?_⟩
 simp [results82]
@[simp] theorem jos (a b:Int) (ha:wr a) (hB:wr b) (h0:0<=a) (hb0:0<b) (K:Value->Prop):za2 prog G0 82 #[Value.agg #[.int .u64 (wi (a) 0),.int .u64 (wi (a) 1),.int .u64 (wi (a) 2),.int .u64 (wi (a) 3)],Value.agg #[.int .u64 (wi (b) 0),.int .u64 (wi (b) 1),.int .u64 (wi (b) 2),.int .u64 (wi (b) 3)]] K↔K (.tuple #[wd (isq (a / b)),.int .i64 0]):=zaf G0W (by kernel_rfl) (zvm a b ha hB h0 hb0)
theorem zpg (a b:Int) (ha:wr a) (hB:wr b) (h0:0<=a) (hb0:0<b):Ret prog G0 61 #[wd a,wd b] (.tuple #[wd ((isq (a / b)+1) / 2),.int .i64 0]):=by
 refine zav G0F func61 rfl call61 (by simp) (by simp) (by simp [ntmps61]) ?_
 intro C hC hC0 hY
 have i1:=zqs
 have i2:i64 2:=by decide
 have hd:=zsq ha h0 hb0
 have hs:=z6j (a / b) hd.1 hd.2
 have hp:=(zfz (a / b) hd.2).1
 have w2:wr 2:=⟨by decide,by decide⟩
 have w1:wr (isq (a / b)+1):=⟨Int.le_trans (by decide) (Int.le_add_one hp),Int.lt_trans (Int.add_lt_add_right hs.1 1) (by decide)⟩
 have p1:0<=isq (a / b)+1:=Int.le_add_one hp
 repeat' first|refine gwZ ?_|(refine gwX ?_;intro Q hQ _;simp [hC,hY,ha,h0,hB,hb0,i1,i2,w1,w2,p1];refine gwq hQ ?_)|refine gwC ?_ ?_<;>intro hb
 refine ⟨.inr trivial,?_⟩
 simp [results61]
@[simp] theorem jmh (a b:Int) (ha:wr a) (hB:wr b) (h0:0<=a) (hb0:0<b) (K:Value->Prop):za2 prog G1 61 #[Value.agg #[.int .u64 (wi (a) 0),.int .u64 (wi (a) 1),.int .u64 (wi (a) 2),.int .u64 (wi (a) 3)],Value.agg #[.int .u64 (wi (b) 0),.int .u64 (wi (b) 1),.int .u64 (wi (b) 2),.int .u64 (wi (b) 3)]] K↔K (.tuple #[wd ((isq (a / b)+1) / 2),.int .i64 0]):=zaf G1W (by kernel_rfl) ((zpg a b ha hB h0 hb0).up zsc)
@[simp] theorem jmv (z:Int) (K:Value->Prop):za2 prog G1 62 #[Value.agg #[.int .u64 (wi (z) 0),.int .u64 (wi (z) 1),.int .u64 (wi (z) 2),.int .u64 (wi (z) 3)]] K↔K (.tuple #[.int .i64 (if i64 (sz z) then sz z else 0),.bool (decide (i64 (sz z)))]):=zaf G1W (by kernel_rfl) ((z3k z).up zsc)
def jf4 (n d g m x r:Int):Int:=if zd5 n d g m x r=0 then zbe n d g m x r else 0
theorem jax (n d g m x r:Int) (h:PIn n d g m x r):Ret prog G1 40 #[.int .i64 n,.int .i64 d,.int .i64 g,.int .i64 m,.int .i64 x,.int .i64 r] (.tuple #[.int .i64 (zbe n d g m x r),.int .i64 0]):=by
 refine zav G1F func40 rfl call40 (by simp) (by simp) (by simp [ntmps40]) ?_
 intro C hC hC0 hY
 have p1:=h.p1
 have p2:=h.p2
 have p3:=h.p3
 have p4:=h.p4
 have q1:=h.q1
 have q2:=h.q2
 have q3:=h.q3
 have q4:=h.q4
 have r0:=h.r0
 have t1:=zmh 2 n g m x ⟨by decide,⟨by have:=h.n0;omega,by have:=h.n1;omega⟩,⟨by have:=h.g0;omega,by have:=h.g1;omega⟩,⟨by have:=h.m0;omega,by have:=h.m1;omega⟩,⟨by have:=h.x0;omega,by have:=h.x1;omega⟩⟩
  ⟨⟨by decide,by decide⟩,⟨by omega,by omega⟩,⟨by omega,by omega⟩,⟨by omega,by omega⟩,⟨by omega,by omega⟩⟩
 have t2:=zmh d d r r r ⟨⟨by have:=h.d0;omega,by have:=h.d1;omega⟩,⟨by have:=h.d0;omega,by have:=h.d1;omega⟩,⟨by omega,by have:=h.r1;omega⟩,⟨by omega,by have:=h.r1;omega⟩,⟨by omega,by have:=h.r1;omega⟩⟩
  ⟨⟨by have:=h.d0;omega,by have:=h.d1;omega⟩,⟨by omega,by omega⟩,⟨by omega,by omega⟩,⟨by omega,by omega⟩,⟨by omega,by omega⟩⟩
 have wA:wr (2*n*g*m*x):=⟨by omega,by omega⟩
 have sA:=zcg wA
 have hAle:=h.a_le
 have hA0:=zen (2*n*g*m*x)
 have wA2:wr (2*n*g*m*x*(2*n*g*m*x)):=⟨by omega,by omega⟩
 have wB:wr (d*d*r*r*r):=⟨by omega,by omega⟩
 have hB0:0<d*d*r*r*r:=by omega
 have hm:=h.mag
 have hmw:wr (zf9 n d g m x r):=⟨by omega,by omega⟩
 have sM:=zcg hmw
 have iM:i64 (zf9 n d g m x r):=⟨by omega,by omega⟩
 have hmb:Int.bmod (-zf9 n d g m x r) 18446744073709551616=-zf9 n d g m x r:=bm (by omega) (by omega)
 have hpm:(isq (2*n*g*m*x*(2*n*g*m*x) / (d*d*r*r*r))+1) / 2=zf9 n d g m x r:=rfl
 have hE:zd5 n d g m x r=0:=zlq.2 h
 have hv:zbe n d g m x r=if (n<0/\0<x)\/(0<n/\x<0) then -zf9 n d g m x r else zf9 n d g m x r:=by
  have z1:x=0->zf9 n d g m x r=0:=λe=>by subst e;exact jgm n d g m r
  have z2:n=0->zf9 n d g m x r=0:=λe=>by subst e;exact jak d g m x r
  unfold zbe
  (repeat' split)<;>omega
 rw [hv]
 by_cases n1:n<0<;>by_cases n2:0<n<;>by_cases x1:x<0<;>by_cases x2:0<x
 all_goals first|(exfalso;omega)|skip
 all_goals simp only [n1,n2,x1,x2,and_self,and_true,true_and,and_false,false_and,or_self,or_true,true_or,or_false,false_or,if_true,if_false]
 all_goals
  repeat' first|refine gwZ ?_|((first|refine gwR [60] ?_|refine gwD [60] ?_);intro Q hQ _;(repeat first|simp [hC,hY,hE,sA,wA2,wB,hA0,hB0,hpm,sM,iM,hmb,n1,n2,x1,x2]|(refine zh6 t1 (by simp) (by simp) (by omega) ?_ ?_;focus (simp;done))|(refine zh6 t2 (by simp) (by simp) (by omega) ?_ ?_;focus (simp;done)));refine gwq hQ ?_)|refine gwC ?_ ?_<;>intro hb
 all_goals
  refine ⟨.inr trivial,?_⟩
  simp [results40]
theorem z4x (n d g m x r:Int) (h:zd5 n d g m x r≠0):Ret prog G1 40 #[.int .i64 n,.int .i64 d,.int .i64 g,.int .i64 m,.int .i64 x,.int .i64 r] (.tuple #[.int .i64 0,.int .i64 (zd5 n d g m x r)]):=by
 refine zav G1F func40 rfl call40 (by simp) (by simp) (by simp [ntmps40]) ?_
 intro C hC hC0 hY
 have hcb:(zd5 n d g m x r != 0)=true:=by simpa using h
 repeat' first|refine gwZ ?_|(refine gwX ?_;intro Q hQ _;simp [hC,hY,hcb];refine gwq hQ ?_)|refine gwC ?_ ?_<;>intro hb
 refine ⟨.inr trivial,?_⟩
 simp [results40]
@[simp] theorem jrt (n d g m x r:Int) (K:Value->Prop):za2 prog G1 40 #[.int .i64 n,.int .i64 d,.int .i64 g,.int .i64 m,.int .i64 x,.int .i64 r] K↔K (.tuple #[.int .i64 (jf4 n d g m x r),.int .i64 (zd5 n d g m x r)]):=by
 unfold jf4
 by_cases h:zd5 n d g m x r=0
 ·rw [if_pos h,h];exact zaf G1W (by kernel_rfl) (jax n d g m x r (zlq.1 h))
 ·rw [if_neg h];exact zaf G1W (by kernel_rfl) (z4x n d g m x r h)
instance inBdec (x:Int):Decidable (inX x):=by unfold inX;infer_instance
def sqV (x0 x1 x2:Int):Int:=if inX x0/\inX x1/\inX x2 then x0*x0+x1*x1+x2*x2 else 0
def sqE (x0 x1 x2:Int):Int:=if inX x0/\inX x1/\inX x2 then 0 else 2
theorem jo0 (x0 x1 x2:Int) (K:Value->Prop):za2 prog G1 39 #[.agg #[.int .i64 x0,.int .i64 x1,.int .i64 x2]] K↔K (.tuple #[.int .i64 (sqV x0 x1 x2),.int .i64 (sqE x0 x1 x2)]):=by
 unfold sqV sqE
 by_cases h:inX x0/\inX x1/\inX x2
 ·rw [if_pos h,if_pos h];exact zaf G1W (by kernel_rfl) (zvn x0 x1 x2 h.1 h.2.1 h.2.2)
 ·rw [if_neg h,if_neg h];exact zaf G1W (by kernel_rfl) (zrs x0 x1 x2 h)
theorem jah {n d g m x0 x1 x2:Int} (h0:inX x0) (h1:inX x1) (h2:inX x2) (h:PIn n d g m x0 (x0*x0+x1*x1+x2*x2)):PIn n d g m x1 (x0*x0+x1*x1+x2*x2)/\PIn n d g m x2 (x0*x0+x1*x1+x2*x2):=by
 have s0:=zen x0
 have s1:=zen x1
 have s2:=zen x2
 exact ⟨{ h with x0:=h1.1,x1:=h1.2,xr:=by omega },{ h with x0:=h2.1,x1:=h2.2,xr:=by omega }⟩
theorem z4z (n d g m x0 x1 x2:Int) (h:inX x0/\inX x1/\inX x2) (k0:PIn n d g m x0 (x0*x0+x1*x1+x2*x2)):Ret prog G1 21 #[.int .i64 n,.int .i64 d,.int .i64 g,.int .i64 m,vv x0 x1 x2] (.tuple #[vv (zbe n d g m x0 (x0*x0+x1*x1+x2*x2)) (zbe n d g m x1 (x0*x0+x1*x1+x2*x2)) (zbe n d g m x2 (x0*x0+x1*x1+x2*x2)),.int .i64 0]):=by
 refine zav G1F func21 rfl call21 (by simp [vv]) (by simp [vv]) (by simp [ntmps21]) ?_
 intro C hC hC0 hY
 have k:=jah h.1 h.2.1 h.2.2 k0
 have e0:sqV x0 x1 x2=x0*x0+x1*x1+x2*x2:=if_pos h
 have e1:sqE x0 x1 x2=0:=if_pos h
 have f0:=zlq.2 k0
 have f1:=zlq.2 k.1
 have f2:=zlq.2 k.2
 generalize x0*x0+x1*x1+x2*x2=r at *
 have g0:jf4 n d g m x0 r=zbe n d g m x0 r:=if_pos f0
 have g1:jf4 n d g m x1 r=zbe n d g m x1 r:=if_pos f1
 have g2:jf4 n d g m x2 r=zbe n d g m x2 r:=if_pos f2
 repeat' first|refine zad ?_|refine zag ?_|refine gwZ ?_|(refine gwX ?_;intro Q hQ _;simp [hC,hY,vv,jo0,e0,e1,f0,f1,f2,g0,g1,g2];refine gwq hQ ?_)|refine gwC ?_ ?_<;>intro hb
 refine ⟨.inr trivial,?_⟩
 simp [results21,vv]
theorem zvy (n d g m x0 x1 x2:Int) (h:inX x0/\inX x1/\inX x2) (he:zd5 n d g m x0 (x0*x0+x1*x1+x2*x2)≠0):Ret prog G1 21 #[.int .i64 n,.int .i64 d,.int .i64 g,.int .i64 m,vv x0 x1 x2] (.tuple #[vv 0 0 0,.int .i64 (zd5 n d g m x0 (x0*x0+x1*x1+x2*x2))]):=by
 refine zav G1F func21 rfl call21 (by simp [vv]) (by simp [vv]) (by simp [ntmps21]) ?_
 intro C hC hC0 hY
 have e0:sqV x0 x1 x2=x0*x0+x1*x1+x2*x2:=if_pos h
 have e1:sqE x0 x1 x2=0:=if_pos h
 have hcb:(zd5 n d g m x0 (x0*x0+x1*x1+x2*x2) != 0)=true:=by simpa using he
 repeat' first|refine zad ?_|refine zag ?_|refine gwZ ?_|(refine gwX ?_;intro Q hQ _;simp [hC,hY,vv,jo0,e0,e1,hcb];refine gwq hQ ?_)|refine gwC ?_ ?_<;>intro hb
 refine ⟨.inr trivial,?_⟩
 simp [results21,vv]
theorem zdm (L:List (Nat×Blk)) (ka ks:Nat) (bm bs:Blk) (hT:LKa L ka ks bm bs) (off n cap off2 n2 cap2:Nat) (fm fs:Nat->Int) (hm:MB bm off n fm) (hSb:SB bs off2 n2 fs) (g bx tp nr md st:Int) :
  Fun prog G1 20 #[cfV (.slice (some ⟨ka,off,none⟩) n cap) g bx tp nr md,.agg #[.int .i64 st,.slice (some ⟨ks,off2,none⟩) n2 cap2]] (hpL G1 L) (zab L) (.ret (.bool (zjo n n2 (zd2 n fm g bx tp nr md) (zay st fs n2))) []):=by
 rcases hT.a8 with e|e
 ·subst e
  exact (zsv L ks bm bs hT.tw off n cap off2 n2 cap2 fm fs hm hSb g bx tp nr md st).up1 hT.ok
 ·obtain ⟨rfl,rfl,rfl⟩:=hT.ag e
  subst e
  have h:=(zsv _ 108 lmB bs (LTwo.two zjj hSb.fx) off n cap off2 n2 cap2 fm fs hm hSb g bx tp nr md st).mvG (z6x hSb.fx) (λk hk=>by cases hk) rfl
  simpa [cfV,ren,zas,zan,zao,gmv,rnL] using h
theorem zve (n d:Int):Ret prog G1 29 #[.int .i64 n,.int .i64 d] (.bool (zdi n d)):=by
 refine zav G1F func29 rfl call29 (by simp) (by simp) (by simp [ntmps29]) ?_
 intro C hC hC0 hY
 cases hb9:zdi n d with
 | true =>
  obtain ⟨p1,p2,p3,p4⟩:=zej.1 hb9
  repeat' first|refine gwZ ?_|(refine gwX ?_;intro Q hQ _;simp [hC,hY,p1,p2,p3,p4];refine gwq hQ ?_)|refine gwC ?_ ?_<;>intro hb
  refine ⟨.inr trivial,?_⟩
  simp [results29]
 | false =>
  have hb0:¬(-2097152<=n/\n<=2097152/\1<=d/\d<=2097152):=λh=>by rw [zej.2 h] at hb9;cases hb9
  have cs:¬ -2097152<=n\/(-2097152<=n/\¬n<=2097152)\/(-2097152<=n/\n<=2097152/\¬1<=d)\/(-2097152<=n/\n<=2097152/\1<=d/\¬d<=2097152):=by omega
  rcases cs with c1|⟨c1,c2⟩|⟨c1,c2,c3⟩|⟨c1,c2,c3,c4⟩
  ·
   repeat' first|refine gwZ ?_|(refine gwX ?_;intro Q hQ _;simp [hC,hY,c1];refine gwq hQ ?_)|refine gwC ?_ ?_<;>intro hb
   refine ⟨.inr trivial,?_⟩
   simp [results29]
  ·
   repeat' first|refine gwZ ?_|(refine gwX ?_;intro Q hQ _;simp [hC,hY,c1,c2];refine gwq hQ ?_)|refine gwC ?_ ?_<;>intro hb
   refine ⟨.inr trivial,?_⟩
   simp [results29]
  ·
   repeat' first|refine gwZ ?_|(refine gwX ?_;intro Q hQ _;simp [hC,hY,c1,c2,c3];refine gwq hQ ?_)|refine gwC ?_ ?_<;>intro hb
   refine ⟨.inr trivial,?_⟩
   simp [results29]
  ·
   repeat' first|refine gwZ ?_|(refine gwX ?_;intro Q hQ _;simp [hC,hY,c1,c2,c3,c4];refine gwq hQ ?_)|refine gwC ?_ ?_<;>intro hb
   refine ⟨.inr trivial,?_⟩
   simp [results29]
@[simp] theorem jom (n d:Int) (K:Value->Prop):za2 prog G1 29 #[.int .i64 n,.int .i64 d] K↔K (.bool (zdi n d)):=zaf G1W (by kernel_rfl) (zve n d)
theorem ja7 {a0 a1 a2 b0 b1 b2:Int} (h:inW 1048576 a0/\inW 1048576 a1/\inW 1048576 a2) (k:inW 1048576 b0/\inW 1048576 b1/\inW 1048576 b2) (K:Value->Prop):za2 prog G1 30 #[.agg #[.int .i64 a0,.int .i64 a1,.int .i64 a2],.agg #[.int .i64 b0,.int .i64 b1,.int .i64 b2]] K↔K (.tuple #[.agg #[.int .i64 (a0 - b0),.int .i64 (a1 - b1),.int .i64 (a2 - b2)],.int .i64 0]):=zaf G1W (by kernel_rfl) ((z46 h k).up zsc)
theorem zpp {n d g m x0 x1 x2 r:Int} (hr:x0*x0+x1*x1+x2*x2=r) (k0:PIn n d g m x0 r) (k1:PIn n d g m x1 r) (k2:PIn n d g m x2 r) (K:Value->Prop):za2 prog G1 21 #[.int .i64 n,.int .i64 d,.int .i64 g,.int .i64 m,.agg #[.int .i64 x0,.int .i64 x1,.int .i64 x2]] K ↔
  K (.tuple #[.agg #[.int .i64 (zbe n d g m x0 r),.int .i64 (zbe n d g m x1 r),.int .i64 (zbe n d g m x2 r)],.int .i64 0]):=by
 subst hr
 exact zaf G1W (by kernel_rfl) (z4z n d g m x0 x1 x2 ⟨⟨k0.x0,k0.x1⟩,⟨k1.x0,k1.x1⟩,⟨k2.x0,k2.x1⟩⟩ k0)
theorem z4y {n d g m x0 x1 x2:Int} (hr:x0*x0+x1*x1+x2*x2=0) (h0:inX x0) (h1:inX x1) (h2:inX x2) (hp:zdi n d=true) (hg:1<=g/\g<=1048576) (hm:1<=m/\m<=1024) (K:Value->Prop):za2 prog G1 21 #[.int .i64 n,.int .i64 d,.int .i64 g,.int .i64 m,.agg #[.int .i64 x0,.int .i64 x1,.int .i64 x2]] K ↔
  K (.tuple #[.agg #[.int .i64 0,.int .i64 0,.int .i64 0],.int .i64 30]):=by
 obtain ⟨p1,p2,p3,p4⟩:=zej.1 hp
 obtain ⟨h01,h02⟩:=h0
 have e:zd5 n d g m x0 (x0*x0+x1*x1+x2*x2)=30:=by
  unfold zd5
  rw [hr,if_pos (by omega)]
  rfl
 have:=zvy n d g m x0 x1 x2 ⟨⟨h01,h02⟩,h1,h2⟩ (by rw [e];decide)
 rw [e] at this
 exact zaf G1W (by kernel_rfl) this
theorem z0n (L:List (Nat×Blk)) (ka ks:Nat) (bm bs:Blk) (hT:LKa L ka ks bm bs) (off n cap off2 N2 cap2:Nat) (fm fs:Nat->Int) (hm:MB bm off n fm) (hSb:SB bs off2 N2 fs) (g bx tp nr md st:Int) (hs:i64 st) (p q z:Int) (hf:zjo n N2 (zd2 n fm g bx tp nr md) (zay st fs N2)=false) :
  Fun prog G1 10 #[cfV (.slice (some ⟨ka,off,none⟩) n cap) g bx tp nr md,.agg #[.int .i64 st,.slice (some ⟨ks,off2,none⟩) N2 cap2],.int .i64 p,.int .i64 q,.int .i64 z] (hpL G1 L) (zab L) (.ret (.tuple #[.agg #[.int .i64 0,.int .i64 0,.int .i64 0],.int .i64 2]) []):=by
 refine zbr (B:=200) G1F func10 rfl call10 hT.ok ?_ (zak (by simp)) (by simp) (by simp) (by simp [ntmps10]) (by omega) ?_
 ·simp [zap,zau,zaj,zal,hT.ia,hT.ib,cfV]
 intro C hC hC0 hY
 have hA:=hT.a
 have hS:=hT.s
 have hne:=hT.ne
 have hna:=hT.na
 have hLow:=hT.low
 have hks:=hT.k1
 have hks2:=hT.k2
 have hfit:=zdm L ka ks bm bs hT off n cap off2 N2 cap2 fm fs hm hSb g bx tp nr md st
 rw [hf] at hfit
 unfold cfV at hfit |-
 repeat' first|refine gwZ ?_|((first|refine gwR [20] ?_|refine gwD [20] ?_);intro Q hQ _;(repeat first|simp [hC,hY,hA,hS,hne,hna]|refine zar hfit hT.ok zby ?_);refine gwq hQ ?_)|refine gwC ?_ ?_<;>intro hb
 refine ⟨.inr rfl,by simp [results10],kpT G1F⟩
theorem zpm (L:List (Nat×Blk)) (ka ks:Nat) (bm bs:Blk) (hT:LKa L ka ks bm bs) (off n cap off2 N2 cap2:Nat) (fm fs:Nat->Int) (hm:MB bm off n fm) (hSb:SB bs off2 N2 fs) (g bx tp nr md st:Int) (hs:i64 st) (p q z:Int) (hf:zjo n N2 (zd2 n fm g bx tp nr md) (zay st fs N2)=true) (hb0:¬((0<=z/\z<N2)/\zdi p q=true)) :
  Fun prog G1 10 #[cfV (.slice (some ⟨ka,off,none⟩) n cap) g bx tp nr md,.agg #[.int .i64 st,.slice (some ⟨ks,off2,none⟩) N2 cap2],.int .i64 p,.int .i64 q,.int .i64 z] (hpL G1 L) (zab L) (.ret (.tuple #[.agg #[.int .i64 0,.int .i64 0,.int .i64 0],.int .i64 2]) []):=by
 refine zbr (B:=200) G1F func10 rfl call10 hT.ok ?_ (zak (by simp)) (by simp) (by simp) (by simp [ntmps10]) (by omega) ?_
 ·simp [zap,zau,zaj,zal,hT.ia,hT.ib,cfV]
 intro C hC hC0 hY
 have hA:=hT.a
 have hS:=hT.s
 have hne:=hT.ne
 have hna:=hT.na
 have hLow:=hT.low
 have hks:=hT.k1
 have hks2:=hT.k2
 have hfit:=zdm L ka ks bm bs hT off n cap off2 N2 cap2 fm fs hm hSb g bx tp nr md st
 rw [hf] at hfit
 unfold cfV at hfit |-
 by_cases c1:z<0
 ·
  repeat' first|refine gwZ ?_|((first|refine gwR [20] ?_|refine gwD [20] ?_);intro Q hQ _;(repeat first|simp [hC,hY,hA,hS,hne,hna,c1]|refine zar hfit hT.ok zby ?_);refine gwq hQ ?_)|refine gwC ?_ ?_<;>intro hb
  refine ⟨.inr rfl,by simp [results10],kpT G1F⟩
 ·by_cases c2:(N2:Int)<=z
  ·
   repeat' first|refine gwZ ?_|((first|refine gwR [20] ?_|refine gwD [20] ?_);intro Q hQ _;(repeat first|simp [hC,hY,hA,hS,hne,hna,c1,c2]|refine zar hfit hT.ok zby ?_);refine gwq hQ ?_)|refine gwC ?_ ?_<;>intro hb
   refine ⟨.inr rfl,by simp [results10],kpT G1F⟩
  ·have c3:zdi p q=false:=by
    cases h:zdi p q with
    | false=>rfl
    | true=>exact absurd ⟨⟨by omega,by omega⟩,h⟩ hb0
   repeat' first|refine gwZ ?_|((first|refine gwR [20] ?_|refine gwD [20] ?_);intro Q hQ _;(repeat first|simp [hC,hY,hA,hS,hne,hna,c1,c2,c3]|refine zar hfit hT.ok zby ?_);refine gwq hQ ?_)|refine gwC ?_ ?_<;>intro hb
   refine ⟨.inr rfl,by simp [results10],kpT G1F⟩
def z7h (L:List (Nat×Blk)) (ka ks off n cap off2 cap2:Nat) (g bx tp nr md st p q z:Int) (F:Nat->Nat->Int) (i k:Nat):GS :=
 ⟨tsL [(2,.int .i64 p),(3,.int .i64 q),(4,.int .i64 z),(5,.pointer (some ⟨200,0,none⟩)),(6,.pointer (some ⟨208,0,none⟩)),(10,.pointer (some ⟨216,0,none⟩)),(11,.int .i64 0),(12,.pointer (some ⟨400,0,none⟩)),(13,.int .i64 k)],
 hpL G1 ([(200,cfB (.slice (some ⟨ka,off,none⟩) n cap) g bx tp nr md),(208,zcu st ks off2 n cap2),(216,vb 0 0 0),(400,vb (zd8 (λk=>if k=i then 0 else F 0 k) k) (zd8 (λk=>if k=i then 0 else F 1 k) k) (zd8 (λk=>if k=i then 0 else F 2 k) k))]++L),1000,0⟩
theorem zgb {F:Nat->Int} {i k:Nat}:zd8 (λk=>if k=i then 0 else F k) (k+1)=zd8 (λk=>if k=i then 0 else F k) k+if k=i then 0 else F k:=rfl
theorem zuy {n d g bx tp nr md st:Int} {fm fs:Nat->Int} {N i u k:Nat} (hok:zd2 N fm g bx tp nr md=true) (hr:zay st fs N=true) (hp:zdi n d=true) (hi:i<N) (hu:u<3) (hk:k<=N) (hz:∀ j,j<k->j≠i->¬d2F fs j i=0):-18014398509481984<=zd8 (λk=>if k=i then 0 else kpF n d g fm fs i u k) k/\zd8 (λk=>if k=i then 0 else kpF n d g fm fs i u k) k<=18014398509481984:=by
 have hn:=(zcs hr).2.1
 have h:=z04 (f:=λk=>if k=i then 0 else kpF n d g fm fs i u k) (n:=k) (lo:=-4503599627370496) (hi:=4503599627370496) λj hj=>by
  by_cases e:j=i
  ·simp [e]
  ·have:=zfa (zib (u:=u) hok hr hp hi (show j<N by omega) hu (hz j hj e))
   simp only [if_neg e]
   exact this
 omega
theorem zkz (L:List (Nat×Blk)) (ka ks:Nat) (bm bs:Blk) (hT:LKa L ka ks bm bs) (off n cap off2 cap2:Nat) (fm fs:Nat->Int) (hm:MB bm off n fm) (hSb:SB bs off2 n fs) (g bx tp nr md st:Int) (hs:i64 st) (p q z:Int) (hok:zd2 n fm g bx tp nr md=true) (hrt:zay st fs n=true) (hp:zdi p q=true) (i:Nat) (hi:i<n) (hiz:(i:Int)=z) (hz:kZ fs n i=false) :
  Fun prog G1 10 #[cfV (.slice (some ⟨ka,off,none⟩) n cap) g bx tp nr md,.agg #[.int .i64 st,.slice (some ⟨ks,off2,none⟩) n cap2],.int .i64 p,.int .i64 q,.int .i64 z] (hpL G1 L) (zab L) (.ret (.tuple #[.agg #[.int .i64 (kS p q g fm fs n i 0),.int .i64 (kS p q g fm fs n i 1),.int .i64 (kS p q g fm fs n i 2)],.int .i64 0]) []):=by
 refine zbr (B:=200) G1F func10 rfl call10 hT.ok ?_ (zak (by simp)) (by simp) (by simp) (by simp [ntmps10]) (by omega) ?_
 ·simp [zap,zau,zaj,zal,hT.ia,hT.ib,cfV]
 intro C hC hC0 hY
 have hA:=hT.a
 have hS:=hT.s
 have hne:=hT.ne
 have hna:=hT.na
 have hLow:=hT.low
 have hks:=hT.k1
 have hks2:=hT.k2
 have hfit:=zdm L ka ks bm bs hT off n cap off2 n cap2 fm fs hm hSb g bx tp nr md st
 rw [zde.2 ⟨rfl,hok,hrt⟩] at hfit
 have hn4:=(zcs hrt).2.1
 have c1:¬z<0:=by omega
 have c2:¬(n:Int)<=z:=by omega
 have z0:0<=z:=by omega
 have zn:z<n:=by omega
 have zt:z.toNat=i:=by omega
 have zi:z.toNat<n:=by omega
 unfold cfV at hfit |-
 repeat' first|refine gwZ ?_|((first|refine gwR [20] ?_|refine gwD [20] ?_);intro Q hQ _;(repeat first|simp [hC,hY,hA,hS,hne,hna,c1,c2,hp]|refine zar hfit hT.ok zby ?_);refine gwq hQ ?_)|refine gwC ?_ ?_<;>intro hb
 refine zb3 n (z7h L ka ks off n cap off2 cap2 g bx tp nr md st p q z (kpF p q g fm fs i) i) ?_ ?_ ?_
 ·refine zc1 _ 1000 hC G1F hT.ok hT.fx hC0 (by omega) ?_ ?_ zby
  ·simp [zap,zau,zaj,zal,dom,hA,hS,hne,hna]
  ·simp [cfB,zcu,vb,zd8,zae,zaj,zal,dom,hA,hS,hne,hna]
 ·intro k hk0
  have hk:k<n:=by omega
  have hk1:(k:Int)<n:=by omega
  have hk2:(0:Int)<=k:=by omega
  have hs':=zdp hk hn4.2
  have hpre:∀ j,j<k->j≠i->¬d2F fs j i=0:=λj hj ej=>je8.1 hz j (by omega) ej
  by_cases e:k=i
  ·have es0:zd8 (λk=>if k=i then 0 else kpF p q g fm fs i 0 k) (k+1)=zd8 (λk=>if k=i then 0 else kpF p q g fm fs i 0 k) k:=by rw [zgb,if_pos e];omega
   have es1:zd8 (λk=>if k=i then 0 else kpF p q g fm fs i 1 k) (k+1)=zd8 (λk=>if k=i then 0 else kpF p q g fm fs i 1 k) k:=by rw [zgb,if_pos e];omega
   have es2:zd8 (λk=>if k=i then 0 else kpF p q g fm fs i 2 k) (k+1)=zd8 (λk=>if k=i then 0 else kpF p q g fm fs i 2 k) k:=by rw [zgb,if_pos e];omega
   unfold z7h
   rw [es0,es1,es2]
   subst e
   subst hiz
   unfold cfB zcu vb
   repeat' first|refine gwZ ?_|(refine gwX ?_;intro Q hQ _;simp [hC,hY,hA,hS,hne,hna,hk,hk1,hk2,hs'];refine gwq hQ ?_)|refine gwC ?_ ?_<;>intro hb
   refine zc1 _ 1000 hC G1F hT.ok hT.fx hC0 (by omega) ?_ ?_ zby
   ·simp [zap,zau,zaj,zal,dom,hA,hS,hne,hna,hs']
   ·simp [zae,zaj,zal,dom,hA,hS,hne,hna]
  ·have ez:¬(k:Int)=z:=by omega
   have ez':((k:Int)==z)=false:=by simpa using ez
   have hz1:=je8.1 hz k hk e
   have u0:=zuy (u:=0) hok hrt hp hi (by omega) (Nat.le_of_lt hk) hpre
   have u1:=zuy (u:=1) hok hrt hp hi (by omega) (Nat.le_of_lt hk) hpre
   have u2:=zuy (u:=2) hok hrt hp hi (by omega) (Nat.le_of_lt hk) hpre
   have P0:=zib (u:=0) hok hrt hp hi hk (by omega) hz1
   have P1:=zib (u:=1) hok hrt hp hi hk (by omega) hz1
   have P2:=zib (u:=2) hok hrt hp hi hk (by omega) hz1
   have y0:=zfa P0
   have y1:=zfa P1
   have y2:=zfa P2
   have P:=λK=>zpp (zlz i k) P0 P1 P2 K
   have S:=λK=>ja7 (ze3 hrt hk).1 (ze3 hrt hi).1 K
   have bk:=hSb.vec hk (u:=0) (by omega)
   have bi:=hSb.vec hi (u:=0) (by omega)
   have mk:=hm.at hk
   simp only [Nat.add_zero,Nat.zero_add] at y0 P bk bi
   have es0:zd8 (λk=>if k=i then 0 else kpF p q g fm fs i 0 k) (k+1)=zd8 (λk=>if k=i then 0 else kpF p q g fm fs i 0 k) k+zbe p q g (fm k) (fs (6*k) - fs (6*i)) (d2F fs k i):=by rw [zgb,if_neg e];rfl
   have es1:zd8 (λk=>if k=i then 0 else kpF p q g fm fs i 1 k) (k+1)=zd8 (λk=>if k=i then 0 else kpF p q g fm fs i 1 k) k+zbe p q g (fm k) (fs (6*k+1) - fs (6*i+1)) (d2F fs k i):=by rw [zgb,if_neg e];rfl
   have es2:zd8 (λk=>if k=i then 0 else kpF p q g fm fs i 2 k) (k+1)=zd8 (λk=>if k=i then 0 else kpF p q g fm fs i 2 k) k+zbe p q g (fm k) (fs (6*k+2) - fs (6*i+2)) (d2F fs k i):=by rw [zgb,if_neg e];rfl
   unfold z7h
   rw [es0,es1,es2]
   clear es0 es1 es2 P0 P1 P2
   generalize zd8 (λk=>if k=i then 0 else kpF p q g fm fs i 0 k) k=A0 at *
   generalize zd8 (λk=>if k=i then 0 else kpF p q g fm fs i 1 k) k=A1 at *
   generalize zd8 (λk=>if k=i then 0 else kpF p q g fm fs i 2 k) k=A2 at *
   generalize zbe p q g (fm k) (fs (6*k) - fs (6*i)) (d2F fs k i)=a0 at *
   generalize zbe p q g (fm k) (fs (6*k+1) - fs (6*i+1)) (d2F fs k i)=a1 at *
   generalize zbe p q g (fm k) (fs (6*k+2) - fs (6*i+2)) (d2F fs k i)=a2 at *
   have q0:Int.bmod (A0+a0) 18446744073709551616=A0+a0:=Go.Gy.bm (by omega) (by omega)
   have q1:Int.bmod (A1+a1) 18446744073709551616=A1+a1:=Go.Gy.bm (by omega) (by omega)
   have q2:Int.bmod (A2+a2) 18446744073709551616=A2+a2:=Go.Gy.bm (by omega) (by omega)
   unfold cfB zcu vb
   repeat' first|refine zad ?_|refine zag ?_|refine gwZ ?_|(refine gwX ?_;intro Q hQ hP;simp [hC,hY,hA,hS,hne,hna,hk,hk1,hk2,hs',ez,ez',z0,zn,zt,zi,P,S,bk,bi,mk,q0,q1,q2];(first|refine hQ _ _ _ _ (by rcases hT.k8 with h8|h8<;>rcases hT.a8 with h9|h9<;>subst h8<;>subst h9<;>kernel_rfl) ?_|refine hP _ _ (by rcases hT.k8 with h8|h8<;>rcases hT.a8 with h9|h9<;>subst h8<;>subst h9<;>kernel_rfl) λ_=>?_))|refine gwC ?_ ?_<;>intro hb
   refine zc1 _ 1000 hC G1F hT.ok hT.fx hC0 (by omega) ?_ ?_ zby
   ·simp [zap,zau,zaj,zal,dom,hA,hS,hne,hna,hs']
   ·simp [zae,zaj,zal,dom,hA,hS,hne,hna]
 ·have e0:zd8 (λk=>if k=i then 0 else kpF p q g fm fs i 0 k) n=kS p q g fm fs n i 0:=(zti _ i n).symm
  have e1:zd8 (λk=>if k=i then 0 else kpF p q g fm fs i 1 k) n=kS p q g fm fs n i 1:=(zti _ i n).symm
  have e2:zd8 (λk=>if k=i then 0 else kpF p q g fm fs i 2 k) n=kS p q g fm fs n i 2:=(zti _ i n).symm
  unfold z7h
  rw [e0,e1,e2]
  unfold cfB zcu vb
  repeat' first|refine gwZ ?_|refine gwV ?_|refine gwC ?_ ?_<;>intro hb
  refine ⟨.inr rfl,by simp [results10],kpT G1F⟩
theorem z6a {P:Nat->Prop}:∀ {n:Nat},(∃ k,k<n/\P k)->∃ N,N<n/\P N/\∀ j,j<N->¬P j
 | 0,h=>by obtain ⟨k,hk,_⟩:=h;omega
 | n+1,h=>by
  by_cases c:∃ k,k<n/\P k
  ·obtain ⟨N,h1,h2,h3⟩:=z6a c
   exact ⟨N,by omega,h2,h3⟩
  ·obtain ⟨k,hk,hP⟩:=h
   have e:k=n:=Nat.le_antisymm (by omega) (Nat.le_of_not_lt λh1=>c ⟨k,h1,hP⟩)
   subst e
   exact ⟨k,by omega,hP,λj hj hj2=>c ⟨j,hj,hj2⟩⟩
theorem zto (L:List (Nat×Blk)) (ka ks:Nat) (bm bs:Blk) (hT:LKa L ka ks bm bs) (off n cap off2 cap2:Nat) (fm fs:Nat->Int) (hm:MB bm off n fm) (hSb:SB bs off2 n fs) (g bx tp nr md st:Int) (hs:i64 st) (p q z:Int) (hok:zd2 n fm g bx tp nr md=true) (hrt:zay st fs n=true) (hp:zdi p q=true) (i:Nat) (hi:i<n) (hiz:(i:Int)=z) (hz:kZ fs n i=true) :
  Fun prog G1 10 #[cfV (.slice (some ⟨ka,off,none⟩) n cap) g bx tp nr md,.agg #[.int .i64 st,.slice (some ⟨ks,off2,none⟩) n cap2],.int .i64 p,.int .i64 q,.int .i64 z] (hpL G1 L) (zab L) (.ret (.tuple #[.agg #[.int .i64 0,.int .i64 0,.int .i64 0],.int .i64 30]) []):=by
 refine zbr (B:=200) G1F func10 rfl call10 hT.ok ?_ (zak (by simp)) (by simp) (by simp) (by simp [ntmps10]) (by omega) ?_
 ·simp [zap,zau,zaj,zal,hT.ia,hT.ib,cfV]
 intro C hC hC0 hY
 have hA:=hT.a
 have hS:=hT.s
 have hne:=hT.ne
 have hna:=hT.na
 have hLow:=hT.low
 have hks:=hT.k1
 have hks2:=hT.k2
 have hfit:=zdm L ka ks bm bs hT off n cap off2 n cap2 fm fs hm hSb g bx tp nr md st
 rw [zde.2 ⟨rfl,hok,hrt⟩] at hfit
 have hn4:=(zcs hrt).2.1
 have c1:¬z<0:=by omega
 have c2:¬(n:Int)<=z:=by omega
 have z0:0<=z:=by omega
 have zn:z<n:=by omega
 have zt:z.toNat=i:=by omega
 have zi:z.toNat<n:=by omega
 obtain ⟨N,hN,⟨hNi,hzN⟩,hbef⟩:=z6a (P:=λk=>k≠i/\d2F fs k i=0) (n:=n) (by obtain ⟨k,h1,h2,h3⟩:=job.1 hz;exact ⟨k,h1,h2,h3⟩)
 unfold cfV at hfit |-
 repeat' first|refine gwZ ?_|((first|refine gwR [20] ?_|refine gwD [20] ?_);intro Q hQ _;(repeat first|simp [hC,hY,hA,hS,hne,hna,c1,c2,hp]|refine zar hfit hT.ok zby ?_);refine gwq hQ ?_)|refine gwC ?_ ?_<;>intro hb
 refine zb3 N (z7h L ka ks off n cap off2 cap2 g bx tp nr md st p q z (kpF p q g fm fs i) i) ?_ ?_ ?_
 ·refine zc1 _ 1000 hC G1F hT.ok hT.fx hC0 (by omega) ?_ ?_ zby
  ·simp [zap,zau,zaj,zal,dom,hA,hS,hne,hna]
  ·simp [cfB,zcu,vb,zd8,zae,zaj,zal,dom,hA,hS,hne,hna]
 ·intro k hk0
  have hk:k<n:=by omega
  have hk1:(k:Int)<n:=by omega
  have hk2:(0:Int)<=k:=by omega
  have hs':=zdp hk hn4.2
  have hpre:∀ j,j<k->j≠i->¬d2F fs j i=0:=λj hj ej h=>hbef j (by omega) ⟨ej,h⟩
  by_cases e:k=i
  ·have es0:zd8 (λk=>if k=i then 0 else kpF p q g fm fs i 0 k) (k+1)=zd8 (λk=>if k=i then 0 else kpF p q g fm fs i 0 k) k:=by rw [zgb,if_pos e];omega
   have es1:zd8 (λk=>if k=i then 0 else kpF p q g fm fs i 1 k) (k+1)=zd8 (λk=>if k=i then 0 else kpF p q g fm fs i 1 k) k:=by rw [zgb,if_pos e];omega
   have es2:zd8 (λk=>if k=i then 0 else kpF p q g fm fs i 2 k) (k+1)=zd8 (λk=>if k=i then 0 else kpF p q g fm fs i 2 k) k:=by rw [zgb,if_pos e];omega
   unfold z7h
   rw [es0,es1,es2]
   subst e
   subst hiz
   unfold cfB zcu vb
   repeat' first|refine gwZ ?_|(refine gwX ?_;intro Q hQ _;simp [hC,hY,hA,hS,hne,hna,hk,hk1,hk2,hs'];refine gwq hQ ?_)|refine gwC ?_ ?_<;>intro hb
   refine zc1 _ 1000 hC G1F hT.ok hT.fx hC0 (by omega) ?_ ?_ zby
   ·simp [zap,zau,zaj,zal,dom,hA,hS,hne,hna,hs']
   ·simp [zae,zaj,zal,dom,hA,hS,hne,hna]
  ·have ez:¬(k:Int)=z:=by omega
   have ez':((k:Int)==z)=false:=by simpa using ez
   have hz1:=(λh=>hbef k hk0 ⟨e,h⟩:¬d2F fs k i=0)
   have u0:=zuy (u:=0) hok hrt hp hi (by omega) (Nat.le_of_lt hk) hpre
   have u1:=zuy (u:=1) hok hrt hp hi (by omega) (Nat.le_of_lt hk) hpre
   have u2:=zuy (u:=2) hok hrt hp hi (by omega) (Nat.le_of_lt hk) hpre
   have P0:=zib (u:=0) hok hrt hp hi hk (by omega) hz1
   have P1:=zib (u:=1) hok hrt hp hi hk (by omega) hz1
   have P2:=zib (u:=2) hok hrt hp hi hk (by omega) hz1
   have y0:=zfa P0
   have y1:=zfa P1
   have y2:=zfa P2
   have P:=λK=>zpp (zlz i k) P0 P1 P2 K
   have S:=λK=>ja7 (ze3 hrt hk).1 (ze3 hrt hi).1 K
   have bk:=hSb.vec hk (u:=0) (by omega)
   have bi:=hSb.vec hi (u:=0) (by omega)
   have mk:=hm.at hk
   simp only [Nat.add_zero,Nat.zero_add] at y0 P bk bi
   have es0:zd8 (λk=>if k=i then 0 else kpF p q g fm fs i 0 k) (k+1)=zd8 (λk=>if k=i then 0 else kpF p q g fm fs i 0 k) k+zbe p q g (fm k) (fs (6*k) - fs (6*i)) (d2F fs k i):=by rw [zgb,if_neg e];rfl
   have es1:zd8 (λk=>if k=i then 0 else kpF p q g fm fs i 1 k) (k+1)=zd8 (λk=>if k=i then 0 else kpF p q g fm fs i 1 k) k+zbe p q g (fm k) (fs (6*k+1) - fs (6*i+1)) (d2F fs k i):=by rw [zgb,if_neg e];rfl
   have es2:zd8 (λk=>if k=i then 0 else kpF p q g fm fs i 2 k) (k+1)=zd8 (λk=>if k=i then 0 else kpF p q g fm fs i 2 k) k+zbe p q g (fm k) (fs (6*k+2) - fs (6*i+2)) (d2F fs k i):=by rw [zgb,if_neg e];rfl
   unfold z7h
   rw [es0,es1,es2]
   clear es0 es1 es2 P0 P1 P2
   generalize zd8 (λk=>if k=i then 0 else kpF p q g fm fs i 0 k) k=A0 at *
   generalize zd8 (λk=>if k=i then 0 else kpF p q g fm fs i 1 k) k=A1 at *
   generalize zd8 (λk=>if k=i then 0 else kpF p q g fm fs i 2 k) k=A2 at *
   generalize zbe p q g (fm k) (fs (6*k) - fs (6*i)) (d2F fs k i)=a0 at *
   generalize zbe p q g (fm k) (fs (6*k+1) - fs (6*i+1)) (d2F fs k i)=a1 at *
   generalize zbe p q g (fm k) (fs (6*k+2) - fs (6*i+2)) (d2F fs k i)=a2 at *
   have q0:Int.bmod (A0+a0) 18446744073709551616=A0+a0:=Go.Gy.bm (by omega) (by omega)
   have q1:Int.bmod (A1+a1) 18446744073709551616=A1+a1:=Go.Gy.bm (by omega) (by omega)
   have q2:Int.bmod (A2+a2) 18446744073709551616=A2+a2:=Go.Gy.bm (by omega) (by omega)
   unfold cfB zcu vb
   repeat' first|refine zad ?_|refine zag ?_|refine gwZ ?_|(refine gwX ?_;intro Q hQ hP;simp [hC,hY,hA,hS,hne,hna,hk,hk1,hk2,hs',ez,ez',z0,zn,zt,zi,P,S,bk,bi,mk,q0,q1,q2];(first|refine hQ _ _ _ _ (by rcases hT.k8 with h8|h8<;>rcases hT.a8 with h9|h9<;>subst h8<;>subst h9<;>kernel_rfl) ?_|refine hP _ _ (by rcases hT.k8 with h8|h8<;>rcases hT.a8 with h9|h9<;>subst h8<;>subst h9<;>kernel_rfl) λ_=>?_))|refine gwC ?_ ?_<;>intro hb
   refine zc1 _ 1000 hC G1F hT.ok hT.fx hC0 (by omega) ?_ ?_ zby
   ·simp [zap,zau,zaj,zal,dom,hA,hS,hne,hna,hs']
   ·simp [zae,zaj,zal,dom,hA,hS,hne,hna]
 ·have hk1:(N:Int)<n:=by omega
  have hk2:(0:Int)<=N:=by omega
  have ez:¬(N:Int)=z:=by omega
  have ez':((N:Int)==z)=false:=by simpa using ez
  obtain ⟨_,_,hx3⟩:=zyl hrt hi hN
  have P:=λK=>z4y (n:=p) (d:=q) ((zlz i N).trans hzN) ⟨(hx3 0 (by omega)).1,(hx3 0 (by omega)).2.1⟩ ⟨(hx3 1 (by omega)).1,(hx3 1 (by omega)).2.1⟩ ⟨(hx3 2 (by omega)).1,(hx3 2 (by omega)).2.1⟩ hp (zxm hok) (zkc hok hN) K
  have S:=λK=>ja7 (ze3 hrt hN).1 (ze3 hrt hi).1 K
  have bk:=hSb.vec hN (u:=0) (by omega)
  have bi:=hSb.vec hi (u:=0) (by omega)
  have mk:=hm.at hN
  simp only [Nat.add_zero,Nat.zero_add] at P bk bi
  unfold z7h
  generalize zd8 (λk=>if k=i then 0 else kpF p q g fm fs i 0 k) N=A0 at *
  generalize zd8 (λk=>if k=i then 0 else kpF p q g fm fs i 1 k) N=A1 at *
  generalize zd8 (λk=>if k=i then 0 else kpF p q g fm fs i 2 k) N=A2 at *
  unfold cfB zcu vb
  repeat' first|refine gwZ ?_|(refine gwX ?_;intro Q hQ hP;simp [hC,hY,hA,hS,hne,hna,hN,hk1,hk2,ez,ez',z0,zn,zt,zi,P,S,bk,bi,mk];(first|refine hQ _ _ _ _ (by rcases hT.k8 with h8|h8<;>rcases hT.a8 with h9|h9<;>subst h8<;>subst h9<;>kernel_rfl) ?_|refine hP _ _ (by rcases hT.k8 with h8|h8<;>rcases hT.a8 with h9|h9<;>subst h8<;>subst h9<;>kernel_rfl) λ_=>?_))|refine gwC ?_ ?_<;>intro hb
  refine ⟨.inr rfl,by simp [results10],kpT G1F⟩
theorem z0h (L:List (Nat×Blk)) (ka ks:Nat) (bm bs:Blk) (hT:LKa L ka ks bm bs) (off n cap off2 N2 cap2:Nat) (fm fs:Nat->Int) (hm:MB bm off n fm) (hSb:SB bs off2 N2 fs) (g bx tp nr md st:Int) (hs:i64 st) (p q:Int) (hf:zjo n N2 (zd2 n fm g bx tp nr md) (zay st fs N2)=false) :
  Fun prog G1 12 #[cfV (.slice (some ⟨ka,off,none⟩) n cap) g bx tp nr md,.agg #[.int .i64 st,.slice (some ⟨ks,off2,none⟩) N2 cap2],.int .i64 p,.int .i64 q] (hpL G1 L) (zab L) (.ret (.tuple #[.slice none 0 0,.int .i64 2]) []):=by
 refine zbr (B:=200) G1F func12 rfl call12 hT.ok ?_ (zak (by simp)) (by simp) (by simp) (by simp [ntmps12]) (by omega) ?_
 ·simp [zap,zau,zaj,zal,hT.ia,hT.ib,cfV]
 intro C hC hC0 hY
 have hA:=hT.a
 have hS:=hT.s
 have hne:=hT.ne
 have hna:=hT.na
 have hLow:=hT.low
 have hks:=hT.k1
 have hks2:=hT.k2
 have hfit:=zdm L ka ks bm bs hT off n cap off2 N2 cap2 fm fs hm hSb g bx tp nr md st
 rw [hf] at hfit
 unfold cfV at hfit |-
 repeat' first|refine gwZ ?_|((first|refine gwR [20] ?_|refine gwD [20] ?_);intro Q hQ _;(repeat first|simp [hC,hY,hA,hS,hne,hna]|refine zar hfit hT.ok zby ?_);refine gwq hQ ?_)|refine gwC ?_ ?_<;>intro hb
 refine ⟨.inr rfl,by simp [results12],kpT G1F⟩
theorem z0i (L:List (Nat×Blk)) (ka ks:Nat) (bm bs:Blk) (hT:LKa L ka ks bm bs) (off n cap off2 cap2:Nat) (fm fs:Nat->Int) (hm:MB bm off n fm) (hSb:SB bs off2 n fs) (g bx tp nr md st:Int) (hs:i64 st) (p q:Int) (hok:zd2 n fm g bx tp nr md=true) (hrt:zay st fs n=true) (hpt:zdi p q=false) :
  Fun prog G1 12 #[cfV (.slice (some ⟨ka,off,none⟩) n cap) g bx tp nr md,.agg #[.int .i64 st,.slice (some ⟨ks,off2,none⟩) n cap2],.int .i64 p,.int .i64 q] (hpL G1 L) (zab L) (.ret (.tuple #[.slice none 0 0,.int .i64 2]) []):=by
 refine zbr (B:=200) G1F func12 rfl call12 hT.ok ?_ (zak (by simp)) (by simp) (by simp) (by simp [ntmps12]) (by omega) ?_
 ·simp [zap,zau,zaj,zal,hT.ia,hT.ib,cfV]
 intro C hC hC0 hY
 have hA:=hT.a
 have hS:=hT.s
 have hne:=hT.ne
 have hna:=hT.na
 have hLow:=hT.low
 have hks:=hT.k1
 have hks2:=hT.k2
 have hfit:=zdm L ka ks bm bs hT off n cap off2 n cap2 fm fs hm hSb g bx tp nr md st
 have hf:zjo n n (zd2 n fm g bx tp nr md) (zay st fs n)=true:=zde.2 ⟨rfl,hok,hrt⟩
 have hone:=zpm L ka ks bm bs hT off n cap off2 n cap2 fm fs hm hSb g bx tp nr md st hs p q 0 hf (λh=>by rw [hpt] at h;exact absurd h.2 (by simp))
 rw [hf] at hfit
 have hn4:=(zcs hrt).2.1
 have n1:0<n:=hn4.1
 have n2:(0:Int)<n:=by omega
 unfold cfV at hfit hone |-
 repeat' first|refine zad ?_|refine zag ?_|refine gwZ ?_|((first|refine gwR [20,10] ?_|refine gwD [20,10] ?_);intro Q hQ _;(repeat first|simp [hC,hY,hA,hS,hne,hna,n1,n2]|refine zar hfit hT.ok zby ?_|refine zar hone hT.ok zby ?_);refine gwq hQ ?_)|refine gwC ?_ ?_<;>intro hb
 refine ⟨.inr rfl,by simp [results12],kpT G1F⟩
def rkO (L:List (Nat×Blk)) (ka ks off n cap off2 cap2:Nat) (g bx tp nr md st p q:Int) (i:Nat) (sl:Value) (nl:List (Nat×Blk)):GS :=
 ⟨tsL [(2,.int .i64 p),(3,.int .i64 q),(4,.pointer (some ⟨200,0,none⟩)),(5,.pointer (some ⟨208,0,none⟩)),(10,sl),(11,.int .i64 i)],hpL G1 ((zbw ka ks off n cap off2 cap2 g bx tp nr md st++nl)++L),400,0⟩
def rkI (L:List (Nat×Blk)) (ka ks off n cap off2 cap2:Nat) (g bx tp nr md st p q:Int) (fm fs:Nat->Int) (m:Nat) (s:GS):Prop:=∃ i sl nl,i+m=n/\KkV i (kkF p q g fm fs n) sl nl/\(∀ b,b<i->kZ fs n b=false)/\s=rkO L ka ks off n cap off2 cap2 g bx tp nr md st p q i sl nl
theorem z0j (L:List (Nat×Blk)) (ka ks:Nat) (bm bs:Blk) (hT:LKa L ka ks bm bs) (off n cap off2 cap2:Nat) (fm fs:Nat->Int) (hm:MB bm off n fm) (hSb:SB bs off2 n fs) (g bx tp nr md st:Int) (hs:i64 st) (p q:Int) (hok:zd2 n fm g bx tp nr md=true) (hrt:zay st fs n=true) (hpt:zdi p q=true) (hany:zqx fs n=true) :
  Fun prog G1 12 #[cfV (.slice (some ⟨ka,off,none⟩) n cap) g bx tp nr md,.agg #[.int .i64 st,.slice (some ⟨ks,off2,none⟩) n cap2],.int .i64 p,.int .i64 q] (hpL G1 L) (zab L) (.ret (.tuple #[.slice none 0 0,.int .i64 30]) []):=by
 refine zbr (B:=200) G1F func12 rfl call12 hT.ok ?_ (zak (by simp)) (by simp) (by simp) (by simp [ntmps12]) (by omega) ?_
 ·simp [zap,zau,zaj,zal,hT.ia,hT.ib,cfV]
 intro C hC hC0 hY
 have hA:=hT.a
 have hS:=hT.s
 have hne:=hT.ne
 have hna:=hT.na
 have hLow:=hT.low
 have hks:=hT.k1
 have hks2:=hT.k2
 have hfit:=zdm L ka ks bm bs hT off n cap off2 n cap2 fm fs hm hSb g bx tp nr md st
 have hf:zjo n n (zd2 n fm g bx tp nr md) (zay st fs n)=true:=zde.2 ⟨rfl,hok,hrt⟩
 rw [hf] at hfit
 have hn4:=(zcs hrt).2.1
 unfold cfV at hfit |-
 repeat' first|refine gwZ ?_|((first|refine gwR [20] ?_|refine gwD [20] ?_);intro Q hQ _;(repeat first|simp [hC,hY,hA,hS,hne,hna]|refine zar hfit hT.ok zby ?_);refine gwq hQ ?_)|refine gwC ?_ ?_<;>intro hb
 refine zhw (rkI L ka ks off n cap off2 cap2 g bx tp nr md st p q fm fs) (m0:=n) (s0:=rkO L ka ks off n cap off2 cap2 g bx tp nr md st p q 0 (.slice none 0 0) []) ?_ ⟨0,_,_,by omega,.inl ⟨rfl,rfl,rfl⟩,λb hb9=>by omega,rfl⟩ ?_
 ·refine zc1 _ 400 hC G1F hT.ok hT.fx hC0 (by omega) ?_ ?_ zby
  ·simp [zbw,zap,zau,zaj,zal,dom,hA,hS,hne,hna]
  ·simp [zbw,cfB,zcu,zae,zaj,zal,dom,hA,hS,hne,hna]
 rintro m _ ⟨i,sl,nl,him,hV,hnz,rfl⟩
 by_cases hm0:m=0
 ·obtain rfl:i=n:=by omega
  exact absurd (zjg.2 hnz) (by rw [hany];simp)
 ·have hi:i<n:=by omega
  have hi4:i<4:=by omega
  have hi':(i:Int)<n:=by omega
  have hz9:(0:Int)<=i:=Int.natCast_nonneg i
  have hs':=zdp hi hn4.2
  by_cases hzi:kZ fs n i=true
  ·have hone:=zto L ka ks bm bs hT off n cap off2  cap2 fm fs hm hSb g bx tp nr md st hs p q i hok hrt hpt i hi rfl hzi
   unfold cfV at hone
   rcases hV with ⟨h0,rfl,rfl⟩|⟨c,g0,h0,hc,hg0,rfl,rfl⟩<;>unfold rkO zbw cfB zcu
   all_goals
    repeat' first|refine gwZ ?_|((first|refine gwR [10] ?_|refine gwD [10] ?_);intro Q hQ _;(repeat first|simp [hC,hY,hA,hS,hne,hna,hi,hi',hz9]|refine zar hone hT.ok zby ?_);refine gwq hQ ?_)|refine gwC ?_ ?_<;>intro hb
   all_goals
    refine ⟨.inr rfl,by simp [results12],kpT G1F⟩
  replace hzi:kZ fs n i=false:=by simpa using hzi
  have hone:=zkz L ka ks bm bs hT off n cap off2  cap2 fm fs hm hSb g bx tp nr md st hs p q i hok hrt hpt i hi rfl hzi
  unfold cfV at hone
  have hend:i+1+(m - 1)=n:=by omega
  have hdec:m - 1<m:=by omega
  have hpos:0<i+1:=Nat.succ_pos _
  have hb20:(i+1)*(8*3)<=140737488355328:=by omega
  have hnz':∀ b,b<i+1->kZ fs n b=false:=λb hb9=>by
   by_cases e:b=i
   ·rw [e];exact hzi
   ·exact hnz b (by omega)
  rcases hV with ⟨h0,rfl,rfl⟩|⟨c,g0,h0,hc,hg0,rfl,rfl⟩
  ·subst h0
   unfold rkO zbw cfB zcu
   repeat' first|refine gwZ ?_|((first|refine gwR [10] ?_|refine gwD [10] ?_);intro Q hQ _;(repeat first|simp [hC,hY,hA,hS,hne,hna,hi,hi',hz9]|refine zar hone hT.ok zby ?_);refine gwq hQ ?_)|refine gwC ?_ ?_<;>intro hb
   refine za7 ?_
   simp only [Array.toList]
   refine gwl 3 ?_;intro Q hQ;simp [hC,hY,hA,hS,hne,hna];apply hQ
   simp only [wT,wM,Nat.reduceAdd]
   refine ze8 .i64 (m:=3) (i:=0) (j:=568) (by':=24) (z:=.agg #[.int .i64 0,.int .i64 0,.int .i64 0]) (T2:=.ty 31) (G:=kkF p q g fm fs n) (ev:=λu=>kkF p q g fm fs n (3*0+u)) rfl (by simp) rfl underlying35 (zaq sizeOf31) (by kernel_rfl) (by kernel_rfl) (by omega) (by simp [Value.cells]) (by simp [Value.cells]) (by omega) (by omega) (.inl ⟨rfl,by simp⟩) (by simp) (by simp [zxw,kkF]) (λu hu=>rfl) hb20 ?_
   rintro k1 c1 g1 hk1 hk11 hc1 hg1
   obtain rfl:k1=576:=by
    rcases hk1 with h9|⟨c,h9⟩
    ·exact h9
    ·simp at h9
   refine gwl 1 ?_;intro Q hQ;simp [hC,hY,zbl];apply hQ
   simp only [wT,wM,Nat.reduceAdd]
   refine zbh ?_
   repeat' first|refine gwZ ?_|(refine gwX ?_;intro Q hQ _;simp [hC,hY,hs'];refine gwq hQ ?_)|refine gwC ?_ ?_<;>intro hb
   refine ⟨λx=>if x=224 then 576 else x,rkO L ka ks off n cap off2 cap2 g bx tp nr md st p q (0+1) (.slice (some ⟨224,0,none⟩) (0+1) c1) [(224,⟨fa (3*c1) .i64 g1,.ty 31⟩)],m - 1,?_,⟨0+1,_,_,hend,.inr ⟨c1,g1,hpos,hc1,hg1,rfl,rfl⟩,hnz',rfl⟩,hdec⟩
   have hf1:=λD=>Blk.fx_ids (zba (3*c1) g1 31) D
   have hm1:=λρ=>zfo (zba (3*c1) g1 31) ρ
   refine zes (s:=GS.mk _ _ _ 0) _ _ 400 hC G1F hT.ok hT.fx hC0 (by decide) ?_ ?_ ?_ ?_ zby
   ·simp [zbw,dom,zbz,ren,zas,zan,zao,zap,zau,zaj,zal,hs',hA,hS,hne,hna]
   ·simp [zbw,cfB,zcu,Blk.rn,zan,zao,zae,zaj,zal,dom,hf1,hm1,hA,hS,hne,hna]
   ·simp [zbw]
   ·intro x hx;(try dsimp only);rw [if_neg (Nat.ne_of_lt (Nat.lt_trans hx (by decide)))]
  ·unfold rkO zbw cfB zcu
   repeat' first|refine gwZ ?_|((first|refine gwR [10] ?_|refine gwD [10] ?_);intro Q hQ _;(repeat first|simp [hC,hY,hA,hS,hne,hna,hi,hi',hz9]|refine zar hone hT.ok zby ?_);refine gwq hQ ?_)|refine gwC ?_ ?_<;>intro hb
   refine za7 ?_
   simp only [Array.toList]
   refine gwl 3 ?_;intro Q hQ;simp [hC,hY,hA,hS,hne,hna];apply hQ
   simp only [wT,wM,Nat.reduceAdd]
   refine ze8 .i64 (m:=3) (i:=i) (j:=568) (by':=24) (z:=.agg #[.int .i64 0,.int .i64 0,.int .i64 0]) (T2:=.ty 31) (G:=kkF p q g fm fs n) (ev:=λu=>kS p q g fm fs n i u) rfl (by simp) rfl underlying35 (zaq sizeOf31) (by kernel_rfl) (by kernel_rfl) (by omega) (by simp [Value.cells]) (by simp [Value.cells]) (by omega) (by omega) (.inr ⟨224,c,g0,by decide,by simp,by simp,hc,hg0⟩) (by simp) (by simp [zxw]) (λu hu=>(zjh p q g fm fs n i hu).symm) hb20 ?_
   rintro k1 c1 g1 hk1 hk11 hc1 hg1
   have hk1':k1=576\/k1=224:=by
    rcases hk1 with h9|⟨c,h9⟩
    ·exact .inl h9
    ·simp at h9;exact .inr h9.1.symm
   rcases hk1' with rfl|rfl
   ·
    refine gwl 1 ?_;intro Q hQ;simp [hC,hY,zbl];apply hQ
    simp only [wT,wM,Nat.reduceAdd]
    refine zbh ?_
    repeat' first|refine gwZ ?_|(refine gwX ?_;intro Q hQ _;simp [hC,hY,hs'];refine gwq hQ ?_)|refine gwC ?_ ?_<;>intro hb
    refine ⟨λx=>if x=224 then 576 else x,rkO L ka ks off n cap off2 cap2 g bx tp nr md st p q (i+1) (.slice (some ⟨224,0,none⟩) (i+1) c1) [(224,⟨fa (3*c1) .i64 g1,.ty 31⟩)],m - 1,?_,⟨i+1,_,_,hend,.inr ⟨c1,g1,hpos,hc1,hg1,rfl,rfl⟩,hnz',rfl⟩,hdec⟩
    have hf1:=λD=>Blk.fx_ids (zba (3*c1) g1 31) D
    have hm1:=λρ=>zfo (zba (3*c1) g1 31) ρ
    refine zes (s:=GS.mk _ _ _ 0) _ _ 400 hC G1F hT.ok hT.fx hC0 (by decide) ?_ ?_ ?_ ?_ zby
    ·simp [zbw,dom,zbz,ren,zas,zan,zao,zap,zau,zaj,zal,hs',hA,hS,hne,hna]
    ·simp [zbw,cfB,zcu,Blk.rn,zan,zao,zae,zaj,zal,dom,hf1,hm1,hA,hS,hne,hna]
    ·simp [zbw]
    ·intro x hx;(try dsimp only);rw [if_neg (Nat.ne_of_lt (Nat.lt_trans hx (by decide)))]
   ·
    refine gwl 1 ?_;intro Q hQ;simp [hC,hY,zbl];apply hQ
    simp only [wT,wM,Nat.reduceAdd]
    refine zbh ?_
    repeat' first|refine gwZ ?_|(refine gwX ?_;intro Q hQ _;simp [hC,hY,hs'];refine gwq hQ ?_)|refine gwC ?_ ?_<;>intro hb
    refine ⟨λx=>if x=224 then 224 else x,rkO L ka ks off n cap off2 cap2 g bx tp nr md st p q (i+1) (.slice (some ⟨224,0,none⟩) (i+1) c1) [(224,⟨fa (3*c1) .i64 g1,.ty 31⟩)],m - 1,?_,⟨i+1,_,_,hend,.inr ⟨c1,g1,hpos,hc1,hg1,rfl,rfl⟩,hnz',rfl⟩,hdec⟩
    have hf1:=λD=>Blk.fx_ids (zba (3*c1) g1 31) D
    have hm1:=λρ=>zfo (zba (3*c1) g1 31) ρ
    refine zes (s:=GS.mk _ _ _ 0) _ _ 400 hC G1F hT.ok hT.fx hC0 (by decide) ?_ ?_ ?_ ?_ zby
    ·simp [zbw,dom,zbz,ren,zas,zan,zao,zap,zau,zaj,zal,hs',hA,hS,hne,hna]
    ·simp [zbw,cfB,zcu,Blk.rn,zan,zao,zae,zaj,zal,dom,hf1,hm1,hA,hS,hne,hna]
    ·simp [zbw]
    ·intro x hx;(try dsimp only);rw [if_neg (Nat.ne_of_lt (Nat.lt_trans hx (by decide)))]
theorem zij (L:List (Nat×Blk)) (ka ks:Nat) (bm bs:Blk) (hT:LKa L ka ks bm bs) (off n cap off2 cap2:Nat) (fm fs:Nat->Int) (hm:MB bm off n fm) (hSb:SB bs off2 n fs) (g bx tp nr md st:Int) (hs:i64 st) (p q:Int) (hok:zd2 n fm g bx tp nr md=true) (hrt:zay st fs n=true) (hpt:zdi p q=true) (hany:zqx fs n=false) :
  FunS prog G1 12 #[cfV (.slice (some ⟨ka,off,none⟩) n cap) g bx tp nr md,.agg #[.int .i64 st,.slice (some ⟨ks,off2,none⟩) n cap2],.int .i64 p,.int .i64 q] (hpL G1 L) (zab L) (zhi 1000 n (kkF p q g fm fs n)):=by
 refine zec (B:=200) G1F func12 rfl call12 hT.ok ?_ zyo (by simp [ntmps12]) (by omega) ?_
 ·simp [zap,zau,zaj,zal,hT.ia,hT.ib,cfV]
 intro C hC hC0 hY
 have hA:=hT.a
 have hS:=hT.s
 have hne:=hT.ne
 have hna:=hT.na
 have hLow:=hT.low
 have hks:=hT.k1
 have hks2:=hT.k2
 have hfit:=zdm L ka ks bm bs hT off n cap off2 n cap2 fm fs hm hSb g bx tp nr md st
 have hf:zjo n n (zd2 n fm g bx tp nr md) (zay st fs n)=true:=zde.2 ⟨rfl,hok,hrt⟩
 rw [hf] at hfit
 have hn4:=(zcs hrt).2.1
 unfold cfV at hfit |-
 repeat' first|refine gwZ ?_|((first|refine gwR [20] ?_|refine gwD [20] ?_);intro Q hQ _;(repeat first|simp [hC,hY,hA,hS,hne,hna]|refine zar hfit hT.ok zby ?_);refine gwq hQ ?_)|refine gwC ?_ ?_<;>intro hb
 refine zhw (rkI L ka ks off n cap off2 cap2 g bx tp nr md st p q fm fs) (m0:=n) (s0:=rkO L ka ks off n cap off2 cap2 g bx tp nr md st p q 0 (.slice none 0 0) []) ?_ ⟨0,_,_,by omega,.inl ⟨rfl,rfl,rfl⟩,λb hb9=>by omega,rfl⟩ ?_
 ·refine zc1 _ 400 hC G1F hT.ok hT.fx hC0 (by omega) ?_ ?_ zby
  ·simp [zbw,zap,zau,zaj,zal,dom,hA,hS,hne,hna]
  ·simp [zbw,cfB,zcu,zae,zaj,zal,dom,hA,hS,hne,hna]
 rintro m _ ⟨i,sl,nl,him,hV,hnz,rfl⟩
 by_cases hm0:m=0
 ·obtain rfl:i=n:=by omega
  rcases hV with ⟨h0,rfl,rfl⟩|⟨c,g0,h0,hc,hg0,rfl,rfl⟩
  ·omega
  ·unfold rkO zbw cfB zcu
   repeat' first|refine gwZ ?_|refine gwV ?_|refine gwC ?_ ?_<;>intro hb
   refine ⟨.inr trivial,kpT G1F,_,_,λk=>if k=1000 then 224 else k,⟨c,g0,hc,hg0,rfl,rfl⟩,λk hk=>if_neg (by omega),by simp,by simp,by simp [results12,ren,zas,zan,zao],?_⟩
   simp [zd3]
 ·have hi:i<n:=by omega
  have hi4:i<4:=by omega
  have hi':(i:Int)<n:=by omega
  have hz9:(0:Int)<=i:=Int.natCast_nonneg i
  have hs':=zdp hi hn4.2
  have hzi:=zjg.1 hany i hi
  have hone:=zkz L ka ks bm bs hT off n cap off2  cap2 fm fs hm hSb g bx tp nr md st hs p q i hok hrt hpt i hi rfl hzi
  unfold cfV at hone
  have hend:i+1+(m - 1)=n:=by omega
  have hdec:m - 1<m:=by omega
  have hpos:0<i+1:=Nat.succ_pos _
  have hb20:(i+1)*(8*3)<=140737488355328:=by omega
  have hnz':∀ b,b<i+1->kZ fs n b=false:=λb hb9=>by
   by_cases e:b=i
   ·rw [e];exact hzi
   ·exact hnz b (by omega)
  rcases hV with ⟨h0,rfl,rfl⟩|⟨c,g0,h0,hc,hg0,rfl,rfl⟩
  ·subst h0
   unfold rkO zbw cfB zcu
   repeat' first|refine gwZ ?_|((first|refine gwR [10] ?_|refine gwD [10] ?_);intro Q hQ _;(repeat first|simp [hC,hY,hA,hS,hne,hna,hi,hi',hz9]|refine zar hone hT.ok zby ?_);refine gwq hQ ?_)|refine gwC ?_ ?_<;>intro hb
   refine za7 ?_
   simp only [Array.toList]
   refine gwl 3 ?_;intro Q hQ;simp [hC,hY,hA,hS,hne,hna];apply hQ
   simp only [wT,wM,Nat.reduceAdd]
   refine ze8 .i64 (m:=3) (i:=0) (j:=568) (by':=24) (z:=.agg #[.int .i64 0,.int .i64 0,.int .i64 0]) (T2:=.ty 31) (G:=kkF p q g fm fs n) (ev:=λu=>kkF p q g fm fs n (3*0+u)) rfl (by simp) rfl underlying35 (zaq sizeOf31) (by kernel_rfl) (by kernel_rfl) (by omega) (by simp [Value.cells]) (by simp [Value.cells]) (by omega) (by omega) (.inl ⟨rfl,by simp⟩) (by simp) (by simp [zxw,kkF]) (λu hu=>rfl) hb20 ?_
   rintro k1 c1 g1 hk1 hk11 hc1 hg1
   obtain rfl:k1=576:=by
    rcases hk1 with h9|⟨c,h9⟩
    ·exact h9
    ·simp at h9
   refine gwl 1 ?_;intro Q hQ;simp [hC,hY,zbl];apply hQ
   simp only [wT,wM,Nat.reduceAdd]
   refine zbh ?_
   repeat' first|refine gwZ ?_|(refine gwX ?_;intro Q hQ _;simp [hC,hY,hs'];refine gwq hQ ?_)|refine gwC ?_ ?_<;>intro hb
   refine ⟨λx=>if x=224 then 576 else x,rkO L ka ks off n cap off2 cap2 g bx tp nr md st p q (0+1) (.slice (some ⟨224,0,none⟩) (0+1) c1) [(224,⟨fa (3*c1) .i64 g1,.ty 31⟩)],m - 1,?_,⟨0+1,_,_,hend,.inr ⟨c1,g1,hpos,hc1,hg1,rfl,rfl⟩,hnz',rfl⟩,hdec⟩
   have hf1:=λD=>Blk.fx_ids (zba (3*c1) g1 31) D
   have hm1:=λρ=>zfo (zba (3*c1) g1 31) ρ
   refine zes (s:=GS.mk _ _ _ 0) _ _ 400 hC G1F hT.ok hT.fx hC0 (by decide) ?_ ?_ ?_ ?_ zby
   ·simp [zbw,dom,zbz,ren,zas,zan,zao,zap,zau,zaj,zal,hs',hA,hS,hne,hna]
   ·simp [zbw,cfB,zcu,Blk.rn,zan,zao,zae,zaj,zal,dom,hf1,hm1,hA,hS,hne,hna]
   ·simp [zbw]
   ·intro x hx;(try dsimp only);rw [if_neg (Nat.ne_of_lt (Nat.lt_trans hx (by decide)))]
  ·unfold rkO zbw cfB zcu
   repeat' first|refine gwZ ?_|((first|refine gwR [10] ?_|refine gwD [10] ?_);intro Q hQ _;(repeat first|simp [hC,hY,hA,hS,hne,hna,hi,hi',hz9]|refine zar hone hT.ok zby ?_);refine gwq hQ ?_)|refine gwC ?_ ?_<;>intro hb
   refine za7 ?_
   simp only [Array.toList]
   refine gwl 3 ?_;intro Q hQ;simp [hC,hY,hA,hS,hne,hna];apply hQ
   simp only [wT,wM,Nat.reduceAdd]
   refine ze8 .i64 (m:=3) (i:=i) (j:=568) (by':=24) (z:=.agg #[.int .i64 0,.int .i64 0,.int .i64 0]) (T2:=.ty 31) (G:=kkF p q g fm fs n) (ev:=λu=>kS p q g fm fs n i u) rfl (by simp) rfl underlying35 (zaq sizeOf31) (by kernel_rfl) (by kernel_rfl) (by omega) (by simp [Value.cells]) (by simp [Value.cells]) (by omega) (by omega) (.inr ⟨224,c,g0,by decide,by simp,by simp,hc,hg0⟩) (by simp) (by simp [zxw]) (λu hu=>(zjh p q g fm fs n i hu).symm) hb20 ?_
   rintro k1 c1 g1 hk1 hk11 hc1 hg1
   have hk1':k1=576\/k1=224:=by
    rcases hk1 with h9|⟨c,h9⟩
    ·exact .inl h9
    ·simp at h9;exact .inr h9.1.symm
   rcases hk1' with rfl|rfl
   ·
    refine gwl 1 ?_;intro Q hQ;simp [hC,hY,zbl];apply hQ
    simp only [wT,wM,Nat.reduceAdd]
    refine zbh ?_
    repeat' first|refine gwZ ?_|(refine gwX ?_;intro Q hQ _;simp [hC,hY,hs'];refine gwq hQ ?_)|refine gwC ?_ ?_<;>intro hb
    refine ⟨λx=>if x=224 then 576 else x,rkO L ka ks off n cap off2 cap2 g bx tp nr md st p q (i+1) (.slice (some ⟨224,0,none⟩) (i+1) c1) [(224,⟨fa (3*c1) .i64 g1,.ty 31⟩)],m - 1,?_,⟨i+1,_,_,hend,.inr ⟨c1,g1,hpos,hc1,hg1,rfl,rfl⟩,hnz',rfl⟩,hdec⟩
    have hf1:=λD=>Blk.fx_ids (zba (3*c1) g1 31) D
    have hm1:=λρ=>zfo (zba (3*c1) g1 31) ρ
    refine zes (s:=GS.mk _ _ _ 0) _ _ 400 hC G1F hT.ok hT.fx hC0 (by decide) ?_ ?_ ?_ ?_ zby
    ·simp [zbw,dom,zbz,ren,zas,zan,zao,zap,zau,zaj,zal,hs',hA,hS,hne,hna]
    ·simp [zbw,cfB,zcu,Blk.rn,zan,zao,zae,zaj,zal,dom,hf1,hm1,hA,hS,hne,hna]
    ·simp [zbw]
    ·intro x hx;(try dsimp only);rw [if_neg (Nat.ne_of_lt (Nat.lt_trans hx (by decide)))]
   ·
    refine gwl 1 ?_;intro Q hQ;simp [hC,hY,zbl];apply hQ
    simp only [wT,wM,Nat.reduceAdd]
    refine zbh ?_
    repeat' first|refine gwZ ?_|(refine gwX ?_;intro Q hQ _;simp [hC,hY,hs'];refine gwq hQ ?_)|refine gwC ?_ ?_<;>intro hb
    refine ⟨λx=>if x=224 then 224 else x,rkO L ka ks off n cap off2 cap2 g bx tp nr md st p q (i+1) (.slice (some ⟨224,0,none⟩) (i+1) c1) [(224,⟨fa (3*c1) .i64 g1,.ty 31⟩)],m - 1,?_,⟨i+1,_,_,hend,.inr ⟨c1,g1,hpos,hc1,hg1,rfl,rfl⟩,hnz',rfl⟩,hdec⟩
    have hf1:=λD=>Blk.fx_ids (zba (3*c1) g1 31) D
    have hm1:=λρ=>zfo (zba (3*c1) g1 31) ρ
    refine zes (s:=GS.mk _ _ _ 0) _ _ 400 hC G1F hT.ok hT.fx hC0 (by decide) ?_ ?_ ?_ ?_ zby
    ·simp [zbw,dom,zbz,ren,zas,zan,zao,zap,zau,zaj,zal,hs',hA,hS,hne,hna]
    ·simp [zbw,cfB,zcu,Blk.rn,zan,zao,zae,zaj,zal,dom,hf1,hm1,hA,hS,hne,hna]
    ·simp [zbw]
    ·intro x hx;(try dsimp only);rw [if_neg (Nat.ne_of_lt (Nat.lt_trans hx (by decide)))]
theorem z0g (L:List (Nat×Blk)) (ka ks:Nat) (bm bs:Blk) (hT:LKa L ka ks bm bs) (off n cap off2 N2 cap2:Nat) (fm fs:Nat->Int) (hm:MB bm off n fm) (hSb:SB bs off2 N2 fs) (hcap2:N2<=cap2) (g bx tp nr md st:Int) (hs:i64 st) (p q e:Int) (he:¬e=0) (hk:Fun prog G1 12 #[cfV (.slice (some ⟨ka,off,none⟩) n cap) g bx tp nr md,.agg #[.int .i64 st,.slice (some ⟨ks,off2,none⟩) N2 cap2],.int .i64 p,.int .i64 q] (hpL G1 L) (zab L) (.ret (.tuple #[.slice none 0 0,.int .i64 e]) [])) :
  FunS prog G1 15 #[cfV (.slice (some ⟨ka,off,none⟩) n cap) g bx tp nr md,.agg #[.int .i64 st,.slice (some ⟨ks,off2,none⟩) N2 cap2],.int .i64 p,.int .i64 q] (hpL G1 L) (zab L) (zn9 1000 st N2 fs e):=by
 refine zec (B:=200) G1F func15 rfl call15 hT.ok ?_ zee (by simp [ntmps15]) (by omega) ?_
 ·simp [zap,zau,zaj,zal,hT.ia,hT.ib,cfV]
 intro C hC hC0 hY
 have hA:=hT.a
 have hS:=hT.s
 have hne:=hT.ne
 have hna:=hT.na
 have hLow:=hT.low
 have hks:=hT.k1
 have hks2:=hT.k2
 have heb:(e != 0)=true:=by simpa using he
 unfold cfV at hk |-
 repeat' first|refine gwZ ?_|((first|refine gwR [12] ?_|refine gwD [12] ?_);intro Q hQ _;(repeat first|simp [hC,hY,hA,hS,hne,hna,he,heb]|refine zar hk hT.ok zby ?_);refine gwq hQ ?_)|refine gwC ?_ ?_<;>intro hb
 have dO336:=zfp ks 336 (by omega) (by omega) (by omega) bs off2 N2 cap2 fs hSb hcap2 st
 refine za7 ?_
 simp only [Array.toList]
 refine gwl 1 ?_;intro Q hQ;simp [hC,hY,hA,hS,hne,hna];apply hQ
 simp only [wT,wM,Nat.reduceAdd]
 refine zbd (f:=.func 22) (cap:=#[]) hC dO336 rfl (by simp) rfl rfl (by simp [okT]) (by simp [gev]) (by simp) (by simp [okX,zbz]) (by simp [gev]) (by simp [hS,hne,zaw]) (by (intro k hk;first|exact hLow k hk|(simp (disch:=omega) only [hLow,zb9,List.mem_cons,List.not_mem_nil,or_false,zaa,zai,zat,if_neg,zaw,List.cons_append,List.nil_append]<;>done))) ?_ ?_
 ·intro v ns hV k hk
  rw [zcm hV k hk]
  omega
 rintro v ns ⟨c336,M336,g336,x336,y336,z336,rfl,rfl⟩
 refine gwl 3 ?_;intro Q hQ;simp [hC,hY,zbl,zaw];apply hQ
 simp only [wT,wM,Nat.reduceAdd]
 refine zbh ?_
 repeat' first|refine gwZ ?_|(refine gwX ?_;intro Q hQ _;simp [hC,hY,hA,hS,hne,hna,he,heb];refine gwq hQ ?_)|refine gwC ?_ ?_<;>intro hb
 refine ⟨.inr trivial,kpT G1F,_,_,λk=>if k=1000 then 336 else k,⟨_,⟨c336,M336,g336,x336,y336,z336,rfl,rfl⟩,rfl⟩,λk hk=>if_neg (by omega),by simp,by simp,by simp [results15,ren,zas,zan,zao,zaw],?_⟩
 simp [zd3,zaw]
def jc0 (L:List (Nat×Blk)) (ka ks off n cap off2 cap2 c c2 M:Nat) (g bx tp nr md st p q:Int) (gg f:Nat->Int) (i:Nat):GS :=
 ⟨tsL [(2,.int .i64 p),(3,.int .i64 q),(4,.pointer (some ⟨200,0,none⟩)),(5,.pointer (some ⟨208,0,none⟩)),(8,.pointer (some ⟨216,0,none⟩)),(10,.slice (some ⟨264,0,none⟩) n c),(11,.int .i64 0),(12,.pointer (some ⟨344,0,none⟩)),(13,.int .i64 i)],
 hpL G1 ([(200,cfB (.slice (some ⟨ka,off,none⟩) n cap) g bx tp nr md),(208,zcu st ks off2 n cap2),(216,⟨#[.int .i64 0,.slice none 0 0],.ty 27⟩),(264,⟨fa (3*c) .i64 gg,.ty 31⟩),(336,⟨fa M .i64 (zeu f gg i),.ty 45⟩),(344,zcu st 336 0 n c2)]++L),2000,0⟩
theorem z4v (L:List (Nat×Blk)) (ka ks:Nat) (bm bs:Blk) (hT:LKa L ka ks bm bs) (off n cap off2 cap2:Nat) (fm fs:Nat->Int) (hm:MB bm off n fm) (hSb:SB bs off2 n fs) (hcap2:n<=cap2) (g bx tp nr md st:Int) (hs:i64 st) (p q:Int) (hok:zd2 n fm g bx tp nr md=true) (hrt:zay st fs n=true) (hpt:zdi p q=true) (hany:zqx fs n=false) (hF:zay st (kcF p q g fm fs n) n=true) :
  FunS prog G1 15 #[cfV (.slice (some ⟨ka,off,none⟩) n cap) g bx tp nr md,.agg #[.int .i64 st,.slice (some ⟨ks,off2,none⟩) n cap2],.int .i64 p,.int .i64 q] (hpL G1 L) (zab L) (zn9 1000 st n (kcF p q g fm fs n) 0):=by
 refine zec (B:=200) G1F func15 rfl call15 hT.ok ?_ zee (by simp [ntmps15]) (by omega) ?_
 ·simp [zap,zau,zaj,zal,hT.ia,hT.ib,cfV]
 intro C hC hC0 hY
 have hA:=hT.a
 have hS:=hT.s
 have hne:=hT.ne
 have hna:=hT.na
 have hLow:=hT.low
 have hks:=hT.k1
 have hks2:=hT.k2
 have hn4:=(zcs hrt).2.1
 have hk:=(zij L ka ks bm bs hT off n cap off2 cap2 fm fs hm hSb g bx tp nr md st hs p q hok hrt hpt hany).nmL hT.ok hT.fx 264 (by omega) (λv ns=>zc9) (by have hl:r1n 264 ka=ka:=if_neg (by have:=hT.a2;omega);have hl2:r1n 264 ks=ks:=if_neg (by omega);simp [cfV,ren,zas,zan,zao,hl,hl2]) (zia (ρ:=r1n 264) (nk:=264) rfl n (kkF p q g fm fs n))
 unfold cfV at hk |-
 repeat' first|refine gwZ ?_|refine gwV ?_|refine gwC ?_ ?_<;>intro hb
 refine za7 ?_
 simp only [Array.toList]
 refine gwl 4 ?_;intro Q hQ;simp [hC,hY,hA,hS,hne,hna];apply hQ
 simp only [wT,wM,Nat.reduceAdd]
 refine zbd (f:=.func 12) (cap:=#[]) hC hk rfl (by simp) rfl rfl (by simp [okT]) (by simp [gev]) (by simp) (by simp [okX,zbz]) (by simp [gev]) (by intro q hq;obtain ⟨p,hp,rfl⟩:=zah.1 hq;have hpb:=hT.ok.big p hp;(try dsimp only);simp (disch:=omega) only [zaa]) (by (intro k hk;first|exact hLow k hk|(simp (disch:=omega) only [hLow,zb9,List.mem_cons,List.not_mem_nil,or_false,zaa,zai,zat,if_neg,zaw,List.cons_append,List.nil_append]<;>done))) ?_ ?_
 ·intro v ns hV k hk
  rw [zc9 hV k hk]
  omega
 rintro v ns ⟨c,gg,hc,hgg,rfl,rfl⟩
 refine gwl 5 ?_;intro Q hQ;simp [hC,hY,zbl,zaw];apply hQ
 simp only [wT,wM,Nat.reduceAdd]
 refine zbh ?_
 repeat' first|refine gwZ ?_|(refine gwX ?_;intro Q hQ _;simp [hC,hY,zbl,zaw,hA,hS,hne,hna];refine gwq hQ ?_)|refine gwC ?_ ?_<;>intro hb
 have dO336:=zfp ks 336 (by omega) (by omega) (by omega) bs off2 n cap2 fs hSb hcap2 st
 refine za7 ?_
 simp only [Array.toList]
 refine gwl 1 ?_;intro Q hQ;simp [hC,hY,hA,hS,hne,hna];apply hQ
 simp only [wT,wM,Nat.reduceAdd]
 refine zbd (f:=.func 22) (cap:=#[]) hC dO336 rfl (by simp) rfl rfl (by simp [okT]) (by simp [gev]) (by simp) (by simp [okX,zbz]) (by simp [gev]) (by simp [hS,hne,zaw]) (by (intro k hk;first|exact hLow k hk|(simp (disch:=omega) only [hLow,zb9,List.mem_cons,List.not_mem_nil,or_false,zaa,zai,zat,if_neg,zaw,List.cons_append,List.nil_append]<;>done))) ?_ ?_
 ·intro v ns hV k hk
  rw [zcm hV k hk]
  omega
 rintro v ns ⟨c336,M336,g336,x336,y336,z336,rfl,rfl⟩
 refine gwl 2 ?_;intro Q hQ;simp [hC,hY,zbl,zaw];apply hQ
 simp only [wT,wM,Nat.reduceAdd]
 refine zbh ?_
 have hb1:∀ j,j<6*n->-1048576<=g336 j/\g336 j<=1048576:=λj hj=>by rw [z336 j hj];exact je9 hrt hj
 have hb2:∀ j,j<3*n->-18014398509481984<=gg j/\gg j<=18014398509481984:=λj hj=>by
  rw [hgg j hj]
  exact z3m hok hrt hpt (by omega) (by omega) (zjg.1 hany _ (by omega))
 have hFF:∀ j,j<6*n->zeu g336 gg n j=kcF p q g fm fs n j:=λj hj=>by
  unfold zeu kcF
  by_cases c3:j%6<3
  ·rw [if_pos c3,if_neg (by omega),z336 j hj]
  ·rw [if_neg c3,if_pos (by omega),z336 j hj,hgg _ (by omega),zjh _ _ _ _ _ _ _ (by omega)]
 have hid:=λD=>Blk.fx_ids (zba (3*c) gg 31) D
 have hid2:=λf D=>Blk.fx_ids (zba M336 f 45) D
 have hrn2:=λf ρ=>Blk.fx_rn (zba M336 f 45) ρ
 repeat' first|refine gwZ ?_|(refine gwX ?_;intro Q hQ _;simp [hC,hY,zbl,zaw,hA,hS,hne,hna];refine gwq hQ ?_)|refine gwC ?_ ?_<;>intro hb
 refine zb3 n (jc0 L ka ks off n cap off2 cap2 c c336 M336 g bx tp nr md st p q gg g336) ?_ ?_ ?_
 ·refine zc1 _ 2000 hC G1F hT.ok hT.fx hC0 (by omega) ?_ ?_ zby
  ·simp [zap,zau,zaj,zal,dom,hA,hS,hne,hna,zbl]
  ·simp [cfB,zcu,zsi,zae,zaj,zal,dom,hid,hid2,hA,hS,hne,hna,zbl,zaw]
 ·intro i hi
  have hi':(i:Int)<n:=by omega
  have hi2:i<c336:=by omega
  have hi3:(i:Int)<c336:=by omega
  have hz:(0:Int)<=i:=by omega
  have hs':=zdp hi hn4.2
  have e0:zeu g336 gg i (6*i+3)=g336 (6*i+3):=zeo g336 gg i (u:=0) (by omega)
  have e1:zeu g336 gg i (6*i+3+1)=g336 (6*i+3+1):=zeo g336 gg i (u:=1) (by omega)
  have e2:zeu g336 gg i (6*i+3+2)=g336 (6*i+3+2):=zeo g336 gg i (u:=2) (by omega)
  have b0:=hb1 (6*i+3) (by omega)
  have b1:=hb1 (6*i+3+1) (by omega)
  have b2:=hb1 (6*i+3+2) (by omega)
  have d0:=hb2 (3*i) (by omega)
  have d1:=hb2 (3*i+1) (by omega)
  have d2:=hb2 (3*i+2) (by omega)
  have hs3:=zxb g336 gg i
  unfold z5x at hs3
  rw [<-zj1] at hs3
  unfold jc0 cfB zcu
  rw [<-hs3]
  clear hs3
  generalize zeu g336 gg i=F at *
  have q0:Int.bmod (F (6*i+3)+gg (3*i)) 18446744073709551616=F (6*i+3)+gg (3*i):=by rw [e0];exact Go.Gy.bm (by omega) (by omega)
  have q1:Int.bmod (F (6*i+3+1)+gg (3*i+1)) 18446744073709551616=F (6*i+3+1)+gg (3*i+1):=by rw [e1];exact Go.Gy.bm (by omega) (by omega)
  have q2:Int.bmod (F (6*i+3+2)+gg (3*i+2)) 18446744073709551616=F (6*i+3+2)+gg (3*i+2):=by rw [e2];exact Go.Gy.bm (by omega) (by omega)
  have ho:i*6=6*i:=by omega
  have ho3:i*3=3*i:=by omega
  have l0:=zdq (T:=45) (M:=M336) (g:=F) (q:=6*i+3) (by omega)
  have l1:=zdq (T:=45) (M:=M336) (g:=upd F (6*i+3) (F (6*i+3)+gg (3*i))) (q:=6*i+3+1) (by omega)
  have l2:=zdq (T:=45) (M:=M336) (g:=upd (upd F (6*i+3) (F (6*i+3)+gg (3*i))) (6*i+3+1) (F (6*i+3+1)+gg (3*i+1))) (q:=6*i+3+2) (by omega)
  rw [zaa _ _ (by omega)] at l1
  rw [zaa _ _ (by omega),zaa _ _ (by omega)] at l2
  have v0:=zdq (T:=31) (M:=3*c) (g:=gg) (q:=3*i) (by omega)
  have v1:=zdq (T:=31) (M:=3*c) (g:=gg) (q:=3*i+1) (by omega)
  have v2:=zdq (T:=31) (M:=3*c) (g:=gg) (q:=3*i+2) (by omega)
  have m0:6*i+3<M336:=by omega
  have m1:6*i+3+1<M336:=by omega
  have m2:6*i+3+2<M336:=by omega
  have m0':6*i+3+1<=M336:=by omega
  have m1':6*i+3+1+1<=M336:=by omega
  have m2':6*i+3+2+1<=M336:=by omega
  have s0:=λx=>zcw M336 .i64 F (6*i+3) x
  have s1:=λx=>zcw M336 .i64 (upd F (6*i+3) (F (6*i+3)+gg (3*i))) (6*i+3+1) x
  have s2:=λx=>zcw M336 .i64 (upd (upd F (6*i+3) (F (6*i+3)+gg (3*i))) (6*i+3+1) (F (6*i+3+1)+gg (3*i+1))) (6*i+3+2) x
  repeat' first|refine zad ?_|refine zag ?_|refine gwZ ?_|(refine gwX ?_;intro Q hQ hP;simp [hC,hY,hA,hS,hne,hna,hi,hi',hi2,hi3,hz,hs',ho,ho3,l0,l1,l2,v0,v1,v2,m0,m1,m2,m0',m1',m2',q0,q1,q2,s0,s1,s2];(first|refine hQ _ _ _ _ (by rcases hT.k8 with h8|h8<;>subst h8<;>kernel_rfl) ?_|refine hP _ _ (by rcases hT.k8 with h8|h8<;>subst h8<;>kernel_rfl) λ_=>?_))|refine gwC ?_ ?_<;>intro hb
  refine zc1 _ 2000 hC G1F hT.ok hT.fx hC0 (by omega) ?_ ?_ zby
  ·simp [zap,zau,zaj,zal,dom,hA,hS,hne,hna,hs']
  ·simp [zae,zaj,zal,dom,hid,hid2,hA,hS,hne,hna]
 ·have hri:=(zky ⟨fa M336 .i64 (zeu g336 gg n),.ty 45⟩ 0 n c336 (kcF p q g fm fs n) (zfi y336 hFF (λj hj=>by
   rw [<-hFF j hj]
   have b0:=hb1 j hj
   unfold zeu
   split
   ·have d0:=hb2 (3*(j / 6)+(j%6 - 3)) (by omega)
    exact ⟨by omega,by omega⟩
   ·exact ⟨by omega,by omega⟩) (by omega)) st).up1 (zam (zba _ _ _))
  rw [hF] at hri
  unfold jc0 cfB zcu
  repeat' first|refine gwZ ?_|((first|refine gwR [34] ?_|refine gwD [34] ?_);intro Q hQ _;(repeat first|simp [hC,hY,hA,hS,hne,hna]|refine zac hri G1F (B:=200) (zam (zba _ _ _)) (λk=>if k=100 then 336 else k) (λk hk=>if_neg (by omega)) (by simp [ren,zas,zan,zao]) (by simp) (by simp [hrn2]) (by simp [zab]) (by simp [zab];rfl) ?_);refine gwq hQ ?_)|refine gwC ?_ ?_<;>intro hb
  refine ⟨.inr trivial,kpT G1F,_,_,λk=>if k=1000 then 336 else k,⟨_,⟨c336,M336,_,x336,y336,hFF,rfl,rfl⟩,rfl⟩,λk hk=>if_neg (by omega),by simp,by simp,by simp [results15,ren,zas,zan,zao,zaw],?_⟩
  simp [zd3,zaw]
theorem zvs (L:List (Nat×Blk)) (ka ks:Nat) (bm bs:Blk) (hT:LKa L ka ks bm bs) (off n cap off2 cap2:Nat) (fm fs:Nat->Int) (hm:MB bm off n fm) (hSb:SB bs off2 n fs) (hcap2:n<=cap2) (g bx tp nr md st:Int) (hs:i64 st) (p q:Int) (hok:zd2 n fm g bx tp nr md=true) (hrt:zay st fs n=true) (hpt:zdi p q=true) (hany:zqx fs n=false) (hF:zay st (kcF p q g fm fs n) n=false) :
  FunS prog G1 15 #[cfV (.slice (some ⟨ka,off,none⟩) n cap) g bx tp nr md,.agg #[.int .i64 st,.slice (some ⟨ks,off2,none⟩) n cap2],.int .i64 p,.int .i64 q] (hpL G1 L) (zab L) (zn9 1000 st n (fs) 20):=by
 refine zec (B:=200) G1F func15 rfl call15 hT.ok ?_ zee (by simp [ntmps15]) (by omega) ?_
 ·simp [zap,zau,zaj,zal,hT.ia,hT.ib,cfV]
 intro C hC hC0 hY
 have hA:=hT.a
 have hS:=hT.s
 have hne:=hT.ne
 have hna:=hT.na
 have hLow:=hT.low
 have hks:=hT.k1
 have hks2:=hT.k2
 have hn4:=(zcs hrt).2.1
 have hk:=(zij L ka ks bm bs hT off n cap off2 cap2 fm fs hm hSb g bx tp nr md st hs p q hok hrt hpt hany).nmL hT.ok hT.fx 264 (by omega) (λv ns=>zc9) (by have hl:r1n 264 ka=ka:=if_neg (by have:=hT.a2;omega);have hl2:r1n 264 ks=ks:=if_neg (by omega);simp [cfV,ren,zas,zan,zao,hl,hl2]) (zia (ρ:=r1n 264) (nk:=264) rfl n (kkF p q g fm fs n))
 unfold cfV at hk |-
 repeat' first|refine gwZ ?_|refine gwV ?_|refine gwC ?_ ?_<;>intro hb
 refine za7 ?_
 simp only [Array.toList]
 refine gwl 4 ?_;intro Q hQ;simp [hC,hY,hA,hS,hne,hna];apply hQ
 simp only [wT,wM,Nat.reduceAdd]
 refine zbd (f:=.func 12) (cap:=#[]) hC hk rfl (by simp) rfl rfl (by simp [okT]) (by simp [gev]) (by simp) (by simp [okX,zbz]) (by simp [gev]) (by intro q hq;obtain ⟨p,hp,rfl⟩:=zah.1 hq;have hpb:=hT.ok.big p hp;(try dsimp only);simp (disch:=omega) only [zaa]) (by (intro k hk;first|exact hLow k hk|(simp (disch:=omega) only [hLow,zb9,List.mem_cons,List.not_mem_nil,or_false,zaa,zai,zat,if_neg,zaw,List.cons_append,List.nil_append]<;>done))) ?_ ?_
 ·intro v ns hV k hk
  rw [zc9 hV k hk]
  omega
 rintro v ns ⟨c,gg,hc,hgg,rfl,rfl⟩
 refine gwl 5 ?_;intro Q hQ;simp [hC,hY,zbl,zaw];apply hQ
 simp only [wT,wM,Nat.reduceAdd]
 refine zbh ?_
 repeat' first|refine gwZ ?_|(refine gwX ?_;intro Q hQ _;simp [hC,hY,zbl,zaw,hA,hS,hne,hna];refine gwq hQ ?_)|refine gwC ?_ ?_<;>intro hb
 have dO336:=zfp ks 336 (by omega) (by omega) (by omega) bs off2 n cap2 fs hSb hcap2 st
 refine za7 ?_
 simp only [Array.toList]
 refine gwl 1 ?_;intro Q hQ;simp [hC,hY,hA,hS,hne,hna];apply hQ
 simp only [wT,wM,Nat.reduceAdd]
 refine zbd (f:=.func 22) (cap:=#[]) hC dO336 rfl (by simp) rfl rfl (by simp [okT]) (by simp [gev]) (by simp) (by simp [okX,zbz]) (by simp [gev]) (by simp [hS,hne,zaw]) (by (intro k hk;first|exact hLow k hk|(simp (disch:=omega) only [hLow,zb9,List.mem_cons,List.not_mem_nil,or_false,zaa,zai,zat,if_neg,zaw,List.cons_append,List.nil_append]<;>done))) ?_ ?_
 ·intro v ns hV k hk
  rw [zcm hV k hk]
  omega
 rintro v ns ⟨c336,M336,g336,x336,y336,z336,rfl,rfl⟩
 refine gwl 2 ?_;intro Q hQ;simp [hC,hY,zbl,zaw];apply hQ
 simp only [wT,wM,Nat.reduceAdd]
 refine zbh ?_
 have hb1:∀ j,j<6*n->-1048576<=g336 j/\g336 j<=1048576:=λj hj=>by rw [z336 j hj];exact je9 hrt hj
 have hb2:∀ j,j<3*n->-18014398509481984<=gg j/\gg j<=18014398509481984:=λj hj=>by
  rw [hgg j hj]
  exact z3m hok hrt hpt (by omega) (by omega) (zjg.1 hany _ (by omega))
 have hFF:∀ j,j<6*n->zeu g336 gg n j=kcF p q g fm fs n j:=λj hj=>by
  unfold zeu kcF
  by_cases c3:j%6<3
  ·rw [if_pos c3,if_neg (by omega),z336 j hj]
  ·rw [if_neg c3,if_pos (by omega),z336 j hj,hgg _ (by omega),zjh _ _ _ _ _ _ _ (by omega)]
 have hid:=λD=>Blk.fx_ids (zba (3*c) gg 31) D
 have hid2:=λf D=>Blk.fx_ids (zba M336 f 45) D
 have hrn2:=λf ρ=>Blk.fx_rn (zba M336 f 45) ρ
 repeat' first|refine gwZ ?_|(refine gwX ?_;intro Q hQ _;simp [hC,hY,zbl,zaw,hA,hS,hne,hna];refine gwq hQ ?_)|refine gwC ?_ ?_<;>intro hb
 refine zb3 n (jc0 L ka ks off n cap off2 cap2 c c336 M336 g bx tp nr md st p q gg g336) ?_ ?_ ?_
 ·refine zc1 _ 2000 hC G1F hT.ok hT.fx hC0 (by omega) ?_ ?_ zby
  ·simp [zap,zau,zaj,zal,dom,hA,hS,hne,hna,zbl]
  ·simp [cfB,zcu,zsi,zae,zaj,zal,dom,hid,hid2,hA,hS,hne,hna,zbl,zaw]
 ·intro i hi
  have hi':(i:Int)<n:=by omega
  have hi2:i<c336:=by omega
  have hi3:(i:Int)<c336:=by omega
  have hz:(0:Int)<=i:=by omega
  have hs':=zdp hi hn4.2
  have e0:zeu g336 gg i (6*i+3)=g336 (6*i+3):=zeo g336 gg i (u:=0) (by omega)
  have e1:zeu g336 gg i (6*i+3+1)=g336 (6*i+3+1):=zeo g336 gg i (u:=1) (by omega)
  have e2:zeu g336 gg i (6*i+3+2)=g336 (6*i+3+2):=zeo g336 gg i (u:=2) (by omega)
  have b0:=hb1 (6*i+3) (by omega)
  have b1:=hb1 (6*i+3+1) (by omega)
  have b2:=hb1 (6*i+3+2) (by omega)
  have d0:=hb2 (3*i) (by omega)
  have d1:=hb2 (3*i+1) (by omega)
  have d2:=hb2 (3*i+2) (by omega)
  have hs3:=zxb g336 gg i
  unfold z5x at hs3
  rw [<-zj1] at hs3
  unfold jc0 cfB zcu
  rw [<-hs3]
  clear hs3
  generalize zeu g336 gg i=F at *
  have q0:Int.bmod (F (6*i+3)+gg (3*i)) 18446744073709551616=F (6*i+3)+gg (3*i):=by rw [e0];exact Go.Gy.bm (by omega) (by omega)
  have q1:Int.bmod (F (6*i+3+1)+gg (3*i+1)) 18446744073709551616=F (6*i+3+1)+gg (3*i+1):=by rw [e1];exact Go.Gy.bm (by omega) (by omega)
  have q2:Int.bmod (F (6*i+3+2)+gg (3*i+2)) 18446744073709551616=F (6*i+3+2)+gg (3*i+2):=by rw [e2];exact Go.Gy.bm (by omega) (by omega)
  have ho:i*6=6*i:=by omega
  have ho3:i*3=3*i:=by omega
  have l0:=zdq (T:=45) (M:=M336) (g:=F) (q:=6*i+3) (by omega)
  have l1:=zdq (T:=45) (M:=M336) (g:=upd F (6*i+3) (F (6*i+3)+gg (3*i))) (q:=6*i+3+1) (by omega)
  have l2:=zdq (T:=45) (M:=M336) (g:=upd (upd F (6*i+3) (F (6*i+3)+gg (3*i))) (6*i+3+1) (F (6*i+3+1)+gg (3*i+1))) (q:=6*i+3+2) (by omega)
  rw [zaa _ _ (by omega)] at l1
  rw [zaa _ _ (by omega),zaa _ _ (by omega)] at l2
  have v0:=zdq (T:=31) (M:=3*c) (g:=gg) (q:=3*i) (by omega)
  have v1:=zdq (T:=31) (M:=3*c) (g:=gg) (q:=3*i+1) (by omega)
  have v2:=zdq (T:=31) (M:=3*c) (g:=gg) (q:=3*i+2) (by omega)
  have m0:6*i+3<M336:=by omega
  have m1:6*i+3+1<M336:=by omega
  have m2:6*i+3+2<M336:=by omega
  have m0':6*i+3+1<=M336:=by omega
  have m1':6*i+3+1+1<=M336:=by omega
  have m2':6*i+3+2+1<=M336:=by omega
  have s0:=λx=>zcw M336 .i64 F (6*i+3) x
  have s1:=λx=>zcw M336 .i64 (upd F (6*i+3) (F (6*i+3)+gg (3*i))) (6*i+3+1) x
  have s2:=λx=>zcw M336 .i64 (upd (upd F (6*i+3) (F (6*i+3)+gg (3*i))) (6*i+3+1) (F (6*i+3+1)+gg (3*i+1))) (6*i+3+2) x
  repeat' first|refine zad ?_|refine zag ?_|refine gwZ ?_|(refine gwX ?_;intro Q hQ hP;simp [hC,hY,hA,hS,hne,hna,hi,hi',hi2,hi3,hz,hs',ho,ho3,l0,l1,l2,v0,v1,v2,m0,m1,m2,m0',m1',m2',q0,q1,q2,s0,s1,s2];(first|refine hQ _ _ _ _ (by rcases hT.k8 with h8|h8<;>subst h8<;>kernel_rfl) ?_|refine hP _ _ (by rcases hT.k8 with h8|h8<;>subst h8<;>kernel_rfl) λ_=>?_))|refine gwC ?_ ?_<;>intro hb
  refine zc1 _ 2000 hC G1F hT.ok hT.fx hC0 (by omega) ?_ ?_ zby
  ·simp [zap,zau,zaj,zal,dom,hA,hS,hne,hna,hs']
  ·simp [zae,zaj,zal,dom,hid,hid2,hA,hS,hne,hna]
 ·have hri:=(zky ⟨fa M336 .i64 (zeu g336 gg n),.ty 45⟩ 0 n c336 (kcF p q g fm fs n) (zfi y336 hFF (λj hj=>by
   rw [<-hFF j hj]
   have b0:=hb1 j hj
   unfold zeu
   split
   ·have d0:=hb2 (3*(j / 6)+(j%6 - 3)) (by omega)
    exact ⟨by omega,by omega⟩
   ·exact ⟨by omega,by omega⟩) (by omega)) st).up1 (zam (zba _ _ _))
  rw [hF] at hri
  unfold jc0 cfB zcu
  repeat' first|refine gwZ ?_|((first|refine gwR [34] ?_|refine gwD [34] ?_);intro Q hQ _;(repeat first|simp [hC,hY,hA,hS,hne,hna]|refine zac hri G1F (B:=200) (zam (zba _ _ _)) (λk=>if k=100 then 336 else k) (λk hk=>if_neg (by omega)) (by simp [ren,zas,zan,zao]) (by simp) (by simp [hrn2]) (by simp [zab]) (by simp [zab];rfl) ?_);refine gwq hQ ?_)|refine gwC ?_ ?_<;>intro hb
  have dO2064:=zfp ks 2064 (by omega) (by omega) (by omega) bs off2 n cap2 fs hSb hcap2 st
  refine za7 ?_
  simp only [Array.toList]
  refine gwl 1 ?_;intro Q hQ;simp [hC,hY,hA,hS,hne,hna];apply hQ
  simp only [wT,wM,Nat.reduceAdd]
  refine zbd (f:=.func 22) (cap:=#[]) hC dO2064 rfl (by simp) rfl rfl (by simp [okT]) (by simp [gev]) (by simp) (by simp [okX,zbz]) (by simp [gev]) (by simp [hS,hne,zaw]) (by (intro k hk;first|exact hLow k hk|(simp (disch:=omega) only [hLow,zb9,List.mem_cons,List.not_mem_nil,or_false,zaa,zai,zat,if_neg,zaw,List.cons_append,List.nil_append]<;>done))) ?_ ?_
  ·intro v ns hV k hk
   rw [zcm hV k hk]
   omega
  rintro v ns ⟨c2064,M2064,g2064,x2064,y2064,z2064,rfl,rfl⟩
  refine gwl 2 ?_;intro Q hQ;simp [hC,hY,zbl,zaw];apply hQ
  simp only [wT,wM,Nat.reduceAdd]
  refine zbh ?_
  repeat' first|refine gwZ ?_|(refine gwX ?_;intro Q hQ _;simp [hC,hY,zbl,zaw,hA,hS,hne,hna];refine gwq hQ ?_)|refine gwC ?_ ?_<;>intro hb
  refine ⟨.inr trivial,kpT G1F,_,_,λk=>if k=1000 then 2064 else k,⟨_,⟨c2064,M2064,g2064,x2064,y2064,z2064,rfl,rfl⟩,rfl⟩,λk hk=>if_neg (by omega),by simp,by simp,by simp [results15,ren,zas,zan,zao,zaw],?_⟩
  simp [zd3,zaw]
theorem zvz (L:List (Nat×Blk)) (ka ks:Nat) (bm bs:Blk) (hT:LKa L ka ks bm bs) (off n cap off2 N2 cap2:Nat) (g bx tp nr md st:Int) (p q e:Int) (he:¬e=0) (hk:Fun prog G1 12 #[cfV (.slice (some ⟨ka,off,none⟩) n cap) g bx tp nr md,.agg #[.int .i64 st,.slice (some ⟨ks,off2,none⟩) N2 cap2],.int .i64 p,.int .i64 q] (hpL G1 L) (zab L) (.ret (.tuple #[.slice none 0 0,.int .i64 e]) [])) :
  Fun prog G1 18 #[cfV (.slice (some ⟨ka,off,none⟩) n cap) g bx tp nr md,.agg #[.int .i64 st,.slice (some ⟨ks,off2,none⟩) N2 cap2],.int .i64 p,.int .i64 q] (hpL G1 L) (zab L) (.ret (.bool false) []):=by
 refine zbr (B:=200) G1F func18 rfl call18 hT.ok ?_ (by simp) (by simp) (by simp) (by simp [ntmps18]) (by omega) ?_
 ·simp [zap,zau,zaj,zal,hT.ia,hT.ib,cfV]
 intro C hC hC0 hY
 have hA:=hT.a
 have hS:=hT.s
 have hne:=hT.ne
 have hna:=hT.na
 have hLow:=hT.low
 have hks:=hT.k1
 have hks2:=hT.k2
 have heb:(e==0)=false:=by simpa using he
 unfold cfV at hk |-
 repeat' first|refine zad ?_|refine zag ?_|refine gwZ ?_|((first|refine gwR [12] ?_|refine gwD [12] ?_);intro Q hQ _;(repeat first|simp [hC,hY,hA,hS,hne,hna,heb,he]|refine zar hk hT.ok zby ?_);refine gwq hQ ?_)|refine gwC ?_ ?_<;>intro hb
 refine ⟨.inr rfl,by simp [results18],kpT G1F⟩
def jj1 (L:List (Nat×Blk)) (ka ks off n cap off2 cap2 c:Nat) (g bx tp nr md st:Int) (gg:Nat->Int) (i:Nat):GS :=
 ⟨tsL [(9,.slice (some ⟨256,0,none⟩) n c),(10,.int .i64 0),(11,.int .i64 i)],hpL G1 ([(200,cfB (.slice (some ⟨ka,off,none⟩) n cap) g bx tp nr md),(208,zcu st ks off2 n cap2),(256,⟨fa (3*c) .i64 gg,.ty 31⟩)]++L),1000,0⟩
theorem z0p (L:List (Nat×Blk)) (ka ks:Nat) (bm bs:Blk) (hT:LKa L ka ks bm bs) (off n cap off2 cap2:Nat) (fm fs:Nat->Int) (hm:MB bm off n fm) (hSb:SB bs off2 n fs) (g bx tp nr md st:Int) (hs:i64 st) (p q:Int) (hok:zd2 n fm g bx tp nr md=true) (hrt:zay st fs n=true) (hpt:zdi p q=true) (hany:zqx fs n=false) :
  Fun prog G1 18 #[cfV (.slice (some ⟨ka,off,none⟩) n cap) g bx tp nr md,.agg #[.int .i64 st,.slice (some ⟨ks,off2,none⟩) n cap2],.int .i64 p,.int .i64 q] (hpL G1 L) (zab L) (.ret (.bool !(zfr (kkF p q g fm fs n) n)) []):=by
 refine zbr (B:=200) G1F func18 rfl call18 hT.ok ?_ (by simp) (by simp) (by simp) (by simp [ntmps18]) (by omega) ?_
 ·simp [zap,zau,zaj,zal,hT.ia,hT.ib,cfV]
 intro C hC hC0 hY
 have hA:=hT.a
 have hS:=hT.s
 have hne:=hT.ne
 have hna:=hT.na
 have hLow:=hT.low
 have hks:=hT.k1
 have hks2:=hT.k2
 have hn4:=(zcs hrt).2.1
 have hk:=(zij L ka ks bm bs hT off n cap off2 cap2 fm fs hm hSb g bx tp nr md st hs p q hok hrt hpt hany).nmL hT.ok hT.fx 256 (by omega) (λv ns=>zc9) (by have hl:r1n 256 ka=ka:=if_neg (by have:=hT.a2;omega);have hl2:r1n 256 ks=ks:=if_neg (by omega);simp [cfV,ren,zas,zan,zao,hl,hl2]) (zia (ρ:=r1n 256) (nk:=256) rfl n (kkF p q g fm fs n))
 unfold cfV at hk |-
 repeat' first|refine gwZ ?_|refine gwV ?_|refine gwC ?_ ?_<;>intro hb
 refine za7 ?_
 simp only [Array.toList]
 refine gwl 4 ?_;intro Q hQ;simp [hC,hY,hA,hS,hne,hna];apply hQ
 simp only [wT,wM,Nat.reduceAdd]
 refine zbd (f:=.func 12) (cap:=#[]) hC hk rfl (by simp) rfl rfl (by simp [okT]) (by simp [gev]) (by simp) (by simp [okX,zbz]) (by simp [gev]) (by intro q hq;obtain ⟨p,hp,rfl⟩:=zah.1 hq;have hpb:=hT.ok.big p hp;(try dsimp only);simp (disch:=omega) only [zaa]) (by (intro k hk;first|exact hLow k hk|(simp (disch:=omega) only [hLow,zb9,List.mem_cons,List.not_mem_nil,or_false,zaa,zai,zat,if_neg,zaw,List.cons_append,List.nil_append]<;>done))) ?_ ?_
 ·intro v ns hV k hk
  rw [zc9 hV k hk]
  omega
 rintro v ns ⟨c,gg,hc,hgg,rfl,rfl⟩
 refine gwl 5 ?_;intro Q hQ;simp [hC,hY,zbl,zaw];apply hQ
 simp only [wT,wM,Nat.reduceAdd]
 refine zbh ?_
 have hid:=λD=>Blk.fx_ids (zba (3*c) gg 31) D
 rw [<-zks hgg]
 obtain ⟨N,hN,hlt,hend⟩:=zq7 gg n
 repeat' first|refine gwZ ?_|(refine gwX ?_;intro Q hQ _;simp [hC,hY,zbl,zaw,hA,hS,hne,hna];refine gwq hQ ?_)|refine gwC ?_ ?_<;>intro hb
 refine zb3 N (jj1 L ka ks off n cap off2 cap2 c g bx tp nr md st gg) ?_ ?_ ?_
 ·refine zc1 _ 1000 hC G1F hT.ok hT.fx hC0 (by omega) ?_ ?_ zby
  ·simp [zap,zau,zaj,zal,dom,hA,hS,hne,hna,zbl]
  ·simp [cfB,zcu,zae,zaj,zal,dom,hid,hA,hS,hne,hna,zbl,zaw]
 ·intro i hi
  have hin:i<n:=by omega
  have hi':(i:Int)<n:=by omega
  have hz:(0:Int)<=i:=by omega
  have hs':=zdp hin hn4.2
  have hld:=zgs (g:=gg) hc hin
  have hq:=hlt i hi
  unfold nzB at hq
  have hq3:gg (3*i)=0/\gg (3*i+1)=0/\gg (3*i+2)=0:=by simpa using hq
  rw [hq3.1,hq3.2.1,hq3.2.2] at hld
  unfold jj1 cfB zcu
  repeat' first|refine gwZ ?_|(refine gwX ?_;intro Q hQ _;simp [hC,hY,hA,hS,hne,hna,hi,hin,hi',hz,hs',hld];refine gwq hQ ?_)|refine gwC ?_ ?_<;>intro hb
  refine zc1 _ 1000 hC G1F hT.ok hT.fx hC0 (by omega) ?_ ?_ zby
  ·simp [zap,zau,zaj,zal,dom,hA,hS,hne,hna,hs']
  ·simp [zae,zaj,zal,dom,hid,hA,hS,hne,hna]
 ·by_cases hNn:N=n
  ·subst hNn
   have e:zfr gg N=false:=zf1.2 λi hi=>hlt i (by omega)
   rw [e]
   unfold jj1 cfB zcu
   repeat' first|refine gwZ ?_|refine gwV ?_|refine gwC ?_ ?_<;>intro hb
   refine ⟨.inr rfl,by simp [results18],kpT G1F⟩
  ·have hin:N<n:=by omega
   have hi':(N:Int)<n:=by omega
   have hz:(0:Int)<=N:=by omega
   have hld:=zgs (g:=gg) hc hin
   have hq:=hend.resolve_left hNn
   have e:zfr gg n=true:=by
    cases c:zfr gg n with
    | true=>rfl
    | false =>
     have:=zf1.1 c N hin
     rw [hq] at this
     exact absurd this (by simp)
   rw [e]
   unfold nzB at hq
   have hq3:¬(gg (3*N)=0/\gg (3*N+1)=0/\gg (3*N+2)=0):=λh=>by rw [h.1,h.2.1,h.2.2] at hq;simp at hq
   have hq4:(!gg (3*N)==0||(!gg (3*N+1)==0||!gg (3*N+2)==0))=true:=by
    cases h9:(!gg (3*N)==0||(!gg (3*N+1)==0||!gg (3*N+2)==0)) with
    | true=>rfl
    | false=>exact absurd (by simpa using h9) hq3
   unfold jj1 cfB zcu
   repeat' first|refine gwZ ?_|(refine gwX ?_;intro Q hQ _;simp [hC,hY,hA,hS,hne,hna,hin,hi',hz,hld,hq4];refine gwq hQ ?_)|refine gwC ?_ ?_<;>intro hb
   refine ⟨.inr rfl,by simp [results18],kpT G1F⟩
theorem zyz:Ret prog G1 13 #[.slice none 0 0,.slice none 0 0] (.bool true):=by
 refine zav G1F func13 rfl call13 rfl (by simp) (by simp [ntmps13]) ?_
 intro C hC hC0 hY
 repeat' first|refine zad ?_|refine zag ?_|refine gwZ ?_|refine gwW ?_|refine gwC ?_ ?_<;>intro hb
 refine ⟨.inr trivial,?_⟩
 simp [results13]
theorem zs3 (K:Value->Prop):za2 prog G1 13 #[.slice none 0 0,.slice none 0 0] K↔K (.bool true):=zaf G1W (by kernel_rfl) zyz
def ksL (c c':Nat) (g g':Nat->Int):List (Nat×Blk):=[(100,⟨fa (3*c) .i64 g,.ty 31⟩),(108,⟨fa (3*c') .i64 g',.ty 31⟩)]
theorem z6n (c c':Nat) (g g':Nat->Int):LOk (ksL c c' g g') 200:=⟨by simp [ksL],by simp [ksL,zab],by
 simp only [ksL,List.mem_cons,List.not_mem_nil,or_false,forall_eq_or_imp,forall_eq]
 exact ⟨Blk.fx_ids (zba _ _ _) _,Blk.fx_ids (zba _ _ _) _⟩⟩
def jlg (n c c':Nat) (g g':Nat->Int) (i:Nat):GS :=
 ⟨tsL [(0,.slice (some ⟨100,0,none⟩) n c),(1,.slice (some ⟨108,0,none⟩) n c'),(5,.int .i64 i)],hpL G1 (ksL c c' g g'),400,0⟩
theorem zyy (n c c':Nat) (g g':Nat->Int) (hn:n<=4) (hc:n<=c) (hc':n<=c') (hg:∀ j,j<3*n->g j=g' j) :
  Fun prog G1 13 #[.slice (some ⟨100,0,none⟩) n c,.slice (some ⟨108,0,none⟩) n c'] (hpL G1 (ksL c c' g g')) (zab (ksL c c' g g')) (.ret (.bool true) []):=by
 refine za5 (B:=200) G1F func13 rfl call13 (z6n c c' g g') ?_ (by simp) (by simp) (by simp) (by simp [ntmps13]) (by omega) ?_
 ·simp [zap,zau,zaj,zal,zab,ksL]
 intro C hC hC0 hY
 have hid:=λc g D=>Blk.fx_ids (zba (3*c) g 31) D
 unfold ksL at hC0 |-
 repeat' first|refine gwZ ?_|refine gwW ?_|refine gwC ?_ ?_<;>intro hb
 refine zb3 n (jlg n c c' g g') ?_ ?_ ?_
 ·refine zbc _ 400 hC G1F (m0:=[(100,_),(108,_)]) hC0 (by omega) ?_ ?_ ?_
  ·simp [zap,zau,zaj,zal,dom,ksL]
  ·simp [zae,zaj,zal,hid,ksL]
  ·simp [ksL]
 ·intro i hi
  have hi':(i:Int)<n:=by omega
  have hz:(0:Int)<=i:=by omega
  have hs:=zdp hi hn
  have hld:=zgs (g:=g) hc hi
  have hld':=zgs (g:=g') hc' hi
  rw [<-hg _ (by omega),<-hg _ (by omega),<-hg _ (by omega)] at hld'
  unfold jlg ksL
  repeat' first|refine gwZ ?_|(refine gwX ?_;intro Q hQ _;simp [hC,hY,hi,hi',hz,hs,hld,hld'];refine gwq hQ ?_)|refine gwC ?_ ?_<;>intro hb
  refine zbc _ 400 hC G1F (m0:=[(100,_),(108,_)]) hC0 (by omega) ?_ ?_ ?_
  ·simp [zap,zau,zaj,zal,dom,hs]
  ·simp [zae,zaj,zal,hid]
  ·simp
 ·unfold jlg ksL
  repeat' first|refine gwZ ?_|refine gwW ?_|refine gwC ?_ ?_<;>intro hb
  refine ⟨.inr rfl,by simp [results13],kpS G1F⟩
end Go.Gy
namespace Go.Gy
open Go Go.RowKit Go.Proofs Go.Proofs.Tryz
theorem roN {q:Nat×List Nat×List Nat} (h:q∈([]:Tr)):q.2.2=[]:=by cases h
theorem ro1 {k:Nat} {rd:List Nat} {tr:Tr} (h:∀ q∈tr,q.2.2=[]):∀ q∈zgd k rd [] tr,q.2.2=[]:=by
 unfold zgd
 cases rd with
 | nil=>exact h
 | cons a l=>intro q hq;rcases List.mem_cons.1 hq with rfl|hq;exact rfl;exact h q hq
theorem ro2 {k:Nat} {rd:List Nat} {tr:Tr} (h:∀ q∈tr,q.2.2=[]):∀ q∈(k,rd,[])::tr,q.2.2=[]:=λq hq=>by
 rcases List.mem_cons.1 hq with rfl|hq;exact rfl;exact h q hq
theorem zsp {md:Region.Mode} {ops:Array Oper}:∀ {tr:Tr},(∀ q∈tr,q.2.2=[])->chk md ops tr=true
 | [],_=>rfl
 | (i,rd,wr)::tl,h=>by
  have hw:wr=[]:=h (i,rd,wr) (by simp)
  subst hw
  unfold chk
  rw [zsp (λq hq=>h q (by simp [hq])),Bool.and_true,List.all_eq_true]
  intro q hq
  rw [h q (by simp [hq])]
  simp [jks]
theorem z6o (L:List (Nat×Blk)) (ka ks:Nat) (bm bs:Blk) (hT:LKa L ka ks bm bs) (off n cap off2 N2 cap2:Nat) (fm fs:Nat->Int) (hm:MB bm off n fm) (hSb:SB bs off2 N2 fs) (hcap2:N2<=cap2) (g bx tp nr md st:Int) (hs:i64 st) (p q:Int) (z:Int):∃ v0 v1 v2 e:Int,Fun prog G1 9 #[cfV (.slice (some ⟨ka,off,none⟩) n cap) g bx tp nr md,.agg #[.int .i64 st,.slice (some ⟨ks,off2,none⟩) N2 cap2],.int .i64 p,.int .i64 q,.int .i64 z] (hpL G1 L) (zab L) (.ret (.tuple #[.agg #[.int .i64 v0,.int .i64 v1,.int .i64 v2],.int .i64 e]) [])/\Fun prog G1 10 #[cfV (.slice (some ⟨ka,off,none⟩) n cap) g bx tp nr md,.agg #[.int .i64 st,.slice (some ⟨ks,off2,none⟩) N2 cap2],.int .i64 p,.int .i64 q,.int .i64 z] (hpL G1 L) (zab L) (.ret (.tuple #[.agg #[.int .i64 v0,.int .i64 v1,.int .i64 v2],.int .i64 e]) []):=by
 cases hf:zjo n N2 (zd2 n fm g bx tp nr md) (zay st fs N2) with
 | false=>exact ⟨0,0,0,2,z9e L ka ks bm bs hT off n cap off2 N2 cap2 fm fs hm hSb g bx tp nr md st hs p q z hf,z0n L ka ks bm bs hT off n cap off2 N2 cap2 fm fs hm hSb g bx tp nr md st hs p q z hf⟩
 | true =>
  by_cases hb0:(0<=z/\z<N2)/\zdi p q=true
  ·obtain ⟨rfl,hok,hrt⟩:=zde.1 hf
   obtain ⟨⟨h1,h2⟩,hp⟩:=hb0
   have hi:z.toNat<n:=by omega
   have hiz:(z.toNat:Int)=z:=Int.toNat_of_nonneg h1
   cases hz:kZ fs n z.toNat with
   | false=>exact ⟨_,_,_,0,zqy L ka ks bm bs hT off n cap off2 cap2 fm fs hm hSb g bx tp nr md st hs p q z hok hrt hp z.toNat hi hiz hz,zkz L ka ks bm bs hT off n cap off2 cap2 fm fs hm hSb g bx tp nr md st hs p q z hok hrt hp z.toNat hi hiz hz⟩
   | true=>exact ⟨0,0,0,30,zyw L ka ks bm bs hT off n cap off2 cap2 fm fs hm hSb g bx tp nr md st hs p q z hok hrt hp z.toNat hi hiz hz,zto L ka ks bm bs hT off n cap off2 cap2 fm fs hm hSb g bx tp nr md st hs p q z hok hrt hp z.toNat hi hiz hz⟩
  ·exact ⟨0,0,0,2,zyv L ka ks bm bs hT off n cap off2 N2 cap2 fm fs hm hSb g bx tp nr md st hs p q z hf hb0,zpm L ka ks bm bs hT off n cap off2 N2 cap2 fm fs hm hSb g bx tp nr md st hs p q z hf hb0⟩
structure KtB (L:List (Nat×Blk)) (ka ks off n cap off2 N2 cap2:Nat) (g bx tp nr md st p q:Int) (F:Nat->Int) (e:Int) (sb:Bool):Prop where
 k1:FunS prog G1 14 #[cfV (.slice (some ⟨ka,off,none⟩) n cap) g bx tp nr md,.agg #[.int .i64 st,.slice (some ⟨ks,off2,none⟩) N2 cap2],.int .i64 p,.int .i64 q] (hpL G1 L) (zab L) (zn9 1000 st N2 F e)
 k2:FunS prog G1 15 #[cfV (.slice (some ⟨ka,off,none⟩) n cap) g bx tp nr md,.agg #[.int .i64 st,.slice (some ⟨ks,off2,none⟩) N2 cap2],.int .i64 p,.int .i64 q] (hpL G1 L) (zab L) (zn9 1000 st N2 F e)
 s1:Fun prog G1 17 #[cfV (.slice (some ⟨ka,off,none⟩) n cap) g bx tp nr md,.agg #[.int .i64 st,.slice (some ⟨ks,off2,none⟩) N2 cap2],.int .i64 p,.int .i64 q] (hpL G1 L) (zab L) (.ret (.bool sb) [])
 s2:Fun prog G1 18 #[cfV (.slice (some ⟨ka,off,none⟩) n cap) g bx tp nr md,.agg #[.int .i64 st,.slice (some ⟨ks,off2,none⟩) N2 cap2],.int .i64 p,.int .i64 q] (hpL G1 L) (zab L) (.ret (.bool sb) [])
 f6:∀ j,j<6*N2->i64 (F j)
theorem zy1 (L:List (Nat×Blk)) (ka ks:Nat) (bm bs:Blk) (hT:LKa L ka ks bm bs) (off n cap off2 N2 cap2:Nat) (fm fs:Nat->Int) (hm:MB bm off n fm) (hSb:SB bs off2 N2 fs) (hcap2:N2<=cap2) (g bx tp nr md st:Int) (hs:i64 st) (p q:Int) (e:Int) (he:¬e=0) (h1:Fun prog G1 11 #[cfV (.slice (some ⟨ka,off,none⟩) n cap) g bx tp nr md,.agg #[.int .i64 st,.slice (some ⟨ks,off2,none⟩) N2 cap2],.int .i64 p,.int .i64 q] (hpL G1 L) (zab L) (.ret (.tuple #[.slice none 0 0,.int .i64 e]) [])) (h2:Fun prog G1 12 #[cfV (.slice (some ⟨ka,off,none⟩) n cap) g bx tp nr md,.agg #[.int .i64 st,.slice (some ⟨ks,off2,none⟩) N2 cap2],.int .i64 p,.int .i64 q] (hpL G1 L) (zab L) (.ret (.tuple #[.slice none 0 0,.int .i64 e]) [])):KtB L ka ks off n cap off2 N2 cap2 g bx tp nr md st p q fs e false :=
 ⟨z3n L ka ks bm bs hT off n cap off2 N2 cap2 fm fs hm hSb hcap2 g bx tp nr md st hs p q e he h1,z0g L ka ks bm bs hT off n cap off2 N2 cap2 fm fs hm hSb hcap2 g bx tp nr md st hs p q e he h2,zu5 L ka ks bm bs hT off n cap off2 N2 cap2 g bx tp nr md st p q e he h1,zvz L ka ks bm bs hT off n cap off2 N2 cap2 g bx tp nr md st p q e he h2,hSb.i6⟩
theorem jff (L:List (Nat×Blk)) (ka ks:Nat) (bm bs:Blk) (hT:LKa L ka ks bm bs) (off n cap off2 N2 cap2:Nat) (fm fs:Nat->Int) (hm:MB bm off n fm) (hSb:SB bs off2 N2 fs) (hcap2:N2<=cap2) (g bx tp nr md st:Int) (hs:i64 st) (p q:Int):(∃ e,¬e=0/\Fun prog G1 11 #[cfV (.slice (some ⟨ka,off,none⟩) n cap) g bx tp nr md,.agg #[.int .i64 st,.slice (some ⟨ks,off2,none⟩) N2 cap2],.int .i64 p,.int .i64 q] (hpL G1 L) (zab L) (.ret (.tuple #[.slice none 0 0,.int .i64 e]) [])/\Fun prog G1 12 #[cfV (.slice (some ⟨ka,off,none⟩) n cap) g bx tp nr md,.agg #[.int .i64 st,.slice (some ⟨ks,off2,none⟩) N2 cap2],.int .i64 p,.int .i64 q] (hpL G1 L) (zab L) (.ret (.tuple #[.slice none 0 0,.int .i64 e]) [])/\KtB L ka ks off n cap off2 N2 cap2 g bx tp nr md st p q fs e false)\/(N2<=4/\∃ F0 F e sb,FunS prog G1 11 #[cfV (.slice (some ⟨ka,off,none⟩) n cap) g bx tp nr md,.agg #[.int .i64 st,.slice (some ⟨ks,off2,none⟩) N2 cap2],.int .i64 p,.int .i64 q] (hpL G1 L) (zab L) (zhi 1000 N2 F0)/\FunS prog G1 12 #[cfV (.slice (some ⟨ka,off,none⟩) n cap) g bx tp nr md,.agg #[.int .i64 st,.slice (some ⟨ks,off2,none⟩) N2 cap2],.int .i64 p,.int .i64 q] (hpL G1 L) (zab L) (zhi 1000 N2 F0)/\KtB L ka ks off n cap off2 N2 cap2 g bx tp nr md st p q F e sb):=by
 cases hf:zjo n N2 (zd2 n fm g bx tp nr md) (zay st fs N2) with
 | false =>
  have h1:=zyp L ka ks bm bs hT off n cap off2 N2 cap2 fm fs hm hSb g bx tp nr md st hs p q hf
  have h2:=z0h L ka ks bm bs hT off n cap off2 N2 cap2 fm fs hm hSb g bx tp nr md st hs p q hf
  exact .inl ⟨2,by decide,h1,h2,zy1 L ka ks bm bs hT off n cap off2 N2 cap2 fm fs hm hSb hcap2 g bx tp nr md st hs p q 2 (by decide) h1 h2⟩
 | true =>
  obtain ⟨rfl,hok,hrt⟩:=zde.1 hf
  cases hp:zdi p q with
  | false =>
   have h1:=zo2 L ka ks bm bs hT off n cap off2 cap2 fm fs hm hSb g bx tp nr md st hs p q hok hrt hp
   have h2:=z0i L ka ks bm bs hT off n cap off2 cap2 fm fs hm hSb g bx tp nr md st hs p q hok hrt hp
   exact .inl ⟨2,by decide,h1,h2,zy1 L ka ks bm bs hT off n cap off2 n cap2 fm fs hm hSb hcap2 g bx tp nr md st hs p q 2 (by decide) h1 h2⟩
  | true =>
   cases ha:zqx fs n with
   | true =>
    have h1:=zyq L ka ks bm bs hT off n cap off2 cap2 fm fs hm hSb g bx tp nr md st hs p q hok hrt hp ha
    have h2:=z0j L ka ks bm bs hT off n cap off2 cap2 fm fs hm hSb g bx tp nr md st hs p q hok hrt hp ha
    exact .inl ⟨30,by decide,h1,h2,zy1 L ka ks bm bs hT off n cap off2 n cap2 fm fs hm hSb hcap2 g bx tp nr md st hs p q 30 (by decide) h1 h2⟩
   | false =>
    have h1:=zgr L ka ks bm bs hT off n cap off2 cap2 fm fs hm hSb g bx tp nr md st hs p q hok hrt hp ha
    have h2:=zij L ka ks bm bs hT off n cap off2 cap2 fm fs hm hSb g bx tp nr md st hs p q hok hrt hp ha
    have h3:=zkn L ka ks bm bs hT off n cap off2 cap2 fm fs hm hSb g bx tp nr md st hs p q hok hrt hp ha
    have h4:=z0p L ka ks bm bs hT off n cap off2 cap2 fm fs hm hSb g bx tp nr md st hs p q hok hrt hp ha
    refine .inr ⟨(zcs hrt).2.1.2,?_⟩
    cases hr:zay st (kcF p q g fm fs n) n with
    | false=>exact ⟨_,fs,20,_,h1,h2,zyn L ka ks bm bs hT off n cap off2 cap2 fm fs hm hSb hcap2 g bx tp nr md st hs p q hok hrt hp ha hr,zvs L ka ks bm bs hT off n cap off2 cap2 fm fs hm hSb hcap2 g bx tp nr md st hs p q hok hrt hp ha hr,h3,h4,hSb.i6⟩
    | true=>exact ⟨_,_,0,_,h1,h2,zym L ka ks bm bs hT off n cap off2 cap2 fm fs hm hSb hcap2 g bx tp nr md st hs p q hok hrt hp ha hr,z4v L ka ks bm bs hT off n cap off2 cap2 fm fs hm hSb hcap2 g bx tp nr md st hs p q hok hrt hp ha hr,h3,h4,λj hj=>by have:=je9 hr hj;exact ⟨by omega,by omega⟩⟩
theorem zy0 (L:List (Nat×Blk)) (ka ks:Nat) (bm bs:Blk) (hT:LKa L ka ks bm bs) (off n cap off2 N2 cap2:Nat) (fm fs:Nat->Int) (hm:MB bm off n fm) (hSb:SB bs off2 N2 fs) (hcap2:N2<=cap2) (g bx tp nr md st:Int) (hs:i64 st) (p q:Int) (x:Int) (hg:(decide (9<n)||decide (9<N2))=true) :
  Fun prog G1 3 #[cfV (.slice (some ⟨ka,off,none⟩) n cap) g bx tp nr md,.agg #[.int .i64 st,.slice (some ⟨ks,off2,none⟩) N2 cap2],.int .i64 p,.int .i64 q,.int .i64 x] (hpL G1 L) (zab L) (.ret (.bool true) []):=by
 refine zbr (B:=200) G1F func3 rfl call3 hT.ok ?_ (by simp) (by simp) (by simp) (by simp [ntmps3]) (by omega) ?_
 ·simp [zap,zau,zaj,zal,hT.ia,hT.ib,cfV]
 intro C hC hC0 hY
 have hA:=hT.a
 have hS:=hT.s
 have hne:=hT.ne
 have hna:=hT.na
 have hLow:=hT.low
 have hks:=hT.k1
 have hks2:=hT.k2
 have hrs:=λρ=>Blk.fx_rn hSb.fx ρ
 have hgr:=zna L ka ks bm bs hT off n cap off2 N2 cap2 g bx tp nr md st
 have wk:=zl5
 unfold cfV at hgr |-
 rw [hg] at hgr
 repeat' first|refine gwZ ?_|((first|refine gwR [7] ?_|refine gwD [7] ?_);intro Q hQ _;(repeat first|simp [hC,hY,hA,hS,hne,hna,wk]|refine zar hgr hT.ok zby ?_);refine gwq hQ ?_)|refine gwC ?_ ?_<;>intro hb
 refine ⟨.inr rfl,by simp [results3],kpT G1F⟩
theorem z9k (L:List (Nat×Blk)) (ka ks:Nat) (bm bs:Blk) (hT:LKa L ka ks bm bs) (off n cap off2 N2 cap2:Nat) (fm fs:Nat->Int) (hm:MB bm off n fm) (hSb:SB bs off2 N2 fs) (hcap2:N2<=cap2) (g bx tp nr md st:Int) (hs:i64 st) (p q:Int) (x:Int) (hg:(decide (9<n)||decide (9<N2))=false) {F:Nat->Int} {e e0:Int} {sb:Bool} (h1:Fun prog G1 11 #[cfV (.slice (some ⟨ka,off,none⟩) n cap) g bx tp nr md,.agg #[.int .i64 st,.slice (some ⟨ks,off2,none⟩) N2 cap2],.int .i64 p,.int .i64 q] (hpL G1 L) (zab L) (.ret (.tuple #[.slice none 0 0,.int .i64 e0]) [])) (h2:Fun prog G1 12 #[cfV (.slice (some ⟨ka,off,none⟩) n cap) g bx tp nr md,.agg #[.int .i64 st,.slice (some ⟨ks,off2,none⟩) N2 cap2],.int .i64 p,.int .i64 q] (hpL G1 L) (zab L) (.ret (.tuple #[.slice none 0 0,.int .i64 e0]) [])) (hB:KtB L ka ks off n cap off2 N2 cap2 g bx tp nr md st p q F e sb) :
  Fun prog G1 3 #[cfV (.slice (some ⟨ka,off,none⟩) n cap) g bx tp nr md,.agg #[.int .i64 st,.slice (some ⟨ks,off2,none⟩) N2 cap2],.int .i64 p,.int .i64 q,.int .i64 x] (hpL G1 L) (zab L) (.ret (.bool true) []):=by
 refine zbr (B:=200) G1F func3 rfl call3 hT.ok ?_ (by simp) (by simp) (by simp) (by simp [ntmps3]) (by omega) ?_
 ·simp [zap,zau,zaj,zal,hT.ia,hT.ib,cfV]
 intro C hC hC0 hY
 have hA:=hT.a
 have hS:=hT.s
 have hne:=hT.ne
 have hna:=hT.na
 have hLow:=hT.low
 have hks:=hT.k1
 have hks2:=hT.k2
 have hrs:=λρ=>Blk.fx_rn hSb.fx ρ
 have hgr:=zna L ka ks bm bs hT off n cap off2 N2 cap2 g bx tp nr md st
 rw [hg] at hgr
 have hft:=zdo L ka ks bm bs hT off n cap off2 N2 cap2 fm fs hm hSb g bx tp nr md st hs
 have hft2:=zdm L ka ks bm bs hT off n cap off2 N2 cap2 fm fs hm hSb g bx tp nr md st
 generalize zjo n N2 (zd2 n fm g bx tp nr md) (zay st fs N2)=ft at *
 have wk:=zl5
 obtain ⟨v0,v1,v2,e1,hone,hone2⟩:=z6o L ka ks bm bs hT off n cap off2 N2 cap2 fm fs hm hSb hcap2 g bx tp nr md st hs p q x
 obtain ⟨hk,hk2,hst,hst2,hF6⟩:=hB
 replace hk:=hk.nmL hT.ok hT.fx 784 (by omega) (λv ns=>zcf) (by have hl:r1n 784 ka=ka:=if_neg (by have:=hT.a2;omega);have hl2:r1n 784 ks=ks:=if_neg (by omega);simp [cfV,ren,zas,zan,zao,hl,hl2]) (zf3 (ρ:=r1n 784) (nk:=784) rfl st N2 F e)
 replace hk2:=hk2.nmL hT.ok hT.fx 872 (by omega) (λv ns=>zcf) (by have hl:r1n 872 ka=ka:=if_neg (by have:=hT.a2;omega);have hl2:r1n 872 ks=ks:=if_neg (by omega);simp [cfV,ren,zas,zan,zao,hl,hl2]) (zf3 (ρ:=r1n 872) (nk:=872) rfl st N2 F e)
 have sn:=zs3
 unfold cfV at hgr hft hft2 hone hone2 h1 h2 hk hk2 hst hst2 |-
 repeat' first|refine gwZ ?_|((first|refine gwR [7,9,10,11,12] ?_|refine gwD [7,9,10,11,12] ?_);intro Q hQ _;(repeat first|simp [hC,hY,hA,hS,hne,hna,wk,sn]|refine zar hgr hT.ok zby ?_|refine zar hone hT.ok zby ?_|refine zar hone2 hT.ok zby ?_|refine zar h1 hT.ok zby ?_|refine zar h2 hT.ok zby ?_);refine gwq hQ ?_)|refine gwC ?_ ?_<;>intro hb
 refine za7 ?_
 simp only [Array.toList]
 refine gwl 4 ?_;intro Q hQ;simp [hC,hY,zbl,zaw,hA,hS,hne,hna];apply hQ
 simp only [wT,wM,Nat.reduceAdd]
 refine zbd (f:=.func 14) (cap:=#[]) hC hk rfl (by simp) rfl rfl (by simp [okT]) (by simp [gev]) (by simp) (by simp [okX,zbz]) (by simp [gev]) (by intro q hq;obtain ⟨p,hp,rfl⟩:=zah.1 hq;have hpb:=hT.ok.big p hp;(try dsimp only);simp (disch:=omega) only [zaa,zai,if_neg,zaw]) (by (intro k hk;first|exact hLow k hk|(simp (disch:=omega) only [hLow,zb9,List.mem_cons,List.not_mem_nil,or_false,zaa,zai,zat,if_neg,zaw,List.cons_append,List.nil_append]<;>done))) ?_ ?_
 ·intro v ns hV k hk
  rw [zcf hV k hk]
  omega
 rintro v ns ⟨_,⟨c1,M1,g1,x1,y1,z1,rfl,rfl⟩,rfl⟩
 refine gwl 6 ?_;intro Q hQ;simp [hC,hY,zbl,zaw];apply hQ
 simp only [wT,wM,Nat.reduceAdd]
 refine zbh ?_
 simp only [zca]
 refine zf6 ?_
 refine za7 ?_
 simp only [Array.toList]
 refine gwl 4 ?_;intro Q hQ;simp [hC,hY,zbl,zaw,hA,hS,hne,hna];apply hQ
 simp only [wT,wM,Nat.reduceAdd]
 refine zbd (f:=.func 15) (cap:=#[]) hC hk2 rfl (by simp) rfl rfl (by simp [okT]) (by simp [gev]) (by simp) (by simp [okX,zbz]) (by simp [gev]) (by intro q hq;obtain ⟨p,hp,rfl⟩:=zah.1 hq;have hpb:=hT.ok.big p hp;(try dsimp only);simp (disch:=omega) only [zaa,zai,if_neg,zaw]) (by (intro k hk;first|exact hLow k hk|(simp (disch:=omega) only [hLow,zb9,List.mem_cons,List.not_mem_nil,or_false,zaa,zai,zat,if_neg,zaw,List.cons_append,List.nil_append]<;>done))) ?_ ?_
 ·intro v ns hV k hk
  rw [zcf hV k hk]
  omega
 rintro v ns ⟨_,⟨c2,M2,g2,x2,y2,z2,rfl,rfl⟩,rfl⟩
 refine gwl 6 ?_;intro Q hQ;simp [hC,hY,zbl,zaw];apply hQ
 simp only [wT,wM,Nat.reduceAdd]
 refine zbh ?_
 have hsm:=(zno ⟨fa M1 .i64 g1,.ty 45⟩ ⟨fa M2 .i64 g2,.ty 45⟩ 0 0 N2 N2 c1 c2 F F (zfi y1 z1 hF6 hSb.nn) (zfi y2 z2 hF6 hSb.nn) st st).up1 (zk3 (zba _ _ _) (zba _ _ _))
 rw [zk2.2 ⟨rfl,rfl,λ_ _=>rfl⟩] at hsm
 have hr1:=λρ=>Blk.fx_rn (zba M1 g1 45) ρ
 have hr2:=λρ=>Blk.fx_rn (zba M2 g2 45) ρ
 repeat' first|refine gwZ ?_|((first|refine gwR [16,17,18,19,20] ?_|refine gwD [16,17,18,19,20] ?_);intro Q hQ _;(repeat first|simp [hC,hY,zbl,zaw,hA,hS,hne,hna,wk]|refine zac hsm G1F (B:=200) (zk3 (zba _ _ _) (zba _ _ _)) (λk=>if k=100 then 784 else if k=108 then 872 else k) (λk hk=>(if_neg (by omega)).trans (if_neg (by omega))) (by simp [ren,zas,zan,zao]) (by simp) (by simp [smL,hr1,hr2,zaw]) (by simp [zab,smL]) (by simp [zab,smL];rfl) ?_|refine zar hst hT.ok zby ?_|refine zar hst2 hT.ok zby ?_|refine zar hft hT.ok zby ?_|refine zar hft2 hT.ok zby ?_);refine hQ _ _ _ _ ?_ ?_;(focus (first|(rfl;done)|(refine zsp ?_;repeat (first|(exact λq hq=>roN hq;done)|refine ro1 ?_|refine ro2 ?_)))))|refine gwC ?_ ?_<;>intro hb
 refine ⟨.inr rfl,by simp [results3],kpT G1F⟩
theorem z9l (L:List (Nat×Blk)) (ka ks:Nat) (bm bs:Blk) (hT:LKa L ka ks bm bs) (off n cap off2 N2 cap2:Nat) (fm fs:Nat->Int) (hm:MB bm off n fm) (hSb:SB bs off2 N2 fs) (hcap2:N2<=cap2) (g bx tp nr md st:Int) (hs:i64 st) (p q:Int) (x:Int) (hg:(decide (9<n)||decide (9<N2))=false) (hn4:N2<=4) {F F0:Nat->Int} {e:Int} {sb:Bool} (h1:FunS prog G1 11 #[cfV (.slice (some ⟨ka,off,none⟩) n cap) g bx tp nr md,.agg #[.int .i64 st,.slice (some ⟨ks,off2,none⟩) N2 cap2],.int .i64 p,.int .i64 q] (hpL G1 L) (zab L) (zhi 1000 N2 F0)) (h2:FunS prog G1 12 #[cfV (.slice (some ⟨ka,off,none⟩) n cap) g bx tp nr md,.agg #[.int .i64 st,.slice (some ⟨ks,off2,none⟩) N2 cap2],.int .i64 p,.int .i64 q] (hpL G1 L) (zab L) (zhi 1000 N2 F0)) (hB:KtB L ka ks off n cap off2 N2 cap2 g bx tp nr md st p q F e sb) :
  Fun prog G1 3 #[cfV (.slice (some ⟨ka,off,none⟩) n cap) g bx tp nr md,.agg #[.int .i64 st,.slice (some ⟨ks,off2,none⟩) N2 cap2],.int .i64 p,.int .i64 q,.int .i64 x] (hpL G1 L) (zab L) (.ret (.bool true) []):=by
 refine zbr (B:=200) G1F func3 rfl call3 hT.ok ?_ (by simp) (by simp) (by simp) (by simp [ntmps3]) (by omega) ?_
 ·simp [zap,zau,zaj,zal,hT.ia,hT.ib,cfV]
 intro C hC hC0 hY
 have hA:=hT.a
 have hS:=hT.s
 have hne:=hT.ne
 have hna:=hT.na
 have hLow:=hT.low
 have hks:=hT.k1
 have hks2:=hT.k2
 have hrs:=λρ=>Blk.fx_rn hSb.fx ρ
 have hgr:=zna L ka ks bm bs hT off n cap off2 N2 cap2 g bx tp nr md st
 rw [hg] at hgr
 have hft:=zdo L ka ks bm bs hT off n cap off2 N2 cap2 fm fs hm hSb g bx tp nr md st hs
 have hft2:=zdm L ka ks bm bs hT off n cap off2 N2 cap2 fm fs hm hSb g bx tp nr md st
 generalize zjo n N2 (zd2 n fm g bx tp nr md) (zay st fs N2)=ft at *
 have wk:=zl5
 obtain ⟨v0,v1,v2,e1,hone,hone2⟩:=z6o L ka ks bm bs hT off n cap off2 N2 cap2 fm fs hm hSb hcap2 g bx tp nr md st hs p q x
 obtain ⟨hk,hk2,hst,hst2,hF6⟩:=hB
 replace hk:=hk.nmL hT.ok hT.fx 784 (by omega) (λv ns=>zcf) (by have hl:r1n 784 ka=ka:=if_neg (by have:=hT.a2;omega);have hl2:r1n 784 ks=ks:=if_neg (by omega);simp [cfV,ren,zas,zan,zao,hl,hl2]) (zf3 (ρ:=r1n 784) (nk:=784) rfl st N2 F e)
 replace hk2:=hk2.nmL hT.ok hT.fx 872 (by omega) (λv ns=>zcf) (by have hl:r1n 872 ka=ka:=if_neg (by have:=hT.a2;omega);have hl2:r1n 872 ks=ks:=if_neg (by omega);simp [cfV,ren,zas,zan,zao,hl,hl2]) (zf3 (ρ:=r1n 872) (nk:=872) rfl st N2 F e)
 replace h1:=h1.nmL hT.ok hT.fx 472 (by omega) (λv ns=>zc9) (by have hl:r1n 472 ka=ka:=if_neg (by have:=hT.a2;omega);have hl2:r1n 472 ks=ks:=if_neg (by omega);simp [cfV,ren,zas,zan,zao,hl,hl2]) (zia (ρ:=r1n 472) (nk:=472) rfl N2 F0)
 replace h2:=h2.nmL hT.ok hT.fx 552 (by omega) (λv ns=>zc9) (by have hl:r1n 552 ka=ka:=if_neg (by have:=hT.a2;omega);have hl2:r1n 552 ks=ks:=if_neg (by omega);simp [cfV,ren,zas,zan,zao,hl,hl2]) (zia (ρ:=r1n 552) (nk:=552) rfl N2 F0)
 unfold cfV at hgr hft hft2 hone hone2 h1 h2 hk hk2 hst hst2 |-
 repeat' first|refine gwZ ?_|((first|refine gwR [7,9,10] ?_|refine gwD [7,9,10] ?_);intro Q hQ _;(repeat first|simp [hC,hY,hA,hS,hne,hna,wk]|refine zar hgr hT.ok zby ?_|refine zar hone hT.ok zby ?_|refine zar hone2 hT.ok zby ?_);refine gwq hQ ?_)|refine gwC ?_ ?_<;>intro hb
 refine za7 ?_
 simp only [Array.toList]
 refine gwl 4 ?_;intro Q hQ;simp [hC,hY,zbl,zaw,hA,hS,hne,hna];apply hQ
 simp only [wT,wM,Nat.reduceAdd]
 refine zbd (f:=.func 11) (cap:=#[]) hC h1 rfl (by simp) rfl rfl (by simp [okT]) (by simp [gev]) (by simp) (by simp [okX,zbz]) (by simp [gev]) (by intro q hq;obtain ⟨p,hp,rfl⟩:=zah.1 hq;have hpb:=hT.ok.big p hp;(try dsimp only);simp (disch:=omega) only [zaa,zai,if_neg,zaw]) (by (intro k hk;first|exact hLow k hk|(simp (disch:=omega) only [hLow,zb9,List.mem_cons,List.not_mem_nil,or_false,zaa,zai,zat,if_neg,zaw,List.cons_append,List.nil_append]<;>done))) ?_ ?_
 ·intro v ns hV k hk
  rw [zc9 hV k hk]
  omega
 rintro v ns ⟨d1,l1,m1,n1,rfl,rfl⟩
 refine gwl 5 ?_;intro Q hQ;simp [hC,hY,zbl,zaw];apply hQ
 simp only [wT,wM,Nat.reduceAdd]
 refine zbh ?_
 simp only [zca]
 refine zf6 ?_
 refine za7 ?_
 simp only [Array.toList]
 refine gwl 4 ?_;intro Q hQ;simp [hC,hY,zbl,zaw,hA,hS,hne,hna];apply hQ
 simp only [wT,wM,Nat.reduceAdd]
 refine zbd (f:=.func 12) (cap:=#[]) hC h2 rfl (by simp) rfl rfl (by simp [okT]) (by simp [gev]) (by simp) (by simp [okX,zbz]) (by simp [gev]) (by intro q hq;obtain ⟨p,hp,rfl⟩:=zah.1 hq;have hpb:=hT.ok.big p hp;(try dsimp only);simp (disch:=omega) only [zaa,zai,if_neg,zaw]) (by (intro k hk;first|exact hLow k hk|(simp (disch:=omega) only [hLow,zb9,List.mem_cons,List.not_mem_nil,or_false,zaa,zai,zat,if_neg,zaw,List.cons_append,List.nil_append]<;>done))) ?_ ?_
 ·intro v ns hV k hk
  rw [zc9 hV k hk]
  omega
 rintro v ns ⟨d2,l2,m2,n2,rfl,rfl⟩
 refine gwl 5 ?_;intro Q hQ;simp [hC,hY,zbl,zaw];apply hQ
 simp only [wT,wM,Nat.reduceAdd]
 refine zbh ?_
 have hks:=zyy N2 d1 d2 l1 l2 hn4 m1 m2 (λj hj=>(n1 j hj).trans (n2 j hj).symm)
 have hv1:=λρ=>Blk.fx_rn (zba (3*d1) l1 31) ρ
 have hv2:=λρ=>Blk.fx_rn (zba (3*d2) l2 31) ρ
 repeat' first|refine gwZ ?_|((first|refine gwR [13] ?_|refine gwD [13] ?_);intro Q hQ _;(repeat first|simp [hC,hY,zbl,zaw,hA,hS,hne,hna,wk]|refine zac hks G1F (B:=200) (z6n d1 d2 l1 l2) (λk=>if k=100 then 472 else if k=108 then 552 else k) (λk hk=>(if_neg (by omega)).trans (if_neg (by omega))) (by simp [ren,zas,zan,zao]) (by simp) (by simp [ksL,hv1,hv2,zaw]) (by simp [zab,ksL]) (by simp [zab,ksL];rfl) ?_);refine gwq hQ ?_)|refine gwC ?_ ?_<;>intro hb
 refine za7 ?_
 simp only [Array.toList]
 refine gwl 4 ?_;intro Q hQ;simp [hC,hY,zbl,zaw,hA,hS,hne,hna];apply hQ
 simp only [wT,wM,Nat.reduceAdd]
 refine zbd (f:=.func 14) (cap:=#[]) hC hk rfl (by simp) rfl rfl (by simp [okT]) (by simp [gev]) (by simp) (by simp [okX,zbz]) (by simp [gev]) (by intro q hq;obtain ⟨p,hp,rfl⟩:=zah.1 hq;have hpb:=hT.ok.big p hp;(try dsimp only);simp (disch:=omega) only [zaa,zai,if_neg,zaw]) (by (intro k hk;first|exact hLow k hk|(simp (disch:=omega) only [hLow,zb9,List.mem_cons,List.not_mem_nil,or_false,zaa,zai,zat,if_neg,zaw,List.cons_append,List.nil_append]<;>done))) ?_ ?_
 ·intro v ns hV k hk
  rw [zcf hV k hk]
  omega
 rintro v ns ⟨_,⟨c1,M1,g1,x1,y1,z1,rfl,rfl⟩,rfl⟩
 refine gwl 6 ?_;intro Q hQ;simp [hC,hY,zbl,zaw];apply hQ
 simp only [wT,wM,Nat.reduceAdd]
 refine zbh ?_
 simp only [zca]
 refine zf6 ?_
 refine za7 ?_
 simp only [Array.toList]
 refine gwl 4 ?_;intro Q hQ;simp [hC,hY,zbl,zaw,hA,hS,hne,hna];apply hQ
 simp only [wT,wM,Nat.reduceAdd]
 refine zbd (f:=.func 15) (cap:=#[]) hC hk2 rfl (by simp) rfl rfl (by simp [okT]) (by simp [gev]) (by simp) (by simp [okX,zbz]) (by simp [gev]) (by intro q hq;obtain ⟨p,hp,rfl⟩:=zah.1 hq;have hpb:=hT.ok.big p hp;(try dsimp only);simp (disch:=omega) only [zaa,zai,if_neg,zaw]) (by (intro k hk;first|exact hLow k hk|(simp (disch:=omega) only [hLow,zb9,List.mem_cons,List.not_mem_nil,or_false,zaa,zai,zat,if_neg,zaw,List.cons_append,List.nil_append]<;>done))) ?_ ?_
 ·intro v ns hV k hk
  rw [zcf hV k hk]
  omega
 rintro v ns ⟨_,⟨c2,M2,g2,x2,y2,z2,rfl,rfl⟩,rfl⟩
 refine gwl 6 ?_;intro Q hQ;simp [hC,hY,zbl,zaw];apply hQ
 simp only [wT,wM,Nat.reduceAdd]
 refine zbh ?_
 have hsm:=(zno ⟨fa M1 .i64 g1,.ty 45⟩ ⟨fa M2 .i64 g2,.ty 45⟩ 0 0 N2 N2 c1 c2 F F (zfi y1 z1 hF6 hSb.nn) (zfi y2 z2 hF6 hSb.nn) st st).up1 (zk3 (zba _ _ _) (zba _ _ _))
 rw [zk2.2 ⟨rfl,rfl,λ_ _=>rfl⟩] at hsm
 have hr1:=λρ=>Blk.fx_rn (zba M1 g1 45) ρ
 have hr2:=λρ=>Blk.fx_rn (zba M2 g2 45) ρ
 repeat' first|refine gwZ ?_|((first|refine gwR [16,17,18,19,20] ?_|refine gwD [16,17,18,19,20] ?_);intro Q hQ _;(repeat first|simp [hC,hY,zbl,zaw,hA,hS,hne,hna,wk]|refine zac hsm G1F (B:=200) (zk3 (zba _ _ _) (zba _ _ _)) (λk=>if k=100 then 784 else if k=108 then 872 else k) (λk hk=>(if_neg (by omega)).trans (if_neg (by omega))) (by simp [ren,zas,zan,zao]) (by simp) (by simp [smL,hr1,hr2,zaw]) (by simp [zab,smL]) (by simp [zab,smL];rfl) ?_|refine zar hst hT.ok zby ?_|refine zar hst2 hT.ok zby ?_|refine zar hft hT.ok zby ?_|refine zar hft2 hT.ok zby ?_);refine hQ _ _ _ _ ?_ ?_;(focus (first|(rfl;done)|(refine zsp ?_;repeat (first|(exact λq hq=>roN hq;done)|refine ro1 ?_|refine ro2 ?_)))))|refine gwC ?_ ?_<;>intro hb
 refine ⟨.inr rfl,by simp [results3],kpT G1F⟩
theorem zhx (L:List (Nat×Blk)) (ka ks:Nat) (bm bs:Blk) (hT:LKa L ka ks bm bs) (off n cap:Nat) (fm:Nat->Int) (hm:MB bm off n fm) (hcap:n<=cap) (off2 N2 cap2:Nat) (fs:Nat->Int) (hSb:SB bs off2 N2 fs) (hcap2:N2<=cap2) (g bx tp nr md st p q x:Int) (_:i64 g) (_:i64 bx) (_:i64 tp) (_:i64 nr) (_:i64 md) (hs:i64 st) (hp:i64 p) (hq:i64 q) (hx:i64 x) :
  Fun prog G1 3 #[cfV (.slice (some ⟨ka,off,none⟩) n cap) g bx tp nr md,.agg #[.int .i64 st,.slice (some ⟨ks,off2,none⟩) N2 cap2],.int .i64 p,.int .i64 q,.int .i64 x] (hpL G1 L) (zab L) (.ret (.bool true) []):=by
 cases hg:decide (9<n)||decide (9<N2) with
 | true=>exact zy0 L ka ks bm bs hT off n cap off2 N2 cap2 fm fs hm hSb hcap2 g bx tp nr md st hs p q x hg
 | false =>
  rcases jff L ka ks bm bs hT off n cap off2 N2 cap2 fm fs hm hSb hcap2 g bx tp nr md st hs p q with ⟨e,he,h1,h2,hB⟩|⟨hn4,F0,F,e,sb,h1,h2,hB⟩
  ·exact z9k L ka ks bm bs hT off n cap off2 N2 cap2 fm fs hm hSb hcap2 g bx tp nr md st hs p q x hg h1 h2 hB
  ·exact z9l L ka ks bm bs hT off n cap off2 N2 cap2 fm fs hm hSb hcap2 g bx tp nr md st hs p q x hg hn4 h1 h2 hB
end Go.Gy
