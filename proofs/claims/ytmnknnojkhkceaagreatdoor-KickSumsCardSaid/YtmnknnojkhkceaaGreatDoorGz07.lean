/-
  Lemmas of this claim, in their order (GyGK, GyGL, GyGM, GyPC, GyFJ, GyFK, GyFA, GyU9, GyUA, GyUG, GyUI, GyRD, GyRE, GyRG, GyUJ, GyGP, GyGR, GyFM, GyGT, GyPD, GyGX, GyH, GyHS, GyHP, GyHT).
  Conditions: those of each theorem.
-/
import Derived.Test.YtmnknnojkhkceaaGreatDoorGz06
import Derived.Stop.LaidErr
import Derived.Test.YtmnknnojkhkceaaGreatDoorCards
import Derived.Test.YtmnknnojkhkceaaGreatDoorTie
import Derived.WalkKit
import Derived.ProofKit
import Derived.OpenShut
import Derived.Below
import Derived.ChangeSame
import Derived.Deep.DeepHandedRow
import Derived.Lib.LaidTab
import Derived.Deep.Slices
import Derived.ReadAgain
import Derived.Carry
import Derived.Deep.Strs
set_option linter.unusedSimpArgs false
set_option linter.unusedVariables false
namespace Go.Gy
set_option linter.unusedSimpArgs false
set_option linter.unusedVariables false
open Go Go.RowKit Go.Proofs Go.Proofs.Tryz
theorem zxh {c:Nat} {g:Nat→Int} (i o:Nat) (a0 a1 a2:Int) (hc:i<c) (ho:o=3*i) (h0:g (3*i)=a0) (h1:g (3*i+1)=a1) (h2:g (3*i+2)=a2):zdk prog 31 ⟨fa (3*c) .i64 g,.ty 31⟩ o=some (.agg #[.int .i64 a0,.int .i64 a1,.int .i64 a2]):=by
 subst h0 h1 h2
 rw [ho,show 3*i=i*3 by omega,zj4 (n:=c) (Nat.le_refl _) hc,show i*3=3*i by omega]
theorem zr5 {M n:Nat} {g F:Nat→Int} (hM:6*n≤M) (hg:∀ j,j<6*n→g j=F j) (i o:Nat) (a0 a1 a2:Int) (hi:i<n) (ho:o=6*i+3) (h0:F (6*i+3)=a0) (h1:F (6*i+3+1)=a1) (h2:F (6*i+3+2)=a2):zdk prog 31 ⟨fa M .i64 g,.ty 45⟩ o=some (.agg #[.int .i64 a0,.int .i64 a1,.int .i64 a2]):=by
 have:=zji (P:=prog) (T:=31) (m:=3) (j:=6*i+3) (zbl isAgg31) (zal sizeOf31) (by omega) (zsv M g (.ty 45)) (by omega)
 rw [Nat.zero_add] at this
 rw [ho,this,z75,hg _ (by omega),hg _ (by omega),hg _ (by omega),h0,h1,h2]
theorem zlg {ρ:Nat→Nat}:kwM.rn ρ=kwM:=Blk.fx_rn zhx ρ
theorem zlh {ρ:Nat→Nat}:kwS.rn ρ=kwS:=Blk.fx_rn zhy ρ
theorem zli {ρ:Nat→Nat}:kwT.rn ρ=kwT:=Blk.fx_rn zsb ρ
theorem zlj {ρ:Nat→Nat}:kwZ.rn ρ=kwZ:=Blk.fx_rn zxi ρ
theorem jfx:tyB prog 45=some 48:=by kernel_rfl
def w6N:List (Nat×Nat):=[(0,59),(1,60),(2,61),(3,62),(4,63),(5,64),(6,65),(7,66),(8,67),(9,68),(10,69),(11,70),(12,71),(13,72),(14,73),(15,74),(16,75),(17,76),(18,77),(19,78),(20,79),(21,80),(22,81),(23,82),(24,83),(25,84),(26,85),(27,86),(28,87),(29,88),(30,89),(31,90),(32,91),(33,92),(34,93),(35,94),(36,95),(37,96),(38,97),(39,98),(40,99),(41,100),(42,101),(43,102),(44,103),(45,104),(46,105),(47,106),(48,107),(49,108),(50,109),(51,110),(52,111),(53,112),(54,113),(55,114),(56,115),(57,116),(58,117),(59,118),(60,119),(61,120),(62,121),(63,122),(64,123),(65,124),(66,125),(67,126),(68,127),(69,0)]
def w6X:List (Nat×Nat):=[(48,1112)]
def w6D:List (Nat×Nat):=[(49,48),(50,48)]
def w6V (cL cO MO:Nat) (gL gO:Nat→Int)  : Nat→Value
 | 0=>.int .i64 0
 | 1=>.bool true
 | 2=>.bool true
 | 3=>.slice (some ⟨288,0,none⟩) 2 cL
 | 4=>.pointer (some ⟨288,0,none⟩)
 | 5=>.agg #[.int .i64 2,.int .i64 0,.int .i64 0]
 | 6=>.agg #[.int .i64 2,.int .i64 0,.int .i64 0]
 | 7=>.bool true
 | 8=>.bool true
 | 9=>.bool true
 | 10=>.slice (some ⟨288,0,none⟩) 2 cL
 | 11=>.pointer (some ⟨288,3,none⟩)
 | 12=>.agg #[.int .i64 (-1),.int .i64 0,.int .i64 0]
 | 13=>.agg #[.int .i64 (-1),.int .i64 0,.int .i64 0]
 | 14=>.bool true
 | 15=>.bool true
 | 16=>.bool true
 | 17=>.int .i64 0
 | 18=>.bool true
 | 19=>.bool true
 | 20=>.bool true
 | 21=>.pointer (some ⟨384,1,none⟩)
 | 22=>.slice (some ⟨352,0,none⟩) 2 cO
 | 23=>.pointer (some ⟨352,6,none⟩)
 | 24=>.pointer (some ⟨352,9,none⟩)
 | 25=>.agg #[.int .i64 6,.int .i64 0,.int .i64 0]
 | 26=>.agg #[.int .i64 6,.int .i64 0,.int .i64 0]
 | 27=>.bool true
 | 28=>.bool true
 | 29=>.bool true
 | 30=>.pointer (some ⟨384,1,none⟩)
 | 31=>.slice (some ⟨352,0,none⟩) 2 cO
 | 32=>.pointer (some ⟨352,0,none⟩)
 | 33=>.pointer (some ⟨352,3,none⟩)
 | 34=>.agg #[.int .i64 (-2),.int .i64 0,.int .i64 0]
 | 35=>.agg #[.int .i64 (-2),.int .i64 0,.int .i64 0]
 | 36=>.bool true
 | 37=>.bool true
 | 38=>.bool true
 | 39=>.int .i64 2
 | 40=>.bool true
 | 41=>.bool true
 | 42=>.bool true
 | 43=>.int .i64 30
 | 44=>.bool true
 | 45=>.bool true
 | 46=>.bool true
 | 47=>.agg #[.slice (some ⟨624,0,none⟩) 1 1,.int .i64 1,.int .i64 1,.int .i64 1,.int .i64 1,.int .i64 0]
 | 48=>.slice (some ⟨1112,0,none⟩) 1 1
 | 49=>.agg #[.int .i64 0,.slice (some ⟨1112,0,none⟩) 1 1]
 | 50=>.bool true
 | 51=>.bool true
 | 52=>.bool true
 | 53=>.agg #[.slice (some ⟨208,0,none⟩) 2 2,.int .i64 100,.int .i64 1000,.int .i64 1000,.int .i64 2,.int .i64 0]
 | 54=>.agg #[.int .i64 0,.slice (some ⟨209,0,none⟩) 2 2]
 | 55=>.bool false
 | 56=>.bool true
 | 57=>.bool true
 | 58=>.bool true
 | 59=>.agg #[.slice (some ⟨208,0,none⟩) 2 2,.int .i64 100,.int .i64 1000,.int .i64 1000,.int .i64 2,.int .i64 0]
 | 60=>.agg #[.int .i64 0,.slice (some ⟨209,0,none⟩) 2 2]
 | 61=>.bool true
 | 62=>.bool true
 | 63=>.bool true
 | 64=>.agg #[.slice (some ⟨624,0,none⟩) 1 1,.int .i64 1,.int .i64 1,.int .i64 1,.int .i64 1,.int .i64 0]
 | 65=>.agg #[.int .i64 0,.slice (some ⟨209,0,none⟩) 2 2]
 | 66=>.bool false
 | 67=>.bool true
 | 68=>.bool true
 | 69=>.bool true
 | _=>.bool true
def w6Bk (cL cO MO:Nat) (gL gO:Nat→Int)  : Nat→Blk
 | 48=>kwZ
 | _=>⟨#[],.mp⟩
structure w6F (cL cO MO:Nat) (gL gO:Nat→Int) (ts0:Nat→Value) (hp0:Hp):Prop where
 e1:ts0 1=.pointer (some ⟨240,0,none⟩)
 e2:ts0 2=.pointer (some ⟨248,0,none⟩)
 e3:ts0 3=.slice (some ⟨288,0,none⟩) 2 cL
 e4:ts0 4=.int .i64 0
 e5:ts0 5=.pointer (some ⟨384,0,none⟩)
 e6:ts0 6=.int .i64 0
 e8:ts0 8=.int .i64 2
 e11:ts0 11=.int .i64 30
 e12:ts0 12=.pointer (some ⟨640,0,none⟩)
 b240:hp0 240=some (⟨#[.slice (some ⟨208,0,none⟩) 2 2,.int .i64 100,.int .i64 1000,.int .i64 1000,.int .i64 2,.int .i64 0],.ty 24⟩)
 b248:hp0 248=some (⟨#[.int .i64 0,.slice (some ⟨209,0,none⟩) 2 2],.ty 27⟩)
 b288:hp0 288=some (⟨fa (3*cL) .i64 gL,.ty 31⟩)
 b384:hp0 384=some (⟨#[.int .i64 0,.slice (some ⟨352,0,none⟩) 2 cO],.ty 27⟩)
 b352:hp0 352=some (⟨fa MO .i64 gO,.ty 45⟩)
 b640:hp0 640=some (⟨#[.slice (some ⟨624,0,none⟩) 1 1,.int .i64 1,.int .i64 1,.int .i64 1,.int .i64 1,.int .i64 0],.ty 24⟩)
 b624:hp0 624=some (kwT)
 b208:hp0 208=some (kwM)
 b209:hp0 209=some (kwS)
 low:∀ k,k<100→hp0 k=G1 k
theorem w6N1:(w6N.map Prod.fst).Nodup:=by decide +kernel
theorem w6N2:(w6N.map Prod.snd).Nodup:=by decide +kernel
theorem w6X1:(w6X.map Prod.fst).Nodup:=by decide +kernel
theorem w6X200:∀ k,k<200→k∉w6X.map Prod.snd:=fun k hk=>by simp [w6X];try omega
set_option maxRecDepth 100000 in
set_option maxHeartbeats 16000000 in
theorem zq7:Ret prog G1 8 #[] (.bool true):=by
 refine zar G1F func8 rfl call8 rfl (by simp) (by simp [ntmps8]) ?_
 intro C hC hC0 hY
 have hT2:=LKa.two zhx zhy
 have hT3:=LKa.two zsb zxi
 have hTF:=LKa.two zsb zhy
 have dKi:=(zhv _ 100 108 kwM kwS hT2 0 2 2 0 2 kwm kwb zlf zj5 100 1000 1000 2 0 0 (by decide) 1 1 zt6 zxk (by decide) zxj).own3 (args':=#[cfV (.slice (some ⟨208,0,none⟩) 2 2) 100 1000 1000 2 0,.agg #[.int .i64 0,.slice (some ⟨209,0,none⟩) 2 2],.int .i64 1,.int .i64 1]) zhx zhy 208 209 288 (by omega) (by omega) (by omega) (by omega) (by omega) (by omega) (fun v ns=>zf9) (by simp [cfV,ren,zax,zak,zao,zyn,zyo]) (zr8 jaa _ _)
 have hKb:=zxb _ 100 108 kwM kwS hT2 0 2 2 0 2 kwm kwb zlf zj5 100 1000 1000 2 0 0 (by decide) 1 0 zt6 zxk (by decide)
 have dKk:=(z8v _ 100 108 kwM kwS hT2 0 2 2 0 2 kwm kwb zlf zj5 (by omega) 100 1000 1000 2 0 0 (by decide) (-1) 1 zt6 zxk (by decide) zxj jmm).own3 (args':=#[cfV (.slice (some ⟨208,0,none⟩) 2 2) 100 1000 1000 2 0,.agg #[.int .i64 0,.slice (some ⟨209,0,none⟩) 2 2],.int .i64 (-1),.int .i64 1]) zhx zhy 208 209 352 (by omega) (by omega) (by omega) (by omega) (by omega) (by omega) (fun v ns=>zsq) (by simp [cfV,ren,zax,zak,zao,zyn,zyo]) (z9v jaa _ _ _ _)
 have dOw:=zxe 209 480 (by omega) (by omega) (by omega) kwS 0 2 2 kwb zj5 (by omega) 0
 have hS1:=zoc _ 100 108 kwT kwZ hT3 0 1 1 0 1 (fun _=>3) (fun _=>0) z5s jfv 1 1 1 1 0 0 (by decide) 7 1 jft jfu (by decide) z83
 have hS2:=zoc _ 100 108 kwM kwS hT2 0 2 2 0 2 kwm kwb zlf zj5 100 1000 1000 2 0 0 (by decide) 1 1 zt6 zxk (by decide) zxj
 rw [jfw] at hS1
 rw [jmj] at hS2
 have hF1:=zd2 _ 100 108 kwM kwS hT2 0 2 2 0 2 2 kwm kwb zlf zj5 100 1000 1000 2 0 0 (by decide)
 have hF2:=zd2 _ 100 108 kwT kwS hTF 0 1 1 0 2 2 (fun _=>3) kwb z5s zj5 1 1 1 1 0 0 (by decide)
 rw [zev.2 ⟨rfl,zt6,zxk⟩] at hF1
 have e2:znb 1 2 (ze8 1 (fun _=>3) 1 1 1 1 0) (za7 0 kwb 2)=false:=by decide
 rw [e2] at hF2
 clear e2
 unfold cfV at dKi hKb dKk hS1 hS2 hF1 hF2
 repeat' (first|refine gwA ?_|(refine gwX ?_;intro Q hQ hP;simp [hC,hY];refine gwq hQ ?_;clear hQ hP Q)|(refine gwC ?_ ?_<;>(intro hb;try (cases hb;done))))
 refine zcm ?_
 simp only [Array.toList]
 refine zdo (f:=.func 25) (cap:=#[]) hC (jhx 208 (by omega)) rfl (by simp) rfl rfl (by simp [okT]) (by simp [gev]) (by simp) (by simp [okX,zcj]) (by simp [gev]) (by simp [zb6,zbh]) (by (intro k hk;first|rfl|(simp (disch:=omega) only [zcz,List.mem_cons,List.not_mem_nil,or_false,zaa,zam,za6,if_neg,zbh]<;>done))) ?_ ?_
 ·intro v ns hV k hk
  have:=zjm hV k hk
  omega
 rintro v ns ⟨rfl,rfl⟩
 refine zbc 7 [] rfl (by simp) (by kernel_rfl) ?_;intro q hq;simp [hC,hY,zb6,zbh,cfV];refine hq _ _ _ _ ?_;clear hq q
 simp only [wT,List.length_cons,List.length_nil,Nat.reduceAdd]
 refine zc2 ?_
 repeat' (first|refine gwA ?_|(refine gwX ?_;intro Q hQ hP;simp [hC,hY,zb6,zbh];refine gwq hQ ?_;clear hQ hP Q)|(refine gwC ?_ ?_<;>(intro hb;try (cases hb;done))))
 refine zcm ?_
 simp only [Array.toList]
 refine zbc 2 [] rfl (by simp) (by kernel_rfl) ?_;intro q hq;simp [hC,hY,zb6,zbh];refine hq _ _ _ _ ?_;clear hq q
 simp only [wT,List.length_cons,List.length_nil,Nat.reduceAdd]
 refine zdo (f:=.func 11) (cap:=#[]) hC dKi rfl (by simp) rfl rfl (by simp [okT]) (by simp [gev]) (by simp) (by simp [okX,zcj]) (by simp [gev]) (by simp [zb6,zbh]) (by (intro k hk;first|rfl|(simp (disch:=omega) only [zcz,List.mem_cons,List.not_mem_nil,or_false,zaa,zam,za6,if_neg,zbh]<;>done))) ?_ ?_
 ·intro v ns hV k hk
  have:=zf9 hV k hk
  omega
 rintro v ns ⟨cL,gL,lc,lg,rfl,rfl⟩
 refine zbc 5 [] rfl (by simp) (by kernel_rfl) ?_;intro q hq;simp [hC,hY,zb6,zbh,cfV];refine hq _ _ _ _ ?_;clear hq q
 simp only [wT,List.length_cons,List.length_nil,Nat.reduceAdd]
 refine zc2 ?_
 repeat' (first|refine gwA ?_|(refine gwX ?_;intro Q hQ hP;simp [hC,hY,zb6,zbh];refine gwq hQ ?_;clear hQ hP Q)|(refine gwC ?_ ?_<;>(intro hb;try (cases hb;done))))
 have hxr:=fun ρ=>Blk.fx_rn (zbz (3*cL) gL 31) ρ
 refine zcm ?_
 simp only [Array.toList]
 refine zbc 2 [] rfl (by simp) (by kernel_rfl) ?_;intro q hq;simp [hC,hY,zb6,zbh];refine hq _ _ _ _ ?_;clear hq q
 simp only [wT,List.length_cons,List.length_nil,Nat.reduceAdd]
 refine zdo (f:=.func 14) (cap:=#[]) hC dKk rfl (by simp) rfl rfl (by simp [okT]) (by simp [gev]) (by simp) (by simp [okX,zcj]) (by simp [gev]) (by simp [zb6,zbh]) (by (intro k hk;first|rfl|(simp (disch:=omega) only [zcz,List.mem_cons,List.not_mem_nil,or_false,zaa,zam,za6,if_neg,zbh]<;>done))) ?_ ?_
 ·intro v ns hV k hk
  have:=zsq hV k hk
  omega
 rintro v ns ⟨_,⟨cO,MO,gO,oc,oM,og,rfl,rfl⟩,rfl⟩
 refine zbc 6 [] rfl (by simp) (by kernel_rfl) ?_;intro q hq;simp [hC,hY,zb6,zbh,cfV];refine hq _ _ _ _ ?_;clear hq q
 simp only [wT,List.length_cons,List.length_nil,Nat.reduceAdd]
 refine zc2 ?_
 repeat' (first|refine gwA ?_|((first|refine gwR [11] ?_|refine gwD [11] ?_);intro Q hQ hP;(repeat first|simp [hC,hY,zb6,zbh]|(refine zah hKb G1F hT2.ok (fun k=>if k=100 then 208 else if k=108 then 209 else k) (fun k hk=>(if_neg (by omega)).trans (if_neg (by omega))) ?_ (by simp) (by simp [zlg,zlh,zli,zlj,hxr]<;>(try simp [kwM,kwS,kwT,kwZ])) (by simp [zab]) (by simp [zab];rfl) ?_;focus (simp [ren,zax,zak,zao];done)));refine gwq hQ ?_;clear hQ hP Q)|(refine gwC ?_ ?_<;>(intro hb;try (cases hb;done))))
 refine zcm ?_
 simp only [Array.toList]
 refine zbc 1 [] rfl (by simp) (by kernel_rfl) ?_;intro q hq;simp [hC,hY,zb6,zbh];refine hq _ _ _ _ ?_;clear hq q
 simp only [wT,List.length_cons,List.length_nil,Nat.reduceAdd]
 refine zdo (f:=.func 22) (cap:=#[]) hC dOw rfl (by simp) rfl rfl (by simp [okT]) (by simp [gev]) (by simp) (by simp [okX,zcj]) (by simp [gev]) (by simp [zb6,zbh]) (by (intro k hk;first|rfl|(simp (disch:=omega) only [zcz,List.mem_cons,List.not_mem_nil,or_false,zaa,zam,za6,if_neg,zbh]<;>done))) ?_ ?_
 ·intro v ns hV k hk
  have:=zgm hV k hk
  omega
 rintro v ns ⟨cX,MX,gX,xc,xM,xg,rfl,rfl⟩
 refine zbc 2 [] rfl (by simp) (by kernel_rfl) ?_;intro q hq;simp [hC,hY,zb6,zbh,cfV];refine hq _ _ _ _ ?_;clear hq q
 simp only [wT,List.length_cons,List.length_nil,Nat.reduceAdd]
 refine zc2 ?_
 have m9:6+3≤MX:=by omega
 have m9':9≤MX:=by omega
 have x2:1<cX:=by omega
 have o2:1<cO:=by omega
 have hXx:∀ j,j<6*2→zvi gX 6 0 0 0 j=kwx j:=fun j hj=>by
  unfold zvi
  have hj9:=xg j hj
  rw [hj9]
  have:j=0∨j=1∨j=2∨j=3∨j=4∨j=5∨j=6∨j=7∨j=8∨j=9∨j=10∨j=11:=by omega
  rcases this with rfl|rfl|rfl|rfl|rfl|rfl|rfl|rfl|rfl|rfl|rfl|rfl<;>rfl
 have hSx:SB ⟨fa MX .i64 (zvi gX 6 0 0 0),.ty 45⟩ 0 2 kwx:=zxf xM hXx (fun j hj=>by
  have:j=0∨j=1∨j=2∨j=3∨j=4∨j=5∨j=6∨j=7∨j=8∨j=9∨j=10∨j=11:=by omega
  rcases this with rfl|rfl|rfl|rfl|rfl|rfl|rfl|rfl|rfl|rfl|rfl|rfl<;>decide) (by omega)
 have hTX:=LKa.two zhx hSx.fx
 have hOn:=zxd _ 100 108 kwM _ hTX 0 2 2 0 cX kwm kwx zlf hSx 100 1000 1000 2 0 0 (by decide) 1 1 1 zt6 jmo (by decide) 1 (by omega) rfl jmp
 have hxr:=fun ρ=>Blk.fx_rn hSx.fx ρ
 unfold cfV at hOn
 obtain ⟨f0,f1,f2,f3,f4,f5⟩:=jpo
 have l2:1<cL:=by omega
 have l1:0<cL:=by omega
 have v0:=zxh (c:=cL) (g:=gL) 0 0 2 0 0 l1 rfl ((lg _ (by omega)).trans f0) ((lg _ (by omega)).trans f1) ((lg _ (by omega)).trans f2)
 have v1:=zxh (c:=cL) (g:=gL) 1 3 (-1) 0 0 l2 rfl ((lg _ (by omega)).trans f3) ((lg _ (by omega)).trans f4) ((lg _ (by omega)).trans f5)
 have b0:=zr5 (M:=MO) (g:=gO) oM og 0 3 (-2) 0 0 (by omega) rfl (zp5 _ (by omega)) (zp5 _ (by omega)) (zp5 _ (by omega))
 have b1:=zr5 (M:=MO) (g:=gO) oM og 1 9 6 0 0 (by omega) rfl (zp5 _ (by omega)) (zp5 _ (by omega)) (zp5 _ (by omega))
 have tyb:=jfx
 have e9:(((fa MX .i64 gX).setIfInBounds 6 (Value.int .i64 0)).setIfInBounds 7 (Value.int .i64 0)).setIfInBounds 8 (Value.int .i64 0)=fa MX .i64 (zvi gX 6 0 0 0):=by
  rw [zdf,zdf,zdf]
  exact congrArg _ (zsu gX 6 0 0 0)
 repeat' (first|refine gwA ?_|((first|refine gwR [9] ?_|refine gwD [9] ?_);intro Q hQ hP;(repeat first|simp [hC,hY,zb6,zbh,m9,m9',x2,o2,e9]|(refine zah hOn G1F hTX.ok (fun k=>if k=100 then 208 else if k=108 then 480 else k) (fun k hk=>(if_neg (by omega)).trans (if_neg (by omega))) ?_ (by simp) (by simp [zlg,zlh,zli,zlj,hxr]<;>(try simp [kwM,kwS,kwT,kwZ])) (by simp [zab]) (by simp [zab];rfl) ?_;focus (simp [ren,zax,zak,zao];done)));refine gwq hQ ?_;clear hQ hP Q)|(refine gwC ?_ ?_<;>(intro hb;try (cases hb;done))))
 refine z4q follows ?_
 simp only [Array.toList,List.append_eq,List.cons_append,List.nil_append,List.length_cons,List.length_nil,Nat.reduceAdd]
 refine jor (w6F cL cO MO gL gO) ?_ ?_
 ·refine ⟨by simp [zb6,zbh,kwT],by simp [zb6,zbh,kwT],by simp [zb6,zbh,kwT],by simp [zb6,zbh,kwT],by simp [zb6,zbh,kwT],by simp [zb6,zbh,kwT],by simp [zb6,zbh,kwT],by simp [zb6,zbh,kwT],by simp [zb6,zbh,kwT],by simp [zb6,zbh,kwT],by simp [zb6,zbh,kwT],by simp [zb6,zbh,kwT],by simp [zb6,zbh,kwT],by simp [zb6,zbh,kwT],by simp [zb6,zbh,kwT],by simp [zb6,zbh,kwT],by simp [zb6,zbh,kwT],by simp [zb6,zbh,kwT],?_⟩
  ·intro k hk
   simp (disch:=omega) only [zaa,zbh,zam,za6,if_neg]
 intro ts0 hp0 hF
 refine zvl (fun listed ts hp=>TJ w6N w6X w6D (w6V cL cO MO gL gO ) (w6Bk cL cO MO gL gO ) ts0 hp0 listed ts hp) (fun listed ts hp szR rdR hI=>?_) (fun fuel listed ts hp i szR hi hdep h hk=>?_) _ _ _ _ (by simp) (by decide +kernel) ?_
 ·have hall':=jc2 szR (by kernel_rfl) rdR
  have hall:∀ i,i<70→listed[i]? = some true:=fun i hi=>hall' i (by simpa using hi)
  skip
  have k0:ts 0=.bool true:=hI.tm (69,0) (by decide) (hall 69 (by omega))
  have clow:∀ k,k<100→hp k=G1 k:=fun k hk=>(hI.ext (w6X200 _ (by omega))).trans (hF.low k hk)
  simp only [zdm]
  repeat' (first|refine gwA ?_|(refine gwX ?_;intro Q hQ hP;simp [hC,hY,k0];refine gwq hQ ?_;clear hQ hP Q)|(refine gwC ?_ ?_<;>(intro hb;try (cases hb;done))))
  refine ⟨.inr trivial,?_⟩
  simp [results8,k0]
 ·have hlt:i<70:=by
   have:=(Array.getElem?_eq_some_iff.1 hi).1
   rw [szR] at this
   simpa using this
  skip
  obtain rfl|rfl|rfl|rfl|rfl|rfl|rfl|rfl|rfl|rfl|rfl|rfl|rfl|rfl|rfl|rfl|rfl|rfl|rfl|rfl|rfl|rfl|rfl|rfl|rfl|rfl|rfl|rfl|rfl|rfl|rfl|rfl|rfl|rfl|rfl|rfl|rfl|rfl|rfl|rfl|rfl|rfl|rfl|rfl|rfl|rfl|rfl|rfl|rfl|rfl|rfl|rfl|rfl|rfl|rfl|rfl|rfl|rfl|rfl|rfl|rfl|rfl|rfl|rfl|rfl|rfl|rfl|rfl|rfl|rfl:i=0∨i=1∨i=2∨i=3∨i=4∨i=5∨i=6∨i=7∨i=8∨i=9∨i=10∨i=11∨i=12∨i=13∨i=14∨i=15∨i=16∨i=17∨i=18∨i=19∨i=20∨i=21∨i=22∨i=23∨i=24∨i=25∨i=26∨i=27∨i=28∨i=29∨i=30∨i=31∨i=32∨i=33∨i=34∨i=35∨i=36∨i=37∨i=38∨i=39∨i=40∨i=41∨i=42∨i=43∨i=44∨i=45∨i=46∨i=47∨i=48∨i=49∨i=50∨i=51∨i=52∨i=53∨i=54∨i=55∨i=56∨i=57∨i=58∨i=59∨i=60∨i=61∨i=62∨i=63∨i=64∨i=65∨i=66∨i=67∨i=68∨i=69:=by omega
  ·-- 0
   have vx4:ts 4=.int .i64 0:=(h.t0 4 (by decide)).trans hF.e4
   refine zas [] rfl (by kernel_rfl) (by first|assumption|simp) ?_;intro q hq;simp [hC,hY,vx4,v0,v1,b0,b1,tyb,x2,o2,l1,l2];refine hq _ _ _ _ ?_;clear hq q
   exact hk _ _ (h.tmp w6N1 w6N2 hi (by simp [w6D]) (i:=0) (t:=59) (by decide) rfl (by decide))
  ·-- 1
   have hd0:=hdep _ rfl
   simp [Region.binds] at hd0
   have d0:listed[0]? = some true:=by simp [hd0]
   have vf0:ts 59=.int .i64 0:=h.tm (0,59) (by decide) d0
   refine zas [] rfl (by kernel_rfl) (by first|assumption|simp) ?_;intro q hq;simp [hC,hY,vf0,v0,v1,b0,b1,tyb,x2,o2,l1,l2];refine hq _ _ _ _ ?_;clear hq q
   exact hk _ _ (h.tmp w6N1 w6N2 hi (by simp [w6D,d0]) (i:=1) (t:=60) (by decide) rfl (by decide))
  ·-- 2
   have hd0:=hdep _ rfl
   simp [Region.binds] at hd0
   have d1:listed[1]? = some true:=by simp [hd0]
   have vf1:ts 60=.bool true:=h.tm (1,60) (by decide) d1
   refine zas [] rfl (by kernel_rfl) (by first|assumption|simp) ?_;intro q hq;simp [hC,hY,vf1,v0,v1,b0,b1,tyb,x2,o2,l1,l2];refine hq _ _ _ _ ?_;clear hq q
   exact hk _ _ (h.tmp w6N1 w6N2 hi (by simp [w6D,d1]) (i:=2) (t:=61) (by decide) rfl (by decide))
  ·-- 3
   have hd0:=hdep _ rfl
   simp [Region.binds] at hd0
   have d2:listed[2]? = some true:=by simp [hd0]
   have vf2:ts 61=.bool true:=h.tm (2,61) (by decide) d2
   have vx3:ts 3=.slice (some ⟨288,0,none⟩) 2 cL:=(h.t0 3 (by decide)).trans hF.e3
   refine zas [] rfl (by kernel_rfl) (by first|assumption|simp) ?_;intro q hq;simp [hC,hY,vf2,vx3,v0,v1,b0,b1,tyb,x2,o2,l1,l2];refine hq _ _ _ _ ?_;clear hq q
   exact hk _ _ (h.tmp w6N1 w6N2 hi (by simp [w6D,d2]) (i:=3) (t:=62) (by decide) rfl (by decide))
  ·-- 4
   have hd0:=hdep _ rfl
   simp [Region.binds] at hd0
   have d2:listed[2]? = some true:=by simp [hd0]
   have d3:listed[3]? = some true:=by simp [hd0]
   have vf2:ts 61=.bool true:=h.tm (2,61) (by decide) d2
   have vf3:ts 62=.slice (some ⟨288,0,none⟩) 2 cL:=h.tm (3,62) (by decide) d3
   refine zas [] rfl (by kernel_rfl) (by first|assumption|simp) ?_;intro q hq;simp [hC,hY,vf2,vf3,v0,v1,b0,b1,tyb,x2,o2,l1,l2];refine hq _ _ _ _ ?_;clear hq q
   exact hk _ _ (h.tmp w6N1 w6N2 hi (by simp [w6D,d2,d3]) (i:=4) (t:=63) (by decide) rfl (by decide))
  ·-- 5
   have hd0:=hdep _ rfl
   simp [Region.binds] at hd0
   have d2:listed[2]? = some true:=by simp [hd0]
   have d4:listed[4]? = some true:=by simp [hd0]
   have vf2:ts 61=.bool true:=h.tm (2,61) (by decide) d2
   have vf4:ts 63=.pointer (some ⟨288,0,none⟩):=h.tm (4,63) (by decide) d4
   have y288:hp 288=some (⟨fa (3*cL) .i64 gL,.ty 31⟩):=(h.ext (by decide)).trans hF.b288
   refine zas [] rfl (by kernel_rfl) (by first|assumption|simp) ?_;intro q hq;simp [hC,hY,vf2,vf4,y288,v0,v1,b0,b1,tyb,x2,o2,l1,l2];refine hq _ _ _ _ ?_;clear hq q
   exact hk _ _ (h.tmp w6N1 w6N2 hi (by simp [w6D,d2,d4]) (i:=5) (t:=64) (by decide) rfl (by decide))
  ·-- 6
   have hd0:=hdep _ rfl
   simp [Region.binds] at hd0
   have d2:listed[2]? = some true:=by simp [hd0]
   have vf2:ts 61=.bool true:=h.tm (2,61) (by decide) d2
   refine zas [] rfl (by kernel_rfl) (by first|assumption|simp) ?_;intro q hq;simp [hC,hY,vf2,v0,v1,b0,b1,tyb,x2,o2,l1,l2];refine hq _ _ _ _ ?_;clear hq q
   exact hk _ _ (h.tmp w6N1 w6N2 hi (by simp [w6D,d2]) (i:=6) (t:=65) (by decide) rfl (by decide))
  ·-- 7
   have hd0:=hdep _ rfl
   simp [Region.binds] at hd0
   have d2:listed[2]? = some true:=by simp [hd0]
   have d5:listed[5]? = some true:=by simp [hd0]
   have d6:listed[6]? = some true:=by simp [hd0]
   have vf2:ts 61=.bool true:=h.tm (2,61) (by decide) d2
   have vf5:ts 64=.agg #[.int .i64 2,.int .i64 0,.int .i64 0]:=h.tm (5,64) (by decide) d5
   have vf6:ts 65=.agg #[.int .i64 2,.int .i64 0,.int .i64 0]:=h.tm (6,65) (by decide) d6
   refine zas [] rfl (by kernel_rfl) (by first|assumption|simp) ?_;intro q hq;simp [hC,hY,vf2,vf5,vf6,v0,v1,b0,b1,tyb,x2,o2,l1,l2];refine hq _ _ _ _ ?_;clear hq q
   exact hk _ _ (h.tmp w6N1 w6N2 hi (by simp [w6D,d2,d5,d6]) (i:=7) (t:=66) (by decide) rfl (by decide))
  ·-- 8
   have hd0:=hdep _ rfl
   simp [Region.binds] at hd0
   have d2:listed[2]? = some true:=by simp [hd0]
   have d7:listed[7]? = some true:=by simp [hd0]
   have vf2:ts 61=.bool true:=h.tm (2,61) (by decide) d2
   have vf7:ts 66=.bool true:=h.tm (7,66) (by decide) d7
   refine zas [] rfl (by kernel_rfl) (by first|assumption|simp) ?_;intro q hq;simp [hC,hY,vf2,vf7,v0,v1,b0,b1,tyb,x2,o2,l1,l2];refine hq _ _ _ _ ?_;clear hq q
   exact hk _ _ (h.tmp w6N1 w6N2 hi (by simp [w6D,d2,d7]) (i:=8) (t:=67) (by decide) rfl (by decide))
  ·-- 9
   have hd0:=hdep _ rfl
   simp [Region.binds] at hd0
   have d8:listed[8]? = some true:=by simp [hd0]
   have vf8:ts 67=.bool true:=h.tm (8,67) (by decide) d8
   refine zas [] rfl (by kernel_rfl) (by first|assumption|simp) ?_;intro q hq;simp [hC,hY,vf8,v0,v1,b0,b1,tyb,x2,o2,l1,l2];refine hq _ _ _ _ ?_;clear hq q
   exact hk _ _ (h.tmp w6N1 w6N2 hi (by simp [w6D,d8]) (i:=9) (t:=68) (by decide) rfl (by decide))
  ·-- 10
   have hd0:=hdep _ rfl
   simp [Region.binds] at hd0
   have d9:listed[9]? = some true:=by simp [hd0]
   have vf9:ts 68=.bool true:=h.tm (9,68) (by decide) d9
   have vx3:ts 3=.slice (some ⟨288,0,none⟩) 2 cL:=(h.t0 3 (by decide)).trans hF.e3
   refine zas [] rfl (by kernel_rfl) (by first|assumption|simp) ?_;intro q hq;simp [hC,hY,vf9,vx3,v0,v1,b0,b1,tyb,x2,o2,l1,l2];refine hq _ _ _ _ ?_;clear hq q
   exact hk _ _ (h.tmp w6N1 w6N2 hi (by simp [w6D,d9]) (i:=10) (t:=69) (by decide) rfl (by decide))
  ·-- 11
   have hd0:=hdep _ rfl
   simp [Region.binds] at hd0
   have d9:listed[9]? = some true:=by simp [hd0]
   have d10:listed[10]? = some true:=by simp [hd0]
   have vf9:ts 68=.bool true:=h.tm (9,68) (by decide) d9
   have vf10:ts 69=.slice (some ⟨288,0,none⟩) 2 cL:=h.tm (10,69) (by decide) d10
   refine zas [] rfl (by kernel_rfl) (by first|assumption|simp) ?_;intro q hq;simp [hC,hY,vf9,vf10,v0,v1,b0,b1,tyb,x2,o2,l1,l2];refine hq _ _ _ _ ?_;clear hq q
   exact hk _ _ (h.tmp w6N1 w6N2 hi (by simp [w6D,d9,d10]) (i:=11) (t:=70) (by decide) rfl (by decide))
  ·-- 12
   have hd0:=hdep _ rfl
   simp [Region.binds] at hd0
   have d9:listed[9]? = some true:=by simp [hd0]
   have d11:listed[11]? = some true:=by simp [hd0]
   have vf9:ts 68=.bool true:=h.tm (9,68) (by decide) d9
   have vf11:ts 70=.pointer (some ⟨288,3,none⟩):=h.tm (11,70) (by decide) d11
   have y288:hp 288=some (⟨fa (3*cL) .i64 gL,.ty 31⟩):=(h.ext (by decide)).trans hF.b288
   refine zas [] rfl (by kernel_rfl) (by first|assumption|simp) ?_;intro q hq;simp [hC,hY,vf9,vf11,y288,v0,v1,b0,b1,tyb,x2,o2,l1,l2];refine hq _ _ _ _ ?_;clear hq q
   exact hk _ _ (h.tmp w6N1 w6N2 hi (by simp [w6D,d9,d11]) (i:=12) (t:=71) (by decide) rfl (by decide))
  ·-- 13
   have hd0:=hdep _ rfl
   simp [Region.binds] at hd0
   have d9:listed[9]? = some true:=by simp [hd0]
   have vf9:ts 68=.bool true:=h.tm (9,68) (by decide) d9
   refine zas [] rfl (by kernel_rfl) (by first|assumption|simp) ?_;intro q hq;simp [hC,hY,vf9,v0,v1,b0,b1,tyb,x2,o2,l1,l2];refine hq _ _ _ _ ?_;clear hq q
   exact hk _ _ (h.tmp w6N1 w6N2 hi (by simp [w6D,d9]) (i:=13) (t:=72) (by decide) rfl (by decide))
  ·-- 14
   have hd0:=hdep _ rfl
   simp [Region.binds] at hd0
   have d9:listed[9]? = some true:=by simp [hd0]
   have d12:listed[12]? = some true:=by simp [hd0]
   have d13:listed[13]? = some true:=by simp [hd0]
   have vf9:ts 68=.bool true:=h.tm (9,68) (by decide) d9
   have vf12:ts 71=.agg #[.int .i64 (-1),.int .i64 0,.int .i64 0]:=h.tm (12,71) (by decide) d12
   have vf13:ts 72=.agg #[.int .i64 (-1),.int .i64 0,.int .i64 0]:=h.tm (13,72) (by decide) d13
   refine zas [] rfl (by kernel_rfl) (by first|assumption|simp) ?_;intro q hq;simp [hC,hY,vf9,vf12,vf13,v0,v1,b0,b1,tyb,x2,o2,l1,l2];refine hq _ _ _ _ ?_;clear hq q
   exact hk _ _ (h.tmp w6N1 w6N2 hi (by simp [w6D,d9,d12,d13]) (i:=14) (t:=73) (by decide) rfl (by decide))
  ·-- 15
   have hd0:=hdep _ rfl
   simp [Region.binds] at hd0
   have d9:listed[9]? = some true:=by simp [hd0]
   have d14:listed[14]? = some true:=by simp [hd0]
   have vf9:ts 68=.bool true:=h.tm (9,68) (by decide) d9
   have vf14:ts 73=.bool true:=h.tm (14,73) (by decide) d14
   refine zas [] rfl (by kernel_rfl) (by first|assumption|simp) ?_;intro q hq;simp [hC,hY,vf9,vf14,v0,v1,b0,b1,tyb,x2,o2,l1,l2];refine hq _ _ _ _ ?_;clear hq q
   exact hk _ _ (h.tmp w6N1 w6N2 hi (by simp [w6D,d9,d14]) (i:=15) (t:=74) (by decide) rfl (by decide))
  ·-- 16
   have hd0:=hdep _ rfl
   simp [Region.binds] at hd0
   have d15:listed[15]? = some true:=by simp [hd0]
   have vf15:ts 74=.bool true:=h.tm (15,74) (by decide) d15
   refine zas [] rfl (by kernel_rfl) (by first|assumption|simp) ?_;intro q hq;simp [hC,hY,vf15,v0,v1,b0,b1,tyb,x2,o2,l1,l2];refine hq _ _ _ _ ?_;clear hq q
   exact hk _ _ (h.tmp w6N1 w6N2 hi (by simp [w6D,d15]) (i:=16) (t:=75) (by decide) rfl (by decide))
  ·-- 17
   have hd0:=hdep _ rfl
   simp [Region.binds] at hd0
   have d16:listed[16]? = some true:=by simp [hd0]
   have vf16:ts 75=.bool true:=h.tm (16,75) (by decide) d16
   have vx6:ts 6=.int .i64 0:=(h.t0 6 (by decide)).trans hF.e6
   refine zas [] rfl (by kernel_rfl) (by first|assumption|simp) ?_;intro q hq;simp [hC,hY,vf16,vx6,v0,v1,b0,b1,tyb,x2,o2,l1,l2];refine hq _ _ _ _ ?_;clear hq q
   exact hk _ _ (h.tmp w6N1 w6N2 hi (by simp [w6D,d16]) (i:=17) (t:=76) (by decide) rfl (by decide))
  ·-- 18
   have hd0:=hdep _ rfl
   simp [Region.binds] at hd0
   have d16:listed[16]? = some true:=by simp [hd0]
   have d17:listed[17]? = some true:=by simp [hd0]
   have vf16:ts 75=.bool true:=h.tm (16,75) (by decide) d16
   have vf17:ts 76=.int .i64 0:=h.tm (17,76) (by decide) d17
   refine zas [] rfl (by kernel_rfl) (by first|assumption|simp) ?_;intro q hq;simp [hC,hY,vf16,vf17,v0,v1,b0,b1,tyb,x2,o2,l1,l2];refine hq _ _ _ _ ?_;clear hq q
   exact hk _ _ (h.tmp w6N1 w6N2 hi (by simp [w6D,d16,d17]) (i:=18) (t:=77) (by decide) rfl (by decide))
  ·-- 19
   have hd0:=hdep _ rfl
   simp [Region.binds] at hd0
   have d16:listed[16]? = some true:=by simp [hd0]
   have d18:listed[18]? = some true:=by simp [hd0]
   have vf16:ts 75=.bool true:=h.tm (16,75) (by decide) d16
   have vf18:ts 77=.bool true:=h.tm (18,77) (by decide) d18
   refine zas [] rfl (by kernel_rfl) (by first|assumption|simp) ?_;intro q hq;simp [hC,hY,vf16,vf18,v0,v1,b0,b1,tyb,x2,o2,l1,l2];refine hq _ _ _ _ ?_;clear hq q
   exact hk _ _ (h.tmp w6N1 w6N2 hi (by simp [w6D,d16,d18]) (i:=19) (t:=78) (by decide) rfl (by decide))
  ·-- 20
   have hd0:=hdep _ rfl
   simp [Region.binds] at hd0
   have d19:listed[19]? = some true:=by simp [hd0]
   have vf19:ts 78=.bool true:=h.tm (19,78) (by decide) d19
   refine zas [] rfl (by kernel_rfl) (by first|assumption|simp) ?_;intro q hq;simp [hC,hY,vf19,v0,v1,b0,b1,tyb,x2,o2,l1,l2];refine hq _ _ _ _ ?_;clear hq q
   exact hk _ _ (h.tmp w6N1 w6N2 hi (by simp [w6D,d19]) (i:=20) (t:=79) (by decide) rfl (by decide))
  ·-- 21
   have hd0:=hdep _ rfl
   simp [Region.binds] at hd0
   have d20:listed[20]? = some true:=by simp [hd0]
   have vf20:ts 79=.bool true:=h.tm (20,79) (by decide) d20
   have vx5:ts 5=.pointer (some ⟨384,0,none⟩):=(h.t0 5 (by decide)).trans hF.e5
   refine zas [] rfl (by kernel_rfl) (by first|assumption|simp) ?_;intro q hq;simp [hC,hY,vf20,vx5,v0,v1,b0,b1,tyb,x2,o2,l1,l2];refine hq _ _ _ _ ?_;clear hq q
   exact hk _ _ (h.tmp w6N1 w6N2 hi (by simp [w6D,d20]) (i:=21) (t:=80) (by decide) rfl (by decide))
  ·-- 22
   have hd0:=hdep _ rfl
   simp [Region.binds] at hd0
   have d20:listed[20]? = some true:=by simp [hd0]
   have d21:listed[21]? = some true:=by simp [hd0]
   have vf20:ts 79=.bool true:=h.tm (20,79) (by decide) d20
   have vf21:ts 80=.pointer (some ⟨384,1,none⟩):=h.tm (21,80) (by decide) d21
   have y384:hp 384=some (⟨#[.int .i64 0,.slice (some ⟨352,0,none⟩) 2 cO],.ty 27⟩):=(h.ext (by decide)).trans hF.b384
   refine zas [] rfl (by kernel_rfl) (by first|assumption|simp) ?_;intro q hq;simp [hC,hY,vf20,vf21,y384,v0,v1,b0,b1,tyb,x2,o2,l1,l2];refine hq _ _ _ _ ?_;clear hq q
   exact hk _ _ (h.tmp w6N1 w6N2 hi (by simp [w6D,d20,d21]) (i:=22) (t:=81) (by decide) rfl (by decide))
  ·-- 23
   have hd0:=hdep _ rfl
   simp [Region.binds] at hd0
   have d20:listed[20]? = some true:=by simp [hd0]
   have d22:listed[22]? = some true:=by simp [hd0]
   have vf20:ts 79=.bool true:=h.tm (20,79) (by decide) d20
   have vf22:ts 81=.slice (some ⟨352,0,none⟩) 2 cO:=h.tm (22,81) (by decide) d22
   refine zas [] rfl (by kernel_rfl) (by first|assumption|simp) ?_;intro q hq;simp [hC,hY,vf20,vf22,v0,v1,b0,b1,tyb,x2,o2,l1,l2];refine hq _ _ _ _ ?_;clear hq q
   exact hk _ _ (h.tmp w6N1 w6N2 hi (by simp [w6D,d20,d22]) (i:=23) (t:=82) (by decide) rfl (by decide))
  ·-- 24
   have hd0:=hdep _ rfl
   simp [Region.binds] at hd0
   have d20:listed[20]? = some true:=by simp [hd0]
   have d23:listed[23]? = some true:=by simp [hd0]
   have vf20:ts 79=.bool true:=h.tm (20,79) (by decide) d20
   have vf23:ts 82=.pointer (some ⟨352,6,none⟩):=h.tm (23,82) (by decide) d23
   refine zas [] rfl (by kernel_rfl) (by first|assumption|simp) ?_;intro q hq;simp [hC,hY,vf20,vf23,v0,v1,b0,b1,tyb,x2,o2,l1,l2];refine hq _ _ _ _ ?_;clear hq q
   exact hk _ _ (h.tmp w6N1 w6N2 hi (by simp [w6D,d20,d23]) (i:=24) (t:=83) (by decide) rfl (by decide))
  ·-- 25
   have hd0:=hdep _ rfl
   simp [Region.binds] at hd0
   have d20:listed[20]? = some true:=by simp [hd0]
   have d24:listed[24]? = some true:=by simp [hd0]
   have vf20:ts 79=.bool true:=h.tm (20,79) (by decide) d20
   have vf24:ts 83=.pointer (some ⟨352,9,none⟩):=h.tm (24,83) (by decide) d24
   have y352:hp 352=some (⟨fa MO .i64 gO,.ty 45⟩):=(h.ext (by decide)).trans hF.b352
   refine zas [] rfl (by kernel_rfl) (by first|assumption|simp) ?_;intro q hq;simp [hC,hY,vf20,vf24,y352,v0,v1,b0,b1,tyb,x2,o2,l1,l2];refine hq _ _ _ _ ?_;clear hq q
   exact hk _ _ (h.tmp w6N1 w6N2 hi (by simp [w6D,d20,d24]) (i:=25) (t:=84) (by decide) rfl (by decide))
  ·-- 26
   have hd0:=hdep _ rfl
   simp [Region.binds] at hd0
   have d20:listed[20]? = some true:=by simp [hd0]
   have vf20:ts 79=.bool true:=h.tm (20,79) (by decide) d20
   refine zas [] rfl (by kernel_rfl) (by first|assumption|simp) ?_;intro q hq;simp [hC,hY,vf20,v0,v1,b0,b1,tyb,x2,o2,l1,l2];refine hq _ _ _ _ ?_;clear hq q
   exact hk _ _ (h.tmp w6N1 w6N2 hi (by simp [w6D,d20]) (i:=26) (t:=85) (by decide) rfl (by decide))
  ·-- 27
   have hd0:=hdep _ rfl
   simp [Region.binds] at hd0
   have d20:listed[20]? = some true:=by simp [hd0]
   have d25:listed[25]? = some true:=by simp [hd0]
   have d26:listed[26]? = some true:=by simp [hd0]
   have vf20:ts 79=.bool true:=h.tm (20,79) (by decide) d20
   have vf25:ts 84=.agg #[.int .i64 6,.int .i64 0,.int .i64 0]:=h.tm (25,84) (by decide) d25
   have vf26:ts 85=.agg #[.int .i64 6,.int .i64 0,.int .i64 0]:=h.tm (26,85) (by decide) d26
   refine zas [] rfl (by kernel_rfl) (by first|assumption|simp) ?_;intro q hq;simp [hC,hY,vf20,vf25,vf26,v0,v1,b0,b1,tyb,x2,o2,l1,l2];refine hq _ _ _ _ ?_;clear hq q
   exact hk _ _ (h.tmp w6N1 w6N2 hi (by simp [w6D,d20,d25,d26]) (i:=27) (t:=86) (by decide) rfl (by decide))
  ·-- 28
   have hd0:=hdep _ rfl
   simp [Region.binds] at hd0
   have d20:listed[20]? = some true:=by simp [hd0]
   have d27:listed[27]? = some true:=by simp [hd0]
   have vf20:ts 79=.bool true:=h.tm (20,79) (by decide) d20
   have vf27:ts 86=.bool true:=h.tm (27,86) (by decide) d27
   refine zas [] rfl (by kernel_rfl) (by first|assumption|simp) ?_;intro q hq;simp [hC,hY,vf20,vf27,v0,v1,b0,b1,tyb,x2,o2,l1,l2];refine hq _ _ _ _ ?_;clear hq q
   exact hk _ _ (h.tmp w6N1 w6N2 hi (by simp [w6D,d20,d27]) (i:=28) (t:=87) (by decide) rfl (by decide))
  ·-- 29
   have hd0:=hdep _ rfl
   simp [Region.binds] at hd0
   have d28:listed[28]? = some true:=by simp [hd0]
   have vf28:ts 87=.bool true:=h.tm (28,87) (by decide) d28
   refine zas [] rfl (by kernel_rfl) (by first|assumption|simp) ?_;intro q hq;simp [hC,hY,vf28,v0,v1,b0,b1,tyb,x2,o2,l1,l2];refine hq _ _ _ _ ?_;clear hq q
   exact hk _ _ (h.tmp w6N1 w6N2 hi (by simp [w6D,d28]) (i:=29) (t:=88) (by decide) rfl (by decide))
  ·-- 30
   have hd0:=hdep _ rfl
   simp [Region.binds] at hd0
   have d29:listed[29]? = some true:=by simp [hd0]
   have vf29:ts 88=.bool true:=h.tm (29,88) (by decide) d29
   have vx5:ts 5=.pointer (some ⟨384,0,none⟩):=(h.t0 5 (by decide)).trans hF.e5
   refine zas [] rfl (by kernel_rfl) (by first|assumption|simp) ?_;intro q hq;simp [hC,hY,vf29,vx5,v0,v1,b0,b1,tyb,x2,o2,l1,l2];refine hq _ _ _ _ ?_;clear hq q
   exact hk _ _ (h.tmp w6N1 w6N2 hi (by simp [w6D,d29]) (i:=30) (t:=89) (by decide) rfl (by decide))
  ·-- 31
   have hd0:=hdep _ rfl
   simp [Region.binds] at hd0
   have d29:listed[29]? = some true:=by simp [hd0]
   have d30:listed[30]? = some true:=by simp [hd0]
   have vf29:ts 88=.bool true:=h.tm (29,88) (by decide) d29
   have vf30:ts 89=.pointer (some ⟨384,1,none⟩):=h.tm (30,89) (by decide) d30
   have y384:hp 384=some (⟨#[.int .i64 0,.slice (some ⟨352,0,none⟩) 2 cO],.ty 27⟩):=(h.ext (by decide)).trans hF.b384
   refine zas [] rfl (by kernel_rfl) (by first|assumption|simp) ?_;intro q hq;simp [hC,hY,vf29,vf30,y384,v0,v1,b0,b1,tyb,x2,o2,l1,l2];refine hq _ _ _ _ ?_;clear hq q
   exact hk _ _ (h.tmp w6N1 w6N2 hi (by simp [w6D,d29,d30]) (i:=31) (t:=90) (by decide) rfl (by decide))
  ·-- 32
   have hd0:=hdep _ rfl
   simp [Region.binds] at hd0
   have d29:listed[29]? = some true:=by simp [hd0]
   have d31:listed[31]? = some true:=by simp [hd0]
   have vf29:ts 88=.bool true:=h.tm (29,88) (by decide) d29
   have vf31:ts 90=.slice (some ⟨352,0,none⟩) 2 cO:=h.tm (31,90) (by decide) d31
   refine zas [] rfl (by kernel_rfl) (by first|assumption|simp) ?_;intro q hq;simp [hC,hY,vf29,vf31,v0,v1,b0,b1,tyb,x2,o2,l1,l2];refine hq _ _ _ _ ?_;clear hq q
   exact hk _ _ (h.tmp w6N1 w6N2 hi (by simp [w6D,d29,d31]) (i:=32) (t:=91) (by decide) rfl (by decide))
  ·-- 33
   have hd0:=hdep _ rfl
   simp [Region.binds] at hd0
   have d29:listed[29]? = some true:=by simp [hd0]
   have d32:listed[32]? = some true:=by simp [hd0]
   have vf29:ts 88=.bool true:=h.tm (29,88) (by decide) d29
   have vf32:ts 91=.pointer (some ⟨352,0,none⟩):=h.tm (32,91) (by decide) d32
   refine zas [] rfl (by kernel_rfl) (by first|assumption|simp) ?_;intro q hq;simp [hC,hY,vf29,vf32,v0,v1,b0,b1,tyb,x2,o2,l1,l2];refine hq _ _ _ _ ?_;clear hq q
   exact hk _ _ (h.tmp w6N1 w6N2 hi (by simp [w6D,d29,d32]) (i:=33) (t:=92) (by decide) rfl (by decide))
  ·-- 34
   have hd0:=hdep _ rfl
   simp [Region.binds] at hd0
   have d29:listed[29]? = some true:=by simp [hd0]
   have d33:listed[33]? = some true:=by simp [hd0]
   have vf29:ts 88=.bool true:=h.tm (29,88) (by decide) d29
   have vf33:ts 92=.pointer (some ⟨352,3,none⟩):=h.tm (33,92) (by decide) d33
   have y352:hp 352=some (⟨fa MO .i64 gO,.ty 45⟩):=(h.ext (by decide)).trans hF.b352
   refine zas [] rfl (by kernel_rfl) (by first|assumption|simp) ?_;intro q hq;simp [hC,hY,vf29,vf33,y352,v0,v1,b0,b1,tyb,x2,o2,l1,l2];refine hq _ _ _ _ ?_;clear hq q
   exact hk _ _ (h.tmp w6N1 w6N2 hi (by simp [w6D,d29,d33]) (i:=34) (t:=93) (by decide) rfl (by decide))
  ·-- 35
   have hd0:=hdep _ rfl
   simp [Region.binds] at hd0
   have d29:listed[29]? = some true:=by simp [hd0]
   have vf29:ts 88=.bool true:=h.tm (29,88) (by decide) d29
   refine zas [] rfl (by kernel_rfl) (by first|assumption|simp) ?_;intro q hq;simp [hC,hY,vf29,v0,v1,b0,b1,tyb,x2,o2,l1,l2];refine hq _ _ _ _ ?_;clear hq q
   exact hk _ _ (h.tmp w6N1 w6N2 hi (by simp [w6D,d29]) (i:=35) (t:=94) (by decide) rfl (by decide))
  ·-- 36
   have hd0:=hdep _ rfl
   simp [Region.binds] at hd0
   have d29:listed[29]? = some true:=by simp [hd0]
   have d34:listed[34]? = some true:=by simp [hd0]
   have d35:listed[35]? = some true:=by simp [hd0]
   have vf29:ts 88=.bool true:=h.tm (29,88) (by decide) d29
   have vf34:ts 93=.agg #[.int .i64 (-2),.int .i64 0,.int .i64 0]:=h.tm (34,93) (by decide) d34
   have vf35:ts 94=.agg #[.int .i64 (-2),.int .i64 0,.int .i64 0]:=h.tm (35,94) (by decide) d35
   refine zas [] rfl (by kernel_rfl) (by first|assumption|simp) ?_;intro q hq;simp [hC,hY,vf29,vf34,vf35,v0,v1,b0,b1,tyb,x2,o2,l1,l2];refine hq _ _ _ _ ?_;clear hq q
   exact hk _ _ (h.tmp w6N1 w6N2 hi (by simp [w6D,d29,d34,d35]) (i:=36) (t:=95) (by decide) rfl (by decide))
  ·-- 37
   have hd0:=hdep _ rfl
   simp [Region.binds] at hd0
   have d29:listed[29]? = some true:=by simp [hd0]
   have d36:listed[36]? = some true:=by simp [hd0]
   have vf29:ts 88=.bool true:=h.tm (29,88) (by decide) d29
   have vf36:ts 95=.bool true:=h.tm (36,95) (by decide) d36
   refine zas [] rfl (by kernel_rfl) (by first|assumption|simp) ?_;intro q hq;simp [hC,hY,vf29,vf36,v0,v1,b0,b1,tyb,x2,o2,l1,l2];refine hq _ _ _ _ ?_;clear hq q
   exact hk _ _ (h.tmp w6N1 w6N2 hi (by simp [w6D,d29,d36]) (i:=37) (t:=96) (by decide) rfl (by decide))
  ·-- 38
   have hd0:=hdep _ rfl
   simp [Region.binds] at hd0
   have d37:listed[37]? = some true:=by simp [hd0]
   have vf37:ts 96=.bool true:=h.tm (37,96) (by decide) d37
   refine zas [] rfl (by kernel_rfl) (by first|assumption|simp) ?_;intro q hq;simp [hC,hY,vf37,v0,v1,b0,b1,tyb,x2,o2,l1,l2];refine hq _ _ _ _ ?_;clear hq q
   exact hk _ _ (h.tmp w6N1 w6N2 hi (by simp [w6D,d37]) (i:=38) (t:=97) (by decide) rfl (by decide))
  ·-- 39
   have hd0:=hdep _ rfl
   simp [Region.binds] at hd0
   have d38:listed[38]? = some true:=by simp [hd0]
   have vf38:ts 97=.bool true:=h.tm (38,97) (by decide) d38
   have vx8:ts 8=.int .i64 2:=(h.t0 8 (by decide)).trans hF.e8
   refine zas [] rfl (by kernel_rfl) (by first|assumption|simp) ?_;intro q hq;simp [hC,hY,vf38,vx8,v0,v1,b0,b1,tyb,x2,o2,l1,l2];refine hq _ _ _ _ ?_;clear hq q
   exact hk _ _ (h.tmp w6N1 w6N2 hi (by simp [w6D,d38]) (i:=39) (t:=98) (by decide) rfl (by decide))
  ·-- 40
   have hd0:=hdep _ rfl
   simp [Region.binds] at hd0
   have d38:listed[38]? = some true:=by simp [hd0]
   have d39:listed[39]? = some true:=by simp [hd0]
   have vf38:ts 97=.bool true:=h.tm (38,97) (by decide) d38
   have vf39:ts 98=.int .i64 2:=h.tm (39,98) (by decide) d39
   refine zas [] rfl (by kernel_rfl) (by first|assumption|simp) ?_;intro q hq;simp [hC,hY,vf38,vf39,v0,v1,b0,b1,tyb,x2,o2,l1,l2];refine hq _ _ _ _ ?_;clear hq q
   exact hk _ _ (h.tmp w6N1 w6N2 hi (by simp [w6D,d38,d39]) (i:=40) (t:=99) (by decide) rfl (by decide))
  ·-- 41
   have hd0:=hdep _ rfl
   simp [Region.binds] at hd0
   have d38:listed[38]? = some true:=by simp [hd0]
   have d40:listed[40]? = some true:=by simp [hd0]
   have vf38:ts 97=.bool true:=h.tm (38,97) (by decide) d38
   have vf40:ts 99=.bool true:=h.tm (40,99) (by decide) d40
   refine zas [] rfl (by kernel_rfl) (by first|assumption|simp) ?_;intro q hq;simp [hC,hY,vf38,vf40,v0,v1,b0,b1,tyb,x2,o2,l1,l2];refine hq _ _ _ _ ?_;clear hq q
   exact hk _ _ (h.tmp w6N1 w6N2 hi (by simp [w6D,d38,d40]) (i:=41) (t:=100) (by decide) rfl (by decide))
  ·-- 42
   have hd0:=hdep _ rfl
   simp [Region.binds] at hd0
   have d41:listed[41]? = some true:=by simp [hd0]
   have vf41:ts 100=.bool true:=h.tm (41,100) (by decide) d41
   refine zas [] rfl (by kernel_rfl) (by first|assumption|simp) ?_;intro q hq;simp [hC,hY,vf41,v0,v1,b0,b1,tyb,x2,o2,l1,l2];refine hq _ _ _ _ ?_;clear hq q
   exact hk _ _ (h.tmp w6N1 w6N2 hi (by simp [w6D,d41]) (i:=42) (t:=101) (by decide) rfl (by decide))
  ·-- 43
   have hd0:=hdep _ rfl
   simp [Region.binds] at hd0
   have d42:listed[42]? = some true:=by simp [hd0]
   have vf42:ts 101=.bool true:=h.tm (42,101) (by decide) d42
   have vx11:ts 11=.int .i64 30:=(h.t0 11 (by decide)).trans hF.e11
   refine zas [] rfl (by kernel_rfl) (by first|assumption|simp) ?_;intro q hq;simp [hC,hY,vf42,vx11,v0,v1,b0,b1,tyb,x2,o2,l1,l2];refine hq _ _ _ _ ?_;clear hq q
   exact hk _ _ (h.tmp w6N1 w6N2 hi (by simp [w6D,d42]) (i:=43) (t:=102) (by decide) rfl (by decide))
  ·-- 44
   have hd0:=hdep _ rfl
   simp [Region.binds] at hd0
   have d42:listed[42]? = some true:=by simp [hd0]
   have d43:listed[43]? = some true:=by simp [hd0]
   have vf42:ts 101=.bool true:=h.tm (42,101) (by decide) d42
   have vf43:ts 102=.int .i64 30:=h.tm (43,102) (by decide) d43
   refine zas [] rfl (by kernel_rfl) (by first|assumption|simp) ?_;intro q hq;simp [hC,hY,vf42,vf43,v0,v1,b0,b1,tyb,x2,o2,l1,l2];refine hq _ _ _ _ ?_;clear hq q
   exact hk _ _ (h.tmp w6N1 w6N2 hi (by simp [w6D,d42,d43]) (i:=44) (t:=103) (by decide) rfl (by decide))
  ·-- 45
   have hd0:=hdep _ rfl
   simp [Region.binds] at hd0
   have d42:listed[42]? = some true:=by simp [hd0]
   have d44:listed[44]? = some true:=by simp [hd0]
   have vf42:ts 101=.bool true:=h.tm (42,101) (by decide) d42
   have vf44:ts 103=.bool true:=h.tm (44,103) (by decide) d44
   refine zas [] rfl (by kernel_rfl) (by first|assumption|simp) ?_;intro q hq;simp [hC,hY,vf42,vf44,v0,v1,b0,b1,tyb,x2,o2,l1,l2];refine hq _ _ _ _ ?_;clear hq q
   exact hk _ _ (h.tmp w6N1 w6N2 hi (by simp [w6D,d42,d44]) (i:=45) (t:=104) (by decide) rfl (by decide))
  ·-- 46
   have hd0:=hdep _ rfl
   simp [Region.binds] at hd0
   have d45:listed[45]? = some true:=by simp [hd0]
   have vf45:ts 104=.bool true:=h.tm (45,104) (by decide) d45
   refine zas [] rfl (by kernel_rfl) (by first|assumption|simp) ?_;intro q hq;simp [hC,hY,vf45,v0,v1,b0,b1,tyb,x2,o2,l1,l2];refine hq _ _ _ _ ?_;clear hq q
   exact hk _ _ (h.tmp w6N1 w6N2 hi (by simp [w6D,d45]) (i:=46) (t:=105) (by decide) rfl (by decide))
  ·-- 47
   have hd0:=hdep _ rfl
   simp [Region.binds] at hd0
   have d46:listed[46]? = some true:=by simp [hd0]
   have vf46:ts 105=.bool true:=h.tm (46,105) (by decide) d46
   have vx12:ts 12=.pointer (some ⟨640,0,none⟩):=(h.t0 12 (by decide)).trans hF.e12
   have y640:hp 640=some (⟨#[.slice (some ⟨624,0,none⟩) 1 1,.int .i64 1,.int .i64 1,.int .i64 1,.int .i64 1,.int .i64 0],.ty 24⟩):=(h.ext (by decide)).trans hF.b640
   refine zas [] rfl (by kernel_rfl) (by first|assumption|simp) ?_;intro q hq;simp [hC,hY,vf46,vx12,y640,v0,v1,b0,b1,tyb,x2,o2,l1,l2];refine hq _ _ _ _ ?_;clear hq q
   exact hk _ _ (h.tmp w6N1 w6N2 hi (by simp [w6D,d46]) (i:=47) (t:=106) (by decide) rfl (by decide))
  ·-- 48
   have hd0:=hdep _ rfl
   simp [Region.binds] at hd0
   have d46:listed[46]? = some true:=by simp [hd0]
   have vf46:ts 105=.bool true:=h.tm (46,105) (by decide) d46
   refine zas [] rfl (by kernel_rfl) (by first|assumption|simp) ?_;intro q hq;simp [hC,hY,vf46,v0,v1,b0,b1,tyb,x2,o2,l1,l2];refine hq _ _ _ _ ?_;clear hq q
   exact hk _ _ (h.new w6N1 w6N2 w6X1 hi (by simp [w6D,d46]) (i:=48) (t:=107) (k:=1112) (by decide) rfl (by decide) rfl (by decide))
  ·-- 49
   have hd0:=hdep _ rfl
   simp [Region.binds] at hd0
   have d46:listed[46]? = some true:=by simp [hd0]
   have d48:listed[48]? = some true:=by simp [hd0]
   have vf46:ts 105=.bool true:=h.tm (46,105) (by decide) d46
   have vf48:ts 107=.slice (some ⟨1112,0,none⟩) 1 1:=h.tm (48,107) (by decide) d48
   refine zas [] rfl (by kernel_rfl) (by first|assumption|simp) ?_;intro q hq;simp [hC,hY,vf46,vf48,v0,v1,b0,b1,tyb,x2,o2,l1,l2];refine hq _ _ _ _ ?_;clear hq q
   exact hk _ _ (h.tmp w6N1 w6N2 hi (by simp [w6D,d46,d48]) (i:=49) (t:=108) (by decide) rfl (by decide))
  ·-- 50
   have hd0:=hdep _ rfl
   simp [Region.binds] at hd0
   have d46:listed[46]? = some true:=by simp [hd0]
   have d47:listed[47]? = some true:=by simp [hd0]
   have d49:listed[49]? = some true:=by simp [hd0]
   have vf46:ts 105=.bool true:=h.tm (46,105) (by decide) d46
   have vf47:ts 106=.agg #[.slice (some ⟨624,0,none⟩) 1 1,.int .i64 1,.int .i64 1,.int .i64 1,.int .i64 1,.int .i64 0]:=h.tm (47,106) (by decide) d47
   have vf49:ts 108=.agg #[.int .i64 0,.slice (some ⟨1112,0,none⟩) 1 1]:=h.tm (49,108) (by decide) d49
   have d48:listed[48]? = some true:=h.cl (49,48) (by decide) d49
   have y624:hp 624=some (kwT):=(h.ext (by decide)).trans hF.b624
   have y1112:hp 1112=some (kwZ):=h.bxi hi (w:=48) (by decide) d48 (by decide)
   refine zas [17] rfl (by kernel_rfl) (by first|assumption|simp) ?_;intro q hq;simp [hC,hY,vf46,vf47,vf49,y624,y1112,v0,v1,b0,b1,tyb,x2,o2,l1,l2];(repeat ((first|(refine zah hS1 G1F hT3.ok (fun k=>if k=100 then 624 else if k=108 then 1112 else k) (fun k hk=>(if_neg (by omega)).trans (if_neg (by omega))) ?_ (by simp) (by simp [zlg,zlh,zli,zlj,hxr,vf46,vf47,vf49,y624,y1112,v0,v1,b0,b1,tyb,x2,o2,l1,l2]<;>(try simp [kwM,kwS,kwT,kwZ])) (by simp [zab]) (by simp [zab];rfl) ?_;focus (simp [ren,zax,zak,zao];done)));try simp [hC,hY,vf46,vf47,vf49,y624,y1112,v0,v1,b0,b1,tyb,x2,o2,l1,l2]));refine hq _ _ _ _ ?_;clear hq q
   exact hk _ _ (h.tmp w6N1 w6N2 hi (by simp [w6D,d46,d47,d48,d49]) (i:=50) (t:=109) (by decide) rfl (by decide))
  ·-- 51
   have hd0:=hdep _ rfl
   simp [Region.binds] at hd0
   have d46:listed[46]? = some true:=by simp [hd0]
   have d50:listed[50]? = some true:=by simp [hd0]
   have vf46:ts 105=.bool true:=h.tm (46,105) (by decide) d46
   have vf50:ts 109=.bool true:=h.tm (50,109) (by decide) d50
   refine zas [] rfl (by kernel_rfl) (by first|assumption|simp) ?_;intro q hq;simp [hC,hY,vf46,vf50,v0,v1,b0,b1,tyb,x2,o2,l1,l2];refine hq _ _ _ _ ?_;clear hq q
   exact hk _ _ (h.tmp w6N1 w6N2 hi (by simp [w6D,d46,d50]) (i:=51) (t:=110) (by decide) rfl (by decide))
  ·-- 52
   have hd0:=hdep _ rfl
   simp [Region.binds] at hd0
   have d51:listed[51]? = some true:=by simp [hd0]
   have vf51:ts 110=.bool true:=h.tm (51,110) (by decide) d51
   refine zas [] rfl (by kernel_rfl) (by first|assumption|simp) ?_;intro q hq;simp [hC,hY,vf51,v0,v1,b0,b1,tyb,x2,o2,l1,l2];refine hq _ _ _ _ ?_;clear hq q
   exact hk _ _ (h.tmp w6N1 w6N2 hi (by simp [w6D,d51]) (i:=52) (t:=111) (by decide) rfl (by decide))
  ·-- 53
   have hd0:=hdep _ rfl
   simp [Region.binds] at hd0
   have d52:listed[52]? = some true:=by simp [hd0]
   have vf52:ts 111=.bool true:=h.tm (52,111) (by decide) d52
   have vx1:ts 1=.pointer (some ⟨240,0,none⟩):=(h.t0 1 (by decide)).trans hF.e1
   have y240:hp 240=some (⟨#[.slice (some ⟨208,0,none⟩) 2 2,.int .i64 100,.int .i64 1000,.int .i64 1000,.int .i64 2,.int .i64 0],.ty 24⟩):=(h.ext (by decide)).trans hF.b240
   refine zas [] rfl (by kernel_rfl) (by first|assumption|simp) ?_;intro q hq;simp [hC,hY,vf52,vx1,y240,v0,v1,b0,b1,tyb,x2,o2,l1,l2];refine hq _ _ _ _ ?_;clear hq q
   exact hk _ _ (h.tmp w6N1 w6N2 hi (by simp [w6D,d52]) (i:=53) (t:=112) (by decide) rfl (by decide))
  ·-- 54
   have hd0:=hdep _ rfl
   simp [Region.binds] at hd0
   have d52:listed[52]? = some true:=by simp [hd0]
   have vf52:ts 111=.bool true:=h.tm (52,111) (by decide) d52
   have vx2:ts 2=.pointer (some ⟨248,0,none⟩):=(h.t0 2 (by decide)).trans hF.e2
   have y248:hp 248=some (⟨#[.int .i64 0,.slice (some ⟨209,0,none⟩) 2 2],.ty 27⟩):=(h.ext (by decide)).trans hF.b248
   refine zas [] rfl (by kernel_rfl) (by first|assumption|simp) ?_;intro q hq;simp [hC,hY,vf52,vx2,y248,v0,v1,b0,b1,tyb,x2,o2,l1,l2];refine hq _ _ _ _ ?_;clear hq q
   exact hk _ _ (h.tmp w6N1 w6N2 hi (by simp [w6D,d52]) (i:=54) (t:=113) (by decide) rfl (by decide))
  ·-- 55
   have hd0:=hdep _ rfl
   simp [Region.binds] at hd0
   have d52:listed[52]? = some true:=by simp [hd0]
   have d53:listed[53]? = some true:=by simp [hd0]
   have d54:listed[54]? = some true:=by simp [hd0]
   have vf52:ts 111=.bool true:=h.tm (52,111) (by decide) d52
   have vf53:ts 112=.agg #[.slice (some ⟨208,0,none⟩) 2 2,.int .i64 100,.int .i64 1000,.int .i64 1000,.int .i64 2,.int .i64 0]:=h.tm (53,112) (by decide) d53
   have vf54:ts 113=.agg #[.int .i64 0,.slice (some ⟨209,0,none⟩) 2 2]:=h.tm (54,113) (by decide) d54
   have y208:hp 208=some (kwM):=(h.ext (by decide)).trans hF.b208
   have y209:hp 209=some (kwS):=(h.ext (by decide)).trans hF.b209
   refine zas [17] rfl (by kernel_rfl) (by first|assumption|simp) ?_;intro q hq;simp [hC,hY,vf52,vf53,vf54,y208,y209,v0,v1,b0,b1,tyb,x2,o2,l1,l2];(repeat ((first|(refine zah hS2 G1F hT2.ok (fun k=>if k=100 then 208 else if k=108 then 209 else k) (fun k hk=>(if_neg (by omega)).trans (if_neg (by omega))) ?_ (by simp) (by simp [zlg,zlh,zli,zlj,hxr,vf52,vf53,vf54,y208,y209,v0,v1,b0,b1,tyb,x2,o2,l1,l2]<;>(try simp [kwM,kwS,kwT,kwZ])) (by simp [zab]) (by simp [zab];rfl) ?_;focus (simp [ren,zax,zak,zao];done)));try simp [hC,hY,vf52,vf53,vf54,y208,y209,v0,v1,b0,b1,tyb,x2,o2,l1,l2]));refine hq _ _ _ _ ?_;clear hq q
   exact hk _ _ (h.tmp w6N1 w6N2 hi (by simp [w6D,d52,d53,d54]) (i:=55) (t:=114) (by decide) rfl (by decide))
  ·-- 56
   have hd0:=hdep _ rfl
   simp [Region.binds] at hd0
   have d52:listed[52]? = some true:=by simp [hd0]
   have d55:listed[55]? = some true:=by simp [hd0]
   have vf52:ts 111=.bool true:=h.tm (52,111) (by decide) d52
   have vf55:ts 114=.bool false:=h.tm (55,114) (by decide) d55
   refine zas [] rfl (by kernel_rfl) (by first|assumption|simp) ?_;intro q hq;simp [hC,hY,vf52,vf55,v0,v1,b0,b1,tyb,x2,o2,l1,l2];refine hq _ _ _ _ ?_;clear hq q
   exact hk _ _ (h.tmp w6N1 w6N2 hi (by simp [w6D,d52,d55]) (i:=56) (t:=115) (by decide) rfl (by decide))
  ·-- 57
   have hd0:=hdep _ rfl
   simp [Region.binds] at hd0
   have d52:listed[52]? = some true:=by simp [hd0]
   have d56:listed[56]? = some true:=by simp [hd0]
   have vf52:ts 111=.bool true:=h.tm (52,111) (by decide) d52
   have vf56:ts 115=.bool true:=h.tm (56,115) (by decide) d56
   refine zas [] rfl (by kernel_rfl) (by first|assumption|simp) ?_;intro q hq;simp [hC,hY,vf52,vf56,v0,v1,b0,b1,tyb,x2,o2,l1,l2];refine hq _ _ _ _ ?_;clear hq q
   exact hk _ _ (h.tmp w6N1 w6N2 hi (by simp [w6D,d52,d56]) (i:=57) (t:=116) (by decide) rfl (by decide))
  ·-- 58
   have hd0:=hdep _ rfl
   simp [Region.binds] at hd0
   have d57:listed[57]? = some true:=by simp [hd0]
   have vf57:ts 116=.bool true:=h.tm (57,116) (by decide) d57
   refine zas [] rfl (by kernel_rfl) (by first|assumption|simp) ?_;intro q hq;simp [hC,hY,vf57,v0,v1,b0,b1,tyb,x2,o2,l1,l2];refine hq _ _ _ _ ?_;clear hq q
   exact hk _ _ (h.tmp w6N1 w6N2 hi (by simp [w6D,d57]) (i:=58) (t:=117) (by decide) rfl (by decide))
  ·-- 59
   have hd0:=hdep _ rfl
   simp [Region.binds] at hd0
   have d58:listed[58]? = some true:=by simp [hd0]
   have vf58:ts 117=.bool true:=h.tm (58,117) (by decide) d58
   have vx1:ts 1=.pointer (some ⟨240,0,none⟩):=(h.t0 1 (by decide)).trans hF.e1
   have y240:hp 240=some (⟨#[.slice (some ⟨208,0,none⟩) 2 2,.int .i64 100,.int .i64 1000,.int .i64 1000,.int .i64 2,.int .i64 0],.ty 24⟩):=(h.ext (by decide)).trans hF.b240
   refine zas [] rfl (by kernel_rfl) (by first|assumption|simp) ?_;intro q hq;simp [hC,hY,vf58,vx1,y240,v0,v1,b0,b1,tyb,x2,o2,l1,l2];refine hq _ _ _ _ ?_;clear hq q
   exact hk _ _ (h.tmp w6N1 w6N2 hi (by simp [w6D,d58]) (i:=59) (t:=118) (by decide) rfl (by decide))
  ·-- 60
   have hd0:=hdep _ rfl
   simp [Region.binds] at hd0
   have d58:listed[58]? = some true:=by simp [hd0]
   have vf58:ts 117=.bool true:=h.tm (58,117) (by decide) d58
   have vx2:ts 2=.pointer (some ⟨248,0,none⟩):=(h.t0 2 (by decide)).trans hF.e2
   have y248:hp 248=some (⟨#[.int .i64 0,.slice (some ⟨209,0,none⟩) 2 2],.ty 27⟩):=(h.ext (by decide)).trans hF.b248
   refine zas [] rfl (by kernel_rfl) (by first|assumption|simp) ?_;intro q hq;simp [hC,hY,vf58,vx2,y248,v0,v1,b0,b1,tyb,x2,o2,l1,l2];refine hq _ _ _ _ ?_;clear hq q
   exact hk _ _ (h.tmp w6N1 w6N2 hi (by simp [w6D,d58]) (i:=60) (t:=119) (by decide) rfl (by decide))
  ·-- 61
   have hd0:=hdep _ rfl
   simp [Region.binds] at hd0
   have d58:listed[58]? = some true:=by simp [hd0]
   have d59:listed[59]? = some true:=by simp [hd0]
   have d60:listed[60]? = some true:=by simp [hd0]
   have vf58:ts 117=.bool true:=h.tm (58,117) (by decide) d58
   have vf59:ts 118=.agg #[.slice (some ⟨208,0,none⟩) 2 2,.int .i64 100,.int .i64 1000,.int .i64 1000,.int .i64 2,.int .i64 0]:=h.tm (59,118) (by decide) d59
   have vf60:ts 119=.agg #[.int .i64 0,.slice (some ⟨209,0,none⟩) 2 2]:=h.tm (60,119) (by decide) d60
   have y208:hp 208=some (kwM):=(h.ext (by decide)).trans hF.b208
   have y209:hp 209=some (kwS):=(h.ext (by decide)).trans hF.b209
   refine zas [19] rfl (by kernel_rfl) (by first|assumption|simp) ?_;intro q hq;simp [hC,hY,vf58,vf59,vf60,y208,y209,v0,v1,b0,b1,tyb,x2,o2,l1,l2];(repeat ((first|(refine zah hF1 G1F hT2.ok (fun k=>if k=100 then 208 else if k=108 then 209 else k) (fun k hk=>(if_neg (by omega)).trans (if_neg (by omega))) ?_ (by simp) (by simp [zlg,zlh,zli,zlj,hxr,vf58,vf59,vf60,y208,y209,v0,v1,b0,b1,tyb,x2,o2,l1,l2]<;>(try simp [kwM,kwS,kwT,kwZ])) (by simp [zab]) (by simp [zab];rfl) ?_;focus (simp [ren,zax,zak,zao];done)));try simp [hC,hY,vf58,vf59,vf60,y208,y209,v0,v1,b0,b1,tyb,x2,o2,l1,l2]));refine hq _ _ _ _ ?_;clear hq q
   exact hk _ _ (h.tmp w6N1 w6N2 hi (by simp [w6D,d58,d59,d60]) (i:=61) (t:=120) (by decide) rfl (by decide))
  ·-- 62
   have hd0:=hdep _ rfl
   simp [Region.binds] at hd0
   have d58:listed[58]? = some true:=by simp [hd0]
   have d61:listed[61]? = some true:=by simp [hd0]
   have vf58:ts 117=.bool true:=h.tm (58,117) (by decide) d58
   have vf61:ts 120=.bool true:=h.tm (61,120) (by decide) d61
   refine zas [] rfl (by kernel_rfl) (by first|assumption|simp) ?_;intro q hq;simp [hC,hY,vf58,vf61,v0,v1,b0,b1,tyb,x2,o2,l1,l2];refine hq _ _ _ _ ?_;clear hq q
   exact hk _ _ (h.tmp w6N1 w6N2 hi (by simp [w6D,d58,d61]) (i:=62) (t:=121) (by decide) rfl (by decide))
  ·-- 63
   have hd0:=hdep _ rfl
   simp [Region.binds] at hd0
   have d62:listed[62]? = some true:=by simp [hd0]
   have vf62:ts 121=.bool true:=h.tm (62,121) (by decide) d62
   refine zas [] rfl (by kernel_rfl) (by first|assumption|simp) ?_;intro q hq;simp [hC,hY,vf62,v0,v1,b0,b1,tyb,x2,o2,l1,l2];refine hq _ _ _ _ ?_;clear hq q
   exact hk _ _ (h.tmp w6N1 w6N2 hi (by simp [w6D,d62]) (i:=63) (t:=122) (by decide) rfl (by decide))
  ·-- 64
   have hd0:=hdep _ rfl
   simp [Region.binds] at hd0
   have d63:listed[63]? = some true:=by simp [hd0]
   have vf63:ts 122=.bool true:=h.tm (63,122) (by decide) d63
   have vx12:ts 12=.pointer (some ⟨640,0,none⟩):=(h.t0 12 (by decide)).trans hF.e12
   have y640:hp 640=some (⟨#[.slice (some ⟨624,0,none⟩) 1 1,.int .i64 1,.int .i64 1,.int .i64 1,.int .i64 1,.int .i64 0],.ty 24⟩):=(h.ext (by decide)).trans hF.b640
   refine zas [] rfl (by kernel_rfl) (by first|assumption|simp) ?_;intro q hq;simp [hC,hY,vf63,vx12,y640,v0,v1,b0,b1,tyb,x2,o2,l1,l2];refine hq _ _ _ _ ?_;clear hq q
   exact hk _ _ (h.tmp w6N1 w6N2 hi (by simp [w6D,d63]) (i:=64) (t:=123) (by decide) rfl (by decide))
  ·-- 65
   have hd0:=hdep _ rfl
   simp [Region.binds] at hd0
   have d63:listed[63]? = some true:=by simp [hd0]
   have vf63:ts 122=.bool true:=h.tm (63,122) (by decide) d63
   have vx2:ts 2=.pointer (some ⟨248,0,none⟩):=(h.t0 2 (by decide)).trans hF.e2
   have y248:hp 248=some (⟨#[.int .i64 0,.slice (some ⟨209,0,none⟩) 2 2],.ty 27⟩):=(h.ext (by decide)).trans hF.b248
   refine zas [] rfl (by kernel_rfl) (by first|assumption|simp) ?_;intro q hq;simp [hC,hY,vf63,vx2,y248,v0,v1,b0,b1,tyb,x2,o2,l1,l2];refine hq _ _ _ _ ?_;clear hq q
   exact hk _ _ (h.tmp w6N1 w6N2 hi (by simp [w6D,d63]) (i:=65) (t:=124) (by decide) rfl (by decide))
  ·-- 66
   have hd0:=hdep _ rfl
   simp [Region.binds] at hd0
   have d63:listed[63]? = some true:=by simp [hd0]
   have d64:listed[64]? = some true:=by simp [hd0]
   have d65:listed[65]? = some true:=by simp [hd0]
   have vf63:ts 122=.bool true:=h.tm (63,122) (by decide) d63
   have vf64:ts 123=.agg #[.slice (some ⟨624,0,none⟩) 1 1,.int .i64 1,.int .i64 1,.int .i64 1,.int .i64 1,.int .i64 0]:=h.tm (64,123) (by decide) d64
   have vf65:ts 124=.agg #[.int .i64 0,.slice (some ⟨209,0,none⟩) 2 2]:=h.tm (65,124) (by decide) d65
   have y624:hp 624=some (kwT):=(h.ext (by decide)).trans hF.b624
   have y209:hp 209=some (kwS):=(h.ext (by decide)).trans hF.b209
   refine zas [19] rfl (by kernel_rfl) (by first|assumption|simp) ?_;intro q hq;simp [hC,hY,vf63,vf64,vf65,y624,y209,v0,v1,b0,b1,tyb,x2,o2,l1,l2];(repeat ((first|(refine zah hF2 G1F hTF.ok (fun k=>if k=100 then 624 else if k=108 then 209 else k) (fun k hk=>(if_neg (by omega)).trans (if_neg (by omega))) ?_ (by simp) (by simp [zlg,zlh,zli,zlj,hxr,vf63,vf64,vf65,y624,y209,v0,v1,b0,b1,tyb,x2,o2,l1,l2]<;>(try simp [kwM,kwS,kwT,kwZ])) (by simp [zab]) (by simp [zab];rfl) ?_;focus (simp [ren,zax,zak,zao];done)));try simp [hC,hY,vf63,vf64,vf65,y624,y209,v0,v1,b0,b1,tyb,x2,o2,l1,l2]));refine hq _ _ _ _ ?_;clear hq q
   exact hk _ _ (h.tmp w6N1 w6N2 hi (by simp [w6D,d63,d64,d65]) (i:=66) (t:=125) (by decide) rfl (by decide))
  ·-- 67
   have hd0:=hdep _ rfl
   simp [Region.binds] at hd0
   have d63:listed[63]? = some true:=by simp [hd0]
   have d66:listed[66]? = some true:=by simp [hd0]
   have vf63:ts 122=.bool true:=h.tm (63,122) (by decide) d63
   have vf66:ts 125=.bool false:=h.tm (66,125) (by decide) d66
   refine zas [] rfl (by kernel_rfl) (by first|assumption|simp) ?_;intro q hq;simp [hC,hY,vf63,vf66,v0,v1,b0,b1,tyb,x2,o2,l1,l2];refine hq _ _ _ _ ?_;clear hq q
   exact hk _ _ (h.tmp w6N1 w6N2 hi (by simp [w6D,d63,d66]) (i:=67) (t:=126) (by decide) rfl (by decide))
  ·-- 68
   have hd0:=hdep _ rfl
   simp [Region.binds] at hd0
   have d63:listed[63]? = some true:=by simp [hd0]
   have d67:listed[67]? = some true:=by simp [hd0]
   have vf63:ts 122=.bool true:=h.tm (63,122) (by decide) d63
   have vf67:ts 126=.bool true:=h.tm (67,126) (by decide) d67
   refine zas [] rfl (by kernel_rfl) (by first|assumption|simp) ?_;intro q hq;simp [hC,hY,vf63,vf67,v0,v1,b0,b1,tyb,x2,o2,l1,l2];refine hq _ _ _ _ ?_;clear hq q
   exact hk _ _ (h.tmp w6N1 w6N2 hi (by simp [w6D,d63,d67]) (i:=68) (t:=127) (by decide) rfl (by decide))
  ·-- 69
   have hd0:=hdep _ rfl
   simp [Region.binds] at hd0
   have d68:listed[68]? = some true:=by simp [hd0]
   have vf68:ts 127=.bool true:=h.tm (68,127) (by decide) d68
   refine zas [] rfl (by kernel_rfl) (by first|assumption|simp) ?_;intro q hq;simp [hC,hY,vf68,v0,v1,b0,b1,tyb,x2,o2,l1,l2];refine hq _ _ _ _ ?_;clear hq q
   exact hk _ _ (h.tmp w6N1 w6N2 hi (by simp [w6D,d68]) (i:=69) (t:=0) (by decide) rfl (by decide))
 ·have hno:∀ j:Nat,(Array.replicate 70 false)[j]?≠some true:=fun j=>by
   rw [Array.getElem?_replicate]
   split<;>simp
  exact TJ.start hno
theorem ziy (K:Value→Prop):za0 prog G1 8 #[] K↔K (.bool true):=zad G1W (by kernel_rfl) zq7
theorem zr7 (L:List (Nat×Blk)) (ka ks:Nat) (bm bs:Blk) (hT:LKa L ka ks bm bs) (off n cap off2 n2 cap2:Nat) (g bx tp nr md st:Int) :
  Fun prog G1 7 #[cfV (.slice (some ⟨ka,off,none⟩) n cap) g bx tp nr md,.agg #[.int .i64 st,.slice (some ⟨ks,off2,none⟩) n2 cap2]] (hpL G1 L) (zab L) (.ret (.bool (decide (9<n)||decide (9<n2))) []):=by
 refine zdi (B:=200) G1F func7 rfl call7 hT.ok ?_ (by simp) (by simp) (by simp) (by simp [ntmps7]) (by omega) ?_
 ·simp [zan,zay,zai,zaj,hT.ia,hT.ib,cfV]
 intro C hC hC0 hY
 have hLow:=hT.low
 unfold cfV
 by_cases h1:9<n
 ·have h1':(9:Int)<(n:Int):=by omega
  rw [decide_eq_true h1,Bool.true_or]
  repeat' (first|refine gwA ?_|(refine gwX ?_;intro Q hQ hP;simp [hC,hY,h1,h1'];refine gwq hQ ?_;clear hQ hP Q)|(refine gwC ?_ ?_<;>(intro hb;try (cases hb;done))))
  refine ⟨.inr rfl,by simp [results7],kpT G1F⟩
 ·have h1':¬(9:Int)<(n:Int):=by omega
  rw [decide_eq_false h1,Bool.false_or]
  by_cases h2:9<n2
  ·have h2':(9:Int)<(n2:Int):=by omega
   rw [decide_eq_true h2]
   repeat' (first|refine gwA ?_|(refine gwX ?_;intro Q hQ hP;simp [hC,hY,h1,h2,h1',h2'];refine gwq hQ ?_;clear hQ hP Q)|(refine gwC ?_ ?_<;>(intro hb;try (cases hb;done))))
   refine ⟨.inr rfl,by simp [results7],kpT G1F⟩
  ·have h2':¬(9:Int)<(n2:Int):=by omega
   rw [decide_eq_false h2]
   repeat' (first|refine gwA ?_|(refine gwX ?_;intro Q hQ hP;simp [hC,hY,h1,h2,h1',h2'];refine gwq hQ ?_;clear hQ hP Q)|(refine gwC ?_ ?_<;>(intro hb;try (cases hb;done))))
   refine ⟨.inr rfl,by simp [results7],kpT G1F⟩
theorem zgj:LOk [] 200:=⟨by simp,by simp [zab],by simp⟩
structure LKb (L:List (Nat×Blk)) (ka:Nat) (b:Blk):Prop where
 a8:(ka=100∧L=[(100,b)])∨(ka=0∧L=[]∧b=lmB)
 fb:b.fx
section
variable {L:List (Nat×Blk)} {ka:Nat} {b:Blk}
theorem LKb.ok (h:LKb L ka b):LOk L 200:=by
 rcases h.a8 with ⟨_,rfl⟩|⟨_,rfl,_⟩
 ·exact zap h.fb
 ·exact zgj
theorem LKb.mem (h:LKb L ka b) (p:Nat×Blk) (hp:p∈L):hpL G1 L p.1=some p.2:=LOk.at h.ok.one p hp
theorem LKb.a (h:LKb L ka b):hpL G1 L ka=some b:=by
 rcases h.a8 with ⟨rfl,rfl⟩|⟨rfl,rfl,rfl⟩
 ·simp
 ·simp [G1]
theorem LKb.na (h:LKb L ka b) (k:Nat) (hk:200≤k):(ka=k)=False:=by
 have:ka<200:=by rcases h.a8 with ⟨e,_⟩|⟨e,_⟩<;>omega
 simp only [eq_iff_iff,iff_false]
 omega
theorem LKb.low (h:LKb L ka b) (k:Nat) (hk:k<100):hpL G1 L k=G1 k:=h.ok.low k hk
theorem LKb.ia (h:LKb L ka b):dom (hpL G1 L) ka:=by unfold dom;rw [h.a];simp
end
theorem jgc:MvG G0 G1 [(100,lmB)] [] gmv:=by
 refine ⟨G0F,G1F,⟨200,zap zi0⟩,⟨200,zgj⟩,fun k b hk=>⟨zvj hk,?_⟩,?_,?_,?_⟩
 ·have:=(G0F k b hk).1
  unfold gmv
  rw [if_neg (by omega),if_neg (by omega)]
 ·intro p hp
  simp only [List.mem_cons,List.not_mem_nil,or_false] at hp
  subst hp
  exact ⟨lmB,by simp [gmv,G1],fun r=>by rw [Blk.fx_rn zi0]⟩
 ·intro k hk l hl e
  simp only [zab,List.map_cons,List.map_nil,List.mem_cons,List.not_mem_nil,or_false] at hk hl
  rw [hk,hl]
 ·intro k hk l b hl e
  simp only [zab,List.map_cons,List.map_nil,List.mem_cons,List.not_mem_nil,or_false] at hk
  subst hk
  unfold gmv at e
  rw [if_pos rfl] at e
  rw [←e,z66] at hl
  cases hl
theorem jcc (g bx tp nr md st:Int):Fun prog G0 19 #[.agg #[.slice none 0 0,.int .i64 g,.int .i64 bx,.int .i64 tp,.int .i64 nr,.int .i64 md],.agg #[.int .i64 st,.slice none 0 0]] (hpL G0 []) (zab []) (.ret (.bool false) []):=by
 refine zbn (B:=200) G0F func19 rfl call19 zgj ?_ (zaq (by simp)) (by simp) (by simp) (by simp [ntmps19]) (by omega) ?_
 ·simp [zan,zay,zai,zaj,zab]
 intro C hC hC0 hY
 have hfx:Blk.fx (⟨#[.slice none 0 0,.int .i64 g,.int .i64 bx,.int .i64 tp,.int .i64 nr,.int .i64 md],.ty 24⟩:Blk):=fun x hx=>by
  simp at hx
  rcases hx with rfl|rfl|rfl|rfl|rfl|rfl<;>rfl
 have hck:=ztv (⟨#[.slice none 0 0,.int .i64 g,.int .i64 bx,.int .i64 tp,.int .i64 nr,.int .i64 md],.ty 24⟩:Blk) hfx g bx tp nr md
 have hbr:=fun ρ=>Blk.fx_rn hfx ρ
 unfold cfV at hck
 repeat' (first|refine gwA ?_|((first|refine gwR [37] ?_|refine gwD [37] ?_);intro Q hQ hP;(repeat first|simp [hC,hY]|refine zah hck G0F (B:=200) (zap hfx) (fun k=>if k=100 then 200 else k) (fun k hk=>if_neg (by omega)) (by simp [ren,zax,zak,zao,cfV]) (by simp) (by simp [hbr]) (by simp [zab]) (by simp [zab];try rfl) ?_);refine gwq hQ ?_;clear hQ hP Q)|(refine gwC ?_ ?_<;>(intro hb;try (cases hb;done))))
 refine ⟨.inr rfl,by simp [results19],kpS G0F⟩
theorem zlb (g bx tp nr md st:Int):Fun prog G1 7 #[.agg #[.slice none 0 0,.int .i64 g,.int .i64 bx,.int .i64 tp,.int .i64 nr,.int .i64 md],.agg #[.int .i64 st,.slice none 0 0]] (hpL G1 []) (zab []) (.ret (.bool false) []):=by
 refine zbn (B:=200) G1F func7 rfl call7 zgj ?_ (zaq (by simp)) (by simp) (by simp) (by simp [ntmps7]) (by omega) ?_
 ·simp [zan,zay,zai,zaj,zab]
 intro C hC hC0 hY
 repeat' (first|refine gwA ?_|(refine gwX ?_;intro Q hQ hP;simp [hC,hY];refine gwq hQ ?_;clear hQ hP Q)|(refine gwC ?_ ?_<;>(intro hb;try (cases hb;done))))
 refine ⟨.inr rfl,by simp [results7],kpS G1F⟩
theorem zlc (b:Blk) (off n cap:Nat) (f:Nat→Int) (h:SB b off n f) (g bx tp nr md st:Int):Fun prog G1 7 #[.agg #[.slice none 0 0,.int .i64 g,.int .i64 bx,.int .i64 tp,.int .i64 nr,.int .i64 md],.agg #[.int .i64 st,.slice (some ⟨100,off,none⟩) n cap]] (hpL G1 [(100,b)]) (zab [(100,b)]) (.ret (.bool (decide (9<n))) []):=by
 refine zbn (B:=200) G1F func7 rfl call7 (zap h.fx) ?_ (zaq (by simp)) (by simp) (by simp) (by simp [ntmps7]) (by omega) ?_
 ·simp [zan,zay,zai,zaj,zab]
 intro C hC hC0 hY
 by_cases h1:9<n
 ·have h1':(9:Int)<(n:Int):=by omega
  rw [decide_eq_true h1]
  repeat' (first|refine gwA ?_|(refine gwX ?_;intro Q hQ hP;simp [hC,hY,h1,h1'];refine gwq hQ ?_;clear hQ hP Q)|(refine gwC ?_ ?_<;>(intro hb;try (cases hb;done))))
  refine ⟨.inr rfl,by simp [results7],kpS G1F⟩
 ·have h1':¬(9:Int)<(n:Int):=by omega
  rw [decide_eq_false h1]
  repeat' (first|refine gwA ?_|(refine gwX ?_;intro Q hQ hP;simp [hC,hY,h1,h1'];refine gwq hQ ?_;clear hQ hP Q)|(refine gwC ?_ ?_<;>(intro hb;try (cases hb;done))))
  refine ⟨.inr rfl,by simp [results7],kpS G1F⟩
theorem zld (L:List (Nat×Blk)) (ka:Nat) (b:Blk) (hT:LKb L ka b) (off n cap:Nat) (f:Nat→Int) (h:MB b off n f) (g bx tp nr md st:Int):Fun prog G1 7 #[.agg #[.slice (some ⟨ka,off,none⟩) n cap,.int .i64 g,.int .i64 bx,.int .i64 tp,.int .i64 nr,.int .i64 md],.agg #[.int .i64 st,.slice none 0 0]] (hpL G1 L) (zab L) (.ret (.bool (decide (9<n))) []):=by
 refine zdi (B:=200) G1F func7 rfl call7 hT.ok ?_ (zaq (by simp)) (by simp) (by simp) (by simp [ntmps7]) (by omega) ?_
 ·simp [zan,zay,zai,zaj,zab,hT.ia]
 intro C hC hC0 hY
 have hA:=hT.a
 have hna:=hT.na
 have hLow:=hT.low
 by_cases h1:9<n
 ·have h1':(9:Int)<(n:Int):=by omega
  rw [decide_eq_true h1]
  repeat' (first|refine gwA ?_|(refine gwX ?_;intro Q hQ hP;simp [hC,hY,h1,h1'];refine gwq hQ ?_;clear hQ hP Q)|(refine gwC ?_ ?_<;>(intro hb;try (cases hb;done))))
  refine ⟨.inr rfl,by simp [results7],kpT G1F⟩
 ·have h1':¬(9:Int)<(n:Int):=by omega
  rw [decide_eq_false h1]
  repeat' (first|refine gwA ?_|(refine gwX ?_;intro Q hQ hP;simp [hC,hY,h1,h1'];refine gwq hQ ?_;clear hQ hP Q)|(refine gwC ?_ ?_<;>(intro hb;try (cases hb;done))))
  refine ⟨.inr rfl,by simp [results7],kpT G1F⟩
end Go.Gy
namespace Go.Gy
set_option linter.unusedSimpArgs false
set_option linter.unusedVariables false
open Go Go.RowKit Go.Proofs Go.Proofs.Tryz
end Go.Gy
namespace Go.Gy
set_option linter.unusedSimpArgs false
set_option linter.unusedVariables false
open Go Go.RowKit Go.Proofs Go.Proofs.Tryz
set_option maxRecDepth 8000 in
set_option maxHeartbeats 2000000 in
theorem zry (L:List (Nat×Blk)) (ks:Nat) (bm bs:Blk) (hT:LTwo G0 L ks bm bs) (off n cap off2 n2 cap2:Nat) (fm fs:Nat→Int) (hm:MB bm off n fm) (hSb:SB bs off2 n2 fs) (g bx tp nr md st:Int) :
  Fun prog G0 20 #[cfV (.slice (some ⟨100,off,none⟩) n cap) g bx tp nr md,.agg #[.int .i64 st,.slice (some ⟨ks,off2,none⟩) n2 cap2]] (hpL G0 L) (zab L) (.ret (.bool (znb n n2 (ze8 n fm g bx tp nr md) (za7 st fs n2))) []):=by
 refine zbn (B:=200) G0F func20 rfl call20 hT.ok ?_ (by simp) (by simp) (by simp) (by simp [ntmps20]) (by omega) ?_
 ·simp [zan,zay,zai,zaj,hT.ia,hT.ib,cfV]
 intro C hC hC0 hY
 have hA:=hT.a
 have hS:=hT.s
 have hne:=hT.ne
 have hLow:=hT.low
 have hks:=hT.k1
 have hks2:=hT.k2
 have hrm:=fun ρ=>Blk.fx_rn hm.fx ρ
 have hrs:=fun ρ=>Blk.fx_rn hSb.fx ρ
 have hck:=znr bm off n cap fm hm g bx tp nr md
 have hri:=zyw bs off2 n2 cap2 fs hSb st
 unfold znb
 unfold cfV at hck ⊢
 cases hc:ze8 n fm g bx tp nr md with
 | false =>
  rw [hc] at hck
  rw [show (decide (n=n2)&&(false&&za7 st fs n2))=false by simp]
  repeat' (first|refine gwA ?_|((first|refine gwR [38,34] ?_|refine gwD [38,34] ?_);intro Q hQ hP;(repeat first|simp [hC,hY,hA,hS,hne]|refine zah hck G0F (B:=200) (zap hm.fx) (fun k=>k) (fun k hk=>rfl) (by simp [ren,zax,zak,zao,cfV]) (by simp) (by simp [hrm,hA]) (by simp [zab]) (by simp [zab];rfl) ?_);refine gwq hQ ?_;clear hQ hP Q)|(refine gwC ?_ ?_<;>(intro hb;try (cases hb;done))))
  refine ⟨.inr rfl,by simp [results20],kpT G0F⟩
 | true =>
  rw [hc] at hck
  cases hr:za7 st fs n2 with
  | false =>
   rw [hr] at hri
   rw [show (decide (n=n2)&&(true&&false))=false by simp]
   repeat' (first|refine gwA ?_|((first|refine gwR [38,34] ?_|refine gwD [38,34] ?_);intro Q hQ hP;(repeat first|simp [hC,hY,hA,hS,hne]|refine zah hck G0F (B:=200) (zap hm.fx) (fun k=>k) (fun k hk=>rfl) (by simp [ren,zax,zak,zao,cfV]) (by simp) (by simp [hrm,hA]) (by simp [zab]) (by simp [zab];rfl) ?_|refine zah hri G0F (B:=200) (zap hSb.fx) (fun k=>if k=100 then ks else k) (fun k hk=>if_neg (by omega)) (by simp [ren,zax,zak,zao]) (by simp) (by simp [hrs,hS,hne,hks]) (by simp [zab]) (by simp [zab];rfl) ?_);refine gwq hQ ?_;clear hQ hP Q)|(refine gwC ?_ ?_<;>(intro hb;try (cases hb;done))))
   refine ⟨.inr rfl,by simp [results20],kpT G0F⟩
  | true =>
   rw [hr] at hri
   by_cases hn:n=n2
   ·have hn':(n:Int)=(n2:Int):=by omega
    have hnb:((n:Int)==(n2:Int))=true:=by simpa using hn'
    rw [decide_eq_true hn]
    repeat' (first|refine gwA ?_|((first|refine gwR [38,34] ?_|refine gwD [38,34] ?_);intro Q hQ hP;(repeat first|simp [hC,hY,hA,hS,hne,hn',hnb]|refine zah hck G0F (B:=200) (zap hm.fx) (fun k=>k) (fun k hk=>rfl) (by simp [ren,zax,zak,zao,cfV]) (by simp) (by simp [hrm,hA]) (by simp [zab]) (by simp [zab];rfl) ?_|refine zah hri G0F (B:=200) (zap hSb.fx) (fun k=>if k=100 then ks else k) (fun k hk=>if_neg (by omega)) (by simp [ren,zax,zak,zao]) (by simp) (by simp [hrs,hS,hne,hks]) (by simp [zab]) (by simp [zab];rfl) ?_);refine gwq hQ ?_;clear hQ hP Q)|(refine gwC ?_ ?_<;>(intro hb;try (cases hb;done))))
    refine ⟨.inr rfl,by simp [results20],kpT G0F⟩
   ·have hn':¬(n:Int)=(n2:Int):=by omega
    have hnb:((n:Int)==(n2:Int))=false:=by simpa using hn'
    rw [decide_eq_false hn]
    repeat' (first|refine gwA ?_|((first|refine gwR [38,34] ?_|refine gwD [38,34] ?_);intro Q hQ hP;(repeat first|simp [hC,hY,hA,hS,hne,hn',hnb]|refine zah hck G0F (B:=200) (zap hm.fx) (fun k=>k) (fun k hk=>rfl) (by simp [ren,zax,zak,zao,cfV]) (by simp) (by simp [hrm,hA]) (by simp [zab]) (by simp [zab];rfl) ?_|refine zah hri G0F (B:=200) (zap hSb.fx) (fun k=>if k=100 then ks else k) (fun k hk=>if_neg (by omega)) (by simp [ren,zax,zak,zao]) (by simp) (by simp [hrs,hS,hne,hks]) (by simp [zab]) (by simp [zab];rfl) ?_);refine gwq hQ ?_;clear hQ hP Q)|(refine gwC ?_ ?_<;>(intro hb;try (cases hb;done))))
    refine ⟨.inr rfl,by simp [results20],kpT G0F⟩
@[simp] theorem jnb (n d g m x0 x1 x2:Int) (h0:inX x0) (h1:inX x1) (h2:inX x2) (k0:PIn n d g m x0 (x0*x0+x1*x1+x2*x2)) (k1:PIn n d g m x1 (x0*x0+x1*x1+x2*x2)) (k2:PIn n d g m x2 (x0*x0+x1*x1+x2*x2)) (K:Value→Prop) :
  za0 prog G1 27 #[.int .i64 n,.int .i64 d,.int .i64 g,.int .i64 m,.agg #[.int .i64 x0,.int .i64 x1,.int .i64 x2]] K↔K (.tuple #[.agg #[.int .i64 (za9 n d g m x0 (x0*x0+x1*x1+x2*x2)),.int .i64 (za9 n d g m x1 (x0*x0+x1*x1+x2*x2)),.int .i64 (za9 n d g m x2 (x0*x0+x1*x1+x2*x2))],.int .i64 0]) :=
 zad G1W (by kernel_rfl) (zst n d g m x0 x1 x2 h0 h1 h2 k0 k1 k2)
theorem z97 {n d g m x0 x1 x2 p0 p1 p2:Int} {r:Int} (hr:x0*x0+x1*x1+x2*x2=r) (h0:inX x0) (h1:inX x1) (h2:inX x2) (k0:PIn n d g m x0 r) (k1:PIn n d g m x1 r) (k2:PIn n d g m x2 r)
  (e0:za9 n d g m x0 r=p0) (e1:za9 n d g m x1 r=p1) (e2:za9 n d g m x2 r=p2) (K:Value→Prop) :
  za0 prog G1 27 #[.int .i64 n,.int .i64 d,.int .i64 g,.int .i64 m,.agg #[.int .i64 x0,.int .i64 x1,.int .i64 x2]] K↔K (.tuple #[.agg #[.int .i64 p0,.int .i64 p1,.int .i64 p2],.int .i64 0]):=by
 subst hr e0 e1 e2
 exact jnb n d g m x0 x1 x2 h0 h1 h2 k0 k1 k2 K
theorem jg1 (n d g m r:Int):zft n d g m 0 r=0:=by
 unfold zft
 rw [Int.mul_zero,Int.zero_mul,Int.zero_ediv,zdz (r:=0) (by decide) (by decide) (by decide)]
 decide
structure MayP (n d g m x0 x1 x2:Int):Prop where
 i0:inX x0
 i1:inX x1
 i2:inX x2
 far:¬(x0=0∧x1=0∧x2=0)
 n0:-2097152≤n
 n1:n≤2097152
 d0:1≤d
 d1:d≤2097152
 g0:1≤g
 g1:g≤1048576
 m0:1≤m
 m1:m≤1024
theorem zzc {x:Int} (h:x≠0):1≤x*x:=by
 by_cases h0:0≤x
 ·exact Int.mul_pos (by omega) (by omega)
 ·rw [←Int.neg_mul_neg];exact Int.mul_pos (by omega) (by omega)
theorem MayP.pin {n d g m x0 x1 x2:Int} (h:MayP n d g m x0 x1 x2):PIn n d g m x0 (x0*x0+x1*x1+x2*x2)∧PIn n d g m x1 (x0*x0+x1*x1+x2*x2)∧PIn n d g m x2 (x0*x0+x1*x1+x2*x2):=by
 have s0:=zf8 h.i0
 have s1:=zf8 h.i1
 have s2:=zf8 h.i2
 have hr:1≤x0*x0+x1*x1+x2*x2:=by
  by_cases z0:x0=0
  ·by_cases z1:x1=0
   ·have:=zzc (x:=x2) (fun z2=>h.far ⟨z0,z1,z2⟩);omega
   ·have:=zzc z1;omega
  ·have:=zzc z0;omega
 refine ⟨⟨h.n0,h.n1,h.d0,h.d1,h.g0,h.g1,h.m0,h.m1,h.i0.1,h.i0.2,hr,by omega,by omega⟩,⟨h.n0,h.n1,h.d0,h.d1,h.g0,h.g1,h.m0,h.m1,h.i1.1,h.i1.2,hr,by omega,by omega⟩,⟨h.n0,h.n1,h.d0,h.d1,h.g0,h.g1,h.m0,h.m1,h.i2.1,h.i2.2,hr,by omega,by omega⟩⟩
theorem MayP.at {n d g m x0 x1 x2 r p0 p1 p2:Int} (h:MayP n d g m x0 x1 x2) (hr:x0*x0+x1*x1+x2*x2=r) (e0:za9 n d g m x0 r=p0) (e1:za9 n d g m x1 r=p1) (e2:za9 n d g m x2 r=p2) (K:Value→Prop) :
  za0 prog G1 27 #[.int .i64 n,.int .i64 d,.int .i64 g,.int .i64 m,.agg #[.int .i64 x0,.int .i64 x1,.int .i64 x2]] K↔K (.tuple #[.agg #[.int .i64 p0,.int .i64 p1,.int .i64 p2],.int .i64 0]):=by
 have hp:=h.pin
 rw [hr] at hp
 exact z97 hr h.i0 h.i1 h.i2 hp.1 hp.2.1 hp.2.2 e0 e1 e2 K
theorem z95 (d g m x r:Int):zft 0 d g m x r=0:=by
 unfold zft
 simp only [Int.mul_zero,Int.zero_mul,Int.zero_ediv]
 rw [zdz (r:=0) (by decide) (by decide) (by decide)]
 decide
theorem PIn.val {n d g m x r:Int} (h:PIn n d g m x r):-4503599627370496≤za9 n d g m x r∧za9 n d g m x r≤4503599627370496:=by
 have:=h.mag
 unfold za9
 (repeat' split)<;>omega
theorem zu1 {q:Int} (h0:0≤q):(isq q+1) / 2=0↔q=0:=by
 obtain ⟨h1,h2,h3⟩:=zfk q h0
 constructor
 ·intro h
  have h4:isq q=0:=by omega
  rw [h4] at h3
  omega
 ·intro h
  subst h
  rw [zdz (r:=0) (by decide) (by decide) (by decide)]
  decide
theorem PIn.zero {n d g m x r:Int} (h:PIn n d g m x r):za9 n d g m x r=0↔2*n*g*m*x*(2*n*g*m*x)<d*d*r*r*r:=by
 have hB:0<d*d*r*r*r:=by have:=h.q4.1;have:=h.r0;omega
 have hA:=zeb (2*n*g*m*x)
 have e1:za9 n d g m x r=0↔zft n d g m x r=0:=by
  have:=h.mag
  unfold za9
  (repeat' split)<;>omega
 rw [e1]
 unfold zft
 rw [zu1 (Int.ediv_nonneg hA (by omega))]
 generalize 2*n*g*m*x*(2*n*g*m*x)=A at *
 generalize d*d*r*r*r=B at *
 constructor
 ·intro h
  have e2:=Int.emod_lt_of_pos A hB
  have e3:=Int.mul_ediv_add_emod A B
  rw [h] at e3
  omega
 ·intro h;exact Int.ediv_eq_zero_of_lt hA h
theorem zoo (n a b:Int):Ret prog G1 57 #[.int .i64 n,.int .i64 a,.int .i64 b] (.bool (decide (a≤n)&&decide (n≤b))):=by
 refine zar G1F func57 rfl call57 rfl (by simp) (by simp [ntmps57]) ?_
 intro C hC hC0 hY
 by_cases h:a≤n
 ·skip
  repeat' (first|refine gwA ?_|(refine gwX ?_;intro Q hQ hP;simp [hC,hY,h];refine gwq hQ ?_;clear hQ hP Q)|(refine gwC ?_ ?_<;>(intro hb;try (cases hb;done))))
  refine ⟨.inr trivial,?_⟩
  simp [results57,h]
 ·skip
  repeat' (first|refine gwA ?_|(refine gwX ?_;intro Q hQ hP;simp [hC,hY,h];refine gwq hQ ?_;clear hQ hP Q)|(refine gwC ?_ ?_<;>(intro hb;try (cases hb;done))))
  refine ⟨.inr trivial,?_⟩
  simp [results57,h]
@[simp] theorem jks (n a b:Int) (K:Value→Prop):za0 prog G1 57 #[.int .i64 n,.int .i64 a,.int .i64 b] K↔K (.bool (decide (a≤n)&&decide (n≤b))):=zad G1W (by kernel_rfl) (zoo n a b)
theorem zq2 (a:Int):Ret prog G1 59 #[wd a] (wd (sz a*sz a)):=by
 refine zar G1F func59 rfl call59 (by simp) (by simp) (by simp [ntmps59]) ?_
 intro C hC hC0 hY
 repeat' (first|refine gwA ?_|(refine gwX ?_;intro Q hQ hP;simp [hC,hY];refine gwq hQ ?_;clear hQ hP Q)|(refine gwC ?_ ?_<;>(intro hb;try (cases hb;done))))
 refine ⟨.inr trivial,?_⟩
 simp [results59]
@[simp] theorem jnu (a:Int) (K:Value→Prop):za0 prog G1 59 #[Value.agg #[.int .u64 (wi (a) 0),.int .u64 (wi (a) 1),.int .u64 (wi (a) 2),.int .u64 (wi (a) 3)]] K↔K (wd (sz a*sz a)):=zad G1W (by kernel_rfl) (zq2 a)
set_option maxHeartbeats 1000000 in
theorem jc8 (a0 a1:Int) (hi:i64 a0∧i64 a1) (hw:wr (a0)∧wr (a0*a1)):Fun prog G1 60 #[.slice (some ⟨100,0,none⟩) 2 2] (hpL G1 [(100,⟨#[.int .i64 a0,.int .i64 a1],.ty 3⟩)]) [100] (.ret (wd (a0*a1)) []):=by
 have hrst:rst (hpL G1 [(100,⟨#[.int .i64 a0,.int .i64 a1],.ty 3⟩)]) [100]=hpL G1 [(100,⟨#[.int .i64 a0,.int .i64 a1],.ty 3⟩)]:=zdj G1F (by simp)
 have hfree:∀ k,200≤k→hpL G1 [(100,⟨#[.int .i64 a0,.int .i64 a1],.ty 3⟩)] k=none:=fun k hk=>by simp [show ¬k=100 by omega,show 100≤k by omega]
 refine zfa (B:=200) G1F (fun k hk=>za4 (by simp) hk) func60 rfl call60 ?_ ?_ ⟨zaq (by simp),by simp [zab],by simp,by simp⟩ (by simp [ntmps60]) (by omega) ?_ ?_
 ·rw [hrst];simp [dom]
 ·rw [hrst]
  intro k c h
  rcases za5 h with h|h
  ·simp at h
   rcases h with ⟨_,rfl⟩
   simp
  ·exact zej _ _ _ h
 ·rw [hrst];exact hfree
 ·intro C hC hC0 hY
  rw [hrst] at hC0 ⊢
  obtain ⟨i0,i1⟩:=hi
  obtain ⟨w0,w1⟩:=hw
  have s0:=zb7 w0
  have s1:=zb7 w1
  have t1:=zb7 (zhr i1)
  have j1:=zp0
  have e1:sz 1=1:=by decide
  repeat' (first|refine zac ?_|refine zaf ?_|refine gwA ?_|(refine gwX ?_;intro Q hQ hP;simp [hC,hY,j1,e1,Int.one_mul,i0,i1,s0,s1,t1];refine gwq hQ ?_;clear hQ hP Q)|(refine gwC ?_ ?_<;>(intro hb;try (cases hb;done))))
  refine ⟨.inr rfl,by simp [results60],fun k hk=>?_⟩
  have hk3:k<200:=Classical.byContradiction fun h=>hk (hfree k (by omega))
  simp (disch:=omega) only [zcr]
  rfl
set_option maxHeartbeats 1000000 in
theorem zlu (a0 a1 a2 a3 a4:Int) (hi:i64 a0∧i64 a1∧i64 a2∧i64 a3∧i64 a4) (hw:wr (a0)∧wr (a0*a1)∧wr (a0*a1*a2)∧wr (a0*a1*a2*a3)∧wr (a0*a1*a2*a3*a4)):Fun prog G1 60 #[.slice (some ⟨100,0,none⟩) 5 5] (hpL G1 [(100,⟨#[.int .i64 a0,.int .i64 a1,.int .i64 a2,.int .i64 a3,.int .i64 a4],.ty 3⟩)]) [100] (.ret (wd (a0*a1*a2*a3*a4)) []):=by
 have hrst:rst (hpL G1 [(100,⟨#[.int .i64 a0,.int .i64 a1,.int .i64 a2,.int .i64 a3,.int .i64 a4],.ty 3⟩)]) [100]=hpL G1 [(100,⟨#[.int .i64 a0,.int .i64 a1,.int .i64 a2,.int .i64 a3,.int .i64 a4],.ty 3⟩)]:=zdj G1F (by simp)
 have hfree:∀ k,200≤k→hpL G1 [(100,⟨#[.int .i64 a0,.int .i64 a1,.int .i64 a2,.int .i64 a3,.int .i64 a4],.ty 3⟩)] k=none:=fun k hk=>by simp [show ¬k=100 by omega,show 100≤k by omega]
 refine zfa (B:=200) G1F (fun k hk=>za4 (by simp) hk) func60 rfl call60 ?_ ?_ ⟨zaq (by simp),by simp [zab],by simp,by simp⟩ (by simp [ntmps60]) (by omega) ?_ ?_
 ·rw [hrst];simp [dom]
 ·rw [hrst]
  intro k c h
  rcases za5 h with h|h
  ·simp at h
   rcases h with ⟨_,rfl⟩
   simp
  ·exact zej _ _ _ h
 ·rw [hrst];exact hfree
 ·intro C hC hC0 hY
  rw [hrst] at hC0 ⊢
  obtain ⟨i0,i1,i2,i3,i4⟩:=hi
  obtain ⟨w0,w1,w2,w3,w4⟩:=hw
  have s0:=zb7 w0
  have s1:=zb7 w1
  have s2:=zb7 w2
  have s3:=zb7 w3
  have s4:=zb7 w4
  have t1:=zb7 (zhr i1)
  have t2:=zb7 (zhr i2)
  have t3:=zb7 (zhr i3)
  have t4:=zb7 (zhr i4)
  have j1:=zp0
  have e1:sz 1=1:=by decide
  repeat' (first|refine zac ?_|refine zaf ?_|refine gwA ?_|(refine gwX ?_;intro Q hQ hP;simp [hC,hY,j1,e1,Int.one_mul,i0,i1,i2,i3,i4,s0,s1,s2,s3,s4,t1,t2,t3,t4];refine gwq hQ ?_;clear hQ hP Q)|(refine gwC ?_ ?_<;>(intro hb;try (cases hb;done))))
  refine ⟨.inr rfl,by simp [results60],fun k hk=>?_⟩
  have hk3:k<200:=Classical.byContradiction fun h=>hk (hfree k (by omega))
  simp (disch:=omega) only [zcr]
  rfl
theorem zun (x0 x1 x2:Int) (h0:inX x0) (h1:inX x1) (h2:inX x2):Ret prog G1 39 #[vv x0 x1 x2] (.tuple #[.int .i64 (x0*x0+x1*x1+x2*x2),.int .i64 0]):=by
 refine zar G1F func39 rfl call39 (by simp [vv]) (by simp [vv]) (by simp [ntmps39]) ?_
 intro C hC hC0 hY
 have z0:=zf8 h0
 have z1:=zf8 h1
 have z2:=zf8 h2
 obtain ⟨l0,u0⟩:=h0
 obtain ⟨l1,u1⟩:=h1
 obtain ⟨l2,u2⟩:=h2
 have b0:Int.bmod (x0*x0) 18446744073709551616=x0*x0:=bm (by omega) (by omega)
 have b1:Int.bmod (x1*x1) 18446744073709551616=x1*x1:=bm (by omega) (by omega)
 have b2:Int.bmod (x2*x2) 18446744073709551616=x2*x2:=bm (by omega) (by omega)
 have b3:Int.bmod (x0*x0+x1*x1) 18446744073709551616=x0*x0+x1*x1:=bm (by omega) (by omega)
 have b4:Int.bmod (x0*x0+x1*x1+x2*x2) 18446744073709551616=x0*x0+x1*x1+x2*x2:=bm (by omega) (by omega)
 repeat' (first|refine zac ?_|refine zaf ?_|refine gwA ?_|(refine gwX ?_;intro Q hQ hP;simp [hC,hY,vv,l0,u0,l1,u1,l2,u2,b0,b1,b2,b3,b4];refine gwq hQ ?_;clear hQ hP Q)|(refine gwC ?_ ?_<;>(intro hb;try (cases hb;done))))
 refine ⟨.inr trivial,?_⟩
 simp [results39]
theorem zqy (x0 x1 x2:Int) (h:¬(inX x0∧inX x1∧inX x2)):Ret prog G1 39 #[vv x0 x1 x2] (.tuple #[.int .i64 0,.int .i64 2]):=by
 refine zar G1F func39 rfl call39 (by simp [vv]) (by simp [vv]) (by simp [ntmps39]) ?_
 intro C hC hC0 hY
 by_cases l0:-2097152≤x0
 rotate_left
 ·skip
  repeat' (first|refine zac ?_|refine zaf ?_|refine gwA ?_|(refine gwX ?_;intro Q hQ hP;simp [hC,hY,vv,l0];refine gwq hQ ?_;clear hQ hP Q)|(refine gwC ?_ ?_<;>(intro hb;try (cases hb;done))))
  refine ⟨.inr trivial,?_⟩
  simp [results39]
 by_cases u0:x0≤2097152
 rotate_left
 ·skip
  repeat' (first|refine zac ?_|refine zaf ?_|refine gwA ?_|(refine gwX ?_;intro Q hQ hP;simp [hC,hY,vv,l0,u0];refine gwq hQ ?_;clear hQ hP Q)|(refine gwC ?_ ?_<;>(intro hb;try (cases hb;done))))
  refine ⟨.inr trivial,?_⟩
  simp [results39]
 by_cases l1:-2097152≤x1
 rotate_left
 ·skip
  repeat' (first|refine zac ?_|refine zaf ?_|refine gwA ?_|(refine gwX ?_;intro Q hQ hP;simp [hC,hY,vv,l0,u0,l1];refine gwq hQ ?_;clear hQ hP Q)|(refine gwC ?_ ?_<;>(intro hb;try (cases hb;done))))
  refine ⟨.inr trivial,?_⟩
  simp [results39]
 by_cases u1:x1≤2097152
 rotate_left
 ·skip
  repeat' (first|refine zac ?_|refine zaf ?_|refine gwA ?_|(refine gwX ?_;intro Q hQ hP;simp [hC,hY,vv,l0,u0,l1,u1];refine gwq hQ ?_;clear hQ hP Q)|(refine gwC ?_ ?_<;>(intro hb;try (cases hb;done))))
  refine ⟨.inr trivial,?_⟩
  simp [results39]
 by_cases l2:-2097152≤x2
 rotate_left
 ·skip
  repeat' (first|refine zac ?_|refine zaf ?_|refine gwA ?_|(refine gwX ?_;intro Q hQ hP;simp [hC,hY,vv,l0,u0,l1,u1,l2];refine gwq hQ ?_;clear hQ hP Q)|(refine gwC ?_ ?_<;>(intro hb;try (cases hb;done))))
  refine ⟨.inr trivial,?_⟩
  simp [results39]
 by_cases u2:x2≤2097152
 rotate_left
 ·skip
  repeat' (first|refine zac ?_|refine zaf ?_|refine gwA ?_|(refine gwX ?_;intro Q hQ hP;simp [hC,hY,vv,l0,u0,l1,u1,l2,u2];refine gwq hQ ?_;clear hQ hP Q)|(refine gwC ?_ ?_<;>(intro hb;try (cases hb;done))))
  refine ⟨.inr trivial,?_⟩
  simp [results39]
 exact absurd ⟨⟨l0,u0⟩,⟨l1,u1⟩,⟨l2,u2⟩⟩ h
set_option maxHeartbeats 8000000 in
theorem z3n (n d g m x r:Int):Ret prog G1 58 #[.int .i64 n,.int .i64 d,.int .i64 g,.int .i64 m,.int .i64 x,.int .i64 r] (.int .i64 (zdw n d g m x r)):=by
 refine zar G1F func58 rfl call58 (by simp) (by simp) (by simp [ntmps58]) ?_
 intro C hC hC0 hY
 by_cases f0:-2097152≤n
 rotate_left
 ·have hE:zdw n d g m x r=2:=if_neg (by omega)
  rw [hE]
  repeat' (first|refine gwA ?_|(refine gwX ?_;intro Q hQ hP;simp [hC,hY,f0];refine gwq hQ ?_;clear hQ hP Q)|(refine gwC ?_ ?_<;>(intro hb;try (cases hb;done))))
  refine ⟨.inr trivial,?_⟩
  simp [results58]
 by_cases f1:n≤2097152
 rotate_left
 ·have hE:zdw n d g m x r=2:=if_neg (by omega)
  rw [hE]
  repeat' (first|refine gwA ?_|(refine gwX ?_;intro Q hQ hP;simp [hC,hY,f0,f1];refine gwq hQ ?_;clear hQ hP Q)|(refine gwC ?_ ?_<;>(intro hb;try (cases hb;done))))
  refine ⟨.inr trivial,?_⟩
  simp [results58]
 by_cases f2:1≤d
 rotate_left
 ·have hE:zdw n d g m x r=2:=if_neg (by omega)
  rw [hE]
  repeat' (first|refine gwA ?_|(refine gwX ?_;intro Q hQ hP;simp [hC,hY,f0,f1,f2];refine gwq hQ ?_;clear hQ hP Q)|(refine gwC ?_ ?_<;>(intro hb;try (cases hb;done))))
  refine ⟨.inr trivial,?_⟩
  simp [results58]
 by_cases f3:d≤2097152
 rotate_left
 ·have hE:zdw n d g m x r=2:=if_neg (by omega)
  rw [hE]
  repeat' (first|refine gwA ?_|(refine gwX ?_;intro Q hQ hP;simp [hC,hY,f0,f1,f2,f3];refine gwq hQ ?_;clear hQ hP Q)|(refine gwC ?_ ?_<;>(intro hb;try (cases hb;done))))
  refine ⟨.inr trivial,?_⟩
  simp [results58]
 by_cases f4:1≤g
 rotate_left
 ·have hE:zdw n d g m x r=2:=if_neg (by omega)
  rw [hE]
  repeat' (first|refine gwA ?_|(refine gwX ?_;intro Q hQ hP;simp [hC,hY,f0,f1,f2,f3,f4];refine gwq hQ ?_;clear hQ hP Q)|(refine gwC ?_ ?_<;>(intro hb;try (cases hb;done))))
  refine ⟨.inr trivial,?_⟩
  simp [results58]
 by_cases f5:g≤1048576
 rotate_left
 ·have hE:zdw n d g m x r=2:=if_neg (by omega)
  rw [hE]
  repeat' (first|refine gwA ?_|(refine gwX ?_;intro Q hQ hP;simp [hC,hY,f0,f1,f2,f3,f4,f5];refine gwq hQ ?_;clear hQ hP Q)|(refine gwC ?_ ?_<;>(intro hb;try (cases hb;done))))
  refine ⟨.inr trivial,?_⟩
  simp [results58]
 by_cases f6:1≤m
 rotate_left
 ·have hE:zdw n d g m x r=2:=if_neg (by omega)
  rw [hE]
  repeat' (first|refine gwA ?_|(refine gwX ?_;intro Q hQ hP;simp [hC,hY,f0,f1,f2,f3,f4,f5,f6];refine gwq hQ ?_;clear hQ hP Q)|(refine gwC ?_ ?_<;>(intro hb;try (cases hb;done))))
  refine ⟨.inr trivial,?_⟩
  simp [results58]
 by_cases f7:m≤1024
 rotate_left
 ·have hE:zdw n d g m x r=2:=if_neg (by omega)
  rw [hE]
  repeat' (first|refine gwA ?_|(refine gwX ?_;intro Q hQ hP;simp [hC,hY,f0,f1,f2,f3,f4,f5,f6,f7];refine gwq hQ ?_;clear hQ hP Q)|(refine gwC ?_ ?_<;>(intro hb;try (cases hb;done))))
  refine ⟨.inr trivial,?_⟩
  simp [results58]
 by_cases f8:-2097152≤x
 rotate_left
 ·have hE:zdw n d g m x r=2:=if_neg (by omega)
  rw [hE]
  repeat' (first|refine gwA ?_|(refine gwX ?_;intro Q hQ hP;simp [hC,hY,f0,f1,f2,f3,f4,f5,f6,f7,f8];refine gwq hQ ?_;clear hQ hP Q)|(refine gwC ?_ ?_<;>(intro hb;try (cases hb;done))))
  refine ⟨.inr trivial,?_⟩
  simp [results58]
 by_cases f9:x≤2097152
 rotate_left
 ·have hE:zdw n d g m x r=2:=if_neg (by omega)
  rw [hE]
  repeat' (first|refine gwA ?_|(refine gwX ?_;intro Q hQ hP;simp [hC,hY,f0,f1,f2,f3,f4,f5,f6,f7,f8,f9];refine gwq hQ ?_;clear hQ hP Q)|(refine gwC ?_ ?_<;>(intro hb;try (cases hb;done))))
  refine ⟨.inr trivial,?_⟩
  simp [results58]
 by_cases f10:0≤r
 rotate_left
 ·have hE:zdw n d g m x r=2:=if_neg (by omega)
  rw [hE]
  repeat' (first|refine gwA ?_|(refine gwX ?_;intro Q hQ hP;simp [hC,hY,f0,f1,f2,f3,f4,f5,f6,f7,f8,f9,f10];refine gwq hQ ?_;clear hQ hP Q)|(refine gwC ?_ ?_<;>(intro hb;try (cases hb;done))))
  refine ⟨.inr trivial,?_⟩
  simp [results58]
 by_cases f11:r≤13194139533312
 rotate_left
 ·have hE:zdw n d g m x r=2:=if_neg (by omega)
  rw [hE]
  repeat' (first|refine gwA ?_|(refine gwX ?_;intro Q hQ hP;simp [hC,hY,f0,f1,f2,f3,f4,f5,f6,f7,f8,f9,f10,f11];refine gwq hQ ?_;clear hQ hP Q)|(refine gwC ?_ ?_<;>(intro hb;try (cases hb;done))))
  refine ⟨.inr trivial,?_⟩
  simp [results58]
 have hall:zdw n d g m x r=(if r=0 then 30 else if x*x≤r then 0 else 2):=if_pos ⟨f0,f1,f2,f3,f4,f5,f6,f7,f8,f9,f10,f11⟩
 rw [hall]
 by_cases hr:r=0
 ·rw [if_pos hr]
  subst hr
  repeat' (first|refine gwA ?_|(refine gwX ?_;intro Q hQ hP;simp [hC,hY,f0,f1,f2,f3,f4,f5,f6,f7,f8,f9,f10,f11];refine gwq hQ ?_;clear hQ hP Q)|(refine gwC ?_ ?_<;>(intro hb;try (cases hb;done))))
  refine ⟨.inr trivial,?_⟩
  simp [results58]
 have hr1:(r==0)=false:=by simpa using hr
 rw [if_neg hr]
 have hb2:Int.bmod (x*x) 18446744073709551616=x*x:=bm (by have:=zf8 (x:=x) ⟨f8,f9⟩;omega) (by have:=zf8 (x:=x) ⟨f8,f9⟩;omega)
 by_cases hx:x*x≤r
 ·have hx':¬r<x*x:=by omega
  rw [if_pos hx]
  repeat' (first|refine gwA ?_|(refine gwX ?_;intro Q hQ hP;simp [hC,hY,f0,f1,f2,f3,f4,f5,f6,f7,f8,f9,f10,f11,hr1,hx',hb2];refine gwq hQ ?_;clear hQ hP Q)|(refine gwC ?_ ?_<;>(intro hb;try (cases hb;done))))
  refine ⟨.inr trivial,?_⟩
  simp [results58]
 ·have hx':r<x*x:=by omega
  rw [if_neg hx]
  repeat' (first|refine gwA ?_|(refine gwX ?_;intro Q hQ hP;simp [hC,hY,f0,f1,f2,f3,f4,f5,f6,f7,f8,f9,f10,f11,hr1,hx',hb2];refine gwq hQ ?_;clear hQ hP Q)|(refine gwC ?_ ?_<;>(intro hb;try (cases hb;done))))
  refine ⟨.inr trivial,?_⟩
  simp [results58]
@[simp] theorem jtp (n d g m x r:Int) (K:Value→Prop):za0 prog G1 58 #[.int .i64 n,.int .i64 d,.int .i64 g,.int .i64 m,.int .i64 x,.int .i64 r] K↔K (.int .i64 (zdw n d g m x r)):=zad G1W (by kernel_rfl) (z3n n d g m x r)
def bt (z:Int):Nat→Int
 | 0=>0
 | i+1=>if wi z i=0 then bt z i else 64*i+zaw (wi z i)
theorem jow (z:Int):bt z 4=zaw (uz z):=by
 simp only [bt]
 by_cases h3:wi z 3=0
 ·by_cases h2:wi z 2=0
  ·by_cases h1:wi z 1=0
   ·rw [zy8 z h3 h2 h1]
    by_cases h0:wi z 0=0
    ·simp [h0,h1,h2,h3];rfl
    ·simp [h0,h1,h2,h3]
   ·rw [zy9 z h3 h2 h1];simp [h1,h2,h3]
  ·rw [zza z h3 h2];simp [h2,h3]
 ·rw [zzb z h3];simp [h3]
theorem jqq (i j:Nat) (hi:i<4) (hj:j<64):Int.bmod (64*(i:Int)+(1+j)) 18446744073709551616=64*(i:Int)+(1+j):=bm (by omega) (by omega)
def jlp (z:Int) (i:Nat):GS :=
 ⟨tsL [(1,.pointer (some ⟨200,0,none⟩)),(3,.int .i64 (bt z i)),(4,.int .i64 i)],hpL G0 [(200,⟨fa 4 .u64 (wi z),.ty 86⟩)],300,0⟩
def z7p (z:Int) (i j:Nat):GS :=
 ⟨tsL [(1,.pointer (some ⟨200,0,none⟩)),(3,.int .i64 (if j=0 then bt z i else 64*i+j)),(4,.int .i64 i),(5,.int .u64 (wi z i / 2^j)),(6,.int .i64 (1+j))],hpL G0 [(200,⟨fa 4 .u64 (wi z),.ty 86⟩)],300,0⟩
theorem zxt:zaw 0=0:=rfl
theorem je9 (x:Int) (h0:0≤x):(∀ j:Nat,j<(zaw x).toNat→0<x / 2^j)∧x / 2^(zaw x).toNat=0:=by
 by_cases h:x=0
 ·subst h
  rw [zxt];simp
 ·obtain ⟨k,hk,k1,k2⟩:=zeo (x:=x) (by omega)
  have e:(zaw x).toNat=k+1:=by omega
  rw [e]
  have hp:=Int.pow_pos (n:=2) (m:=k+1) (by decide)
  refine ⟨fun j hj=>?_,Int.ediv_eq_zero_of_lt h0 k2⟩
  have h3:(2:Int)^j≤2^k:=by exact_mod_cast Nat.pow_le_pow_right (by omega) (by omega:j≤k)
  have hpj:=Int.pow_pos (n:=2) (m:=j) (by decide)
  have:1≤x / 2^j:=by
   rw [Int.le_ediv_iff_mul_le hpj];omega
  omega
theorem z1a (z:Int):Ret prog G0 128 #[wd z] (.int .i64 (zaw (uz z))):=by
 refine zar G0F func128 rfl call128 rfl (by simp) (by simp [ntmps128]) ?_
 intro C hC hC0 hY
 repeat' (first|refine gwA ?_|(refine gwX ?_;intro Q hQ hP;simp [hC,hY];refine gwq hQ ?_;clear hQ hP Q)|(refine gwC ?_ ?_<;>(intro hb;try (cases hb;done))))
 refine zb8 4 (jlp z) ?_ ?_ ?_
 ·refine zbb _ 300 hC G0F (m0:=[]) hC0 (by omega) ?_ ?_ ?_
  ·simp [zan,zay,zai,zaj,dom,bt]
  ·simp [Blk.ids,zai,zaj,zih]
  ·simp
 ·intro i hi
  have hi':(i:Int)<4:=by omega
  have hz:(0:Int)≤i:=by omega
  have hs:Int.bmod ((i:Int)+1) 18446744073709551616=((i+1:Nat):Int):=by rw [bm (by omega) (by omega)];rfl
  unfold jlp
  repeat' (first|refine gwA ?_|(refine gwX ?_;intro Q hQ hP;simp [hC,hY,hi,hi',hz,hs,zc9];refine gwq hQ ?_;clear hQ hP Q)|(refine gwC ?_ ?_<;>(intro hb;try (cases hb;done))))
  have w0:=zbm z i
  have w1:=zbs z i
  have hN:=zfm z i
  obtain ⟨hh,hhN⟩:=je9 (wi z i) w0
  have hn0:(zaw (wi z i)).toNat=0↔wi z i=0:=by
   refine ⟨fun h=>?_,fun h=>by rw [h,zxt];rfl⟩
   rw [h] at hhN;simpa using hhN
  have hbt:bt z (i+1)=if (zaw (wi z i)).toNat=0 then bt z i else 64*i+((zaw (wi z i)).toNat:Int):=by
   simp only [bt]
   by_cases h:wi z i=0
   ·rw [if_pos h,if_pos (hn0.2 h)]
   ·rw [if_neg h,if_neg (fun h'=>h (hn0.1 h'))];omega
  generalize (zaw (wi z i)).toNat=N at *
  have hN64:N≤64:=by
   refine Classical.byContradiction fun hc=>?_
   have:=hh 64 (by omega)
   rw [Int.ediv_eq_zero_of_lt w0 (by omega)] at this
   omega
  refine zb8 N (z7p z i) ?_ ?_ ?_
  ·refine zbb _ 300 hC G0F (m0:=[]) hC0 (by omega) ?_ ?_ ?_
   ·simp [zan,zay,zai,zaj,dom]
   ·simp [zcn]
   ·simp
  ·intro j hj
   have hpos:=hh j hj
   have hw:wi z i / 2^j<18446744073709551616:=Int.lt_of_le_of_lt (Int.ediv_le_self _ w0) w1
   have hs2:Int.bmod (1+(j:Int)+1) 18446744073709551616=1+((j+1:Nat):Int):=by rw [bm (by omega) (by omega)];omega
   have hs3:Int.bmod (64*(i:Int)) 18446744073709551616=64*(i:Int):=bm (by omega) (by omega)
   have hs4:Int.bmod (64*(i:Int)+(1+j)) 18446744073709551616=64*(i:Int)+(1+j):=jqq i j hi (Nat.lt_of_lt_of_le hj hN64)
   have hd:(wi z i / 2^j).tdiv 2=wi z i / 2^(j+1):=by
    rw [Int.tdiv_eq_ediv_of_nonneg (by omega),Int.ediv_ediv_of_nonneg (Int.le_of_lt (Int.pow_pos (by decide))),Int.pow_succ]
   have hd1:wi z i / 2^(j+1)%18446744073709551616=wi z i / 2^(j+1):=by
    rw [←hd,Int.tdiv_eq_ediv_of_nonneg (by omega)];omega
   unfold z7p
   repeat' (first|refine gwA ?_|(refine gwX ?_;intro Q hQ hP;simp [hC,hY,hpos,hs2,hs3,hs4,hd,hd1];refine gwq hQ ?_;clear hQ hP Q)|(refine gwC ?_ ?_<;>(intro hb;try (cases hb;done))))
   refine zbb _ 300 hC G0F (m0:=[]) hC0 (by omega) ?_ ?_ ?_
   ·simp [zan,zay,zai,zaj,dom];omega
   ·simp [zcn]
   ·simp
  ·unfold z7p
   repeat' (first|refine gwA ?_|(refine gwX ?_;intro Q hQ hP;simp [hC,hY,hhN,hs];refine gwq hQ ?_;clear hQ hP Q)|(refine gwC ?_ ?_<;>(intro hb;try (cases hb;done))))
   refine zbb _ 300 hC G0F (m0:=[]) hC0 (by omega) ?_ ?_ ?_
   ·simp [zan,zay,zai,zaj,dom,hbt,hs]
   ·simp [zcn]
   ·simp
 ·unfold jlp
  repeat' (first|refine gwA ?_|(refine gwX ?_;intro Q hQ hP;simp [hC,hY,jow];refine gwq hQ ?_;clear hQ hP Q)|(refine gwC ?_ ?_<;>(intro hb;try (cases hb;done))))
  refine ⟨.inr trivial,?_⟩
  simp [results128,jow]
@[simp] theorem jp3 (z:Int) (K:Value→Prop):za0 prog G0 128 #[Value.agg #[.int .u64 (wi (z) 0),.int .u64 (wi (z) 1),.int .u64 (wi (z) 2),.int .u64 (wi (z) 3)]] K↔K (.int .i64 (zaw (uz z))):=zad G0W (by kernel_rfl) (z1a z)
theorem z6o (a:Int) (K:Nat):∀ i,i≤K→∃ c,rp a K i=c*2^(K - i)
 | 0,_=>⟨0,by simp [rp]⟩
 | i+1,h=>by
  obtain ⟨c,hc⟩:=z6o a K i (by omega)
  have e:K - i=(K - (i+1))+1:=by omega
  have e2:K - 1 - i=K - (i+1):=by omega
  rw [e,Int.pow_succ,Int.mul_comm _ 2,←Int.mul_assoc] at hc
  unfold rp
  rw [e2]
  split
  ·exact ⟨c*2+1,by rw [hc,Int.add_mul,Int.one_mul]⟩
  ·exact ⟨c*2,hc⟩
theorem jgt (c:Int) (t r:Nat) (hr:r<64) (ht:t<4):fa 4 .u64 (upd (wi (c*2^(64*t+r+1))) t (zdy .or .u64 (wi (c*2^(64*t+r+1)) t) (2^r)))=fa 4 .u64 (wi (c*2^(64*t+r+1)+2^(64*t+r))):=by
 refine zb5 fun j hj=>?_
 by_cases h:j=t
 ·subst h;rw [zba,z62 c j r hr]
 ·rw [zaa _ _ h,zm7 c t r j hr h]
def jg9 (a r:Int) (m:Int):GS :=
 ⟨tsL [(1,.pointer (some ⟨200,0,none⟩)),(2,.pointer (some ⟨208,0,none⟩)),(3,.int .i64 0),(4,.pointer (some ⟨248,0,none⟩)),(5,.int .i64 m)],
 hpL G0 [(200,wb a),(208,wb 0),(248,⟨fa 4 .u64 (wi r),.ty 86⟩)],400,0⟩
theorem jac (a:Int) (ha:wr a) (h0:a<0):Ret prog G0 109 #[wd a] (.tuple #[wd 0,.int .i64 2]):=by
 refine zar G0F func109 rfl call109 (by simp) (by simp) (by simp [ntmps109]) ?_
 intro C hC hC0 hY
 have s1:zcs (sz a) 0<0:=by rw [zb7 ha];unfold zcs;split<;>(try split)<;>omega
 repeat' (first|refine gwA ?_|(refine gwX ?_;intro Q hQ hP;simp [hC,hY,s1];refine gwq hQ ?_;clear hQ hP Q)|(refine gwC ?_ ?_<;>(intro hb;try (cases hb;done))))
 refine ⟨.inr trivial,?_⟩
 simp [results109,zde]
set_option maxHeartbeats 1000000 in
theorem zqw (a:Int) (ha:wr a) (h0:0≤a):Ret prog G0 109 #[wd a] (.tuple #[wd (isq a),.int .i64 0]):=by
 refine zar G0F func109 rfl call109 (by simp) (by simp) (by simp [ntmps109]) ?_
 intro C hC hC0 hY
 have s1:¬zcs (sz a) 0<0:=by rw [zb7 ha];unfold zcs;split<;>(try split)<;>omega
 have hnb:=zey 255 ha.2
 have eu:uz a=a:=by unfold uz;have:=ha.2;omega
 have hinv:=zsx a (zaw a / 2+1).toNat h0 (zmn a h0)
 have hdv:=z6o a (zaw a / 2+1).toNat
 have hisq:isq a=rp a (zaw a / 2+1).toNat (zaw a / 2+1).toNat:=rfl
 have hM:0≤zaw a / 2∧zaw a / 2≤127:=by omega
 have td:(zaw a).tdiv 2=zaw a / 2:=Int.tdiv_eq_ediv_of_nonneg (by omega)
 have tb:Int.bmod (zaw a / 2) 18446744073709551616=zaw a / 2:=bm (by omega) (by omega)
 repeat' (first|refine gwA ?_|(refine gwX ?_;intro Q hQ hP;simp [hC,hY,s1,eu,td,tb];refine gwq hQ ?_;clear hQ hP Q)|(refine gwC ?_ ?_<;>(intro hb;try (cases hb;done))))
 clear td tb
 generalize zaw a / 2=M at *
 generalize hK:(M+1).toNat=K at *
 refine zb8 K (fun i=>jg9 a (rp a K i) (M - i)) ?_ ?_ ?_
 ·refine zbb _ 400 hC G0F (m0:=[]) hC0 (by omega) ?_ ?_ ?_
  ·simp [zan,zay,zai,zaj,dom]
  ·simp [Blk.ids,zai,zaj,zih,wb,rp,zde]
  ·simp
 ·intro i hi
  obtain ⟨n,hn⟩:∃ n:Nat,M - (i:Int)=n:=⟨(M - i).toNat,by omega⟩
  obtain ⟨r0,r1,r2⟩:=hinv i (by omega)
  obtain ⟨c,hc⟩:=hdv i (by omega)
  have en:K - 1 - i=n:=by omega
  have en1:K - i=n+1:=by omega
  have hrs:rp a K (i+1)=if (rp a K i+2^n)*(rp a K i+2^n)≤a then rp a K i+2^n else rp a K i:=by
   rw [rp,en]
  rw [en1] at hc
  generalize rp a K i=r at *
  have hau:=ha.2
  have hr:r<340282366920938463463374607431768211456:=z3t _ r0 (by decide) (by omega)
  have hn2:(2:Int)^n≤2^127:=by exact_mod_cast Nat.pow_le_pow_right (by omega) (by omega:n≤127)
  have hn0:=zbe n
  have t0:0≤r+2^n:=by omega
  have t1:r+2^n<680564733841876926926749214863536422912:=by omega
  have szt:sz (r+2^n)=r+2^n:=zg3 t0 (Int.lt_trans t1 (by decide))
  have tt0:0≤(r+2^n)*(r+2^n):=Int.mul_nonneg t0 t0
  have hmul:zhz (r+2^n) (r+2^n)=decide (¬((r+2^n)*(r+2^n)<57896044618658097711785492504343953926634992332820282019728792003956564819968)):=by
   unfold zhz;rw [szt];congr 1
   exact propext ⟨fun h1 h2=>h1 ⟨Int.le_trans (by decide) tt0,h2⟩,fun h1 h2=>h1 h2.2⟩
  have sza:sz a=a:=zb7 ha
  obtain ⟨t,q,hq,hn'⟩:∃ t q,q<64∧n=64*t+q:=⟨n / 64,n%64,by omega,by omega⟩
  have g1:(0:Int)≤n:=by omega
  have g4:Int.bmod ((n:Int) - 1) 18446744073709551616=M - ((i+1:Nat):Int):=by rw [bm (by omega) (by omega)];omega
  have tq:((n:Int)).tdiv 64=t:=by rw [Int.tdiv_eq_ediv_of_nonneg (by omega)];omega
  have tm:((n:Int)).tmod 64=q:=by rw [Int.tmod_eq_emod_of_nonneg (by omega)];omega
  have t4:t<4:=by omega
  have t4':(t:Int)<4:=by omega
  have t00:(0:Int)≤t:=by omega
  have tb:Int.bmod (t:Int) 18446744073709551616=t:=bm (by omega) (by omega)
  have t3:t≤3:=Nat.le_of_lt_succ t4
  have m1:min q 64=q:=by omega
  have m2:(2:Int)^q%18446744073709551616=2^q:=Int.emod_eq_of_lt (Int.le_of_lt (zbe _)) (by
   have:(2:Int)^q<2^64:=by exact_mod_cast Nat.pow_lt_pow_right (by omega) hq
   exact this)
  have hset:=jgt c t q hq t4
  rw [←hn',←hc] at hset
  rw [zih .u64 (wi (r+2^n))] at hset
  simp only [hrs]
  generalize htt:(r+2^n)*(r+2^n)=T at *
  by_cases hov:T<57896044618658097711785492504343953926634992332820282019728792003956564819968
  ·have hm:zhz (r+2^n) (r+2^n)=false:=by rw [hmul];simp [hov]
   have szT:sz T=T:=zg3 tt0 hov
   by_cases hle:T≤a
   ·have hcmp:zcs (sz T) (sz a)≤0:=by rw [szT,sza];unfold zcs;split<;>(try split)<;>omega
    rw [if_pos hle]
    unfold jg9
    repeat' (first|refine gwA ?_|(refine gwX ?_;intro Q hQ hP;simp [hC,hY,hn,g1,g4,tq,tm,t4,t4',t00,tb,t3,m1,m2,zc9,zdf,hset,wb,szt,htt,hm,hcmp];refine gwq hQ ?_;clear hQ hP Q)|(refine gwC ?_ ?_<;>(intro hb;try (cases hb;done))))
    refine zbb _ 400 hC G0F (m0:=[]) hC0 (by omega) ?_ ?_ ?_
    ·simp [dom]
    ·simp [wb,zih]
    ·simp [wb]
   ·have hcmp:¬zcs (sz T) (sz a)≤0:=by rw [szT,sza];unfold zcs;split<;>(try split)<;>omega
    rw [if_neg hle]
    unfold jg9
    repeat' (first|refine gwA ?_|(refine gwX ?_;intro Q hQ hP;simp [hC,hY,hn,g1,g4,tq,tm,t4,t4',t00,tb,t3,m1,m2,zc9,zdf,hset,wb,szt,htt,hm,hcmp];refine gwq hQ ?_;clear hQ hP Q)|(refine gwC ?_ ?_<;>(intro hb;try (cases hb;done))))
    refine zbb _ 400 hC G0F (m0:=[]) hC0 (by omega) ?_ ?_ ?_
    ·simp [dom]
    ·simp [wb,zih]
    ·simp [wb]
  ·have hm:zhz (r+2^n) (r+2^n)=true:=by rw [hmul];simp only [hov,not_false_eq_true,decide_true]
   have hle:¬T≤a:=fun h=>hov (Int.lt_of_le_of_lt h hau)
   rw [if_neg hle]
   unfold jg9
   repeat' (first|refine gwA ?_|(refine gwX ?_;intro Q hQ hP;simp [hC,hY,hn,g1,g4,tq,tm,t4,t4',t00,tb,t3,m1,m2,zc9,zdf,hset,wb,szt,htt,hm];refine gwq hQ ?_;clear hQ hP Q)|(refine gwC ?_ ?_<;>(intro hb;try (cases hb;done))))
   refine zbb _ 400 hC G0F (m0:=[]) hC0 (by omega) ?_ ?_ ?_
   ·simp [dom]
   ·simp [wb,zih]
   ·simp [wb]
 ·have g1:¬(K:Int)≤M:=by omega
  unfold jg9
  repeat' (first|refine gwA ?_|(refine gwX ?_;intro Q hQ hP;simp [hC,hY,wb,g1,zih];refine gwq hQ ?_;clear hQ hP Q)|(refine gwC ?_ ?_<;>(intro hb;try (cases hb;done))))
  refine ⟨.inr trivial,?_⟩
  simp [results109,hisq]
@[simp] theorem jnm (a:Int) (ha:wr a) (h0:0≤a) (K:Value→Prop):za0 prog G0 109 #[Value.agg #[.int .u64 (wi (a) 0),.int .u64 (wi (a) 1),.int .u64 (wi (a) 2),.int .u64 (wi (a) 3)]] K↔K (.tuple #[wd (isq a),.int .i64 0]):=zad G0W (by kernel_rfl) (zqw a ha h0)
theorem zul (a b:Int) (ha:wr a) (hB:wr b) (h0:0≤a) (hb0:0<b):Ret prog G0 82 #[wd a,wd b] (.tuple #[wd (isq (a / b)),.int .i64 0]):=by
 refine zar G0F func82 rfl call82 (by simp) (by simp) (by simp [ntmps82]) ?_
 intro C hC hC0 hY
 have s1:¬zcs (sz a) 0<0:=by rw [zb7 ha];unfold zcs;split<;>(try split)<;>omega
 have s2:¬zcs (sz b) 0<0:=by rw [zb7 hB];unfold zcs;split<;>(try split)<;>omega
 have z1:=zma (zzx hB (by omega))
 have hd:=zrt ha h0 hb0
 have hd1:=hd.1
 have hd2:=hd.2
 repeat' (first|refine gwA ?_|(refine gwX ?_;intro Q hQ hP;simp [hC,hY,s1,s2,z1,ha,h0,hB,hb0,hd1,hd2];refine gwq hQ ?_;clear hQ hP Q)|(refine gwC ?_ ?_<;>(intro hb;try (cases hb;done))))
 refine ⟨.inr trivial,?_⟩
 simp [results82]
theorem zum (a b:Int) (hz:b=0):Ret prog G0 82 #[wd a,wd b] (.tuple #[wd 0,.int .i64 30]):=by
 subst hz
 refine zar G0F func82 rfl call82 (by simp) (by simp) (by simp [ntmps82]) ?_
 intro C hC hC0 hY
 repeat' (first|refine gwA ?_|(refine gwX ?_;intro Q hQ hP;simp [hC,hY,zde];refine gwq hQ ?_;clear hQ hP Q)|(refine gwC ?_ ?_<;>(intro hb;try (cases hb;done))))
 refine ⟨.inr trivial,?_⟩
 simp [results82,zde]
@[simp] theorem jp2 (a b:Int) (ha:wr a) (hB:wr b) (h0:0≤a) (hb0:0<b) (K:Value→Prop):za0 prog G0 82 #[Value.agg #[.int .u64 (wi (a) 0),.int .u64 (wi (a) 1),.int .u64 (wi (a) 2),.int .u64 (wi (a) 3)],Value.agg #[.int .u64 (wi (b) 0),.int .u64 (wi (b) 1),.int .u64 (wi (b) 2),.int .u64 (wi (b) 3)]] K↔K (.tuple #[wd (isq (a / b)),.int .i64 0]):=zad G0W (by kernel_rfl) (zul a b ha hB h0 hb0)
@[simp] theorem jg8 (a b:Int) (hz:b=0) (K:Value→Prop):za0 prog G0 82 #[Value.agg #[.int .u64 (wi (a) 0),.int .u64 (wi (a) 1),.int .u64 (wi (a) 2),.int .u64 (wi (a) 3)],Value.agg #[.int .u64 (wi (b) 0),.int .u64 (wi (b) 1),.int .u64 (wi (b) 2),.int .u64 (wi (b) 3)]] K↔K (.tuple #[wd 0,.int .i64 30]):=zad G0W (by kernel_rfl) (zum a b hz)
@[simp] theorem jnl (a:Int) (K:Value→Prop):za0 prog G0 82 #[Value.agg #[.int .u64 (wi (a) 0),.int .u64 (wi (a) 1),.int .u64 (wi (a) 2),.int .u64 (wi (a) 3)],.agg #[.int .u64 0,.int .u64 0,.int .u64 0,.int .u64 0]] K↔K (.tuple #[wd 0,.int .i64 30]):=by
 have:=jg8 a 0 rfl K
 simpa [zde] using this
theorem zon (a b:Int) (ha:wr a) (hB:wr b) (h0:0≤a) (hb0:0<b):Ret prog G0 61 #[wd a,wd b] (.tuple #[wd ((isq (a / b)+1) / 2),.int .i64 0]):=by
 refine zar G0F func61 rfl call61 (by simp) (by simp) (by simp [ntmps61]) ?_
 intro C hC hC0 hY
 have i1:=zp0
 have i2:i64 2:=by decide
 have hd:=zrt ha h0 hb0
 have hs:=z5n (a / b) hd.1 hd.2
 have hp:=(zfk (a / b) hd.2).1
 have w2:wr 2:=⟨by decide,by decide⟩
 have w1:wr (isq (a / b)+1):=⟨Int.le_trans (by decide) (Int.le_add_one hp),Int.lt_trans (Int.add_lt_add_right hs.1 1) (by decide)⟩
 have p1:0≤isq (a / b)+1:=Int.le_add_one hp
 repeat' (first|refine gwA ?_|(refine gwX ?_;intro Q hQ hP;simp [hC,hY,ha,h0,hB,hb0,i1,i2,w1,w2,p1];refine gwq hQ ?_;clear hQ hP Q)|(refine gwC ?_ ?_<;>(intro hb;try (cases hb;done))))
 refine ⟨.inr trivial,?_⟩
 simp [results61]
@[simp] theorem jnk (a b:Int) (ha:wr a) (hB:wr b) (h0:0≤a) (hb0:0<b) (K:Value→Prop):za0 prog G1 61 #[Value.agg #[.int .u64 (wi (a) 0),.int .u64 (wi (a) 1),.int .u64 (wi (a) 2),.int .u64 (wi (a) 3)],Value.agg #[.int .u64 (wi (b) 0),.int .u64 (wi (b) 1),.int .u64 (wi (b) 2),.int .u64 (wi (b) 3)]] K↔K (.tuple #[wd ((isq (a / b)+1) / 2),.int .i64 0]):=zad G1W (by kernel_rfl) ((zon a b ha hB h0 hb0).up zvd)
@[simp] theorem jn2 (z:Int) (K:Value→Prop):za0 prog G1 62 #[Value.agg #[.int .u64 (wi (z) 0),.int .u64 (wi (z) 1),.int .u64 (wi (z) 2),.int .u64 (wi (z) 3)]] K↔K (.tuple #[.int .i64 (if i64 (sz z) then sz z else 0),.bool (decide (i64 (sz z)))]):=zad G1W (by kernel_rfl) ((z19 z).up zvd)
def jgj (n d g m x r:Int):Int:=if zdw n d g m x r=0 then za9 n d g m x r else 0
set_option maxHeartbeats 4000000 in
theorem jai (n d g m x r:Int) (h:PIn n d g m x r):Ret prog G1 40 #[.int .i64 n,.int .i64 d,.int .i64 g,.int .i64 m,.int .i64 x,.int .i64 r] (.tuple #[.int .i64 (za9 n d g m x r),.int .i64 0]):=by
 refine zar G1F func40 rfl call40 (by simp) (by simp) (by simp [ntmps40]) ?_
 intro C hC hC0 hY
 have p1:=h.p1
 have p2:=h.p2
 have p3:=h.p3
 have p4:=h.p4
 have q1:=h.q1
 have q2:=h.q2
 have q3:=h.q3
 have q4:=h.q4
 have r0:=h.r0
 have t1:=zlu 2 n g m x ⟨by decide,⟨by have:=h.n0;omega,by have:=h.n1;omega⟩,⟨by have:=h.g0;omega,by have:=h.g1;omega⟩,⟨by have:=h.m0;omega,by have:=h.m1;omega⟩,⟨by have:=h.x0;omega,by have:=h.x1;omega⟩⟩
  ⟨⟨by decide,by decide⟩,⟨by omega,by omega⟩,⟨by omega,by omega⟩,⟨by omega,by omega⟩,⟨by omega,by omega⟩⟩
 have t2:=zlu d d r r r ⟨⟨by have:=h.d0;omega,by have:=h.d1;omega⟩,⟨by have:=h.d0;omega,by have:=h.d1;omega⟩,⟨by omega,by have:=h.r1;omega⟩,⟨by omega,by have:=h.r1;omega⟩,⟨by omega,by have:=h.r1;omega⟩⟩
  ⟨⟨by have:=h.d0;omega,by have:=h.d1;omega⟩,⟨by omega,by omega⟩,⟨by omega,by omega⟩,⟨by omega,by omega⟩,⟨by omega,by omega⟩⟩
 have wA:wr (2*n*g*m*x):=⟨by omega,by omega⟩
 have sA:=zb7 wA
 have hAle:=h.a_le
 have hA0:=zeb (2*n*g*m*x)
 have wA2:wr (2*n*g*m*x*(2*n*g*m*x)):=⟨by omega,by omega⟩
 have wB:wr (d*d*r*r*r):=⟨by omega,by omega⟩
 have hB0:0<d*d*r*r*r:=by omega
 have hm:=h.mag
 have hmw:wr (zft n d g m x r):=⟨by omega,by omega⟩
 have sM:=zb7 hmw
 have iM:i64 (zft n d g m x r):=⟨by omega,by omega⟩
 have hmb:Int.bmod (-zft n d g m x r) 18446744073709551616=-zft n d g m x r:=bm (by omega) (by omega)
 have hpm:(isq (2*n*g*m*x*(2*n*g*m*x) / (d*d*r*r*r))+1) / 2=zft n d g m x r:=rfl
 have hE:zdw n d g m x r=0:=zk3.2 h
 have hv:za9 n d g m x r=if (n<0∧0<x)∨(0<n∧x<0) then -zft n d g m x r else zft n d g m x r:=by
  have z1:x=0→zft n d g m x r=0:=fun e=>by subst e;exact jg1 n d g m r
  have z2:n=0→zft n d g m x r=0:=fun e=>by subst e;exact z95 d g m x r
  unfold za9
  (repeat' split)<;>omega
 rw [hv]
 by_cases n1:n<0<;>by_cases n2:0<n<;>by_cases x1:x<0<;>by_cases x2:0<x
 all_goals first|(exfalso;omega)|skip
 all_goals simp only [n1,n2,x1,x2,and_self,and_true,true_and,and_false,false_and,or_self,or_true,true_or,or_false,false_or,if_true,if_false]
 all_goals
  repeat' (first|refine gwA ?_|((first|refine gwR [60] ?_|refine gwD [60] ?_);intro Q hQ hP;(repeat first|simp [hC,hY,hE,sA,wA2,wB,hA0,hB0,hpm,sM,iM,hmb,n1,n2,x1,x2]|(refine zhq t1 (by simp) (by simp) (by omega) ?_ ?_;focus (simp;done))|(refine zhq t2 (by simp) (by simp) (by omega) ?_ ?_;focus (simp;done)));refine gwq hQ ?_;clear hQ hP Q)|(refine gwC ?_ ?_<;>(intro hb;try (cases hb;done))))
 all_goals
  refine ⟨.inr trivial,?_⟩
  simp [results40]
theorem z3o (n d g m x r:Int) (h:zdw n d g m x r≠0):Ret prog G1 40 #[.int .i64 n,.int .i64 d,.int .i64 g,.int .i64 m,.int .i64 x,.int .i64 r] (.tuple #[.int .i64 0,.int .i64 (zdw n d g m x r)]):=by
 refine zar G1F func40 rfl call40 (by simp) (by simp) (by simp [ntmps40]) ?_
 intro C hC hC0 hY
 have hcb:(zdw n d g m x r != 0)=true:=by simpa using h
 repeat' (first|refine gwA ?_|(refine gwX ?_;intro Q hQ hP;simp [hC,hY,hcb];refine gwq hQ ?_;clear hQ hP Q)|(refine gwC ?_ ?_<;>(intro hb;try (cases hb;done))))
 refine ⟨.inr trivial,?_⟩
 simp [results40]
@[simp] theorem jtq (n d g m x r:Int) (K:Value→Prop):za0 prog G1 40 #[.int .i64 n,.int .i64 d,.int .i64 g,.int .i64 m,.int .i64 x,.int .i64 r] K↔K (.tuple #[.int .i64 (jgj n d g m x r),.int .i64 (zdw n d g m x r)]):=by
 unfold jgj
 by_cases h:zdw n d g m x r=0
 ·rw [if_pos h,h];exact zad G1W (by kernel_rfl) (jai n d g m x r (zk3.1 h))
 ·rw [if_neg h];exact zad G1W (by kernel_rfl) (z3o n d g m x r h)
instance inBdec (x:Int):Decidable (inX x):=by unfold inX;infer_instance
def sqV (x0 x1 x2:Int):Int:=if inX x0∧inX x1∧inX x2 then x0*x0+x1*x1+x2*x2 else 0
def sqE (x0 x1 x2:Int):Int:=if inX x0∧inX x1∧inX x2 then 0 else 2
theorem jqa (x0 x1 x2:Int) (K:Value→Prop):za0 prog G1 39 #[.agg #[.int .i64 x0,.int .i64 x1,.int .i64 x2]] K↔K (.tuple #[.int .i64 (sqV x0 x1 x2),.int .i64 (sqE x0 x1 x2)]):=by
 unfold sqV sqE
 by_cases h:inX x0∧inX x1∧inX x2
 ·rw [if_pos h,if_pos h];exact zad G1W (by kernel_rfl) (zun x0 x1 x2 h.1 h.2.1 h.2.2)
 ·rw [if_neg h,if_neg h];exact zad G1W (by kernel_rfl) (zqy x0 x1 x2 h)
theorem z91 {n d g m x0 x1 x2:Int} (h0:inX x0) (h1:inX x1) (h2:inX x2) (h:PIn n d g m x0 (x0*x0+x1*x1+x2*x2)):PIn n d g m x1 (x0*x0+x1*x1+x2*x2)∧PIn n d g m x2 (x0*x0+x1*x1+x2*x2):=by
 have s0:=zeb x0
 have s1:=zeb x1
 have s2:=zeb x2
 exact ⟨{ h with x0:=h1.1,x1:=h1.2,xr:=by omega },{ h with x0:=h2.1,x1:=h2.2,xr:=by omega }⟩
set_option maxHeartbeats 2000000 in
theorem z3p (n d g m x0 x1 x2:Int) (h:inX x0∧inX x1∧inX x2) (k0:PIn n d g m x0 (x0*x0+x1*x1+x2*x2)):Ret prog G1 21 #[.int .i64 n,.int .i64 d,.int .i64 g,.int .i64 m,vv x0 x1 x2] (.tuple #[vv (za9 n d g m x0 (x0*x0+x1*x1+x2*x2)) (za9 n d g m x1 (x0*x0+x1*x1+x2*x2)) (za9 n d g m x2 (x0*x0+x1*x1+x2*x2)),.int .i64 0]):=by
 refine zar G1F func21 rfl call21 (by simp [vv]) (by simp [vv]) (by simp [ntmps21]) ?_
 intro C hC hC0 hY
 have k:=z91 h.1 h.2.1 h.2.2 k0
 have e0:sqV x0 x1 x2=x0*x0+x1*x1+x2*x2:=if_pos h
 have e1:sqE x0 x1 x2=0:=if_pos h
 have f0:=zk3.2 k0
 have f1:=zk3.2 k.1
 have f2:=zk3.2 k.2
 generalize x0*x0+x1*x1+x2*x2=r at *
 have g0:jgj n d g m x0 r=za9 n d g m x0 r:=if_pos f0
 have g1:jgj n d g m x1 r=za9 n d g m x1 r:=if_pos f1
 have g2:jgj n d g m x2 r=za9 n d g m x2 r:=if_pos f2
 repeat' (first|refine zac ?_|refine zaf ?_|refine gwA ?_|(refine gwX ?_;intro Q hQ hP;simp [hC,hY,vv,jqa,e0,e1,f0,f1,f2,g0,g1,g2];refine gwq hQ ?_;clear hQ hP Q)|(refine gwC ?_ ?_<;>(intro hb;try (cases hb;done))))
 refine ⟨.inr trivial,?_⟩
 simp [results21,vv]
theorem zuu (n d g m x0 x1 x2:Int) (h:inX x0∧inX x1∧inX x2) (he:zdw n d g m x0 (x0*x0+x1*x1+x2*x2)≠0):Ret prog G1 21 #[.int .i64 n,.int .i64 d,.int .i64 g,.int .i64 m,vv x0 x1 x2] (.tuple #[vv 0 0 0,.int .i64 (zdw n d g m x0 (x0*x0+x1*x1+x2*x2))]):=by
 refine zar G1F func21 rfl call21 (by simp [vv]) (by simp [vv]) (by simp [ntmps21]) ?_
 intro C hC hC0 hY
 have e0:sqV x0 x1 x2=x0*x0+x1*x1+x2*x2:=if_pos h
 have e1:sqE x0 x1 x2=0:=if_pos h
 have hcb:(zdw n d g m x0 (x0*x0+x1*x1+x2*x2) != 0)=true:=by simpa using he
 repeat' (first|refine zac ?_|refine zaf ?_|refine gwA ?_|(refine gwX ?_;intro Q hQ hP;simp [hC,hY,vv,jqa,e0,e1,hcb];refine gwq hQ ?_;clear hQ hP Q)|(refine gwC ?_ ?_<;>(intro hb;try (cases hb;done))))
 refine ⟨.inr trivial,?_⟩
 simp [results21,vv]
theorem zn1 (L:List (Nat×Blk)) (ka ks:Nat) (bm bs:Blk) (hT:LKa L ka ks bm bs) (off n cap off2 n2 cap2:Nat) (fm fs:Nat→Int) (hm:MB bm off n fm) (hSb:SB bs off2 n2 fs) (g bx tp nr md st:Int) :
  Fun prog G1 20 #[cfV (.slice (some ⟨ka,off,none⟩) n cap) g bx tp nr md,.agg #[.int .i64 st,.slice (some ⟨ks,off2,none⟩) n2 cap2]] (hpL G1 L) (zab L) (.ret (.bool (znb n n2 (ze8 n fm g bx tp nr md) (za7 st fs n2))) []):=by
 rcases hT.a8 with e|e
 ·subst e
  exact (zry L ks bm bs hT.tw off n cap off2 n2 cap2 fm fs hm hSb g bx tp nr md st).up1 hT.ok
 ·obtain ⟨rfl,rfl,rfl⟩:=hT.ag e
  subst e
  have h:=(zry _ 108 lmB bs (LTwo.two zi0 hSb.fx) off n cap off2 n2 cap2 fm fs hm hSb g bx tp nr md st).mvG (z51 hSb.fx) (fun k hk=>by cases hk) rfl
  simpa [cfV,ren,zax,zak,zao,gmv,rnL] using h
theorem zov {n d g m x0 x1 x2 r:Int} (hr:x0*x0+x1*x1+x2*x2=r) (k0:PIn n d g m x0 r) (k1:PIn n d g m x1 r) (k2:PIn n d g m x2 r) (K:Value→Prop):za0 prog G1 21 #[.int .i64 n,.int .i64 d,.int .i64 g,.int .i64 m,.agg #[.int .i64 x0,.int .i64 x1,.int .i64 x2]] K ↔
  K (.tuple #[.agg #[.int .i64 (za9 n d g m x0 r),.int .i64 (za9 n d g m x1 r),.int .i64 (za9 n d g m x2 r)],.int .i64 0]):=by
 subst hr
 exact zad G1W (by kernel_rfl) (z3p n d g m x0 x1 x2 ⟨⟨k0.x0,k0.x1⟩,⟨k1.x0,k1.x1⟩,⟨k2.x0,k2.x1⟩⟩ k0)
theorem zsy {n d g m x0 x1 x2:Int} (hr:x0*x0+x1*x1+x2*x2=0) (h0:inX x0) (h1:inX x1) (h2:inX x2) (hp:zfl n d=true) (hg:1≤g∧g≤1048576) (hm:1≤m∧m≤1024) (K:Value→Prop):za0 prog G1 21 #[.int .i64 n,.int .i64 d,.int .i64 g,.int .i64 m,.agg #[.int .i64 x0,.int .i64 x1,.int .i64 x2]] K ↔
  K (.tuple #[.agg #[.int .i64 0,.int .i64 0,.int .i64 0],.int .i64 30]):=by
 obtain ⟨p1,p2,p3,p4⟩:=zd6.1 hp
 obtain ⟨h01,h02⟩:=h0
 have e:zdw n d g m x0 (x0*x0+x1*x1+x2*x2)=30:=by
  unfold zdw
  rw [hr,if_pos (by omega)]
  rfl
 have:=zuu n d g m x0 x1 x2 ⟨⟨h01,h02⟩,h1,h2⟩ (by rw [e];decide)
 rw [e] at this
 exact zad G1W (by kernel_rfl) this
end Go.Gy
namespace Go.Gy
set_option linter.unusedSimpArgs false
set_option linter.unusedVariables false
open Go Go.RowKit Go.Proofs Go.Proofs.Tryz
theorem z76 (g bx tp nr md st:Int):Ret prog G0 20 #[.agg #[.slice none 0 0,.int .i64 g,.int .i64 bx,.int .i64 tp,.int .i64 nr,.int .i64 md],.agg #[.int .i64 st,.slice none 0 0]] (.bool false):=by
 refine zar G0F func20 rfl call20 (by simp) (by simp) (by simp [ntmps20]) ?_
 intro C hC hC0 hY
 repeat' (first|refine gwA ?_|(refine gwX ?_;intro Q hQ hP;simp [hC,hY];refine gwq hQ ?_;clear hQ hP Q)|(refine gwC ?_ ?_<;>(intro hb;try (cases hb;done))))
 refine ⟨.inr trivial,?_⟩
 simp [results20]
theorem z77 (b:Blk) (off n cap:Nat) (f:Nat→Int) (h:SB b off n f) (g bx tp nr md st:Int):Fun prog G0 20 #[.agg #[.slice none 0 0,.int .i64 g,.int .i64 bx,.int .i64 tp,.int .i64 nr,.int .i64 md],.agg #[.int .i64 st,.slice (some ⟨100,off,none⟩) n cap]] (hpL G0 [(100,b)]) (zab [(100,b)]) (.ret (.bool false) []):=by
 refine zbn (B:=200) G0F func20 rfl call20 (zap h.fx) ?_ (by simp) (by simp) (by simp) (by simp [ntmps20]) (by omega) ?_
 ·simp [zan,zay,zai,zaj,zab]
 intro C hC hC0 hY
 have hr:=fun ρ=>Blk.fx_rn h.fx ρ
 repeat' (first|refine gwA ?_|(refine gwX ?_;intro Q hQ hP;simp [hC,hY];refine gwq hQ ?_;clear hQ hP Q)|(refine gwC ?_ ?_<;>(intro hb;try (cases hb;done))))
 refine ⟨.inr rfl,by simp [results20],kpS G0F⟩
theorem zwo (b:Blk) (off n cap:Nat) (f:Nat→Int) (h:MB b off n f) (g bx tp nr md st:Int):Fun prog G0 20 #[.agg #[.slice (some ⟨100,off,none⟩) n cap,.int .i64 g,.int .i64 bx,.int .i64 tp,.int .i64 nr,.int .i64 md],.agg #[.int .i64 st,.slice none 0 0]] (hpL G0 [(100,b)]) (zab [(100,b)]) (.ret (.bool false) []):=by
 refine zbn (B:=200) G0F func20 rfl call20 (zap h.fx) ?_ (by simp) (by simp) (by simp) (by simp [ntmps20]) (by omega) ?_
 ·simp [zan,zay,zai,zaj,zab]
 intro C hC hC0 hY
 have hr:=fun ρ=>Blk.fx_rn h.fx ρ
 have hck:=znr b off n cap f h g bx tp nr md
 unfold cfV at hck
 cases ok:ze8 n f g bx tp nr md with
 | false =>
  rw [ok] at hck
  simp only [Bool.false_eq_true,if_false] at hck
  repeat' (first|refine gwA ?_|((first|refine gwR [38] ?_|refine gwD [38] ?_);intro Q hQ hP;(repeat first|simp [hC,hY]|refine zah hck G0F (B:=200) (zap h.fx) (fun k=>k) (fun k hk=>rfl) (by simp [ren,zax,zak,zao,cfV]) (by simp) (by simp [hr]) (by simp [zab]) (by simp [zab];rfl) ?_);refine gwq hQ ?_;clear hQ hP Q)|(refine gwC ?_ ?_<;>(intro hb;try (cases hb;done))))
  refine ⟨.inr rfl,by simp [results20],kpS G0F⟩
 | true =>
  rw [ok] at hck
  simp only [if_true] at hck
  repeat' (first|refine gwA ?_|((first|refine gwR [38] ?_|refine gwD [38] ?_);intro Q hQ hP;(repeat first|simp [hC,hY]|refine zah hck G0F (B:=200) (zap h.fx) (fun k=>k) (fun k hk=>rfl) (by simp [ren,zax,zak,zao,cfV]) (by simp) (by simp [hr]) (by simp [zab]) (by simp [zab];rfl) ?_);refine gwq hQ ?_;clear hQ hP Q)|(refine gwC ?_ ?_<;>(intro hb;try (cases hb;done))))
  refine ⟨.inr rfl,by simp [results20],kpS G0F⟩
theorem zw9 (g bx tp nr md st:Int) (K:Value→Prop):za0 prog G1 20 #[.agg #[.slice none 0 0,.int .i64 g,.int .i64 bx,.int .i64 tp,.int .i64 nr,.int .i64 md],.agg #[.int .i64 st,.slice none 0 0]] K↔K (.bool false):=zad G1W (by kernel_rfl) ((z76 g bx tp nr md st).up zvd)
theorem z5p (b:Blk) (off n cap:Nat) (f:Nat→Int) (h:SB b off n f) (g bx tp nr md st:Int):Fun prog G1 20 #[.agg #[.slice none 0 0,.int .i64 g,.int .i64 bx,.int .i64 tp,.int .i64 nr,.int .i64 md],.agg #[.int .i64 st,.slice (some ⟨100,off,none⟩) n cap]] (hpL G1 [(100,b)]) (zab [(100,b)]) (.ret (.bool false) []):=(z77 b off n cap f h g bx tp nr md st).up1 (zap h.fx)
theorem z5q (L:List (Nat×Blk)) (ka:Nat) (b:Blk) (hT:LKb L ka b) (off n cap:Nat) (f:Nat→Int) (h:MB b off n f) (g bx tp nr md st:Int):Fun prog G1 20 #[.agg #[.slice (some ⟨ka,off,none⟩) n cap,.int .i64 g,.int .i64 bx,.int .i64 tp,.int .i64 nr,.int .i64 md],.agg #[.int .i64 st,.slice none 0 0]] (hpL G1 L) (zab L) (.ret (.bool false) []):=by
 rcases hT.a8 with ⟨rfl,rfl⟩|⟨rfl,rfl,rfl⟩
 ·exact (zwo b off n cap f h g bx tp nr md st).up1 hT.ok
 ·have h2:=(zwo lmB off n cap f h g bx tp nr md st).mvG jgc (fun k hk=>by cases hk) rfl
  simpa [cfV,ren,zax,zak,zao,gmv,rnL] using h2
theorem z4r (g bx tp nr md st:Int) (p q:Int) (_:i64 g) (_:i64 bx) (_:i64 tp) (_:i64 nr) (_:i64 md) (_:i64 st) (_:i64 p) (_:i64 q):Ret prog G1 6 #[.agg #[.slice none 0 0,.int .i64 g,.int .i64 bx,.int .i64 tp,.int .i64 nr,.int .i64 md],.agg #[.int .i64 st,.slice none 0 0],.int .i64 p,.int .i64 q] (.bool true):=by
 refine zar G1F func6 rfl call6 (by simp) (by simp) (by simp [ntmps6]) ?_
 intro C hC hC0 hY
 have hg:=zlb g bx tp nr md st
 have wk:=ziy
 have kf:=zw9
 repeat' (first|refine gwA ?_|((first|refine gwR [7] ?_|refine gwD [7] ?_);intro Q hQ hP;(repeat first|simp [hC,hY,wk,kf]|refine zah hg G1F (B:=200) zgj (fun k=>k) (fun k hk=>rfl) (by simp [ren,zax,zak,zao,cfV]) (by simp) (by simp) (by simp [zab]) (by simp [zab];try rfl) ?_);refine gwq hQ ?_;clear hQ hP Q)|(refine gwC ?_ ?_<;>(intro hb;try (cases hb;done))))
 refine ⟨.inr trivial,?_⟩
 simp [results6]
theorem z4s (b:Blk) (off n cap:Nat) (f:Nat→Int) (h:SB b off n f) (hcap:n≤cap) (g bx tp nr md st:Int) (p q:Int) (_:i64 g) (_:i64 bx) (_:i64 tp) (_:i64 nr) (_:i64 md) (_:i64 st) (_:i64 p) (_:i64 q):Fun prog G1 6 #[.agg #[.slice none 0 0,.int .i64 g,.int .i64 bx,.int .i64 tp,.int .i64 nr,.int .i64 md],.agg #[.int .i64 st,.slice (some ⟨100,off,none⟩) n cap],.int .i64 p,.int .i64 q] (hpL G1 [(100,b)]) (zab [(100,b)]) (.ret (.bool true) []):=by
 refine zbn (B:=200) G1F func6 rfl call6 (zap h.fx) ?_ (zaq (by simp)) (by simp) (by simp) (by simp [ntmps6]) (by omega) ?_
 ·simp [zan,zay,zai,zaj,zab]
 intro C hC hC0 hY
 have hr:=fun ρ=>Blk.fx_rn h.fx ρ
 have hg:=zlc b off n cap f h g bx tp nr md st
 have wk:=ziy
 have hf:=z5p b off n cap f h g bx tp nr md st
 by_cases h9:9<n
 ·rw [decide_eq_true h9] at hg
  repeat' (first|refine gwA ?_|((first|refine gwR [7] ?_|refine gwD [7] ?_);intro Q hQ hP;(repeat first|simp [hC,hY,wk]|refine zah hg G1F (B:=200) (zap h.fx) (fun k=>k) (fun k hk=>rfl) (by simp [ren,zax,zak,zao,cfV]) (by simp) (by simp [hr]) (by simp [zab]) (by simp [zab];try rfl) ?_);refine gwq hQ ?_;clear hQ hP Q)|(refine gwC ?_ ?_<;>(intro hb;try (cases hb;done))))
  refine ⟨.inr rfl,by simp [results6],kpS G1F⟩
 ·rw [decide_eq_false h9] at hg
  repeat' (first|refine gwA ?_|((first|refine gwR [7,20] ?_|refine gwD [7,20] ?_);intro Q hQ hP;(repeat first|simp [hC,hY,wk]|refine zah hg G1F (B:=200) (zap h.fx) (fun k=>k) (fun k hk=>rfl) (by simp [ren,zax,zak,zao,cfV]) (by simp) (by simp [hr]) (by simp [zab]) (by simp [zab];try rfl) ?_|refine zah hf G1F (B:=200) (zap h.fx) (fun k=>k) (fun k hk=>rfl) (by simp [ren,zax,zak,zao,cfV]) (by simp) (by simp [hr]) (by simp [zab]) (by simp [zab];try rfl) ?_);refine gwq hQ ?_;clear hQ hP Q)|(refine gwC ?_ ?_<;>(intro hb;try (cases hb;done))))
  refine ⟨.inr rfl,by simp [results6],kpS G1F⟩
theorem z4t (L:List (Nat×Blk)) (ka:Nat) (b:Blk) (hT:LKb L ka b) (off n cap:Nat) (f:Nat→Int) (h:MB b off n f) (hcap:n≤cap) (g bx tp nr md st:Int) (p q:Int) (_:i64 g) (_:i64 bx) (_:i64 tp) (_:i64 nr) (_:i64 md) (_:i64 st) (_:i64 p) (_:i64 q):Fun prog G1 6 #[.agg #[.slice (some ⟨ka,off,none⟩) n cap,.int .i64 g,.int .i64 bx,.int .i64 tp,.int .i64 nr,.int .i64 md],.agg #[.int .i64 st,.slice none 0 0],.int .i64 p,.int .i64 q] (hpL G1 L) (zab L) (.ret (.bool true) []):=by
 refine zdi (B:=200) G1F func6 rfl call6 hT.ok ?_ (zaq (by simp)) (by simp) (by simp) (by simp [ntmps6]) (by omega) ?_
 ·simp [zan,zay,zai,zaj,zab,hT.ia]
 intro C hC hC0 hY
 have hA:=hT.a
 have hna:=hT.na
 have hLow:=hT.low
 have hg:=zld L ka b hT off n cap f h g bx tp nr md st
 have wk:=ziy
 have hf:=z5q L ka b hT off n cap f h g bx tp nr md st
 by_cases h9:9<n
 ·rw [decide_eq_true h9] at hg
  repeat' (first|refine gwA ?_|((first|refine gwR [7] ?_|refine gwD [7] ?_);intro Q hQ hP;(repeat first|simp [hC,hY,wk]|refine za3 hg hT.ok zcv ?_);refine gwq hQ ?_;clear hQ hP Q)|(refine gwC ?_ ?_<;>(intro hb;try (cases hb;done))))
  refine ⟨.inr rfl,by simp [results6],kpT G1F⟩
 ·rw [decide_eq_false h9] at hg
  repeat' (first|refine gwA ?_|((first|refine gwR [7,20] ?_|refine gwD [7,20] ?_);intro Q hQ hP;(repeat first|simp [hC,hY,wk]|refine za3 hg hT.ok zcv ?_|refine za3 hf hT.ok zcv ?_);refine gwq hQ ?_;clear hQ hP Q)|(refine gwC ?_ ?_<;>(intro hb;try (cases hb;done))))
  refine ⟨.inr rfl,by simp [results6],kpT G1F⟩
theorem zph (g bx tp nr md st:Int) (p q x:Int) (_:i64 g) (_:i64 bx) (_:i64 tp) (_:i64 nr) (_:i64 md) (_:i64 st) (_:i64 p) (_:i64 q) (_:i64 x):Ret prog G1 4 #[.agg #[.slice none 0 0,.int .i64 g,.int .i64 bx,.int .i64 tp,.int .i64 nr,.int .i64 md],.agg #[.int .i64 st,.slice none 0 0],.int .i64 p,.int .i64 q,.int .i64 x] (.bool true):=by
 refine zar G1F func4 rfl call4 (by simp) (by simp) (by simp [ntmps4]) ?_
 intro C hC hC0 hY
 have hg:=zlb g bx tp nr md st
 have wk:=ziy
 have kf:=zw9
 repeat' (first|refine gwA ?_|((first|refine gwR [7] ?_|refine gwD [7] ?_);intro Q hQ hP;(repeat first|simp [hC,hY,wk,kf]|refine zah hg G1F (B:=200) zgj (fun k=>k) (fun k hk=>rfl) (by simp [ren,zax,zak,zao,cfV]) (by simp) (by simp) (by simp [zab]) (by simp [zab];try rfl) ?_);refine gwq hQ ?_;clear hQ hP Q)|(refine gwC ?_ ?_<;>(intro hb;try (cases hb;done))))
 refine ⟨.inr trivial,?_⟩
 simp [results4]
theorem zpi (b:Blk) (off n cap:Nat) (f:Nat→Int) (h:SB b off n f) (hcap:n≤cap) (g bx tp nr md st:Int) (p q x:Int) (_:i64 g) (_:i64 bx) (_:i64 tp) (_:i64 nr) (_:i64 md) (_:i64 st) (_:i64 p) (_:i64 q) (_:i64 x):Fun prog G1 4 #[.agg #[.slice none 0 0,.int .i64 g,.int .i64 bx,.int .i64 tp,.int .i64 nr,.int .i64 md],.agg #[.int .i64 st,.slice (some ⟨100,off,none⟩) n cap],.int .i64 p,.int .i64 q,.int .i64 x] (hpL G1 [(100,b)]) (zab [(100,b)]) (.ret (.bool true) []):=by
 refine zbn (B:=200) G1F func4 rfl call4 (zap h.fx) ?_ (zaq (by simp)) (by simp) (by simp) (by simp [ntmps4]) (by omega) ?_
 ·simp [zan,zay,zai,zaj,zab]
 intro C hC hC0 hY
 have hr:=fun ρ=>Blk.fx_rn h.fx ρ
 have hg:=zlc b off n cap f h g bx tp nr md st
 have wk:=ziy
 have hf:=z5p b off n cap f h g bx tp nr md st
 by_cases h9:9<n
 ·rw [decide_eq_true h9] at hg
  repeat' (first|refine gwA ?_|((first|refine gwR [7] ?_|refine gwD [7] ?_);intro Q hQ hP;(repeat first|simp [hC,hY,wk]|refine zah hg G1F (B:=200) (zap h.fx) (fun k=>k) (fun k hk=>rfl) (by simp [ren,zax,zak,zao,cfV]) (by simp) (by simp [hr]) (by simp [zab]) (by simp [zab];try rfl) ?_);refine gwq hQ ?_;clear hQ hP Q)|(refine gwC ?_ ?_<;>(intro hb;try (cases hb;done))))
  refine ⟨.inr rfl,by simp [results4],kpS G1F⟩
 ·rw [decide_eq_false h9] at hg
  repeat' (first|refine gwA ?_|((first|refine gwR [7,20] ?_|refine gwD [7,20] ?_);intro Q hQ hP;(repeat first|simp [hC,hY,wk]|refine zah hg G1F (B:=200) (zap h.fx) (fun k=>k) (fun k hk=>rfl) (by simp [ren,zax,zak,zao,cfV]) (by simp) (by simp [hr]) (by simp [zab]) (by simp [zab];try rfl) ?_|refine zah hf G1F (B:=200) (zap h.fx) (fun k=>k) (fun k hk=>rfl) (by simp [ren,zax,zak,zao,cfV]) (by simp) (by simp [hr]) (by simp [zab]) (by simp [zab];try rfl) ?_);refine gwq hQ ?_;clear hQ hP Q)|(refine gwC ?_ ?_<;>(intro hb;try (cases hb;done))))
  refine ⟨.inr rfl,by simp [results4],kpS G1F⟩
theorem zjr (L:List (Nat×Blk)) (ka:Nat) (b:Blk) (hT:LKb L ka b) (off n cap:Nat) (f:Nat→Int) (h:MB b off n f) (hcap:n≤cap) (g bx tp nr md st:Int) (p q x:Int) (_:i64 g) (_:i64 bx) (_:i64 tp) (_:i64 nr) (_:i64 md) (_:i64 st) (_:i64 p) (_:i64 q) (_:i64 x):Fun prog G1 4 #[.agg #[.slice (some ⟨ka,off,none⟩) n cap,.int .i64 g,.int .i64 bx,.int .i64 tp,.int .i64 nr,.int .i64 md],.agg #[.int .i64 st,.slice none 0 0],.int .i64 p,.int .i64 q,.int .i64 x] (hpL G1 L) (zab L) (.ret (.bool true) []):=by
 refine zdi (B:=200) G1F func4 rfl call4 hT.ok ?_ (zaq (by simp)) (by simp) (by simp) (by simp [ntmps4]) (by omega) ?_
 ·simp [zan,zay,zai,zaj,zab,hT.ia]
 intro C hC hC0 hY
 have hA:=hT.a
 have hna:=hT.na
 have hLow:=hT.low
 have hg:=zld L ka b hT off n cap f h g bx tp nr md st
 have wk:=ziy
 have hf:=z5q L ka b hT off n cap f h g bx tp nr md st
 by_cases h9:9<n
 ·rw [decide_eq_true h9] at hg
  repeat' (first|refine gwA ?_|((first|refine gwR [7] ?_|refine gwD [7] ?_);intro Q hQ hP;(repeat first|simp [hC,hY,wk]|refine za3 hg hT.ok zcv ?_);refine gwq hQ ?_;clear hQ hP Q)|(refine gwC ?_ ?_<;>(intro hb;try (cases hb;done))))
  refine ⟨.inr rfl,by simp [results4],kpT G1F⟩
 ·rw [decide_eq_false h9] at hg
  repeat' (first|refine gwA ?_|((first|refine gwR [7,20] ?_|refine gwD [7,20] ?_);intro Q hQ hP;(repeat first|simp [hC,hY,wk]|refine za3 hg hT.ok zcv ?_|refine za3 hf hT.ok zcv ?_);refine gwq hQ ?_;clear hQ hP Q)|(refine gwC ?_ ?_<;>(intro hb;try (cases hb;done))))
  refine ⟨.inr rfl,by simp [results4],kpT G1F⟩
end Go.Gy
namespace Go.Gy
set_option linter.unusedSimpArgs false
set_option linter.unusedVariables false
open Go Go.RowKit Go.Proofs
theorem jhb (t:Int) {n:Nat} (hn:1≤n∧n≤4):∃ a:Nat,a<n∧(Int.bmod (Int.tmod t n+n) 18446744073709551616).tmod n=a:=by
 have h1:=Int.tmod_lt_of_pos t (b:=(n:Int)) (by omega)
 have h2:=Int.lt_tmod_of_pos t (b:=(n:Int)) (by omega)
 generalize Int.tmod t n=u at *
 rw [bm (by omega) (by omega),Int.tmod_eq_emod_of_nonneg (by omega)]
 have h3:=Int.emod_nonneg (u+n) (b:=(n:Int)) (by omega)
 have h4:=Int.emod_lt_of_pos (u+n) (b:=(n:Int)) (by omega)
 exact ⟨((u+n)%(n:Int)).toNat,by omega,by omega⟩
end Go.Gy
namespace Go.Gy
set_option linter.unusedSimpArgs false
set_option linter.unusedVariables false
open Go Go.RowKit Go.Proofs Go.Proofs.Tryz
def ksT (p q g:Int) (fm fs:Nat→Int) (a u k:Nat):Int:=if k=a then 0 else if d2F fs k a=0 then 0 else kpF p q g fm fs a u k
def kzN (fs:Nat→Int) (a:Nat):Nat→Bool
 | 0=>false
 | k+1=>kzN fs a k||(!(decide (k=a))&&decide (d2F fs k a=0))
theorem jfy {fs:Nat→Int} {a:Nat}:∀ {N:Nat},kzN fs a N=true↔∃ k,k<N∧k≠a∧d2F fs k a=0
 | 0=>⟨fun h=>Bool.noConfusion h,fun ⟨k,h,_⟩=>absurd h (Nat.not_lt_zero k)⟩
 | N+1=>by
  unfold kzN
  rw [Bool.or_eq_true,jfy,Bool.and_eq_true,Bool.not_eq_true',decide_eq_false_iff_not,decide_eq_true_eq]
  constructor
  ·rintro (⟨k,h1,h2,h3⟩|⟨h2,h3⟩)
   ·exact ⟨k,by omega,h2,h3⟩
   ·exact ⟨N,by omega,h2,h3⟩
  ·rintro ⟨k,h1,h2,h3⟩
   by_cases c:k=N
   ·subst c;exact .inr ⟨h2,h3⟩
   ·exact .inl ⟨k,by omega,h2,h3⟩
theorem z5z (fs:Nat→Int) (a N:Nat):kzN fs a N=kZ fs N a:=by
 rw [Bool.eq_iff_iff,jfy,jpn]
theorem zi5 {n d g bx tp nr md st:Int} {fm fs:Nat→Int} {N a u k:Nat} (hok:ze8 N fm g bx tp nr md=true) (hr:za7 st fs N=true) (hp:zfl n d=true) (ha:a<N) (hu:u<3) (hk:k≤N):-18014398509481984≤zc6 (ksT n d g fm fs a u) k∧zc6 (ksT n d g fm fs a u) k≤18014398509481984:=by
 have h:=zzd (f:=ksT n d g fm fs a u) (lo:=-4503599627370496) (hi:=4503599627370496) (n:=k) fun i hi=>by
  unfold ksT
  by_cases c:i=a
  ·rw [if_pos c];omega
  ·rw [if_neg c]
   by_cases c2:d2F fs i a=0
   ·rw [if_pos c2];omega
   ·rw [if_neg c2];exact zew (zhw hok hr hp ha (by omega) hu c2)
 have hn:=(zee hr).2.1
 omega
theorem zle {n d g:Int} {fm fs:Nat→Int} {N a u:Nat} (hz:kZ fs N a=false):zc6 (ksT n d g fm fs a u) N=kS n d g fm fs N a u:=by
 unfold kS
 rw [z6b]
 refine zlw fun k hk=>?_
 unfold ksT
 by_cases c:k=a
 ·rw [if_pos c,if_pos c]
 ·rw [if_neg c,if_neg c,if_neg (jjy.1 hz k hk c)]
theorem zc1 (n d g:Int) (fm fs:Nat→Int) (a u k:Nat):zc6 (ksT n d g fm fs a u) (k+1)=zc6 (ksT n d g fm fs a u) k+ksT n d g fm fs a u k:=rfl
theorem jcd {n d g:Int} {fm fs:Nat→Int} {a u k:Nat} (h:k=a):ksT n d g fm fs a u k=0:=if_pos h
theorem jcf {n d g:Int} {fm fs:Nat→Int} {a u k:Nat} (h:¬k=a) (h2:d2F fs k a=0):ksT n d g fm fs a u k=0:=by
 unfold ksT
 rw [if_neg h,if_pos h2]
theorem jce {n d g:Int} {fm fs:Nat→Int} {a u k:Nat} (h:¬k=a) (h2:¬d2F fs k a=0):ksT n d g fm fs a u k=kpF n d g fm fs a u k:=by
 unfold ksT
 rw [if_neg h,if_neg h2]
def z84 (L:List (Nat×Blk)) (ka ks off n cap off2 cap2:Nat) (g bx tp nr md st p q v0 v1 v2 e:Int) (a:Nat) (A0 A1 A2:Int) (zb:Bool) (k:Nat):GS :=
 ⟨tsL [(2,.int .i64 p),(3,.int .i64 q),(4,.int .i64 a),(5,.pointer (some ⟨200,0,none⟩)),(6,.pointer (some ⟨208,0,none⟩)),(10,.bool false),(11,.pointer (some ⟨608,0,none⟩)),(12,.int .i64 e),(13,.slice none 0 0),(14,.int .i64 30),(15,.pointer (some ⟨712,0,none⟩)),(16,.bool zb),(17,.int .i64 k)],hpL G1 ([(200,cfB (.slice (some ⟨ka,off,none⟩) n cap) g bx tp nr md),(208,zdn st ks off2 n cap2),(608,vb v0 v1 v2),(712,vb A0 A1 A2)]++L),2000,0⟩
def jch (L:List (Nat×Blk)) (ka ks off n cap off2 cap2:Nat) (g bx tp nr md st p q v0 v1 v2 e:Int) (c1:Nat) (g1:Nat→Int) (a:Nat) (A0 A1 A2:Int) (zb:Bool) (k:Nat):GS :=
 ⟨tsL [(2,.int .i64 p),(3,.int .i64 q),(4,.int .i64 a),(5,.pointer (some ⟨200,0,none⟩)),(6,.pointer (some ⟨208,0,none⟩)),(10,.bool false),(11,.pointer (some ⟨608,0,none⟩)),(12,.int .i64 e),(13,.slice (some ⟨664,0,none⟩) n c1),(14,.int .i64 0),(15,.pointer (some ⟨712,0,none⟩)),(16,.bool zb),(17,.int .i64 k)],hpL G1 ([(200,cfB (.slice (some ⟨ka,off,none⟩) n cap) g bx tp nr md),(208,zdn st ks off2 n cap2),(608,vb v0 v1 v2),(712,vb A0 A1 A2),(664,⟨fa (3*c1) .i64 g1,.ty 31⟩)]++L),2000,0⟩
set_option maxRecDepth 8000 in
set_option maxHeartbeats 8000000 in
theorem zsa (L:List (Nat×Blk)) (ka ks:Nat) (bm bs:Blk) (hT:LKa L ka ks bm bs) (off n cap off2 N2 cap2:Nat) (fm fs:Nat→Int) (hm:MB bm off n fm) (hSb:SB bs off2 N2 fs) (g bx tp nr md st:Int) (hs:i64 st) (p q x:Int) (hg9:(decide (9<n)||decide (9<N2))=true∨znb n N2 (ze8 n fm g bx tp nr md) (za7 st fs N2)=false∨zfl p q=false) :
  Fun prog G1 4 #[cfV (.slice (some ⟨ka,off,none⟩) n cap) g bx tp nr md,.agg #[.int .i64 st,.slice (some ⟨ks,off2,none⟩) N2 cap2],.int .i64 p,.int .i64 q,.int .i64 x] (hpL G1 L) (zab L) (.ret (.bool true) []):=by
 refine zdi (B:=200) G1F func4 rfl call4 hT.ok ?_ (by simp) (by simp) (by simp) (by simp [ntmps4]) (by omega) ?_
 ·simp [zan,zay,zai,zaj,hT.ia,hT.ib,cfV]
 intro C hC hC0 hY
 have hA:=hT.a
 have hS:=hT.s
 have hne:=hT.ne
 have hna:=hT.na
 have hLow:=hT.low
 have hks:=hT.k1
 have hks2:=hT.k2
 have hrs:=fun ρ=>Blk.fx_rn hSb.fx ρ
 have hgr:=zr7 L ka ks bm bs hT off n cap off2 N2 cap2 g bx tp nr md st
 have hft:=zn1 L ka ks bm bs hT off n cap off2 N2 cap2 fm fs hm hSb g bx tp nr md st
 have wk:=ziy
 unfold cfV at hgr hft ⊢
 cases hg:decide (9<n)||decide (9<N2) with
 | true =>
  rw [hg] at hgr
  repeat' (first|refine gwA ?_|((first|refine gwR [7,20] ?_|refine gwD [7,20] ?_);intro Q hQ hP;(repeat first|simp [hC,hY,hA,hS,hne,hna,wk]|refine za3 hgr hT.ok zcv ?_|refine za3 hft hT.ok zcv ?_);refine gwq hQ ?_;clear hQ hP Q)|(refine gwC ?_ ?_<;>(intro hb;try (cases hb;done))))
  refine ⟨.inr rfl,by simp [results4],kpT G1F⟩
 | false =>
  rw [hg] at hgr hg9
  replace hg9:=hg9.resolve_left (by decide)
  cases hf:znb n N2 (ze8 n fm g bx tp nr md) (za7 st fs N2) with
  | false =>
   rw [hf] at hft
   repeat' (first|refine gwA ?_|((first|refine gwR [7,20] ?_|refine gwD [7,20] ?_);intro Q hQ hP;(repeat first|simp [hC,hY,hA,hS,hne,hna,wk]|refine za3 hgr hT.ok zcv ?_|refine za3 hft hT.ok zcv ?_);refine gwq hQ ?_;clear hQ hP Q)|(refine gwC ?_ ?_<;>(intro hb;try (cases hb;done))))
   refine ⟨.inr rfl,by simp [results4],kpT G1F⟩
  | true =>
   rw [hf] at hft hg9
   have hp:=hg9.resolve_left (by decide)
   have hp2:¬(-2097152≤p∧p≤2097152∧1≤q∧q≤2097152):=fun h=>by rw [zd6.2 h] at hp;cases hp
   by_cases c1:p < -2097152
   ·
    repeat' (first|refine gwA ?_|((first|refine gwR [7,20] ?_|refine gwD [7,20] ?_);intro Q hQ hP;(repeat first|simp [hC,hY,hA,hS,hne,hna,wk,c1]|refine za3 hgr hT.ok zcv ?_|refine za3 hft hT.ok zcv ?_);refine gwq hQ ?_;clear hQ hP Q)|(refine gwC ?_ ?_<;>(intro hb;try (cases hb;done))))
    refine ⟨.inr rfl,by simp [results4],kpT G1F⟩
   ·by_cases c2:2097152<p
    ·
     repeat' (first|refine gwA ?_|((first|refine gwR [7,20] ?_|refine gwD [7,20] ?_);intro Q hQ hP;(repeat first|simp [hC,hY,hA,hS,hne,hna,wk,c1,c2]|refine za3 hgr hT.ok zcv ?_|refine za3 hft hT.ok zcv ?_);refine gwq hQ ?_;clear hQ hP Q)|(refine gwC ?_ ?_<;>(intro hb;try (cases hb;done))))
     refine ⟨.inr rfl,by simp [results4],kpT G1F⟩
    ·by_cases c3:q<1
     ·
      repeat' (first|refine gwA ?_|((first|refine gwR [7,20] ?_|refine gwD [7,20] ?_);intro Q hQ hP;(repeat first|simp [hC,hY,hA,hS,hne,hna,wk,c1,c2,c3]|refine za3 hgr hT.ok zcv ?_|refine za3 hft hT.ok zcv ?_);refine gwq hQ ?_;clear hQ hP Q)|(refine gwC ?_ ?_<;>(intro hb;try (cases hb;done))))
      refine ⟨.inr rfl,by simp [results4],kpT G1F⟩
     ·have c4:2097152<q:=by omega
      repeat' (first|refine gwA ?_|((first|refine gwR [7,20] ?_|refine gwD [7,20] ?_);intro Q hQ hP;(repeat first|simp [hC,hY,hA,hS,hne,hna,wk,c1,c2,c3,c4]|refine za3 hgr hT.ok zcv ?_|refine za3 hft hT.ok zcv ?_);refine gwq hQ ?_;clear hQ hP Q)|(refine gwC ?_ ?_<;>(intro hb;try (cases hb;done))))
      refine ⟨.inr rfl,by simp [results4],kpT G1F⟩
theorem zt7 {y:Int} {R:Prop} (h:-2097152≤y∧y≤2097152∧R):inX y:=⟨h.1,h.2.1⟩
set_option maxRecDepth 8000 in
set_option maxHeartbeats 16000000 in
theorem jfs (L:List (Nat×Blk)) (ka ks:Nat) (bm bs:Blk) (hT:LKa L ka ks bm bs) (off n cap off2 cap2:Nat) (fm fs:Nat→Int) (hm:MB bm off n fm) (hSb:SB bs off2 n fs) (g bx tp nr md st:Int) (hs:i64 st) (p q x:Int) (hok:ze8 n fm g bx tp nr md=true) (hrt:za7 st fs n=true) (hpt:zfl p q=true) :
  Fun prog G1 4 #[cfV (.slice (some ⟨ka,off,none⟩) n cap) g bx tp nr md,.agg #[.int .i64 st,.slice (some ⟨ks,off2,none⟩) n cap2],.int .i64 p,.int .i64 q,.int .i64 x] (hpL G1 L) (zab L) (.ret (.bool true) []):=by
 refine zdi (B:=200) G1F func4 rfl call4 hT.ok ?_ (by simp) (by simp) (by simp) (by simp [ntmps4]) (by omega) ?_
 ·simp [zan,zay,zai,zaj,hT.ia,hT.ib,cfV]
 intro C hC hC0 hY
 have hA:=hT.a
 have hS:=hT.s
 have hne:=hT.ne
 have hna:=hT.na
 have hLow:=hT.low
 have hks:=hT.k1
 have hks2:=hT.k2
 have hrs:=fun ρ=>Blk.fx_rn hSb.fx ρ
 have hgr:=zr7 L ka ks bm bs hT off n cap off2 n cap2 g bx tp nr md st
 have hft:=zn1 L ka ks bm bs hT off n cap off2 n cap2 fm fs hm hSb g bx tp nr md st
 rw [zev.2 ⟨rfl,hok,hrt⟩] at hft
 have wk:=ziy
 have hn4:=(zee hrt).2.1
 have hg:(decide (9<n)||decide (9<n))=false:=by rw [decide_eq_false (by omega)];rfl
 rw [hg] at hgr
 obtain ⟨p1,p2,p3,p4⟩:=zd6.1 hpt
 have c1:¬p < -2097152:=by omega
 have c2:¬2097152<p:=by omega
 have c3:¬q<1:=by omega
 have c4:¬2097152<q:=by omega
 have hn0:¬(n:Int)=0:=by omega
 have hn0':¬n=0:=by omega
 obtain ⟨a,ha,ia⟩:=jhb x hn4
 have ha1:(a:Int)<n:=by omega
 have ha0:(0:Int)≤a:=by omega
 obtain ⟨v0,v1,v2,e,hone,hv⟩:∃ v0 v1 v2 e:Int,Fun prog G1 9 #[cfV (.slice (some ⟨ka,off,none⟩) n cap) g bx tp nr md,.agg #[.int .i64 st,.slice (some ⟨ks,off2,none⟩) n cap2],.int .i64 p,.int .i64 q,.int .i64 a] (hpL G1 L) (zab L) (.ret (.tuple #[.agg #[.int .i64 v0,.int .i64 v1,.int .i64 v2],.int .i64 e]) [])∧((kZ fs n a=true∧v0=0∧v1=0∧v2=0∧e=30)∨(kZ fs n a=false∧v0=kS p q g fm fs n a 0∧v1=kS p q g fm fs n a 1∧v2=kS p q g fm fs n a 2∧e=0)):=by
  cases hz:kZ fs n a with
  | true=>exact ⟨0,0,0,30,zxd L ka ks bm bs hT off n cap off2 cap2 fm fs hm hSb g bx tp nr md st hs p q a hok hrt hpt a ha rfl hz,.inl ⟨rfl,rfl,rfl,rfl,rfl⟩⟩
  | false=>exact ⟨_,_,_,0,zp3 L ka ks bm bs hT off n cap off2 cap2 fm fs hm hSb g bx tp nr md st hs p q a hok hrt hpt a ha rfl hz,.inr ⟨rfl,rfl,rfl,rfl,rfl⟩⟩
 cases hany:z2b fs n with
 | true =>
  have hk1:=zxc L ka ks bm bs hT off n cap off2 cap2 fm fs hm hSb g bx tp nr md st hs p q hok hrt hpt hany
  unfold cfV at hgr hft hone hk1 ⊢
  repeat' (first|refine gwA ?_|((first|refine gwR [7,20,9,11] ?_|refine gwD [7,20,9,11] ?_);intro Q hQ hP;(repeat first|simp [hC,hY,hA,hS,hne,hna,wk,hn0,hn0',ia,c1,c2,c3,c4]|refine za3 hgr hT.ok zcv ?_|refine za3 hft hT.ok zcv ?_|refine za3 hone hT.ok zcv ?_|refine za3 hk1 hT.ok zcv ?_);refine gwq hQ ?_;clear hQ hP Q)|(refine gwC ?_ ?_<;>(intro hb;try (cases hb;done))))
  refine zb8 n (fun k=>z84 L ka ks off n cap off2 cap2 g bx tp nr md st p q v0 v1 v2 e a (zc6 (ksT p q g fm fs a 0) k) (zc6 (ksT p q g fm fs a 1) k) (zc6 (ksT p q g fm fs a 2) k) (kzN fs a k) k) ?_ ?_ ?_
  ·unfold z84
   refine zda _ 2000 hC G1F hT.ok hT.fx hC0 (by omega) ?_ ?_ zcv
   ·simp [zan,zay,zai,zaj,dom,hA,hS,hne,hna,zb6,zbh,kzN]
   ·simp [cfB,zdn,vb,zc6,zae,zai,zaj,dom,hA,hS,hne,hna,zb6,zbh,Blk.fx_ids (zbz _ _ _)]
  ·intro k hk0
   have hk:k<n:=by omega
   have hk1:(k:Int)<n:=by omega
   have hk2:(0:Int)≤k:=by omega
   have hs':=zgl hk hn4.2
   by_cases e9:k=a
   ·have ez:kzN fs a (k+1)=kzN fs a k:=by
     show (kzN fs a k||(!(decide (k=a))&&decide (d2F fs k a=0)))=_
     rw [decide_eq_true e9]
     simp
    have es0:zc6 (ksT p q g fm fs a 0) (k+1)=zc6 (ksT p q g fm fs a 0) k:=by rw [zc1,jcd e9];omega
    have es1:zc6 (ksT p q g fm fs a 1) (k+1)=zc6 (ksT p q g fm fs a 1) k:=by rw [zc1,jcd e9];omega
    have es2:zc6 (ksT p q g fm fs a 2) (k+1)=zc6 (ksT p q g fm fs a 2) k:=by rw [zc1,jcd e9];omega
    (try dsimp only)
    unfold z84
    rw [es0,es1,es2,ez]
    subst e9
    unfold cfB zdn vb
    repeat' (first|refine zac ?_|refine zaf ?_|refine gwA ?_|(refine gwX ?_;intro Q hQ hP;simp [hC,hY,hA,hS,hne,hna,hk,hk1,hk2,hs'];(first|refine hQ _ _ _ _ (by rcases hT.k8 with h8|h8<;>rcases hT.a8 with h9|h9<;>subst h8<;>subst h9<;>kernel_rfl) ?_|refine hP _ _ (by rcases hT.k8 with h8|h8<;>rcases hT.a8 with h9|h9<;>subst h8<;>subst h9<;>kernel_rfl) fun _=>?_);clear hQ hP Q)|(refine gwC ?_ ?_<;>(intro hb;try (cases hb;done))))
    refine zda _ 2000 hC G1F hT.ok hT.fx hC0 (by omega) ?_ ?_ zcv
    ·simp [zan,zay,zai,zaj,dom,hA,hS,hne,hna,hs']
    ·simp [zae,zai,zaj,dom,hA,hS,hne,hna,Blk.fx_ids (zbz _ _ _)]
   ·have ez:¬(k:Int)=a:=by omega
    have ez':((k:Int)==(a:Int))=false:=by simpa using ez
    have hd2:=zr6 hrt ha hk
    have bk0:=hSb.int hk (q:=0) (by omega)
    have bk1:=hSb.int hk (q:=1) (by omega)
    have bk2:=hSb.int hk (q:=2) (by omega)
    have ba0:=hSb.int ha (q:=0) (by omega)
    have ba1:=hSb.int ha (q:=1) (by omega)
    have ba2:=hSb.int ha (q:=2) (by omega)
    have mk:=hm.at hk
    have db0:Int.bmod (fs (6*k) - fs (6*a)) 18446744073709551616=fs (6*k) - fs (6*a):=by have:=hd2.2.2 0 (by omega);simp only [Nat.add_zero] at this;exact Go.Gy.bm (by omega) (by omega)
    have db1:Int.bmod (fs (6*k+1) - fs (6*a+1)) 18446744073709551616=fs (6*k+1) - fs (6*a+1):=by have:=hd2.2.2 1 (by omega);exact Go.Gy.bm (by omega) (by omega)
    have db2:Int.bmod (fs (6*k+2) - fs (6*a+2)) 18446744073709551616=fs (6*k+2) - fs (6*a+2):=by have:=hd2.2.2 2 (by omega);exact Go.Gy.bm (by omega) (by omega)
    simp only [Nat.add_zero] at bk0 ba0
    by_cases hd:d2F fs k a=0
    ·have eb:kzN fs a (k+1)=true:=by
      show (kzN fs a k||(!(decide (k=a))&&decide (d2F fs k a=0)))=_
      rw [decide_eq_false e9,decide_eq_true hd]
      simp
     have es0:zc6 (ksT p q g fm fs a 0) (k+1)=zc6 (ksT p q g fm fs a 0) k:=by rw [zc1,jcf e9 hd];omega
     have es1:zc6 (ksT p q g fm fs a 1) (k+1)=zc6 (ksT p q g fm fs a 1) k:=by rw [zc1,jcf e9 hd];omega
     have es2:zc6 (ksT p q g fm fs a 2) (k+1)=zc6 (ksT p q g fm fs a 2) k:=by rw [zc1,jcf e9 hd];omega
     have u0:=zi5 (u:=0) hok hrt hpt ha (by omega) (Nat.le_of_lt hk)
     have u1:=zi5 (u:=1) hok hrt hpt ha (by omega) (Nat.le_of_lt hk)
     have u2:=zi5 (u:=2) hok hrt hpt ha (by omega) (Nat.le_of_lt hk)
     have P:=fun K=>zsy (n:=p) (d:=q) (g:=g) (m:=fm k) ((zj3 a k).trans hd) (zt7 (hd2.2.2 0 (by omega))) (zt7 (hd2.2.2 1 (by omega))) (zt7 (hd2.2.2 2 (by omega))) hpt (zrs hok) (zhi hok hk) K
     (try dsimp only)
     unfold z84
     rw [es0,es1,es2,eb]
     clear es0 es1 es2
     generalize zc6 (ksT p q g fm fs a 0) k=A0 at *
     generalize zc6 (ksT p q g fm fs a 1) k=A1 at *
     generalize zc6 (ksT p q g fm fs a 2) k=A2 at *
     have q0:Int.bmod A0 18446744073709551616=A0:=Go.Gy.bm (by omega) (by omega)
     have q1:Int.bmod A1 18446744073709551616=A1:=Go.Gy.bm (by omega) (by omega)
     have q2:Int.bmod A2 18446744073709551616=A2:=Go.Gy.bm (by omega) (by omega)
     unfold cfB zdn vb
     cases kzN fs a k
     ·
      repeat' (first|refine zac ?_|refine zaf ?_|refine gwA ?_|(refine gwX ?_;intro Q hQ hP;simp [hC,hY,hA,hS,hne,hna,hk,hk1,hk2,hs',ez,ez',ha0,ha1,P,mk,bk0,bk1,bk2,ba0,ba1,ba2,db0,db1,db2,q0,q1,q2];(first|refine hQ _ _ _ _ (by rcases hT.k8 with h8|h8<;>rcases hT.a8 with h9|h9<;>subst h8<;>subst h9<;>kernel_rfl) ?_|refine hP _ _ (by rcases hT.k8 with h8|h8<;>rcases hT.a8 with h9|h9<;>subst h8<;>subst h9<;>kernel_rfl) fun _=>?_);clear hQ hP Q)|(refine gwC ?_ ?_<;>(intro hb;try (cases hb;done))))
      refine zda _ 2000 hC G1F hT.ok hT.fx hC0 (by omega) ?_ ?_ zcv
      ·simp [zan,zay,zai,zaj,dom,hA,hS,hne,hna,hs']
      ·simp [zae,zai,zaj,dom,hA,hS,hne,hna,Blk.fx_ids (zbz _ _ _)]
     ·
      repeat' (first|refine zac ?_|refine zaf ?_|refine gwA ?_|(refine gwX ?_;intro Q hQ hP;simp [hC,hY,hA,hS,hne,hna,hk,hk1,hk2,hs',ez,ez',ha0,ha1,P,mk,bk0,bk1,bk2,ba0,ba1,ba2,db0,db1,db2,q0,q1,q2];(first|refine hQ _ _ _ _ (by rcases hT.k8 with h8|h8<;>rcases hT.a8 with h9|h9<;>subst h8<;>subst h9<;>kernel_rfl) ?_|refine hP _ _ (by rcases hT.k8 with h8|h8<;>rcases hT.a8 with h9|h9<;>subst h8<;>subst h9<;>kernel_rfl) fun _=>?_);clear hQ hP Q)|(refine gwC ?_ ?_<;>(intro hb;try (cases hb;done))))
      refine zda _ 2000 hC G1F hT.ok hT.fx hC0 (by omega) ?_ ?_ zcv
      ·simp [zan,zay,zai,zaj,dom,hA,hS,hne,hna,hs']
      ·simp [zae,zai,zaj,dom,hA,hS,hne,hna,Blk.fx_ids (zbz _ _ _)]
    ·have eb:kzN fs a (k+1)=kzN fs a k:=by
      show (kzN fs a k||(!(decide (k=a))&&decide (d2F fs k a=0)))=_
      rw [decide_eq_false hd]
      simp
     have P0:=zhw (u:=0) hok hrt hpt ha hk (by omega) hd
     have P1:=zhw (u:=1) hok hrt hpt ha hk (by omega) hd
     have P2:=zhw (u:=2) hok hrt hpt ha hk (by omega) hd
     have y0:=zew P0
     have y1:=zew P1
     have y2:=zew P2
     have P:=fun K=>zov (zj3 a k) P0 P1 P2 K
     simp only [Nat.add_zero] at y0 P
     have u0:=zi5 (u:=0) hok hrt hpt ha (by omega) (Nat.le_of_lt hk)
     have u1:=zi5 (u:=1) hok hrt hpt ha (by omega) (Nat.le_of_lt hk)
     have u2:=zi5 (u:=2) hok hrt hpt ha (by omega) (Nat.le_of_lt hk)
     have es0:zc6 (ksT p q g fm fs a 0) (k+1)=zc6 (ksT p q g fm fs a 0) k+za9 p q g (fm k) (fs (6*k) - fs (6*a)) (d2F fs k a):=by rw [zc1,jce e9 hd];rfl
     have es1:zc6 (ksT p q g fm fs a 1) (k+1)=zc6 (ksT p q g fm fs a 1) k+za9 p q g (fm k) (fs (6*k+1) - fs (6*a+1)) (d2F fs k a):=by rw [zc1,jce e9 hd];rfl
     have es2:zc6 (ksT p q g fm fs a 2) (k+1)=zc6 (ksT p q g fm fs a 2) k+za9 p q g (fm k) (fs (6*k+2) - fs (6*a+2)) (d2F fs k a):=by rw [zc1,jce e9 hd];rfl
     (try dsimp only)
     unfold z84
     rw [es0,es1,es2,eb]
     clear es0 es1 es2 P0 P1 P2
     generalize zc6 (ksT p q g fm fs a 0) k=A0 at *
     generalize zc6 (ksT p q g fm fs a 1) k=A1 at *
     generalize zc6 (ksT p q g fm fs a 2) k=A2 at *
     generalize za9 p q g (fm k) (fs (6*k) - fs (6*a)) (d2F fs k a)=a0 at *
     generalize za9 p q g (fm k) (fs (6*k+1) - fs (6*a+1)) (d2F fs k a)=a1 at *
     generalize za9 p q g (fm k) (fs (6*k+2) - fs (6*a+2)) (d2F fs k a)=a2 at *
     have q0:Int.bmod (A0+a0) 18446744073709551616=A0+a0:=Go.Gy.bm (by omega) (by omega)
     have q1:Int.bmod (A1+a1) 18446744073709551616=A1+a1:=Go.Gy.bm (by omega) (by omega)
     have q2:Int.bmod (A2+a2) 18446744073709551616=A2+a2:=Go.Gy.bm (by omega) (by omega)
     unfold cfB zdn vb
     cases kzN fs a k
     ·
      repeat' (first|refine zac ?_|refine zaf ?_|refine gwA ?_|(refine gwX ?_;intro Q hQ hP;simp [hC,hY,hA,hS,hne,hna,hk,hk1,hk2,hs',ez,ez',ha0,ha1,P,mk,bk0,bk1,bk2,ba0,ba1,ba2,db0,db1,db2,q0,q1,q2];(first|refine hQ _ _ _ _ (by rcases hT.k8 with h8|h8<;>rcases hT.a8 with h9|h9<;>subst h8<;>subst h9<;>kernel_rfl) ?_|refine hP _ _ (by rcases hT.k8 with h8|h8<;>rcases hT.a8 with h9|h9<;>subst h8<;>subst h9<;>kernel_rfl) fun _=>?_);clear hQ hP Q)|(refine gwC ?_ ?_<;>(intro hb;try (cases hb;done))))
      refine zda _ 2000 hC G1F hT.ok hT.fx hC0 (by omega) ?_ ?_ zcv
      ·simp [zan,zay,zai,zaj,dom,hA,hS,hne,hna,hs']
      ·simp [zae,zai,zaj,dom,hA,hS,hne,hna,Blk.fx_ids (zbz _ _ _)]
     ·
      repeat' (first|refine zac ?_|refine zaf ?_|refine gwA ?_|(refine gwX ?_;intro Q hQ hP;simp [hC,hY,hA,hS,hne,hna,hk,hk1,hk2,hs',ez,ez',ha0,ha1,P,mk,bk0,bk1,bk2,ba0,ba1,ba2,db0,db1,db2,q0,q1,q2];(first|refine hQ _ _ _ _ (by rcases hT.k8 with h8|h8<;>rcases hT.a8 with h9|h9<;>subst h8<;>subst h9<;>kernel_rfl) ?_|refine hP _ _ (by rcases hT.k8 with h8|h8<;>rcases hT.a8 with h9|h9<;>subst h8<;>subst h9<;>kernel_rfl) fun _=>?_);clear hQ hP Q)|(refine gwC ?_ ?_<;>(intro hb;try (cases hb;done))))
      refine zda _ 2000 hC G1F hT.ok hT.fx hC0 (by omega) ?_ ?_ zcv
      ·simp [zan,zay,zai,zaj,dom,hA,hS,hne,hna,hs']
      ·simp [zae,zai,zaj,dom,hA,hS,hne,hna,Blk.fx_ids (zbz _ _ _)]
  ·(try dsimp only)
   rw [z5z]
   rcases hv with ⟨hz,rfl,rfl,rfl,rfl⟩|⟨hz,rfl,rfl,rfl,rfl⟩
   ·rw [hz]
    unfold z84 cfB zdn vb
    repeat' (first|refine gwA ?_|(refine gwX ?_;intro Q hQ hP;simp [hC,hY,hA,hS,hne,hna,wk];refine gwq hQ ?_;clear hQ hP Q)|(refine gwC ?_ ?_<;>(intro hb;try (cases hb;done))))
    refine ⟨.inr rfl,by simp [results4],kpT G1F⟩
   ·rw [hz,zle hz,zle hz,zle hz]
    unfold z84 cfB zdn vb
    repeat' (first|refine gwA ?_|(refine gwX ?_;intro Q hQ hP;simp [hC,hY,hA,hS,hne,hna,wk];refine gwq hQ ?_;clear hQ hP Q)|(refine gwC ?_ ?_<;>(intro hb;try (cases hb;done))))
    refine ⟨.inr rfl,by simp [results4],kpT G1F⟩
 | false =>
  have hz:kZ fs n a=false:=zr4.1 hany a ha
  have hk1:=(zhv L ka ks bm bs hT off n cap off2 cap2 fm fs hm hSb g bx tp nr md st hs p q hok hrt hpt hany).nmL hT.ok hT.fx 664 (by omega) (fun v ns=>zf9) (by have hl:r1n 664 ka=ka:=if_neg (by have:=hT.a2;omega);have hl2:r1n 664 ks=ks:=if_neg (by omega);simp [cfV,ren,zax,zak,zao,hl,hl2]) (zr8 (ρ:=r1n 664) (nk:=664) rfl n (kkF p q g fm fs n))
  unfold cfV at hgr hft hone hk1 ⊢
  repeat' (first|refine gwA ?_|((first|refine gwR [7,20,9] ?_|refine gwD [7,20,9] ?_);intro Q hQ hP;(repeat first|simp [hC,hY,hA,hS,hne,hna,wk,hn0,hn0',ia,c1,c2,c3,c4]|refine za3 hgr hT.ok zcv ?_|refine za3 hft hT.ok zcv ?_|refine za3 hone hT.ok zcv ?_);refine gwq hQ ?_;clear hQ hP Q)|(refine gwC ?_ ?_<;>(intro hb;try (cases hb;done))))
  refine zcm ?_
  simp only [Array.toList]
  refine zbc 4 [] rfl (by simp) (by kernel_rfl) ?_;intro q hq;simp [hC,hY,hA,hS,hne,hna];refine hq _ _ _ _ ?_;clear hq q
  simp only [wT,List.length_cons,List.length_nil,Nat.reduceAdd]
  refine zdo (f:=.func 11) (cap:=#[]) hC hk1 rfl (by simp) rfl rfl (by simp [okT]) (by simp [gev]) (by simp) (by simp [okX,zcj]) (by simp [gev]) (by intro q hq;obtain ⟨p,hp,rfl⟩:=zag.1 hq;have hpb:=hT.ok.big p hp;(try dsimp only);simp (disch:=omega) only [zaa]) (by (intro k hk;first|exact hLow k hk|(simp (disch:=omega) only [hLow,zcz,List.mem_cons,List.not_mem_nil,or_false,zaa,zam,za6,if_neg,zbh,List.cons_append,List.nil_append]<;>done))) ?_ ?_
  ·intro v ns hV k hk
   rw [zf9 hV k hk]
   omega
  rintro v ns ⟨cc,gg,x1,y1,rfl,rfl⟩
  refine zbc 5 [] rfl (by simp) (by kernel_rfl) ?_;intro q hq;simp [hC,hY,zb6,zbh];refine hq _ _ _ _ ?_;clear hq q
  simp only [wT,List.length_cons,List.length_nil,Nat.reduceAdd]
  refine zc2 ?_
  repeat' (first|refine gwA ?_|(refine gwX ?_;intro Q hQ hP;simp [hC,hY,zb6,zbh,hA,hS,hne,hna,wk];refine gwq hQ ?_;clear hQ hP Q)|(refine gwC ?_ ?_<;>(intro hb;try (cases hb;done))))
  refine zb8 n (fun k=>jch L ka ks off n cap off2 cap2 g bx tp nr md st p q v0 v1 v2 e cc gg a (zc6 (ksT p q g fm fs a 0) k) (zc6 (ksT p q g fm fs a 1) k) (zc6 (ksT p q g fm fs a 2) k) (kzN fs a k) k) ?_ ?_ ?_
  ·unfold jch
   refine zda _ 2000 hC G1F hT.ok hT.fx hC0 (by omega) ?_ ?_ zcv
   ·simp [zan,zay,zai,zaj,dom,hA,hS,hne,hna,zb6,zbh,kzN]
   ·simp [cfB,zdn,vb,zc6,zae,zai,zaj,dom,hA,hS,hne,hna,zb6,zbh,Blk.fx_ids (zbz _ _ _)]
  ·intro k hk0
   have hk:k<n:=by omega
   have hk1:(k:Int)<n:=by omega
   have hk2:(0:Int)≤k:=by omega
   have hs':=zgl hk hn4.2
   by_cases e9:k=a
   ·have ez:kzN fs a (k+1)=kzN fs a k:=by
     show (kzN fs a k||(!(decide (k=a))&&decide (d2F fs k a=0)))=_
     rw [decide_eq_true e9]
     simp
    have es0:zc6 (ksT p q g fm fs a 0) (k+1)=zc6 (ksT p q g fm fs a 0) k:=by rw [zc1,jcd e9];omega
    have es1:zc6 (ksT p q g fm fs a 1) (k+1)=zc6 (ksT p q g fm fs a 1) k:=by rw [zc1,jcd e9];omega
    have es2:zc6 (ksT p q g fm fs a 2) (k+1)=zc6 (ksT p q g fm fs a 2) k:=by rw [zc1,jcd e9];omega
    (try dsimp only)
    unfold jch
    rw [es0,es1,es2,ez]
    subst e9
    unfold cfB zdn vb
    repeat' (first|refine zac ?_|refine zaf ?_|refine gwA ?_|(refine gwX ?_;intro Q hQ hP;simp [hC,hY,hA,hS,hne,hna,hk,hk1,hk2,hs'];(first|refine hQ _ _ _ _ (by rcases hT.k8 with h8|h8<;>rcases hT.a8 with h9|h9<;>subst h8<;>subst h9<;>kernel_rfl) ?_|refine hP _ _ (by rcases hT.k8 with h8|h8<;>rcases hT.a8 with h9|h9<;>subst h8<;>subst h9<;>kernel_rfl) fun _=>?_);clear hQ hP Q)|(refine gwC ?_ ?_<;>(intro hb;try (cases hb;done))))
    refine zda _ 2000 hC G1F hT.ok hT.fx hC0 (by omega) ?_ ?_ zcv
    ·simp [zan,zay,zai,zaj,dom,hA,hS,hne,hna,hs']
    ·simp [zae,zai,zaj,dom,hA,hS,hne,hna,Blk.fx_ids (zbz _ _ _)]
   ·have ez:¬(k:Int)=a:=by omega
    have ez':((k:Int)==(a:Int))=false:=by simpa using ez
    have hd2:=zr6 hrt ha hk
    have bk0:=hSb.int hk (q:=0) (by omega)
    have bk1:=hSb.int hk (q:=1) (by omega)
    have bk2:=hSb.int hk (q:=2) (by omega)
    have ba0:=hSb.int ha (q:=0) (by omega)
    have ba1:=hSb.int ha (q:=1) (by omega)
    have ba2:=hSb.int ha (q:=2) (by omega)
    have mk:=hm.at hk
    have db0:Int.bmod (fs (6*k) - fs (6*a)) 18446744073709551616=fs (6*k) - fs (6*a):=by have:=hd2.2.2 0 (by omega);simp only [Nat.add_zero] at this;exact Go.Gy.bm (by omega) (by omega)
    have db1:Int.bmod (fs (6*k+1) - fs (6*a+1)) 18446744073709551616=fs (6*k+1) - fs (6*a+1):=by have:=hd2.2.2 1 (by omega);exact Go.Gy.bm (by omega) (by omega)
    have db2:Int.bmod (fs (6*k+2) - fs (6*a+2)) 18446744073709551616=fs (6*k+2) - fs (6*a+2):=by have:=hd2.2.2 2 (by omega);exact Go.Gy.bm (by omega) (by omega)
    simp only [Nat.add_zero] at bk0 ba0
    by_cases hd:d2F fs k a=0
    ·have eb:kzN fs a (k+1)=true:=by
      show (kzN fs a k||(!(decide (k=a))&&decide (d2F fs k a=0)))=_
      rw [decide_eq_false e9,decide_eq_true hd]
      simp
     have es0:zc6 (ksT p q g fm fs a 0) (k+1)=zc6 (ksT p q g fm fs a 0) k:=by rw [zc1,jcf e9 hd];omega
     have es1:zc6 (ksT p q g fm fs a 1) (k+1)=zc6 (ksT p q g fm fs a 1) k:=by rw [zc1,jcf e9 hd];omega
     have es2:zc6 (ksT p q g fm fs a 2) (k+1)=zc6 (ksT p q g fm fs a 2) k:=by rw [zc1,jcf e9 hd];omega
     have u0:=zi5 (u:=0) hok hrt hpt ha (by omega) (Nat.le_of_lt hk)
     have u1:=zi5 (u:=1) hok hrt hpt ha (by omega) (Nat.le_of_lt hk)
     have u2:=zi5 (u:=2) hok hrt hpt ha (by omega) (Nat.le_of_lt hk)
     have P:=fun K=>zsy (n:=p) (d:=q) (g:=g) (m:=fm k) ((zj3 a k).trans hd) (zt7 (hd2.2.2 0 (by omega))) (zt7 (hd2.2.2 1 (by omega))) (zt7 (hd2.2.2 2 (by omega))) hpt (zrs hok) (zhi hok hk) K
     (try dsimp only)
     unfold jch
     rw [es0,es1,es2,eb]
     clear es0 es1 es2
     generalize zc6 (ksT p q g fm fs a 0) k=A0 at *
     generalize zc6 (ksT p q g fm fs a 1) k=A1 at *
     generalize zc6 (ksT p q g fm fs a 2) k=A2 at *
     have q0:Int.bmod A0 18446744073709551616=A0:=Go.Gy.bm (by omega) (by omega)
     have q1:Int.bmod A1 18446744073709551616=A1:=Go.Gy.bm (by omega) (by omega)
     have q2:Int.bmod A2 18446744073709551616=A2:=Go.Gy.bm (by omega) (by omega)
     unfold cfB zdn vb
     cases kzN fs a k
     ·
      repeat' (first|refine zac ?_|refine zaf ?_|refine gwA ?_|(refine gwX ?_;intro Q hQ hP;simp [hC,hY,hA,hS,hne,hna,hk,hk1,hk2,hs',ez,ez',ha0,ha1,P,mk,bk0,bk1,bk2,ba0,ba1,ba2,db0,db1,db2,q0,q1,q2];(first|refine hQ _ _ _ _ (by rcases hT.k8 with h8|h8<;>rcases hT.a8 with h9|h9<;>subst h8<;>subst h9<;>kernel_rfl) ?_|refine hP _ _ (by rcases hT.k8 with h8|h8<;>rcases hT.a8 with h9|h9<;>subst h8<;>subst h9<;>kernel_rfl) fun _=>?_);clear hQ hP Q)|(refine gwC ?_ ?_<;>(intro hb;try (cases hb;done))))
      refine zda _ 2000 hC G1F hT.ok hT.fx hC0 (by omega) ?_ ?_ zcv
      ·simp [zan,zay,zai,zaj,dom,hA,hS,hne,hna,hs']
      ·simp [zae,zai,zaj,dom,hA,hS,hne,hna,Blk.fx_ids (zbz _ _ _)]
     ·
      repeat' (first|refine zac ?_|refine zaf ?_|refine gwA ?_|(refine gwX ?_;intro Q hQ hP;simp [hC,hY,hA,hS,hne,hna,hk,hk1,hk2,hs',ez,ez',ha0,ha1,P,mk,bk0,bk1,bk2,ba0,ba1,ba2,db0,db1,db2,q0,q1,q2];(first|refine hQ _ _ _ _ (by rcases hT.k8 with h8|h8<;>rcases hT.a8 with h9|h9<;>subst h8<;>subst h9<;>kernel_rfl) ?_|refine hP _ _ (by rcases hT.k8 with h8|h8<;>rcases hT.a8 with h9|h9<;>subst h8<;>subst h9<;>kernel_rfl) fun _=>?_);clear hQ hP Q)|(refine gwC ?_ ?_<;>(intro hb;try (cases hb;done))))
      refine zda _ 2000 hC G1F hT.ok hT.fx hC0 (by omega) ?_ ?_ zcv
      ·simp [zan,zay,zai,zaj,dom,hA,hS,hne,hna,hs']
      ·simp [zae,zai,zaj,dom,hA,hS,hne,hna,Blk.fx_ids (zbz _ _ _)]
    ·have eb:kzN fs a (k+1)=kzN fs a k:=by
      show (kzN fs a k||(!(decide (k=a))&&decide (d2F fs k a=0)))=_
      rw [decide_eq_false hd]
      simp
     have P0:=zhw (u:=0) hok hrt hpt ha hk (by omega) hd
     have P1:=zhw (u:=1) hok hrt hpt ha hk (by omega) hd
     have P2:=zhw (u:=2) hok hrt hpt ha hk (by omega) hd
     have y0:=zew P0
     have y1:=zew P1
     have y2:=zew P2
     have P:=fun K=>zov (zj3 a k) P0 P1 P2 K
     simp only [Nat.add_zero] at y0 P
     have u0:=zi5 (u:=0) hok hrt hpt ha (by omega) (Nat.le_of_lt hk)
     have u1:=zi5 (u:=1) hok hrt hpt ha (by omega) (Nat.le_of_lt hk)
     have u2:=zi5 (u:=2) hok hrt hpt ha (by omega) (Nat.le_of_lt hk)
     have es0:zc6 (ksT p q g fm fs a 0) (k+1)=zc6 (ksT p q g fm fs a 0) k+za9 p q g (fm k) (fs (6*k) - fs (6*a)) (d2F fs k a):=by rw [zc1,jce e9 hd];rfl
     have es1:zc6 (ksT p q g fm fs a 1) (k+1)=zc6 (ksT p q g fm fs a 1) k+za9 p q g (fm k) (fs (6*k+1) - fs (6*a+1)) (d2F fs k a):=by rw [zc1,jce e9 hd];rfl
     have es2:zc6 (ksT p q g fm fs a 2) (k+1)=zc6 (ksT p q g fm fs a 2) k+za9 p q g (fm k) (fs (6*k+2) - fs (6*a+2)) (d2F fs k a):=by rw [zc1,jce e9 hd];rfl
     (try dsimp only)
     unfold jch
     rw [es0,es1,es2,eb]
     clear es0 es1 es2 P0 P1 P2
     generalize zc6 (ksT p q g fm fs a 0) k=A0 at *
     generalize zc6 (ksT p q g fm fs a 1) k=A1 at *
     generalize zc6 (ksT p q g fm fs a 2) k=A2 at *
     generalize za9 p q g (fm k) (fs (6*k) - fs (6*a)) (d2F fs k a)=a0 at *
     generalize za9 p q g (fm k) (fs (6*k+1) - fs (6*a+1)) (d2F fs k a)=a1 at *
     generalize za9 p q g (fm k) (fs (6*k+2) - fs (6*a+2)) (d2F fs k a)=a2 at *
     have q0:Int.bmod (A0+a0) 18446744073709551616=A0+a0:=Go.Gy.bm (by omega) (by omega)
     have q1:Int.bmod (A1+a1) 18446744073709551616=A1+a1:=Go.Gy.bm (by omega) (by omega)
     have q2:Int.bmod (A2+a2) 18446744073709551616=A2+a2:=Go.Gy.bm (by omega) (by omega)
     unfold cfB zdn vb
     cases kzN fs a k
     ·
      repeat' (first|refine zac ?_|refine zaf ?_|refine gwA ?_|(refine gwX ?_;intro Q hQ hP;simp [hC,hY,hA,hS,hne,hna,hk,hk1,hk2,hs',ez,ez',ha0,ha1,P,mk,bk0,bk1,bk2,ba0,ba1,ba2,db0,db1,db2,q0,q1,q2];(first|refine hQ _ _ _ _ (by rcases hT.k8 with h8|h8<;>rcases hT.a8 with h9|h9<;>subst h8<;>subst h9<;>kernel_rfl) ?_|refine hP _ _ (by rcases hT.k8 with h8|h8<;>rcases hT.a8 with h9|h9<;>subst h8<;>subst h9<;>kernel_rfl) fun _=>?_);clear hQ hP Q)|(refine gwC ?_ ?_<;>(intro hb;try (cases hb;done))))
      refine zda _ 2000 hC G1F hT.ok hT.fx hC0 (by omega) ?_ ?_ zcv
      ·simp [zan,zay,zai,zaj,dom,hA,hS,hne,hna,hs']
      ·simp [zae,zai,zaj,dom,hA,hS,hne,hna,Blk.fx_ids (zbz _ _ _)]
     ·
      repeat' (first|refine zac ?_|refine zaf ?_|refine gwA ?_|(refine gwX ?_;intro Q hQ hP;simp [hC,hY,hA,hS,hne,hna,hk,hk1,hk2,hs',ez,ez',ha0,ha1,P,mk,bk0,bk1,bk2,ba0,ba1,ba2,db0,db1,db2,q0,q1,q2];(first|refine hQ _ _ _ _ (by rcases hT.k8 with h8|h8<;>rcases hT.a8 with h9|h9<;>subst h8<;>subst h9<;>kernel_rfl) ?_|refine hP _ _ (by rcases hT.k8 with h8|h8<;>rcases hT.a8 with h9|h9<;>subst h8<;>subst h9<;>kernel_rfl) fun _=>?_);clear hQ hP Q)|(refine gwC ?_ ?_<;>(intro hb;try (cases hb;done))))
      refine zda _ 2000 hC G1F hT.ok hT.fx hC0 (by omega) ?_ ?_ zcv
      ·simp [zan,zay,zai,zaj,dom,hA,hS,hne,hna,hs']
      ·simp [zae,zai,zaj,dom,hA,hS,hne,hna,Blk.fx_ids (zbz _ _ _)]
  ·(try dsimp only)
   rw [z5z,hz,zle hz,zle hz,zle hz]
   rcases hv with ⟨hz2,_⟩|⟨_,rfl,rfl,rfl,rfl⟩
   ·rw [hz] at hz2
    cases hz2
   ·have l1:=zj4 (g:=gg) x1 ha
    have e0:=(y1 (3*a) (by omega)).trans (zla p q g fm fs n a (u:=0) (by omega))
    have e1:=(y1 (3*a+1) (by omega)).trans (zla p q g fm fs n a (u:=1) (by omega))
    have e2:=(y1 (3*a+2) (by omega)).trans (zla p q g fm fs n a (u:=2) (by omega))
    rw [e0,e1,e2] at l1
    unfold jch cfB zdn vb
    repeat' (first|refine gwA ?_|(refine gwX ?_;intro Q hQ hP;simp [hC,hY,hA,hS,hne,hna,wk,l1,ha1,ha0];refine gwq hQ ?_;clear hQ hP Q)|(refine gwC ?_ ?_<;>(intro hb;try (cases hb;done))))
    refine ⟨.inr rfl,by simp [results4],kpT G1F⟩
theorem zpj (L:List (Nat×Blk)) (ka ks:Nat) (bm bs:Blk) (hT:LKa L ka ks bm bs) (off n cap off2 N2 cap2:Nat) (fm fs:Nat→Int) (hm:MB bm off n fm) (hSb:SB bs off2 N2 fs) (g bx tp nr md st:Int) (hs:i64 st) (p q x:Int) (hp:i64 p) (hq:i64 q) (hx:i64 x) :
  Fun prog G1 4 #[cfV (.slice (some ⟨ka,off,none⟩) n cap) g bx tp nr md,.agg #[.int .i64 st,.slice (some ⟨ks,off2,none⟩) N2 cap2],.int .i64 p,.int .i64 q,.int .i64 x] (hpL G1 L) (zab L) (.ret (.bool true) []):=by
 cases hf:znb n N2 (ze8 n fm g bx tp nr md) (za7 st fs N2) with
 | false=>exact zsa L ka ks bm bs hT off n cap off2 N2 cap2 fm fs hm hSb g bx tp nr md st hs p q x (.inr (.inl hf))
 | true =>
  obtain ⟨rfl,hok,hrt⟩:=zev.1 hf
  cases hpt:zfl p q with
  | false=>exact zsa L ka ks bm bs hT off n cap off2 n cap2 fm fs hm hSb g bx tp nr md st hs p q x (.inr (.inr hpt))
  | true=>exact jfs L ka ks bm bs hT off n cap off2 cap2 fm fs hm hSb g bx tp nr md st hs p q x hok hrt hpt
theorem ziv (L:List (Nat×Blk)) (ka ks:Nat) (bm bs:Blk) (hT:LKa L ka ks bm bs) (off n cap:Nat) (fm:Nat→Int) (hm:MB bm off n fm) (hcap:n≤cap) (off2 N2 cap2:Nat) (fs:Nat→Int) (hSb:SB bs off2 N2 fs) (hcap2:N2≤cap2) (g bx tp nr md st p q x:Int) (_:i64 g) (_:i64 bx) (_:i64 tp) (_:i64 nr) (_:i64 md) (hs:i64 st) (hp:i64 p) (hq:i64 q) (hx:i64 x) :
  Fun prog G1 4 #[cfV (.slice (some ⟨ka,off,none⟩) n cap) g bx tp nr md,.agg #[.int .i64 st,.slice (some ⟨ks,off2,none⟩) N2 cap2],.int .i64 p,.int .i64 q,.int .i64 x] (hpL G1 L) (zab L) (.ret (.bool true) []) :=
 zpj L ka ks bm bs hT off n cap off2 N2 cap2 fm fs hm hSb g bx tp nr md st hs p q x hp hq hx
end Go.Gy
namespace Go.Gy
set_option linter.unusedSimpArgs false
set_option linter.unusedVariables false
set_option maxRecDepth 100000
open Go Go.RowKit Go.Proofs Go.ChangeShapes Go.WideShapes Go.ChangeAt

section
variable {H:Type} {enc:TypeId×Value→H} {P:Program}
theorem zmv {f:Func} {s:ChangeSpec} {apart fresh handsOn again:Bool} {W W':World} {args:Array Value} {v:Value} {ds gs:List (DataW H)} {before pa pv:List MemPlace}
  (hW:DataW.Whole enc P f.params.toList s.vars apart W args.toList ds gs before)
  (hres:∀ (b:Nat) (sp:Nat→Bool) (hd:Bool),DataW.TrodAll enc P W' b sp hd f.resultTypes.toList (v.resultList f.resultTypes.size) (s.fn H (ds++gs)).results [])
  (hargs:∀ sp:Nat→Bool,(∀ p∈before,sp p.block=true)→DataW.TrodAll enc P W' 0 sp true f.params.toList args.toList (s.fn H (ds++gs)).args pa)
  (hvars:∀ sp:Nat→Bool,(∀ p∈before,sp p.block=true)→DataW.TrodVars enc P W' sp s.vars (s.fn H (ds++gs)).vars pv)
  (hps:before=pa++pv) (hb:Below W.heap.size W W')
  (hok:∀ (j:Nat) (t:TypeId) (r:Value),f.resultTypes[j]? = some t→(v.resultList f.resultTypes.size)[j]? = some r→Value.okWide P W' .any 0 t r) :
  s.post enc P f apart fresh handsOn again W args v W':=by
 have hlt:∀ p∈before,p.block<W.heap.size:=fun p hp=>hW.lt p hp
 have hold:∀ p∈before,(fun b=>decide (b<W.heap.size)) p.block=true:=fun p hp=>by simpa using hlt p hp
 refine ⟨ds,gs,before,[],pa,pv,hW,hres _ _ _,hargs _ hold,hvars _ hold,World.keptBut_mono (fun p hp=>⟨hp,?_⟩) (hb.frame (·∈before)),fun _=>?_⟩
 ·rw [hps,List.mem_append] at hp
  exact Or.inr hp
 ·obtain ⟨_,_,_,_,_,hz,hn⟩:=hW
  refine ⟨hok,_,_,([]++pa)++pv,⟨[]++pa,pv,trodAll_append (hargs _ (fun _ _=>rfl)) (hres _ _ _),hvars _ (fun _ _=>rfl),rfl,?_,?_⟩,?_⟩
  ·intro b off hp
   have hin:MemPlace.cell b off∈before:=by rw [hps];simpa using hp
   rw [hb.frozen (hlt _ hin)]
   exact hz b off hin
  ·intro ha
   have:=hn ha
   rw [hps] at this
   simpa using this
  ·intro p hp _
   rw [hps]
   simpa using hp
end

theorem zwf:Tryz.prog.cellsOf 84=1:=by kernel_rfl
theorem ztu:Tryz.prog.cellsOf 86=4:=by kernel_rfl
theorem z55:IntKind.i64.min=-9223372036854775808∧IntKind.i64.max=9223372036854775807:=by decide
theorem zct {z:Int} (h:(Lit.int .i64 z).wf=true):i64 z:=by
 simp only [Lit.wf,Bool.and_eq_true,decide_eq_true_eq,z55.1,z55.2] at h;unfold i64;omega
section
variable {H:Type} {enc:TypeId×Value→H} {w:World}
end

theorem own:ownKnob Tryz.prog.godebug=none:=by kernel_rfl
theorem zg8 {P:Program} {W:World} {name:String} {g:Nat} {cs:Array Value} {z:Array Value} {T:TypeId} (hg:P.globalNamed name=some g) (hlt:g<P.globals.size) (hrow:((begin P (fun _ _=>0) default).world.heap[g]?).bind Obj.row? = some (z,T))
  (hS:W.ShapedOpen P) (hv:W.var? P name=some cs):W.heap[g]? = some (.cells cs T (0,0)):=by
 obtain ⟨c,h1,_⟩:=hS.1 g z T hlt hrow
 unfold World.var? at hv
 rw [hg] at hv
 simp only [Option.bind_some,h1,Option.some.injEq] at hv
 rw [h1,hv]
theorem z5i : Tryz.prog.globalNamed "gyre/quot.least" = some 2 := by kernel_rfl
theorem zt0:(Tryz.prog.globals[2]?).map (·.type)=some 86:=by kernel_rfl
theorem zwt:((begin Tryz.prog (fun _ _=>0) default).world.heap[2]?).bind Obj.row? = some (#[.int .u64 0,.int .u64 0,.int .u64 0,.int .u64 0],86):=by kernel_rfl
theorem z2h {W : World} {rest : List (String × DataW Unit)} (h : laidMet Tryz.prog (("gyre/quot.least", Proofs.YtmnknnojkhkceaaGreatDoor.Rows.laid_gyre_quot_least) :: rest) W) : W.var? Tryz.prog "gyre/quot.least" = some lsB.c :=
 Lib.tabIs_of_head (zs:=[0,0,0,9223372036854775808]) z5i zt0 Tryz.underlying86 Tryz.underlying84 zwf ztu h
theorem zme {H:Type} {enc:TypeId×Value→H} {P:Program} {w:World} {base:Nat} {sp:Nat→Bool} {held:Bool} {fuel:Nat} {t e:TypeId} {n:Nat} {cs:List Value} {ss:List (List UInt8)} {p:List MemPlace}
  (ht:P.underlying t=some (.array n e)) (he:P.underlying e=some .string) (hce:P.cellsOf e=1) (hct:P.cellsOf t=n)
  (h:DataW.trod enc P w base sp held fuel t cs=some (.agg (ss.map fun s=>.lit (.string s)),p)):cs=ss.map fun s=>Value.string ⟨s.toArray⟩:=by
 cases fuel with
 | zero=>simp [DataW.trod] at h
 | succ fuel =>
  simp only [DataW.trod,ht,hce,hct,Nat.mul_one] at h
  split at h
  ·rename_i hl
   obtain ⟨xs,hm,hx⟩:=Option.map_eq_some_iff.1 h
   have hxs:xs.map (·.1)=ss.map fun s=>(DataW.lit (.string s):DataW H):=by
    have:=congrArg Prod.fst hx
    simpa using this
   have hxl:xs.length=n:=by simpa using Lib.mapM_length hm
   have hzl:ss.length=n:=by
    have:=congrArg List.length hxs
    simp at this
    omega
   apply List.ext_getElem?
   intro i
   by_cases hi:i<n
   ·obtain ⟨b,hb,hf⟩:=Lib.mapM_at hm i i (by simp [hi])
    obtain ⟨s,hc,rfl,_⟩:=DataW.trod_string he hf
    have h1:cs[i]? = some (.string s):=by
     have:=congrArg (·[0]?) hc
     simpa [List.getElem?_take,List.getElem?_drop] using this
    have h2:(xs.map (·.1))[i]? = some (DataW.lit (.string s.data.toList):DataW H):=by simp [hb]
    rw [hxs] at h2
    simp only [List.getElem?_map,Option.map_eq_some_iff,DataW.lit.injEq,Lit.string.injEq] at h2
    obtain ⟨z',hz',rfl⟩:=h2
    simp [h1,hz']
   ·rw [List.getElem?_eq_none (by omega),List.getElem?_eq_none (by simp;omega)]
  ·cases h
theorem z5j : Tryz.prog.globalNamed "gyre/conf.names" = some 1 := by kernel_rfl
theorem zt1:(Tryz.prog.globals[1]?).map (·.type)=some 104:=by kernel_rfl
theorem zwe:Tryz.prog.cellsOf 9=1:=by kernel_rfl
theorem zpt:Tryz.prog.cellsOf 104=7:=by kernel_rfl
theorem zwu:((begin Tryz.prog (fun _ _=>0) default).world.heap[1]?).bind Obj.row? = some (#[.string ⟨#[]⟩,.string ⟨#[]⟩,.string ⟨#[]⟩,.string ⟨#[]⟩,.string ⟨#[]⟩,.string ⟨#[]⟩,.string ⟨#[]⟩],104):=by kernel_rfl
theorem z2r {W : World} {rest : List (String × DataW Unit)} (h : laidMet Tryz.prog (("gyre/conf.names", Proofs.YtmnknnojkhkceaaGreatDoor.Rows.laid_gyre_conf_names) :: rest) W) : W.var? Tryz.prog "gyre/conf.names" = some cnB.c := by
 obtain ⟨ps,⟨g',t',cs,fuel,p,q,hg',ht',hvar,hd,_,_⟩,_⟩:=h
 obtain rfl:=Option.some.inj (z5j.symm.trans hg')
 obtain rfl:=Option.some.inj (zt1.symm.trans ht')
 have h9:=zme (ss:=[[98,111,100,105,101,115],[109,97,115,115],[99,111,110,115,116,97,110,116],[98,111,120],[116,111,112],[110,101,97,114],[109,101,116,104,111,100]]) Tryz.underlying104 Tryz.underlying9 zwe zpt hd
 rw [hvar]
 congr 1
 exact Array.ext' h9
theorem zhh:Tryz.prog.cellsOf 3=1:=by kernel_rfl
theorem znq:Tryz.prog.cellsOf 31=3:=by kernel_rfl
theorem zk2:Tryz.prog.cellsOf 45=6:=by kernel_rfl
theorem ziw:Tryz.prog.cellsOf 25=1:=by kernel_rfl
theorem zpu:Tryz.prog.cellsOf 27=2:=by kernel_rfl
theorem zns:Tryz.prog.cellTypes Tryz.prog.depth 27=some [3,25]:=by kernel_rfl
section
variable {H:Type} {enc:TypeId×Value→H} {w:World} {base:Nat} {spare:Nat→Bool} {held:Bool}
theorem zo5 {fuel:Nat} {cs:List Value} {x:DataW H×List MemPlace} (h:DataW.trod enc Tryz.prog w base spare held fuel 31 cs=some x):cs.length=3∧∀ j,j<3→∃ z,cs[j]? = some (.int .i64 z)∧i64 z:=by
 obtain ⟨xs,m,_,rfl,hl,hxs,hi⟩:=DataW.trod_array Tryz.underlying31 h
 rw [znq] at hl
 refine ⟨hl,fun j hj=>?_⟩
 have h1:=hi j hj
 rw [zhh,Nat.mul_one,List.getElem?_eq_getElem (by omega)] at h1
 obtain ⟨z,e,_,hw⟩:=DataW.trod_int Tryz.underlying3 h1
 refine ⟨z,?_,zct hw⟩
 have:=congrArg (·[0]?) e
 simpa [List.getElem?_take,List.getElem?_drop] using this
theorem ztn {fuel:Nat} {cs:List Value} {x:DataW H×List MemPlace} (h:DataW.trod enc Tryz.prog w base spare held fuel 45 cs=some x):cs.length=6∧∀ j,j<6→∃ z,cs[j]? = some (.int .i64 z)∧i64 z:=by
 obtain ⟨y0,y1,n,rfl,hl,h0,h1⟩:=trod_struct2 Tryz.underlying45 h
 rw [zk2] at hl
 simp only [znq] at h0 h1
 refine ⟨hl,fun j hj=>?_⟩
 by_cases c:j<3
 ·obtain ⟨z,e,hz⟩:=(zo5 h0).2 j c
  refine ⟨z,?_,hz⟩
  simpa [List.getElem?_take,List.getElem?_drop,c] using e
 ·obtain ⟨z,e,hz⟩:=(zo5 h1).2 (j - 3) (by omega)
  refine ⟨z,?_,hz⟩
  rw [List.getElem?_take,if_pos (by omega),List.getElem?_drop,show 3+(j - 3)=j by omega] at e
  exact e
theorem zqf {fuel:Nat} {cs:List Value} {x:DataW H×List MemPlace} (h:DataW.trod enc Tryz.prog w 0 (fun _=>true) held fuel 25 cs=some x) :
  cs=[.slice none 0 0]∨∃ (a:Addr) (len cap:Nat) (f:Nat→Int),cs=[.slice (some a) len cap]∧len≤cap∧∀ j,j<6*cap→w.cell? (a.add j)=some (.int .i64 (f j))∧i64 (f j):=by
 rcases Deep.open_slice Tryz.underlying25 h with ⟨h0,_⟩|⟨a,len,cap,m,n,D,Pl,rfl,_,hlc,hcm,hm,_,hel⟩
 ·exact .inl h0
 right
 rw [if_pos rfl] at hm
 subst hm
 refine ⟨a,len,m,fun j=>match w.cell? (a.add j) with|some (.int _ z)=>z|_=>0,rfl,hlc,fun j hj=>?_⟩
 obtain ⟨cs',h1,h2⟩:=hel (j / 6) (by omega)
 rw [zk2] at h1
 obtain ⟨z,e,hz⟩:=(ztn h2).2 (j%6) (by omega)
 unfold World.cells? at h1
 rw [if_pos (Nat.zero_le _)] at h1
 have h3:=mapM_some_get h1 (j%6) (j%6) (List.getElem?_range (by omega))
 rw [e,Deep.add_add,show j / 6*6+j%6=j by omega] at h3
 dsimp only
 rw [h3]
 exact ⟨rfl,hz⟩
theorem zut {fits:TypeId→Bool} (h:fits 84=false) (d c o n:Nat):rowAt Tryz.prog fits d 84 c o n=false:=by
 cases d with
 | zero=>rfl
 | succ d=>simp [rowAt,h,Tryz.underlying84]
theorem zlt {fits:TypeId→Bool} (h:fits 84=false) (h2:fits 86=false) (d c o n:Nat):rowAt Tryz.prog fits d 86 c o n=false:=by
 cases d with
 | zero=>rfl
 | succ d=>simp [rowAt,h2,Tryz.underlying86,zut h]
theorem zxm (d c o n:Nat):liesAt Tryz.prog d 86 c o 45 n=false:=by
 cases d with
 | zero=>rfl
 | succ d =>
  unfold liesAt
  rw [zlt (by kernel_rfl) (by kernel_rfl),Tryz.underlying45]
  rfl
theorem zyz {fits:TypeId→Bool} (h:fits 9=false) (d c o n:Nat):rowAt Tryz.prog fits d 9 c o n=false:=by
 cases d with
 | zero=>rfl
 | succ d=>simp [rowAt,h,Tryz.underlying9]
theorem zkf {fits:TypeId→Bool} (h:fits 9=false) (h2:fits 104=false) (d c o n:Nat):rowAt Tryz.prog fits d 104 c o n=false:=by
 cases d with
 | zero=>rfl
 | succ d=>simp [rowAt,h2,Tryz.underlying104,zyz h]
theorem zt8 (d c o n:Nat):liesAt Tryz.prog d 104 c o 45 n=false:=by
 cases d with
 | zero=>rfl
 | succ d =>
  unfold liesAt
  rw [zkf (by kernel_rfl) (by kernel_rfl),Tryz.underlying45]
  rfl
theorem z65:∀ p∈G0L,∃ t,p.2.T=.ty t∧∀ d c o n,liesAt Tryz.prog d t c o 45 n=false:=by
 intro p hp
 unfold G0L at hp
 rcases List.mem_cons.1 hp with rfl|hp
 ·exact ⟨_,rfl,zxm⟩
 rcases List.mem_cons.1 hp with rfl|hp
 ·exact ⟨_,rfl,zt8⟩
 cases hp
structure StAt (W:World) (k off n cap:Nat) (b:Blk) (f:Nat→Int):Prop where
 le:n≤cap
 heap:W.heap[k]? = some b.obj0
 fx:b.fx
 raw:∃ c T fr,b=⟨c,.raw T fr⟩
 rd:rdI b off (6*cap) f
 i6:∀ j,j<6*cap→i64 (f j)
 lies:∃ row c,W.shape? k=some (row,c)∧liesAt Tryz.prog Tryz.prog.depth row (c / Tryz.prog.cellsOf row) off 45 cap=true
theorem StAt.sb {W:World} {k off n cap:Nat} {b:Blk} {f:Nat→Int} (h:StAt W k off n cap b f) (hn:n≤2932031007402):SB b off n f:=⟨h.rd.le (by have:=h.le;omega),h.fx,fun j hj=>h.i6 j (by have:=h.le;omega),hn⟩
theorem zuc {r:Reach} {b0:Nat} {v:Value} {d:DataW H} {p:List MemPlace} (hv:Value.okWide Tryz.prog w r b0 27 v) (h:DataW.Trod enc Tryz.prog w 0 (fun _=>true) held 27 v d p) :
  ∃ st,i64 st∧(v=.agg #[.int .i64 st,.slice none 0 0]∨∃ (k off n cap:Nat) (b:Blk) (f:Nat→Int),v=.agg #[.int .i64 st,.slice (some ⟨k,off,none⟩) n cap]∧StAt w k off n cap b f):=by
 simp only [Value.okWide,Tryz.underlying27] at hv
 obtain ⟨cs,rfl,hsz,ts,hts,_,hall⟩:=hv
 rw [zns] at hts
 simp only [Option.some.injEq] at hts
 subst hts
 obtain ⟨fuel,hf⟩:=h
 obtain ⟨y0,y1,n,_,hl,h0,h1⟩:=trod_struct2 Tryz.underlying27 hf
 rw [zhh] at h0
 rw [ziw] at h1
 simp only [Value.cells] at h0 h1
 obtain ⟨st,e0,_,hw⟩:=DataW.trod_int Tryz.underlying3 h0
 rw [zpu] at hsz
 obtain ⟨c0,c1,rfl⟩:∃ c0 c1,cs=#[c0,c1]:=by
  obtain ⟨l⟩:=cs
  match l,hsz with
  | [c0,c1],_=>exact ⟨c0,c1,rfl⟩
 simp at e0
 subst e0
 refine ⟨st,zct hw,?_⟩
 rcases zqf h1 with e1|⟨a,len,cap,f,e1,hle,hc⟩
 ·simp at e1
  subst e1
  exact .inl rfl
 ·simp at e1
  subst e1
  right
  obtain ⟨u,hu,hok⟩:=hall 1 _ rfl
  simp at hu
  subst hu
  simp only [Cell.okWide,Cell.ok,Tryz.underlying25] at hok
  obtain ⟨_,_,_,hsp,row,cells,hsh,hlies⟩:=hok
  obtain ⟨k,off,sp⟩:=a
  simp only at hsp hsh hlies
  subst hsp
  have hsh':=hsh
  unfold World.shape? at hsh'
  split at hsh'
  ·rename_i c T fr hh
   simp only [Option.some.injEq,Prod.mk.injEq] at hsh'
   obtain ⟨rfl,rfl⟩:=hsh'
   refine ⟨k,off,len,cap,⟨c,.raw T fr⟩,f,rfl,hle,hh,trivial,⟨c,T,fr,rfl⟩,fun j hj=>?_,fun j hj=>(hc j hj).2,T,_,hsh,hlies⟩
   have h2:=(hc j hj).1
   rw [Addr.add_lit] at h2
   simpa [World.cell?,hh] using h2
  ·cases hsh'
end
theorem zh9 {H:Type} {enc:TypeId×Value→H} {P:Program} {base:Nat} (hl:laidOutB P=true) {W W':World} {sp':Nat→Bool}:∀ (ts:List TypeId) (vs:List Value) (ds:List (DataW H)) (ps:List MemPlace),(∀ t∈ts,P.readableRec t=true∧t<P.types.size) →
  DataW.TrodAll enc P W base (fun _=>true) true ts vs ds ps→(∀ p∈ps,W.sameAt W' p)→(∀ p∈ps,sp' p.block=true)→DataW.TrodAll enc P W' base sp' true ts vs ds ps
 | [],[],[],_,_,h,_,_=>h
 | t::_,_::_,_::_,_,hT,⟨p,q,h1,h2,e⟩,hm,hs=>⟨p,q,WideElems.Trod_stays hl (hT t (by simp)).1 (hT t (by simp)).2 h1 (fun x hx=>hm x (by rw [e];exact List.mem_append_left _ hx)) (fun x hx=>hs x (by rw [e];exact List.mem_append_left _ hx)),
   zh9 hl _ _ _ _ (fun t ht=>hT t (List.mem_cons_of_mem _ ht)) h2 (fun x hx=>hm x (by rw [e];exact List.mem_append_right _ hx)) (fun x hx=>hs x (by rw [e];exact List.mem_append_right _ hx)),e⟩
theorem z2f:laidOutB Tryz.prog=true:=by kernel_rfl
theorem ztp:Tryz.prog.bytesOf 45=48:=by kernel_rfl
theorem z44 {H:Type} {enc:TypeId×Value→H} {w:World} {held:Bool} {st:Int} {a:Addr} {n cap:Nat} {d:DataW H} {p:List MemPlace} (h:DataW.Trod enc Tryz.prog w 0 (fun _=>true) held 27 (.agg #[.int .i64 st,.slice (some a) n cap]) d p) (hw:∀ x∈d.weights Tryz.prog 27,x≤reachBytes):cap≤2932031007402:=by
 obtain ⟨fuel,hf⟩:=h
 obtain ⟨y0,y1,m,hx,hl,h0,h1⟩:=trod_struct2 Tryz.underlying27 hf
 rw [ziw] at h1
 simp only [Value.cells] at h1
 rcases Deep.open_slice Tryz.underlying25 h1 with ⟨e1,_⟩|⟨a',len,cap',m',n',D,Pl,e1,_,hlc,hcm,hm,hy1,_⟩
 ·simp at e1
 ·simp at e1
  obtain ⟨rfl,rfl,rfl⟩:=e1
  rw [if_pos rfl] at hm
  subst hm
  simp only [Prod.mk.injEq] at hx
  have hd:=hx.1
  rw [hd,hy1] at hw
  have:=hw ((n+(m' - n))*48) (by
   simp only [DataW.weights,Tryz.underlying27]
   simp [DataW.weightsEach,DataW.weights,Tryz.underlying25,ztp])
  unfold reachBytes at this
  omega
theorem StAt.ne {W:World} {k off n cap:Nat} {b:Blk} {f:Nat→Int} (h:StAt W k off n cap b f) (hg:GOK G0 W):∀ g c,G0 g=some c→k≠g:=fun g c hc e=>by
 have h1:=hg g c hc
 obtain ⟨t,ht,hl'⟩:=z65 _ (zre hc)
 obtain ⟨row,q,hsh,hl⟩:=h.lies
 rw [e] at hsh
 unfold World.shape? at hsh
 rw [h1] at hsh
 obtain ⟨cc,T⟩:=c
 simp only at ht
 subst ht
 simp only [Blk.obj0,Option.some.injEq,Prod.mk.injEq] at hsh
 obtain ⟨rfl,rfl⟩:=hsh
 rw [hl'] at hl
 cases hl
theorem zjz {P:Program} {G:Hp} {fn:FuncId} {args:Array Value} {b:Blk} {v:Value} {W:World} {k:Nat} (hGF:zbi G) (hF:Fun P G fn args (hpL G [(100,b)]) (zab [(100,b)]) (.ret v [])) (hv:zav v=true) (hgok:GOK G W) (hfx:b.fx) (hk:W.heap[k]? = some b.obj0) (hne:∀ g c,G g=some c→k≠g) :
  zd4 P fn (args.map (ren fun q=>if q=100 then k else q)) W fun e W'=>e=.returned v∧Below W.heap.size W W':=by
 have er:rst (hpL G [(100,b)]) (zab [(100,b)])=hpL G [(100,b)]:=LOk.rst hGF
 have hobj:∀ r,b.obj r=b.obj0:=fun r=>by
  obtain ⟨c,T⟩:=b
  cases T with
  | ty t=>exact Blk.obj_flat hfx
  | raw t fr=>rfl
  | mp=>exact hfx.elim
 have hmem:∀ q c,hpL G [(100,b)] q=some c→(q=100∧c=b)∨(q<100∧G q=some c):=fun q c hq=>by
  rcases za5 hq with h|h
  ·simp at h;exact .inl h
  ·exact .inr ⟨(hGF q c h).1,h⟩
 have hrun:=hF.run (fun q=>if q=100 then k else q) W hgok ?_ ?_ ?_
 ·refine hrun.mono fun e W' h=>?_
  obtain ⟨he,ht⟩:=h
  rw [zau hv] at he
  exact ⟨he,ht.os,ht.tape,ht.output,ht.size,fun q hq=>ht.same q hq (by simp)⟩
 ·rw [er]
  intro q c hq
  rcases hmem q c hq with ⟨rfl,rfl⟩|⟨hlt,hG⟩
  ·exact ⟨by simp only [if_true];rw [hobj];exact hk,Blk.fx_ids hfx _⟩
  ·refine ⟨?_,Blk.flat_ids (hGF q c hG).2⟩
   have e1:(fun q=>if q=100 then k else q) q=q:=if_neg (by omega)
   rw [e1,hgok q c hG]
   congr 1
   obtain ⟨cc,T⟩:=c
   cases T with
   | ty t=>exact (Blk.obj_flat (hGF q _ hG).2).symm
   | raw t fr=>rfl
   | mp=>exact (Blk.obj_flat (hGF q _ hG).2).symm
 ·rw [er]
  intro q q' hq hq' e
  have e:(if q=100 then k else q)=if q'=100 then k else q':=e
  unfold dom at hq hq'
  cases h1:hpL G [(100,b)] q with
  | none=>exact absurd h1 hq
  | some c =>
   cases h2:hpL G [(100,b)] q' with
   | none=>exact absurd h2 hq'
   | some c' =>
    rcases hmem q c h1 with ⟨rfl,_⟩|⟨hlt,hG⟩<;>rcases hmem q' c' h2 with ⟨rfl,_⟩|⟨hlt',hG'⟩
    ·rfl
    ·rw [if_pos rfl,if_neg (by omega)] at e;exact absurd e (hne _ _ hG')
    ·rw [if_neg (by omega),if_pos rfl] at e;exact absurd e.symm (hne _ _ hG)
    ·rw [if_neg (by omega),if_neg (by omega)] at e;exact e
 ·intro q hq _
  exact if_neg (by omega)
section
variable {H:Type} {enc:TypeId×Value→H} {w:World} {base:Nat} {spare:Nat→Bool} {held:Bool}
end
theorem z3k {W:World} {k:Nat} {b b':Blk} (h:W.heap[k]? = some b.obj0) (h':W.heap[k]? = some b'.obj0) (r:∃ c T fr,b=⟨c,.raw T fr⟩) (r':∃ c T fr,b'=⟨c,.raw T fr⟩):b=b':=by
 obtain ⟨c,T,fr,rfl⟩:=r
 obtain ⟨c',T',fr',rfl⟩:=r'
 rw [h] at h'
 simp only [Blk.obj0,Option.some.injEq,Obj.cells.injEq] at h'
 obtain ⟨rfl,rfl,rfl⟩:=h'
 rfl
theorem je4 {P:Program} {G:Hp} {fn:FuncId} {args:Array Value} {L:List (Nat×Blk)} {v:Value} {W:World} (r:Nat→Nat) (hGF:zbi G) (hF:Fun P G fn args (hpL G L) (zab L) (.ret v [])) (hv:zav v=true) (hgok:GOK G W) (hL:LOk L 200) (hfx:∀ p∈L,p.2.fx)
  (hr:∀ p∈L,W.heap[r p.1]? = some p.2.obj0) (hne:∀ p∈L,∀ g c,G g=some c→r p.1≠g) (hinj:∀ p∈L,∀ q∈L,r p.1=r q.1→p.1=q.1) (hlow:∀ q,q<100→r q=q) :
  zd4 P fn (args.map (ren r)) W fun e W'=>e=.returned v∧Below W.heap.size W W':=by
 have er:rst (hpL G L) (zab L)=hpL G L:=LOk.rst hGF
 have hobj:∀ (b:Blk),b.fx→∀ r,b.obj r=b.obj0:=fun b hb r=>by
  obtain ⟨c,T⟩:=b
  cases T with
  | ty t=>exact Blk.obj_flat hb
  | raw t fr=>rfl
  | mp=>exact hb.elim
 have hmem:∀ q c,hpL G L q=some c→(q,c)∈L∨(q<100∧G q=some c):=fun q c hq=>by
  rcases za5 hq with h|h
  ·exact .inl h
  ·exact .inr ⟨(hGF q c h).1,h⟩
 have hrun:=hF.run r W hgok ?_ ?_ ?_
 ·refine hrun.mono fun e W' h=>?_
  obtain ⟨he,ht⟩:=h
  rw [zau hv] at he
  exact ⟨he,ht.os,ht.tape,ht.output,ht.size,fun q hq=>ht.same q hq (by simp)⟩
 ·rw [er]
  intro q c hq
  rcases hmem q c hq with h|⟨hlt,hG⟩
  ·exact ⟨by rw [hobj c (hfx _ h)];exact hr _ h,Blk.fx_ids (hfx _ h) _⟩
  ·refine ⟨?_,Blk.flat_ids (hGF q c hG).2⟩
   rw [hlow q hlt,hgok q c hG]
   congr 1
   obtain ⟨cc,T⟩:=c
   cases T with
   | ty t=>exact (Blk.obj_flat (hGF q _ hG).2).symm
   | raw t fr=>rfl
   | mp=>exact (Blk.obj_flat (hGF q _ hG).2).symm
 ·rw [er]
  intro q q' hq hq' e
  unfold dom at hq hq'
  cases h1:hpL G L q with
  | none=>exact absurd h1 hq
  | some c =>
   cases h2:hpL G L q' with
   | none=>exact absurd h2 hq'
   | some c' =>
    rcases hmem q c h1 with h|⟨hlt,hG⟩<;>rcases hmem q' c' h2 with h'|⟨hlt',hG'⟩
    ·exact hinj _ h _ h' e
    ·rw [hlow q' hlt'] at e;exact absurd e (hne _ h _ _ hG')
    ·rw [hlow q hlt] at e;exact absurd e.symm (hne _ h' _ _ hG)
    ·rw [hlow q hlt,hlow q' hlt'] at e;exact e
 ·intro q hq _
  exact hlow q hq
def nmL (k k2 q:Nat):Nat:=if q=100 then k else if q=108 then k2 else q
theorem zxw (k k2 q:Nat) (h:q<100):nmL k k2 q=q:=by
 unfold nmL
 rw [if_neg (by omega),if_neg (by omega)]
@[simp] theorem jra (k k2:Nat):nmL k k2 100=k:=by simp [nmL]
@[simp] theorem jrb (k k2:Nat):nmL k k2 108=k2:=by simp [nmL]
theorem z8c {P:Program} {G:Hp} {fn:FuncId} {args:Nat→Array Value} {b b2:Blk} {v:Value} {W:World} {k k2:Nat} (hGF:zbi G) (hF:∀ L ks,LTwo G L ks b b2→Fun P G fn (args ks) (hpL G L) (zab L) (.ret v [])) (hv:zav v=true) (hgok:GOK G W)
  (h1:b.fx) (h2:b2.fx) (w1:W.heap[k]? = some b.obj0) (w2:W.heap[k2]? = some b2.obj0) (r1:∃ c T fr,b=⟨c,.raw T fr⟩) (r2:∃ c T fr,b2=⟨c,.raw T fr⟩) (n1:∀ g c,G g=some c→k≠g) (n2:∀ g c,G g=some c→k2≠g) {args':Array Value}
  (ha:∀ ks,ks=100∧k=k2∨ks=108→(args ks).map (ren (nmL k k2))=args'):zd4 P fn args' W fun e W'=>e=.returned v∧Below W.heap.size W W':=by
 by_cases e:k=k2
 ·subst e
  obtain rfl:=z3k w1 w2 r1 r2
  have:=je4 (nmL k k) hGF (hF _ _ (LTwo.one h1)) hv hgok (LTwo.one (G:=G) h1).ok (LTwo.one (G:=G) h1).fx (by simp [w1]) (by simp;exact n1) (by simp) (zxw k k)
  rwa [ha 100 (.inl ⟨rfl,rfl⟩)] at this
 ·have:=je4 (nmL k k2) hGF (hF _ _ (LTwo.two h1 h2)) hv hgok (LTwo.two (G:=G) h1 h2).ok (LTwo.two (G:=G) h1 h2).fx (by simp [w1,w2]) (by simp;exact ⟨n1,n2⟩) (by simp;exact ⟨fun h=>e h,fun h=>e h.symm⟩) (zxw k k2)
  rwa [ha 108 (.inr rfl)] at this
end Go.Gy
