/-
  Lemmas of this claim, in their order (GyGK, GyGL, GyGM, GyPC, GyFJ, GyFK, GyFA, GyU9, GyUA, GyUG, GyUI, GyRD, GyRE, GyRG, GyUJ, GyGP, GyGR, GyFM, GyGT, GyGV, GyPD, GyGW, GyH, GyHS, GyHP, GyHT, GyHC).
  Conditions: those of each theorem.
-/
import Derived.Test.YtmnknnojkhkceaaGreatDoorGz06
import Derived.Stop.LaidErr
import Derived.Test.YtmnknnojkhkceaaGreatDoorCards
import Derived.Test.YtmnknnojkhkceaaGreatDoorTie
import Derived.WalkKit
import Derived.ProofKit
import Derived.OpenShut
import Derived.Below
import Derived.ChangeSame
import Derived.Deep.DeepHandedRow
import Derived.Lib.LaidTab
import Derived.Deep.Slices
import Derived.ReadAgain
import Derived.Carry
import Derived.Deep.Strs
import Derived.ChangeSlices
set_option linter.unusedSimpArgs false
set_option linter.unusedVariables false
namespace Go.Gy
set_option linter.unusedSimpArgs false
set_option linter.unusedVariables false
open Go Go.RowKit Go.Proofs
theorem kvec_at {c:Nat} {g:Nat→Int} (i o:Nat) (a0 a1 a2:Int) (hc:i<c) (ho:o=3*i) (h0:g (3*i)=a0) (h1:g (3*i+1)=a1) (h2:g (3*i+2)=a2):loadK Tryz.prog 31 ⟨fa (3*c) .i64 g,.ty 31⟩ o=some (.agg #[.int .i64 a0,.int .i64 a1,.int .i64 a2]):=by
 subst h0 h1 h2
 rw [ho,show 3*i=i*3 by omega,kvec_ld (n:=c) (Nat.le_refl _) hc,show i*3=3*i by omega]
theorem kbody_at {M n:Nat} {g F:Nat→Int} (hM:6*n≤M) (hg:∀ j,j<6*n→g j=F j) (i o:Nat) (a0 a1 a2:Int) (hi:i<n) (ho:o=6*i+3) (h0:F (6*i+3)=a0) (h1:F (6*i+3+1)=a1) (h2:F (6*i+3+2)=a2):loadK Tryz.prog 31 ⟨fa M .i64 g,.ty 45⟩ o=some (.agg #[.int .i64 a0,.int .i64 a1,.int .i64 a2]):=by
 have:=loadK_rd (P:=Tryz.prog) (T:=31) (m:=3) (j:=6*i+3) (tyAgg_of Tryz.isAgg31) (tySize_of Tryz.sizeOf31) (by omega) (rdI_fa M g (.ty 45)) (by omega)
 rw [Nat.zero_add] at this
 rw [ho,this,fa_3,hg _ (by omega),hg _ (by omega),hg _ (by omega),h0,h1,h2]
theorem kwM_rn {ρ:Nat→Nat}:kwM.rn ρ=kwM:=Blk.fx_rn kwM_fx ρ
theorem kwS_rn {ρ:Nat→Nat}:kwS.rn ρ=kwS:=Blk.fx_rn kwS_fx ρ
theorem kwT_rn {ρ:Nat→Nat}:kwT.rn ρ=kwT:=Blk.fx_rn kwT_fx ρ
theorem kwZ_rn {ρ:Nat→Nat}:kwZ.rn ρ=kwZ:=Blk.fx_rn kwZ_fx ρ
theorem kw_tyB:tyB Tryz.prog 45=some 48:=by kernel_rfl
def w6N:List (Nat×Nat):=[(0,59),(1,60),(2,61),(3,62),(4,63),(5,64),(6,65),(7,66),(8,67),(9,68),(10,69),(11,70),(12,71),(13,72),(14,73),(15,74),(16,75),(17,76),(18,77),(19,78),(20,79),(21,80),(22,81),(23,82),(24,83),(25,84),(26,85),(27,86),(28,87),(29,88),(30,89),(31,90),(32,91),(33,92),(34,93),(35,94),(36,95),(37,96),(38,97),(39,98),(40,99),(41,100),(42,101),(43,102),(44,103),(45,104),(46,105),(47,106),(48,107),(49,108),(50,109),(51,110),(52,111),(53,112),(54,113),(55,114),(56,115),(57,116),(58,117),(59,118),(60,119),(61,120),(62,121),(63,122),(64,123),(65,124),(66,125),(67,126),(68,127),(69,0)]
def w6X:List (Nat×Nat):=[(48,1112)]
def w6D:List (Nat×Nat):=[(49,48),(50,48)]
def w6V (cL cO MO:Nat) (gL gO:Nat→Int)  : Nat→Value
 | 0=>.int .i64 0
 | 1=>.bool true
 | 2=>.bool true
 | 3=>.slice (some ⟨288,0,none⟩) 2 cL
 | 4=>.pointer (some ⟨288,0,none⟩)
 | 5=>.agg #[.int .i64 2,.int .i64 0,.int .i64 0]
 | 6=>.agg #[.int .i64 2,.int .i64 0,.int .i64 0]
 | 7=>.bool true
 | 8=>.bool true
 | 9=>.bool true
 | 10=>.slice (some ⟨288,0,none⟩) 2 cL
 | 11=>.pointer (some ⟨288,3,none⟩)
 | 12=>.agg #[.int .i64 (-1),.int .i64 0,.int .i64 0]
 | 13=>.agg #[.int .i64 (-1),.int .i64 0,.int .i64 0]
 | 14=>.bool true
 | 15=>.bool true
 | 16=>.bool true
 | 17=>.int .i64 0
 | 18=>.bool true
 | 19=>.bool true
 | 20=>.bool true
 | 21=>.pointer (some ⟨384,1,none⟩)
 | 22=>.slice (some ⟨352,0,none⟩) 2 cO
 | 23=>.pointer (some ⟨352,6,none⟩)
 | 24=>.pointer (some ⟨352,9,none⟩)
 | 25=>.agg #[.int .i64 6,.int .i64 0,.int .i64 0]
 | 26=>.agg #[.int .i64 6,.int .i64 0,.int .i64 0]
 | 27=>.bool true
 | 28=>.bool true
 | 29=>.bool true
 | 30=>.pointer (some ⟨384,1,none⟩)
 | 31=>.slice (some ⟨352,0,none⟩) 2 cO
 | 32=>.pointer (some ⟨352,0,none⟩)
 | 33=>.pointer (some ⟨352,3,none⟩)
 | 34=>.agg #[.int .i64 (-2),.int .i64 0,.int .i64 0]
 | 35=>.agg #[.int .i64 (-2),.int .i64 0,.int .i64 0]
 | 36=>.bool true
 | 37=>.bool true
 | 38=>.bool true
 | 39=>.int .i64 2
 | 40=>.bool true
 | 41=>.bool true
 | 42=>.bool true
 | 43=>.int .i64 30
 | 44=>.bool true
 | 45=>.bool true
 | 46=>.bool true
 | 47=>.agg #[.slice (some ⟨624,0,none⟩) 1 1,.int .i64 1,.int .i64 1,.int .i64 1,.int .i64 1,.int .i64 0]
 | 48=>.slice (some ⟨1112,0,none⟩) 1 1
 | 49=>.agg #[.int .i64 0,.slice (some ⟨1112,0,none⟩) 1 1]
 | 50=>.bool true
 | 51=>.bool true
 | 52=>.bool true
 | 53=>.agg #[.slice (some ⟨208,0,none⟩) 2 2,.int .i64 100,.int .i64 1000,.int .i64 1000,.int .i64 2,.int .i64 0]
 | 54=>.agg #[.int .i64 0,.slice (some ⟨209,0,none⟩) 2 2]
 | 55=>.bool false
 | 56=>.bool true
 | 57=>.bool true
 | 58=>.bool true
 | 59=>.agg #[.slice (some ⟨208,0,none⟩) 2 2,.int .i64 100,.int .i64 1000,.int .i64 1000,.int .i64 2,.int .i64 0]
 | 60=>.agg #[.int .i64 0,.slice (some ⟨209,0,none⟩) 2 2]
 | 61=>.bool true
 | 62=>.bool true
 | 63=>.bool true
 | 64=>.agg #[.slice (some ⟨624,0,none⟩) 1 1,.int .i64 1,.int .i64 1,.int .i64 1,.int .i64 1,.int .i64 0]
 | 65=>.agg #[.int .i64 0,.slice (some ⟨209,0,none⟩) 2 2]
 | 66=>.bool false
 | 67=>.bool true
 | 68=>.bool true
 | 69=>.bool true
 | _=>.bool true
def w6Bk (cL cO MO:Nat) (gL gO:Nat→Int)  : Nat→Blk
 | 48=>kwZ
 | _=>⟨#[],.mp⟩
structure w6F (cL cO MO:Nat) (gL gO:Nat→Int) (ts0:Nat→Value) (hp0:Hp):Prop where
 e1:ts0 1=.pointer (some ⟨240,0,none⟩)
 e2:ts0 2=.pointer (some ⟨248,0,none⟩)
 e3:ts0 3=.slice (some ⟨288,0,none⟩) 2 cL
 e4:ts0 4=.int .i64 0
 e5:ts0 5=.pointer (some ⟨384,0,none⟩)
 e6:ts0 6=.int .i64 0
 e8:ts0 8=.int .i64 2
 e11:ts0 11=.int .i64 30
 e12:ts0 12=.pointer (some ⟨640,0,none⟩)
 b240:hp0 240=some (⟨#[.slice (some ⟨208,0,none⟩) 2 2,.int .i64 100,.int .i64 1000,.int .i64 1000,.int .i64 2,.int .i64 0],.ty 24⟩)
 b248:hp0 248=some (⟨#[.int .i64 0,.slice (some ⟨209,0,none⟩) 2 2],.ty 27⟩)
 b288:hp0 288=some (⟨fa (3*cL) .i64 gL,.ty 31⟩)
 b384:hp0 384=some (⟨#[.int .i64 0,.slice (some ⟨352,0,none⟩) 2 cO],.ty 27⟩)
 b352:hp0 352=some (⟨fa MO .i64 gO,.ty 45⟩)
 b640:hp0 640=some (⟨#[.slice (some ⟨624,0,none⟩) 1 1,.int .i64 1,.int .i64 1,.int .i64 1,.int .i64 1,.int .i64 0],.ty 24⟩)
 b624:hp0 624=some (kwT)
 b208:hp0 208=some (kwM)
 b209:hp0 209=some (kwS)
 low:∀ k,k<100→hp0 k=G1 k
theorem w6N1:(w6N.map Prod.fst).Nodup:=by decide +kernel
theorem w6N2:(w6N.map Prod.snd).Nodup:=by decide +kernel
theorem w6X1:(w6X.map Prod.fst).Nodup:=by decide +kernel
theorem w6X200:∀ k,k<200→k∉w6X.map Prod.snd:=fun k hk=>by simp [w6X];try omega
set_option maxRecDepth 100000 in
set_option maxHeartbeats 16000000 in
theorem wakes16_ret:Ret Tryz.prog G1 8 #[] (.bool true):=by
 refine ret_of G1F Tryz.func8 rfl Tryz.call8 rfl (by simp) (by simp [Tryz.ntmps8]) ?_
 intro C hC hC0 hY
 have hT2:=LKa.two kwM_fx kwS_fx
 have hT3:=LKa.two kwT_fx kwZ_fx
 have hTF:=LKa.two kwT_fx kwS_fx
 have dKi:=(kkicks_ok _ 100 108 kwM kwS hT2 0 2 2 0 2 kwm kwb kwM_mb kwS_sb 100 1000 1000 2 0 0 (by decide) 1 1 kw_ok kw_rt (by decide) kw_any).own3 (args':=#[cfV (.slice (some ⟨208,0,none⟩) 2 2) 100 1000 1000 2 0,.agg #[.int .i64 0,.slice (some ⟨209,0,none⟩) 2 2],.int .i64 1,.int .i64 1]) kwM_fx kwS_fx 208 209 288 (by omega) (by omega) (by omega) (by omega) (by omega) (by omega) (fun v ns=>kkR_key) (by simp [cfV,ren,renA,renF,ren0,r3n_a,r3n_b]) (kkR_rr r3n_k _ _)
 have hKb:=kkicks_b1 _ 100 108 kwM kwS hT2 0 2 2 0 2 kwm kwb kwM_mb kwS_sb 100 1000 1000 2 0 0 (by decide) 1 0 kw_ok kw_rt (by decide)
 have dKk:=(kick_ok _ 100 108 kwM kwS hT2 0 2 2 0 2 kwm kwb kwM_mb kwS_sb (by omega) 100 1000 1000 2 0 0 (by decide) (-1) 1 kw_ok kw_rt (by decide) kw_any kw_rc).own3 (args':=#[cfV (.slice (some ⟨208,0,none⟩) 2 2) 100 1000 1000 2 0,.agg #[.int .i64 0,.slice (some ⟨209,0,none⟩) 2 2],.int .i64 (-1),.int .i64 1]) kwM_fx kwS_fx 208 209 352 (by omega) (by omega) (by omega) (by omega) (by omega) (by omega) (fun v ns=>ownT_key) (by simp [cfV,ren,renA,renF,ren0,r3n_a,r3n_b]) (ownT_rr r3n_k _ _ _ _)
 have dOw:=kown10_nm 209 480 (by omega) (by omega) (by omega) kwS 0 2 2 kwb kwS_sb (by omega) 0
 have hS1:=kstill_ok _ 100 108 kwT kwZ hT3 0 1 1 0 1 (fun _=>3) (fun _=>0) kwT_mb kwZ_sb 1 1 1 1 0 0 (by decide) 7 1 kwT_ok kwZ_rt (by decide) kwZ_any
 have hS2:=kstill_ok _ 100 108 kwM kwS hT2 0 2 2 0 2 kwm kwb kwM_mb kwS_sb 100 1000 1000 2 0 0 (by decide) 1 1 kw_ok kw_rt (by decide) kw_any
 rw [kw_nz1] at hS1
 rw [kw_nz] at hS2
 have hF1:=kFits_ka _ 100 108 kwM kwS hT2 0 2 2 0 2 2 kwm kwb kwM_mb kwS_sb 100 1000 1000 2 0 0 (by decide)
 have hF2:=kFits_ka _ 100 108 kwT kwS hTF 0 1 1 0 2 2 (fun _=>3) kwb kwT_mb kwS_sb 1 1 1 1 0 0 (by decide)
 rw [fitB_iff.2 ⟨rfl,kw_ok,kw_rt⟩] at hF1
 have e2:fitB 1 2 (cfOk 1 (fun _=>3) 1 1 1 1 0) (rightB 0 kwb 2)=false:=by decide
 rw [e2] at hF2
 clear e2
 unfold cfV at dKi hKb dKk hS1 hS2 hF1 hF2
 repeat' (first|refine gwA ?_|(refine gwX ?_;intro Q hQ hP;simp [hC,hY];refine hQ _ _ _ _ (by kernel_rfl) ?_;clear hQ hP Q)|(refine gwC ?_ ?_<;>(intro hb;try (cases hb;done))))
 refine GW_list ?_
 simp only [Array.toList]
 refine GL_callL (f:=.func 25) (cap:=#[]) hC (two_at 208 (by omega)) rfl (by simp) rfl rfl (by simp [okT]) (by simp [gev]) (by simp) (by simp [okX,junk]) (by simp [gev]) (by simp [putT,updL]) (by (intro k hk;first|rfl|(simp (disch:=omega) only [addB,List.mem_cons,List.not_mem_nil,or_false,upd_other,hpL_cons,hpL_nil,if_neg,updL]<;>done))) ?_ ?_
 ·intro v ns hV k hk
  have:=twoR_key hV k hk
  omega
 rintro v ns ⟨rfl,rfl⟩
 refine GL_walk 7 [] rfl (by simp) (by kernel_rfl) ?_;intro q hq;simp [hC,hY,putT,updL,cfV];refine hq _ _ _ _ ?_;clear hq q
 simp only [wT,List.length_cons,List.length_nil,Nat.reduceAdd]
 refine GL_nil ?_
 repeat' (first|refine gwA ?_|(refine gwX ?_;intro Q hQ hP;simp [hC,hY,putT,updL];refine hQ _ _ _ _ (by kernel_rfl) ?_;clear hQ hP Q)|(refine gwC ?_ ?_<;>(intro hb;try (cases hb;done))))
 refine GW_list ?_
 simp only [Array.toList]
 refine GL_walk 2 [] rfl (by simp) (by kernel_rfl) ?_;intro q hq;simp [hC,hY,putT,updL];refine hq _ _ _ _ ?_;clear hq q
 simp only [wT,List.length_cons,List.length_nil,Nat.reduceAdd]
 refine GL_callL (f:=.func 11) (cap:=#[]) hC dKi rfl (by simp) rfl rfl (by simp [okT]) (by simp [gev]) (by simp) (by simp [okX,junk]) (by simp [gev]) (by simp [putT,updL]) (by (intro k hk;first|rfl|(simp (disch:=omega) only [addB,List.mem_cons,List.not_mem_nil,or_false,upd_other,hpL_cons,hpL_nil,if_neg,updL]<;>done))) ?_ ?_
 ·intro v ns hV k hk
  have:=kkR_key hV k hk
  omega
 rintro v ns ⟨cL,gL,lc,lg,rfl,rfl⟩
 refine GL_walk 5 [] rfl (by simp) (by kernel_rfl) ?_;intro q hq;simp [hC,hY,putT,updL,cfV];refine hq _ _ _ _ ?_;clear hq q
 simp only [wT,List.length_cons,List.length_nil,Nat.reduceAdd]
 refine GL_nil ?_
 repeat' (first|refine gwA ?_|(refine gwX ?_;intro Q hQ hP;simp [hC,hY,putT,updL];refine hQ _ _ _ _ (by kernel_rfl) ?_;clear hQ hP Q)|(refine gwC ?_ ?_<;>(intro hb;try (cases hb;done))))
 have hxr:=fun ρ=>Blk.fx_rn (fa_fx (3*cL) gL 31) ρ
 refine GW_list ?_
 simp only [Array.toList]
 refine GL_walk 2 [] rfl (by simp) (by kernel_rfl) ?_;intro q hq;simp [hC,hY,putT,updL];refine hq _ _ _ _ ?_;clear hq q
 simp only [wT,List.length_cons,List.length_nil,Nat.reduceAdd]
 refine GL_callL (f:=.func 14) (cap:=#[]) hC dKk rfl (by simp) rfl rfl (by simp [okT]) (by simp [gev]) (by simp) (by simp [okX,junk]) (by simp [gev]) (by simp [putT,updL]) (by (intro k hk;first|rfl|(simp (disch:=omega) only [addB,List.mem_cons,List.not_mem_nil,or_false,upd_other,hpL_cons,hpL_nil,if_neg,updL]<;>done))) ?_ ?_
 ·intro v ns hV k hk
  have:=ownT_key hV k hk
  omega
 rintro v ns ⟨_,⟨cO,MO,gO,oc,oM,og,rfl,rfl⟩,rfl⟩
 refine GL_walk 6 [] rfl (by simp) (by kernel_rfl) ?_;intro q hq;simp [hC,hY,putT,updL,cfV];refine hq _ _ _ _ ?_;clear hq q
 simp only [wT,List.length_cons,List.length_nil,Nat.reduceAdd]
 refine GL_nil ?_
 repeat' (first|refine gwA ?_|((first|refine gwR [11] ?_|refine gwD [11] ?_);intro Q hQ hP;simp [hC,hY,putT,updL];(repeat ((first|(refine heapK_mv hKb G1F hT2.ok (fun k=>if k=100 then 208 else if k=108 then 209 else k) (fun k hk=>(if_neg (by omega)).trans (if_neg (by omega))) ?_ (by simp) (by simp [kwM_rn,kwS_rn,kwT_rn,kwZ_rn,hxr]<;>(try simp [kwM,kwS,kwT,kwZ])) (by simp [keys]) (by simp [keys];rfl) ?_;focus (simp [ren,renA,renF,ren0];done)));try simp [hC,hY,putT,updL]));refine hQ _ _ _ _ (by kernel_rfl) ?_;clear hQ hP Q)|(refine gwC ?_ ?_<;>(intro hb;try (cases hb;done))))
 refine GW_list ?_
 simp only [Array.toList]
 refine GL_walk 1 [] rfl (by simp) (by kernel_rfl) ?_;intro q hq;simp [hC,hY,putT,updL];refine hq _ _ _ _ ?_;clear hq q
 simp only [wT,List.length_cons,List.length_nil,Nat.reduceAdd]
 refine GL_callL (f:=.func 22) (cap:=#[]) hC dOw rfl (by simp) rfl rfl (by simp [okT]) (by simp [gev]) (by simp) (by simp [okX,junk]) (by simp [gev]) (by simp [putT,updL]) (by (intro k hk;first|rfl|(simp (disch:=omega) only [addB,List.mem_cons,List.not_mem_nil,or_false,upd_other,hpL_cons,hpL_nil,if_neg,updL]<;>done))) ?_ ?_
 ·intro v ns hV k hk
  have:=ownS_key hV k hk
  omega
 rintro v ns ⟨cX,MX,gX,xc,xM,xg,rfl,rfl⟩
 refine GL_walk 2 [] rfl (by simp) (by kernel_rfl) ?_;intro q hq;simp [hC,hY,putT,updL,cfV];refine hq _ _ _ _ ?_;clear hq q
 simp only [wT,List.length_cons,List.length_nil,Nat.reduceAdd]
 refine GL_nil ?_
 have m9:6+3≤MX:=by omega
 have m9':9≤MX:=by omega
 have x2:1<cX:=by omega
 have o2:1<cO:=by omega
 have hXx:∀ j,j<6*2→put3 gX 6 0 0 0 j=kwx j:=fun j hj=>by
  unfold put3
  have hj9:=xg j hj
  rw [hj9]
  have:j=0∨j=1∨j=2∨j=3∨j=4∨j=5∨j=6∨j=7∨j=8∨j=9∨j=10∨j=11:=by omega
  rcases this with rfl|rfl|rfl|rfl|rfl|rfl|rfl|rfl|rfl|rfl|rfl|rfl<;>rfl
 have hSx:SB ⟨fa MX .i64 (put3 gX 6 0 0 0),.ty 45⟩ 0 2 kwx:=kown_sb xM hXx (fun j hj=>by
  have:j=0∨j=1∨j=2∨j=3∨j=4∨j=5∨j=6∨j=7∨j=8∨j=9∨j=10∨j=11:=by omega
  rcases this with rfl|rfl|rfl|rfl|rfl|rfl|rfl|rfl|rfl|rfl|rfl|rfl<;>decide) (by omega)
 have hTX:=LKa.two kwM_fx hSx.fx
 have hOn:=kone_z _ 100 108 kwM _ hTX 0 2 2 0 cX kwm kwx kwM_mb hSx 100 1000 1000 2 0 0 (by decide) 1 1 1 kw_ok kw_rx (by decide) 1 (by omega) rfl kw_zx
 have hxr:=fun ρ=>Blk.fx_rn hSx.fx ρ
 unfold cfV at hOn
 obtain ⟨f0,f1,f2,f3,f4,f5⟩:=kw_F
 have l2:1<cL:=by omega
 have l1:0<cL:=by omega
 have v0:=kvec_at (c:=cL) (g:=gL) 0 0 2 0 0 l1 rfl ((lg _ (by omega)).trans f0) ((lg _ (by omega)).trans f1) ((lg _ (by omega)).trans f2)
 have v1:=kvec_at (c:=cL) (g:=gL) 1 3 (-1) 0 0 l2 rfl ((lg _ (by omega)).trans f3) ((lg _ (by omega)).trans f4) ((lg _ (by omega)).trans f5)
 have b0:=kbody_at (M:=MO) (g:=gO) oM og 0 3 (-2) 0 0 (by omega) rfl (kw_cF _ (by omega)) (kw_cF _ (by omega)) (kw_cF _ (by omega))
 have b1:=kbody_at (M:=MO) (g:=gO) oM og 1 9 6 0 0 (by omega) rfl (kw_cF _ (by omega)) (kw_cF _ (by omega)) (kw_cF _ (by omega))
 have tyb:=kw_tyB
 have e9:(((fa MX .i64 gX).setIfInBounds 6 (Value.int .i64 0)).setIfInBounds 7 (Value.int .i64 0)).setIfInBounds 8 (Value.int .i64 0)=fa MX .i64 (put3 gX 6 0 0 0):=by
  rw [fa_set,fa_set,fa_set]
  exact congrArg _ (put3_upd gX 6 0 0 0)
 repeat' (first|refine gwA ?_|((first|refine gwR [9] ?_|refine gwD [9] ?_);intro Q hQ hP;simp [hC,hY,putT,updL,m9,m9',x2,o2,e9];(repeat ((first|(refine heapK_mv hOn G1F hTX.ok (fun k=>if k=100 then 208 else if k=108 then 480 else k) (fun k hk=>(if_neg (by omega)).trans (if_neg (by omega))) ?_ (by simp) (by simp [kwM_rn,kwS_rn,kwT_rn,kwZ_rn,hxr]<;>(try simp [kwM,kwS,kwT,kwZ])) (by simp [keys]) (by simp [keys];rfl) ?_;focus (simp [ren,renA,renF,ren0];done)));try simp [hC,hY,putT,updL,m9,m9',x2,o2,e9]));refine hQ _ _ _ _ (by kernel_rfl) ?_;clear hQ hP Q)|(refine gwC ?_ ?_<;>(intro hb;try (cases hb;done))))
 refine GW_any follows ?_
 simp only [Array.toList,List.append_eq,List.cons_append,List.nil_append,List.length_cons,List.length_nil,Nat.reduceAdd]
 refine GA_gen (w6F cL cO MO gL gO) ?_ ?_
 ·refine ⟨by simp [putT,updL,kwT],by simp [putT,updL,kwT],by simp [putT,updL,kwT],by simp [putT,updL,kwT],by simp [putT,updL,kwT],by simp [putT,updL,kwT],by simp [putT,updL,kwT],by simp [putT,updL,kwT],by simp [putT,updL,kwT],by simp [putT,updL,kwT],by simp [putT,updL,kwT],by simp [putT,updL,kwT],by simp [putT,updL,kwT],by simp [putT,updL,kwT],by simp [putT,updL,kwT],by simp [putT,updL,kwT],by simp [putT,updL,kwT],by simp [putT,updL,kwT],?_⟩
  ·intro k hk
   simp (disch:=omega) only [upd_other,updL,hpL_cons,hpL_nil,if_neg]
 intro ts0 hp0 hF
 refine GA_ind (fun listed ts hp=>TJ w6N w6X w6D (w6V cL cO MO gL gO ) (w6Bk cL cO MO gL gO ) ts0 hp0 listed ts hp) (fun listed ts hp szR rdR hI=>?_) (fun fuel listed ts hp i szR hi hdep h hk=>?_) _ _ _ _ (by simp) (by decide +kernel) ?_
 ·have hall':=ready_nilB szR (by kernel_rfl) rdR
  have hall:∀ i,i<70→listed[i]? = some true:=fun i hi=>hall' i (by simpa using hi)
  skip
  have k0:ts 0=.bool true:=hI.tm (69,0) (by decide) (hall 69 (by omega))
  have clow:∀ k,k<100→hp k=G1 k:=fun k hk=>(hI.ext (w6X200 _ (by omega))).trans (hF.low k hk)
  simp only [thenG_normal]
  repeat' (first|refine gwA ?_|(refine gwX ?_;intro Q hQ hP;simp [hC,hY,k0];refine hQ _ _ _ _ (by kernel_rfl) ?_;clear hQ hP Q)|(refine gwC ?_ ?_<;>(intro hb;try (cases hb;done))))
  refine ⟨.inr trivial,?_⟩
  simp [Tryz.results8,k0]
 ·have hlt:i<70:=by
   have:=(Array.getElem?_eq_some_iff.1 hi).1
   rw [szR] at this
   simpa using this
  skip
  obtain rfl|rfl|rfl|rfl|rfl|rfl|rfl|rfl|rfl|rfl|rfl|rfl|rfl|rfl|rfl|rfl|rfl|rfl|rfl|rfl|rfl|rfl|rfl|rfl|rfl|rfl|rfl|rfl|rfl|rfl|rfl|rfl|rfl|rfl|rfl|rfl|rfl|rfl|rfl|rfl|rfl|rfl|rfl|rfl|rfl|rfl|rfl|rfl|rfl|rfl|rfl|rfl|rfl|rfl|rfl|rfl|rfl|rfl|rfl|rfl|rfl|rfl|rfl|rfl|rfl|rfl|rfl|rfl|rfl|rfl:i=0∨i=1∨i=2∨i=3∨i=4∨i=5∨i=6∨i=7∨i=8∨i=9∨i=10∨i=11∨i=12∨i=13∨i=14∨i=15∨i=16∨i=17∨i=18∨i=19∨i=20∨i=21∨i=22∨i=23∨i=24∨i=25∨i=26∨i=27∨i=28∨i=29∨i=30∨i=31∨i=32∨i=33∨i=34∨i=35∨i=36∨i=37∨i=38∨i=39∨i=40∨i=41∨i=42∨i=43∨i=44∨i=45∨i=46∨i=47∨i=48∨i=49∨i=50∨i=51∨i=52∨i=53∨i=54∨i=55∨i=56∨i=57∨i=58∨i=59∨i=60∨i=61∨i=62∨i=63∨i=64∨i=65∨i=66∨i=67∨i=68∨i=69:=by omega
  ·-- 0
   have vx4:ts 4=.int .i64 0:=(h.t0 4 (by decide)).trans hF.e4
   refine GO_walk [] rfl (by kernel_rfl) (by first|assumption|simp) ?_;intro q hq;simp [hC,hY,vx4,v0,v1,b0,b1,tyb,x2,o2,l1,l2];refine hq _ _ _ _ ?_;clear hq q
   exact hk _ _ (h.tmp w6N1 w6N2 hi (by simp [w6D]) (i:=0) (t:=59) (by decide) rfl (by decide))
  ·-- 1
   have hd0:=hdep _ rfl
   simp [Region.binds] at hd0
   have d0:listed[0]? = some true:=by simp [hd0]
   have vf0:ts 59=.int .i64 0:=h.tm (0,59) (by decide) d0
   refine GO_walk [] rfl (by kernel_rfl) (by first|assumption|simp) ?_;intro q hq;simp [hC,hY,vf0,v0,v1,b0,b1,tyb,x2,o2,l1,l2];refine hq _ _ _ _ ?_;clear hq q
   exact hk _ _ (h.tmp w6N1 w6N2 hi (by simp [w6D,d0]) (i:=1) (t:=60) (by decide) rfl (by decide))
  ·-- 2
   have hd0:=hdep _ rfl
   simp [Region.binds] at hd0
   have d1:listed[1]? = some true:=by simp [hd0]
   have vf1:ts 60=.bool true:=h.tm (1,60) (by decide) d1
   refine GO_walk [] rfl (by kernel_rfl) (by first|assumption|simp) ?_;intro q hq;simp [hC,hY,vf1,v0,v1,b0,b1,tyb,x2,o2,l1,l2];refine hq _ _ _ _ ?_;clear hq q
   exact hk _ _ (h.tmp w6N1 w6N2 hi (by simp [w6D,d1]) (i:=2) (t:=61) (by decide) rfl (by decide))
  ·-- 3
   have hd0:=hdep _ rfl
   simp [Region.binds] at hd0
   have d2:listed[2]? = some true:=by simp [hd0]
   have vf2:ts 61=.bool true:=h.tm (2,61) (by decide) d2
   have vx3:ts 3=.slice (some ⟨288,0,none⟩) 2 cL:=(h.t0 3 (by decide)).trans hF.e3
   refine GO_walk [] rfl (by kernel_rfl) (by first|assumption|simp) ?_;intro q hq;simp [hC,hY,vf2,vx3,v0,v1,b0,b1,tyb,x2,o2,l1,l2];refine hq _ _ _ _ ?_;clear hq q
   exact hk _ _ (h.tmp w6N1 w6N2 hi (by simp [w6D,d2]) (i:=3) (t:=62) (by decide) rfl (by decide))
  ·-- 4
   have hd0:=hdep _ rfl
   simp [Region.binds] at hd0
   have d2:listed[2]? = some true:=by simp [hd0]
   have d3:listed[3]? = some true:=by simp [hd0]
   have vf2:ts 61=.bool true:=h.tm (2,61) (by decide) d2
   have vf3:ts 62=.slice (some ⟨288,0,none⟩) 2 cL:=h.tm (3,62) (by decide) d3
   refine GO_walk [] rfl (by kernel_rfl) (by first|assumption|simp) ?_;intro q hq;simp [hC,hY,vf2,vf3,v0,v1,b0,b1,tyb,x2,o2,l1,l2];refine hq _ _ _ _ ?_;clear hq q
   exact hk _ _ (h.tmp w6N1 w6N2 hi (by simp [w6D,d2,d3]) (i:=4) (t:=63) (by decide) rfl (by decide))
  ·-- 5
   have hd0:=hdep _ rfl
   simp [Region.binds] at hd0
   have d2:listed[2]? = some true:=by simp [hd0]
   have d4:listed[4]? = some true:=by simp [hd0]
   have vf2:ts 61=.bool true:=h.tm (2,61) (by decide) d2
   have vf4:ts 63=.pointer (some ⟨288,0,none⟩):=h.tm (4,63) (by decide) d4
   have y288:hp 288=some (⟨fa (3*cL) .i64 gL,.ty 31⟩):=(h.ext (by decide)).trans hF.b288
   refine GO_walk [] rfl (by kernel_rfl) (by first|assumption|simp) ?_;intro q hq;simp [hC,hY,vf2,vf4,y288,v0,v1,b0,b1,tyb,x2,o2,l1,l2];refine hq _ _ _ _ ?_;clear hq q
   exact hk _ _ (h.tmp w6N1 w6N2 hi (by simp [w6D,d2,d4]) (i:=5) (t:=64) (by decide) rfl (by decide))
  ·-- 6
   have hd0:=hdep _ rfl
   simp [Region.binds] at hd0
   have d2:listed[2]? = some true:=by simp [hd0]
   have vf2:ts 61=.bool true:=h.tm (2,61) (by decide) d2
   refine GO_walk [] rfl (by kernel_rfl) (by first|assumption|simp) ?_;intro q hq;simp [hC,hY,vf2,v0,v1,b0,b1,tyb,x2,o2,l1,l2];refine hq _ _ _ _ ?_;clear hq q
   exact hk _ _ (h.tmp w6N1 w6N2 hi (by simp [w6D,d2]) (i:=6) (t:=65) (by decide) rfl (by decide))
  ·-- 7
   have hd0:=hdep _ rfl
   simp [Region.binds] at hd0
   have d2:listed[2]? = some true:=by simp [hd0]
   have d5:listed[5]? = some true:=by simp [hd0]
   have d6:listed[6]? = some true:=by simp [hd0]
   have vf2:ts 61=.bool true:=h.tm (2,61) (by decide) d2
   have vf5:ts 64=.agg #[.int .i64 2,.int .i64 0,.int .i64 0]:=h.tm (5,64) (by decide) d5
   have vf6:ts 65=.agg #[.int .i64 2,.int .i64 0,.int .i64 0]:=h.tm (6,65) (by decide) d6
   refine GO_walk [] rfl (by kernel_rfl) (by first|assumption|simp) ?_;intro q hq;simp [hC,hY,vf2,vf5,vf6,v0,v1,b0,b1,tyb,x2,o2,l1,l2];refine hq _ _ _ _ ?_;clear hq q
   exact hk _ _ (h.tmp w6N1 w6N2 hi (by simp [w6D,d2,d5,d6]) (i:=7) (t:=66) (by decide) rfl (by decide))
  ·-- 8
   have hd0:=hdep _ rfl
   simp [Region.binds] at hd0
   have d2:listed[2]? = some true:=by simp [hd0]
   have d7:listed[7]? = some true:=by simp [hd0]
   have vf2:ts 61=.bool true:=h.tm (2,61) (by decide) d2
   have vf7:ts 66=.bool true:=h.tm (7,66) (by decide) d7
   refine GO_walk [] rfl (by kernel_rfl) (by first|assumption|simp) ?_;intro q hq;simp [hC,hY,vf2,vf7,v0,v1,b0,b1,tyb,x2,o2,l1,l2];refine hq _ _ _ _ ?_;clear hq q
   exact hk _ _ (h.tmp w6N1 w6N2 hi (by simp [w6D,d2,d7]) (i:=8) (t:=67) (by decide) rfl (by decide))
  ·-- 9
   have hd0:=hdep _ rfl
   simp [Region.binds] at hd0
   have d8:listed[8]? = some true:=by simp [hd0]
   have vf8:ts 67=.bool true:=h.tm (8,67) (by decide) d8
   refine GO_walk [] rfl (by kernel_rfl) (by first|assumption|simp) ?_;intro q hq;simp [hC,hY,vf8,v0,v1,b0,b1,tyb,x2,o2,l1,l2];refine hq _ _ _ _ ?_;clear hq q
   exact hk _ _ (h.tmp w6N1 w6N2 hi (by simp [w6D,d8]) (i:=9) (t:=68) (by decide) rfl (by decide))
  ·-- 10
   have hd0:=hdep _ rfl
   simp [Region.binds] at hd0
   have d9:listed[9]? = some true:=by simp [hd0]
   have vf9:ts 68=.bool true:=h.tm (9,68) (by decide) d9
   have vx3:ts 3=.slice (some ⟨288,0,none⟩) 2 cL:=(h.t0 3 (by decide)).trans hF.e3
   refine GO_walk [] rfl (by kernel_rfl) (by first|assumption|simp) ?_;intro q hq;simp [hC,hY,vf9,vx3,v0,v1,b0,b1,tyb,x2,o2,l1,l2];refine hq _ _ _ _ ?_;clear hq q
   exact hk _ _ (h.tmp w6N1 w6N2 hi (by simp [w6D,d9]) (i:=10) (t:=69) (by decide) rfl (by decide))
  ·-- 11
   have hd0:=hdep _ rfl
   simp [Region.binds] at hd0
   have d9:listed[9]? = some true:=by simp [hd0]
   have d10:listed[10]? = some true:=by simp [hd0]
   have vf9:ts 68=.bool true:=h.tm (9,68) (by decide) d9
   have vf10:ts 69=.slice (some ⟨288,0,none⟩) 2 cL:=h.tm (10,69) (by decide) d10
   refine GO_walk [] rfl (by kernel_rfl) (by first|assumption|simp) ?_;intro q hq;simp [hC,hY,vf9,vf10,v0,v1,b0,b1,tyb,x2,o2,l1,l2];refine hq _ _ _ _ ?_;clear hq q
   exact hk _ _ (h.tmp w6N1 w6N2 hi (by simp [w6D,d9,d10]) (i:=11) (t:=70) (by decide) rfl (by decide))
  ·-- 12
   have hd0:=hdep _ rfl
   simp [Region.binds] at hd0
   have d9:listed[9]? = some true:=by simp [hd0]
   have d11:listed[11]? = some true:=by simp [hd0]
   have vf9:ts 68=.bool true:=h.tm (9,68) (by decide) d9
   have vf11:ts 70=.pointer (some ⟨288,3,none⟩):=h.tm (11,70) (by decide) d11
   have y288:hp 288=some (⟨fa (3*cL) .i64 gL,.ty 31⟩):=(h.ext (by decide)).trans hF.b288
   refine GO_walk [] rfl (by kernel_rfl) (by first|assumption|simp) ?_;intro q hq;simp [hC,hY,vf9,vf11,y288,v0,v1,b0,b1,tyb,x2,o2,l1,l2];refine hq _ _ _ _ ?_;clear hq q
   exact hk _ _ (h.tmp w6N1 w6N2 hi (by simp [w6D,d9,d11]) (i:=12) (t:=71) (by decide) rfl (by decide))
  ·-- 13
   have hd0:=hdep _ rfl
   simp [Region.binds] at hd0
   have d9:listed[9]? = some true:=by simp [hd0]
   have vf9:ts 68=.bool true:=h.tm (9,68) (by decide) d9
   refine GO_walk [] rfl (by kernel_rfl) (by first|assumption|simp) ?_;intro q hq;simp [hC,hY,vf9,v0,v1,b0,b1,tyb,x2,o2,l1,l2];refine hq _ _ _ _ ?_;clear hq q
   exact hk _ _ (h.tmp w6N1 w6N2 hi (by simp [w6D,d9]) (i:=13) (t:=72) (by decide) rfl (by decide))
  ·-- 14
   have hd0:=hdep _ rfl
   simp [Region.binds] at hd0
   have d9:listed[9]? = some true:=by simp [hd0]
   have d12:listed[12]? = some true:=by simp [hd0]
   have d13:listed[13]? = some true:=by simp [hd0]
   have vf9:ts 68=.bool true:=h.tm (9,68) (by decide) d9
   have vf12:ts 71=.agg #[.int .i64 (-1),.int .i64 0,.int .i64 0]:=h.tm (12,71) (by decide) d12
   have vf13:ts 72=.agg #[.int .i64 (-1),.int .i64 0,.int .i64 0]:=h.tm (13,72) (by decide) d13
   refine GO_walk [] rfl (by kernel_rfl) (by first|assumption|simp) ?_;intro q hq;simp [hC,hY,vf9,vf12,vf13,v0,v1,b0,b1,tyb,x2,o2,l1,l2];refine hq _ _ _ _ ?_;clear hq q
   exact hk _ _ (h.tmp w6N1 w6N2 hi (by simp [w6D,d9,d12,d13]) (i:=14) (t:=73) (by decide) rfl (by decide))
  ·-- 15
   have hd0:=hdep _ rfl
   simp [Region.binds] at hd0
   have d9:listed[9]? = some true:=by simp [hd0]
   have d14:listed[14]? = some true:=by simp [hd0]
   have vf9:ts 68=.bool true:=h.tm (9,68) (by decide) d9
   have vf14:ts 73=.bool true:=h.tm (14,73) (by decide) d14
   refine GO_walk [] rfl (by kernel_rfl) (by first|assumption|simp) ?_;intro q hq;simp [hC,hY,vf9,vf14,v0,v1,b0,b1,tyb,x2,o2,l1,l2];refine hq _ _ _ _ ?_;clear hq q
   exact hk _ _ (h.tmp w6N1 w6N2 hi (by simp [w6D,d9,d14]) (i:=15) (t:=74) (by decide) rfl (by decide))
  ·-- 16
   have hd0:=hdep _ rfl
   simp [Region.binds] at hd0
   have d15:listed[15]? = some true:=by simp [hd0]
   have vf15:ts 74=.bool true:=h.tm (15,74) (by decide) d15
   refine GO_walk [] rfl (by kernel_rfl) (by first|assumption|simp) ?_;intro q hq;simp [hC,hY,vf15,v0,v1,b0,b1,tyb,x2,o2,l1,l2];refine hq _ _ _ _ ?_;clear hq q
   exact hk _ _ (h.tmp w6N1 w6N2 hi (by simp [w6D,d15]) (i:=16) (t:=75) (by decide) rfl (by decide))
  ·-- 17
   have hd0:=hdep _ rfl
   simp [Region.binds] at hd0
   have d16:listed[16]? = some true:=by simp [hd0]
   have vf16:ts 75=.bool true:=h.tm (16,75) (by decide) d16
   have vx6:ts 6=.int .i64 0:=(h.t0 6 (by decide)).trans hF.e6
   refine GO_walk [] rfl (by kernel_rfl) (by first|assumption|simp) ?_;intro q hq;simp [hC,hY,vf16,vx6,v0,v1,b0,b1,tyb,x2,o2,l1,l2];refine hq _ _ _ _ ?_;clear hq q
   exact hk _ _ (h.tmp w6N1 w6N2 hi (by simp [w6D,d16]) (i:=17) (t:=76) (by decide) rfl (by decide))
  ·-- 18
   have hd0:=hdep _ rfl
   simp [Region.binds] at hd0
   have d16:listed[16]? = some true:=by simp [hd0]
   have d17:listed[17]? = some true:=by simp [hd0]
   have vf16:ts 75=.bool true:=h.tm (16,75) (by decide) d16
   have vf17:ts 76=.int .i64 0:=h.tm (17,76) (by decide) d17
   refine GO_walk [] rfl (by kernel_rfl) (by first|assumption|simp) ?_;intro q hq;simp [hC,hY,vf16,vf17,v0,v1,b0,b1,tyb,x2,o2,l1,l2];refine hq _ _ _ _ ?_;clear hq q
   exact hk _ _ (h.tmp w6N1 w6N2 hi (by simp [w6D,d16,d17]) (i:=18) (t:=77) (by decide) rfl (by decide))
  ·-- 19
   have hd0:=hdep _ rfl
   simp [Region.binds] at hd0
   have d16:listed[16]? = some true:=by simp [hd0]
   have d18:listed[18]? = some true:=by simp [hd0]
   have vf16:ts 75=.bool true:=h.tm (16,75) (by decide) d16
   have vf18:ts 77=.bool true:=h.tm (18,77) (by decide) d18
   refine GO_walk [] rfl (by kernel_rfl) (by first|assumption|simp) ?_;intro q hq;simp [hC,hY,vf16,vf18,v0,v1,b0,b1,tyb,x2,o2,l1,l2];refine hq _ _ _ _ ?_;clear hq q
   exact hk _ _ (h.tmp w6N1 w6N2 hi (by simp [w6D,d16,d18]) (i:=19) (t:=78) (by decide) rfl (by decide))
  ·-- 20
   have hd0:=hdep _ rfl
   simp [Region.binds] at hd0
   have d19:listed[19]? = some true:=by simp [hd0]
   have vf19:ts 78=.bool true:=h.tm (19,78) (by decide) d19
   refine GO_walk [] rfl (by kernel_rfl) (by first|assumption|simp) ?_;intro q hq;simp [hC,hY,vf19,v0,v1,b0,b1,tyb,x2,o2,l1,l2];refine hq _ _ _ _ ?_;clear hq q
   exact hk _ _ (h.tmp w6N1 w6N2 hi (by simp [w6D,d19]) (i:=20) (t:=79) (by decide) rfl (by decide))
  ·-- 21
   have hd0:=hdep _ rfl
   simp [Region.binds] at hd0
   have d20:listed[20]? = some true:=by simp [hd0]
   have vf20:ts 79=.bool true:=h.tm (20,79) (by decide) d20
   have vx5:ts 5=.pointer (some ⟨384,0,none⟩):=(h.t0 5 (by decide)).trans hF.e5
   refine GO_walk [] rfl (by kernel_rfl) (by first|assumption|simp) ?_;intro q hq;simp [hC,hY,vf20,vx5,v0,v1,b0,b1,tyb,x2,o2,l1,l2];refine hq _ _ _ _ ?_;clear hq q
   exact hk _ _ (h.tmp w6N1 w6N2 hi (by simp [w6D,d20]) (i:=21) (t:=80) (by decide) rfl (by decide))
  ·-- 22
   have hd0:=hdep _ rfl
   simp [Region.binds] at hd0
   have d20:listed[20]? = some true:=by simp [hd0]
   have d21:listed[21]? = some true:=by simp [hd0]
   have vf20:ts 79=.bool true:=h.tm (20,79) (by decide) d20
   have vf21:ts 80=.pointer (some ⟨384,1,none⟩):=h.tm (21,80) (by decide) d21
   have y384:hp 384=some (⟨#[.int .i64 0,.slice (some ⟨352,0,none⟩) 2 cO],.ty 27⟩):=(h.ext (by decide)).trans hF.b384
   refine GO_walk [] rfl (by kernel_rfl) (by first|assumption|simp) ?_;intro q hq;simp [hC,hY,vf20,vf21,y384,v0,v1,b0,b1,tyb,x2,o2,l1,l2];refine hq _ _ _ _ ?_;clear hq q
   exact hk _ _ (h.tmp w6N1 w6N2 hi (by simp [w6D,d20,d21]) (i:=22) (t:=81) (by decide) rfl (by decide))
  ·-- 23
   have hd0:=hdep _ rfl
   simp [Region.binds] at hd0
   have d20:listed[20]? = some true:=by simp [hd0]
   have d22:listed[22]? = some true:=by simp [hd0]
   have vf20:ts 79=.bool true:=h.tm (20,79) (by decide) d20
   have vf22:ts 81=.slice (some ⟨352,0,none⟩) 2 cO:=h.tm (22,81) (by decide) d22
   refine GO_walk [] rfl (by kernel_rfl) (by first|assumption|simp) ?_;intro q hq;simp [hC,hY,vf20,vf22,v0,v1,b0,b1,tyb,x2,o2,l1,l2];refine hq _ _ _ _ ?_;clear hq q
   exact hk _ _ (h.tmp w6N1 w6N2 hi (by simp [w6D,d20,d22]) (i:=23) (t:=82) (by decide) rfl (by decide))
  ·-- 24
   have hd0:=hdep _ rfl
   simp [Region.binds] at hd0
   have d20:listed[20]? = some true:=by simp [hd0]
   have d23:listed[23]? = some true:=by simp [hd0]
   have vf20:ts 79=.bool true:=h.tm (20,79) (by decide) d20
   have vf23:ts 82=.pointer (some ⟨352,6,none⟩):=h.tm (23,82) (by decide) d23
   refine GO_walk [] rfl (by kernel_rfl) (by first|assumption|simp) ?_;intro q hq;simp [hC,hY,vf20,vf23,v0,v1,b0,b1,tyb,x2,o2,l1,l2];refine hq _ _ _ _ ?_;clear hq q
   exact hk _ _ (h.tmp w6N1 w6N2 hi (by simp [w6D,d20,d23]) (i:=24) (t:=83) (by decide) rfl (by decide))
  ·-- 25
   have hd0:=hdep _ rfl
   simp [Region.binds] at hd0
   have d20:listed[20]? = some true:=by simp [hd0]
   have d24:listed[24]? = some true:=by simp [hd0]
   have vf20:ts 79=.bool true:=h.tm (20,79) (by decide) d20
   have vf24:ts 83=.pointer (some ⟨352,9,none⟩):=h.tm (24,83) (by decide) d24
   have y352:hp 352=some (⟨fa MO .i64 gO,.ty 45⟩):=(h.ext (by decide)).trans hF.b352
   refine GO_walk [] rfl (by kernel_rfl) (by first|assumption|simp) ?_;intro q hq;simp [hC,hY,vf20,vf24,y352,v0,v1,b0,b1,tyb,x2,o2,l1,l2];refine hq _ _ _ _ ?_;clear hq q
   exact hk _ _ (h.tmp w6N1 w6N2 hi (by simp [w6D,d20,d24]) (i:=25) (t:=84) (by decide) rfl (by decide))
  ·-- 26
   have hd0:=hdep _ rfl
   simp [Region.binds] at hd0
   have d20:listed[20]? = some true:=by simp [hd0]
   have vf20:ts 79=.bool true:=h.tm (20,79) (by decide) d20
   refine GO_walk [] rfl (by kernel_rfl) (by first|assumption|simp) ?_;intro q hq;simp [hC,hY,vf20,v0,v1,b0,b1,tyb,x2,o2,l1,l2];refine hq _ _ _ _ ?_;clear hq q
   exact hk _ _ (h.tmp w6N1 w6N2 hi (by simp [w6D,d20]) (i:=26) (t:=85) (by decide) rfl (by decide))
  ·-- 27
   have hd0:=hdep _ rfl
   simp [Region.binds] at hd0
   have d20:listed[20]? = some true:=by simp [hd0]
   have d25:listed[25]? = some true:=by simp [hd0]
   have d26:listed[26]? = some true:=by simp [hd0]
   have vf20:ts 79=.bool true:=h.tm (20,79) (by decide) d20
   have vf25:ts 84=.agg #[.int .i64 6,.int .i64 0,.int .i64 0]:=h.tm (25,84) (by decide) d25
   have vf26:ts 85=.agg #[.int .i64 6,.int .i64 0,.int .i64 0]:=h.tm (26,85) (by decide) d26
   refine GO_walk [] rfl (by kernel_rfl) (by first|assumption|simp) ?_;intro q hq;simp [hC,hY,vf20,vf25,vf26,v0,v1,b0,b1,tyb,x2,o2,l1,l2];refine hq _ _ _ _ ?_;clear hq q
   exact hk _ _ (h.tmp w6N1 w6N2 hi (by simp [w6D,d20,d25,d26]) (i:=27) (t:=86) (by decide) rfl (by decide))
  ·-- 28
   have hd0:=hdep _ rfl
   simp [Region.binds] at hd0
   have d20:listed[20]? = some true:=by simp [hd0]
   have d27:listed[27]? = some true:=by simp [hd0]
   have vf20:ts 79=.bool true:=h.tm (20,79) (by decide) d20
   have vf27:ts 86=.bool true:=h.tm (27,86) (by decide) d27
   refine GO_walk [] rfl (by kernel_rfl) (by first|assumption|simp) ?_;intro q hq;simp [hC,hY,vf20,vf27,v0,v1,b0,b1,tyb,x2,o2,l1,l2];refine hq _ _ _ _ ?_;clear hq q
   exact hk _ _ (h.tmp w6N1 w6N2 hi (by simp [w6D,d20,d27]) (i:=28) (t:=87) (by decide) rfl (by decide))
  ·-- 29
   have hd0:=hdep _ rfl
   simp [Region.binds] at hd0
   have d28:listed[28]? = some true:=by simp [hd0]
   have vf28:ts 87=.bool true:=h.tm (28,87) (by decide) d28
   refine GO_walk [] rfl (by kernel_rfl) (by first|assumption|simp) ?_;intro q hq;simp [hC,hY,vf28,v0,v1,b0,b1,tyb,x2,o2,l1,l2];refine hq _ _ _ _ ?_;clear hq q
   exact hk _ _ (h.tmp w6N1 w6N2 hi (by simp [w6D,d28]) (i:=29) (t:=88) (by decide) rfl (by decide))
  ·-- 30
   have hd0:=hdep _ rfl
   simp [Region.binds] at hd0
   have d29:listed[29]? = some true:=by simp [hd0]
   have vf29:ts 88=.bool true:=h.tm (29,88) (by decide) d29
   have vx5:ts 5=.pointer (some ⟨384,0,none⟩):=(h.t0 5 (by decide)).trans hF.e5
   refine GO_walk [] rfl (by kernel_rfl) (by first|assumption|simp) ?_;intro q hq;simp [hC,hY,vf29,vx5,v0,v1,b0,b1,tyb,x2,o2,l1,l2];refine hq _ _ _ _ ?_;clear hq q
   exact hk _ _ (h.tmp w6N1 w6N2 hi (by simp [w6D,d29]) (i:=30) (t:=89) (by decide) rfl (by decide))
  ·-- 31
   have hd0:=hdep _ rfl
   simp [Region.binds] at hd0
   have d29:listed[29]? = some true:=by simp [hd0]
   have d30:listed[30]? = some true:=by simp [hd0]
   have vf29:ts 88=.bool true:=h.tm (29,88) (by decide) d29
   have vf30:ts 89=.pointer (some ⟨384,1,none⟩):=h.tm (30,89) (by decide) d30
   have y384:hp 384=some (⟨#[.int .i64 0,.slice (some ⟨352,0,none⟩) 2 cO],.ty 27⟩):=(h.ext (by decide)).trans hF.b384
   refine GO_walk [] rfl (by kernel_rfl) (by first|assumption|simp) ?_;intro q hq;simp [hC,hY,vf29,vf30,y384,v0,v1,b0,b1,tyb,x2,o2,l1,l2];refine hq _ _ _ _ ?_;clear hq q
   exact hk _ _ (h.tmp w6N1 w6N2 hi (by simp [w6D,d29,d30]) (i:=31) (t:=90) (by decide) rfl (by decide))
  ·-- 32
   have hd0:=hdep _ rfl
   simp [Region.binds] at hd0
   have d29:listed[29]? = some true:=by simp [hd0]
   have d31:listed[31]? = some true:=by simp [hd0]
   have vf29:ts 88=.bool true:=h.tm (29,88) (by decide) d29
   have vf31:ts 90=.slice (some ⟨352,0,none⟩) 2 cO:=h.tm (31,90) (by decide) d31
   refine GO_walk [] rfl (by kernel_rfl) (by first|assumption|simp) ?_;intro q hq;simp [hC,hY,vf29,vf31,v0,v1,b0,b1,tyb,x2,o2,l1,l2];refine hq _ _ _ _ ?_;clear hq q
   exact hk _ _ (h.tmp w6N1 w6N2 hi (by simp [w6D,d29,d31]) (i:=32) (t:=91) (by decide) rfl (by decide))
  ·-- 33
   have hd0:=hdep _ rfl
   simp [Region.binds] at hd0
   have d29:listed[29]? = some true:=by simp [hd0]
   have d32:listed[32]? = some true:=by simp [hd0]
   have vf29:ts 88=.bool true:=h.tm (29,88) (by decide) d29
   have vf32:ts 91=.pointer (some ⟨352,0,none⟩):=h.tm (32,91) (by decide) d32
   refine GO_walk [] rfl (by kernel_rfl) (by first|assumption|simp) ?_;intro q hq;simp [hC,hY,vf29,vf32,v0,v1,b0,b1,tyb,x2,o2,l1,l2];refine hq _ _ _ _ ?_;clear hq q
   exact hk _ _ (h.tmp w6N1 w6N2 hi (by simp [w6D,d29,d32]) (i:=33) (t:=92) (by decide) rfl (by decide))
  ·-- 34
   have hd0:=hdep _ rfl
   simp [Region.binds] at hd0
   have d29:listed[29]? = some true:=by simp [hd0]
   have d33:listed[33]? = some true:=by simp [hd0]
   have vf29:ts 88=.bool true:=h.tm (29,88) (by decide) d29
   have vf33:ts 92=.pointer (some ⟨352,3,none⟩):=h.tm (33,92) (by decide) d33
   have y352:hp 352=some (⟨fa MO .i64 gO,.ty 45⟩):=(h.ext (by decide)).trans hF.b352
   refine GO_walk [] rfl (by kernel_rfl) (by first|assumption|simp) ?_;intro q hq;simp [hC,hY,vf29,vf33,y352,v0,v1,b0,b1,tyb,x2,o2,l1,l2];refine hq _ _ _ _ ?_;clear hq q
   exact hk _ _ (h.tmp w6N1 w6N2 hi (by simp [w6D,d29,d33]) (i:=34) (t:=93) (by decide) rfl (by decide))
  ·-- 35
   have hd0:=hdep _ rfl
   simp [Region.binds] at hd0
   have d29:listed[29]? = some true:=by simp [hd0]
   have vf29:ts 88=.bool true:=h.tm (29,88) (by decide) d29
   refine GO_walk [] rfl (by kernel_rfl) (by first|assumption|simp) ?_;intro q hq;simp [hC,hY,vf29,v0,v1,b0,b1,tyb,x2,o2,l1,l2];refine hq _ _ _ _ ?_;clear hq q
   exact hk _ _ (h.tmp w6N1 w6N2 hi (by simp [w6D,d29]) (i:=35) (t:=94) (by decide) rfl (by decide))
  ·-- 36
   have hd0:=hdep _ rfl
   simp [Region.binds] at hd0
   have d29:listed[29]? = some true:=by simp [hd0]
   have d34:listed[34]? = some true:=by simp [hd0]
   have d35:listed[35]? = some true:=by simp [hd0]
   have vf29:ts 88=.bool true:=h.tm (29,88) (by decide) d29
   have vf34:ts 93=.agg #[.int .i64 (-2),.int .i64 0,.int .i64 0]:=h.tm (34,93) (by decide) d34
   have vf35:ts 94=.agg #[.int .i64 (-2),.int .i64 0,.int .i64 0]:=h.tm (35,94) (by decide) d35
   refine GO_walk [] rfl (by kernel_rfl) (by first|assumption|simp) ?_;intro q hq;simp [hC,hY,vf29,vf34,vf35,v0,v1,b0,b1,tyb,x2,o2,l1,l2];refine hq _ _ _ _ ?_;clear hq q
   exact hk _ _ (h.tmp w6N1 w6N2 hi (by simp [w6D,d29,d34,d35]) (i:=36) (t:=95) (by decide) rfl (by decide))
  ·-- 37
   have hd0:=hdep _ rfl
   simp [Region.binds] at hd0
   have d29:listed[29]? = some true:=by simp [hd0]
   have d36:listed[36]? = some true:=by simp [hd0]
   have vf29:ts 88=.bool true:=h.tm (29,88) (by decide) d29
   have vf36:ts 95=.bool true:=h.tm (36,95) (by decide) d36
   refine GO_walk [] rfl (by kernel_rfl) (by first|assumption|simp) ?_;intro q hq;simp [hC,hY,vf29,vf36,v0,v1,b0,b1,tyb,x2,o2,l1,l2];refine hq _ _ _ _ ?_;clear hq q
   exact hk _ _ (h.tmp w6N1 w6N2 hi (by simp [w6D,d29,d36]) (i:=37) (t:=96) (by decide) rfl (by decide))
  ·-- 38
   have hd0:=hdep _ rfl
   simp [Region.binds] at hd0
   have d37:listed[37]? = some true:=by simp [hd0]
   have vf37:ts 96=.bool true:=h.tm (37,96) (by decide) d37
   refine GO_walk [] rfl (by kernel_rfl) (by first|assumption|simp) ?_;intro q hq;simp [hC,hY,vf37,v0,v1,b0,b1,tyb,x2,o2,l1,l2];refine hq _ _ _ _ ?_;clear hq q
   exact hk _ _ (h.tmp w6N1 w6N2 hi (by simp [w6D,d37]) (i:=38) (t:=97) (by decide) rfl (by decide))
  ·-- 39
   have hd0:=hdep _ rfl
   simp [Region.binds] at hd0
   have d38:listed[38]? = some true:=by simp [hd0]
   have vf38:ts 97=.bool true:=h.tm (38,97) (by decide) d38
   have vx8:ts 8=.int .i64 2:=(h.t0 8 (by decide)).trans hF.e8
   refine GO_walk [] rfl (by kernel_rfl) (by first|assumption|simp) ?_;intro q hq;simp [hC,hY,vf38,vx8,v0,v1,b0,b1,tyb,x2,o2,l1,l2];refine hq _ _ _ _ ?_;clear hq q
   exact hk _ _ (h.tmp w6N1 w6N2 hi (by simp [w6D,d38]) (i:=39) (t:=98) (by decide) rfl (by decide))
  ·-- 40
   have hd0:=hdep _ rfl
   simp [Region.binds] at hd0
   have d38:listed[38]? = some true:=by simp [hd0]
   have d39:listed[39]? = some true:=by simp [hd0]
   have vf38:ts 97=.bool true:=h.tm (38,97) (by decide) d38
   have vf39:ts 98=.int .i64 2:=h.tm (39,98) (by decide) d39
   refine GO_walk [] rfl (by kernel_rfl) (by first|assumption|simp) ?_;intro q hq;simp [hC,hY,vf38,vf39,v0,v1,b0,b1,tyb,x2,o2,l1,l2];refine hq _ _ _ _ ?_;clear hq q
   exact hk _ _ (h.tmp w6N1 w6N2 hi (by simp [w6D,d38,d39]) (i:=40) (t:=99) (by decide) rfl (by decide))
  ·-- 41
   have hd0:=hdep _ rfl
   simp [Region.binds] at hd0
   have d38:listed[38]? = some true:=by simp [hd0]
   have d40:listed[40]? = some true:=by simp [hd0]
   have vf38:ts 97=.bool true:=h.tm (38,97) (by decide) d38
   have vf40:ts 99=.bool true:=h.tm (40,99) (by decide) d40
   refine GO_walk [] rfl (by kernel_rfl) (by first|assumption|simp) ?_;intro q hq;simp [hC,hY,vf38,vf40,v0,v1,b0,b1,tyb,x2,o2,l1,l2];refine hq _ _ _ _ ?_;clear hq q
   exact hk _ _ (h.tmp w6N1 w6N2 hi (by simp [w6D,d38,d40]) (i:=41) (t:=100) (by decide) rfl (by decide))
  ·-- 42
   have hd0:=hdep _ rfl
   simp [Region.binds] at hd0
   have d41:listed[41]? = some true:=by simp [hd0]
   have vf41:ts 100=.bool true:=h.tm (41,100) (by decide) d41
   refine GO_walk [] rfl (by kernel_rfl) (by first|assumption|simp) ?_;intro q hq;simp [hC,hY,vf41,v0,v1,b0,b1,tyb,x2,o2,l1,l2];refine hq _ _ _ _ ?_;clear hq q
   exact hk _ _ (h.tmp w6N1 w6N2 hi (by simp [w6D,d41]) (i:=42) (t:=101) (by decide) rfl (by decide))
  ·-- 43
   have hd0:=hdep _ rfl
   simp [Region.binds] at hd0
   have d42:listed[42]? = some true:=by simp [hd0]
   have vf42:ts 101=.bool true:=h.tm (42,101) (by decide) d42
   have vx11:ts 11=.int .i64 30:=(h.t0 11 (by decide)).trans hF.e11
   refine GO_walk [] rfl (by kernel_rfl) (by first|assumption|simp) ?_;intro q hq;simp [hC,hY,vf42,vx11,v0,v1,b0,b1,tyb,x2,o2,l1,l2];refine hq _ _ _ _ ?_;clear hq q
   exact hk _ _ (h.tmp w6N1 w6N2 hi (by simp [w6D,d42]) (i:=43) (t:=102) (by decide) rfl (by decide))
  ·-- 44
   have hd0:=hdep _ rfl
   simp [Region.binds] at hd0
   have d42:listed[42]? = some true:=by simp [hd0]
   have d43:listed[43]? = some true:=by simp [hd0]
   have vf42:ts 101=.bool true:=h.tm (42,101) (by decide) d42
   have vf43:ts 102=.int .i64 30:=h.tm (43,102) (by decide) d43
   refine GO_walk [] rfl (by kernel_rfl) (by first|assumption|simp) ?_;intro q hq;simp [hC,hY,vf42,vf43,v0,v1,b0,b1,tyb,x2,o2,l1,l2];refine hq _ _ _ _ ?_;clear hq q
   exact hk _ _ (h.tmp w6N1 w6N2 hi (by simp [w6D,d42,d43]) (i:=44) (t:=103) (by decide) rfl (by decide))
  ·-- 45
   have hd0:=hdep _ rfl
   simp [Region.binds] at hd0
   have d42:listed[42]? = some true:=by simp [hd0]
   have d44:listed[44]? = some true:=by simp [hd0]
   have vf42:ts 101=.bool true:=h.tm (42,101) (by decide) d42
   have vf44:ts 103=.bool true:=h.tm (44,103) (by decide) d44
   refine GO_walk [] rfl (by kernel_rfl) (by first|assumption|simp) ?_;intro q hq;simp [hC,hY,vf42,vf44,v0,v1,b0,b1,tyb,x2,o2,l1,l2];refine hq _ _ _ _ ?_;clear hq q
   exact hk _ _ (h.tmp w6N1 w6N2 hi (by simp [w6D,d42,d44]) (i:=45) (t:=104) (by decide) rfl (by decide))
  ·-- 46
   have hd0:=hdep _ rfl
   simp [Region.binds] at hd0
   have d45:listed[45]? = some true:=by simp [hd0]
   have vf45:ts 104=.bool true:=h.tm (45,104) (by decide) d45
   refine GO_walk [] rfl (by kernel_rfl) (by first|assumption|simp) ?_;intro q hq;simp [hC,hY,vf45,v0,v1,b0,b1,tyb,x2,o2,l1,l2];refine hq _ _ _ _ ?_;clear hq q
   exact hk _ _ (h.tmp w6N1 w6N2 hi (by simp [w6D,d45]) (i:=46) (t:=105) (by decide) rfl (by decide))
  ·-- 47
   have hd0:=hdep _ rfl
   simp [Region.binds] at hd0
   have d46:listed[46]? = some true:=by simp [hd0]
   have vf46:ts 105=.bool true:=h.tm (46,105) (by decide) d46
   have vx12:ts 12=.pointer (some ⟨640,0,none⟩):=(h.t0 12 (by decide)).trans hF.e12
   have y640:hp 640=some (⟨#[.slice (some ⟨624,0,none⟩) 1 1,.int .i64 1,.int .i64 1,.int .i64 1,.int .i64 1,.int .i64 0],.ty 24⟩):=(h.ext (by decide)).trans hF.b640
   refine GO_walk [] rfl (by kernel_rfl) (by first|assumption|simp) ?_;intro q hq;simp [hC,hY,vf46,vx12,y640,v0,v1,b0,b1,tyb,x2,o2,l1,l2];refine hq _ _ _ _ ?_;clear hq q
   exact hk _ _ (h.tmp w6N1 w6N2 hi (by simp [w6D,d46]) (i:=47) (t:=106) (by decide) rfl (by decide))
  ·-- 48
   have hd0:=hdep _ rfl
   simp [Region.binds] at hd0
   have d46:listed[46]? = some true:=by simp [hd0]
   have vf46:ts 105=.bool true:=h.tm (46,105) (by decide) d46
   refine GO_walk [] rfl (by kernel_rfl) (by first|assumption|simp) ?_;intro q hq;simp [hC,hY,vf46,v0,v1,b0,b1,tyb,x2,o2,l1,l2];refine hq _ _ _ _ ?_;clear hq q
   exact hk _ _ (h.new w6N1 w6N2 w6X1 hi (by simp [w6D,d46]) (i:=48) (t:=107) (k:=1112) (by decide) rfl (by decide) rfl (by decide))
  ·-- 49
   have hd0:=hdep _ rfl
   simp [Region.binds] at hd0
   have d46:listed[46]? = some true:=by simp [hd0]
   have d48:listed[48]? = some true:=by simp [hd0]
   have vf46:ts 105=.bool true:=h.tm (46,105) (by decide) d46
   have vf48:ts 107=.slice (some ⟨1112,0,none⟩) 1 1:=h.tm (48,107) (by decide) d48
   refine GO_walk [] rfl (by kernel_rfl) (by first|assumption|simp) ?_;intro q hq;simp [hC,hY,vf46,vf48,v0,v1,b0,b1,tyb,x2,o2,l1,l2];refine hq _ _ _ _ ?_;clear hq q
   exact hk _ _ (h.tmp w6N1 w6N2 hi (by simp [w6D,d46,d48]) (i:=49) (t:=108) (by decide) rfl (by decide))
  ·-- 50
   have hd0:=hdep _ rfl
   simp [Region.binds] at hd0
   have d46:listed[46]? = some true:=by simp [hd0]
   have d47:listed[47]? = some true:=by simp [hd0]
   have d49:listed[49]? = some true:=by simp [hd0]
   have vf46:ts 105=.bool true:=h.tm (46,105) (by decide) d46
   have vf47:ts 106=.agg #[.slice (some ⟨624,0,none⟩) 1 1,.int .i64 1,.int .i64 1,.int .i64 1,.int .i64 1,.int .i64 0]:=h.tm (47,106) (by decide) d47
   have vf49:ts 108=.agg #[.int .i64 0,.slice (some ⟨1112,0,none⟩) 1 1]:=h.tm (49,108) (by decide) d49
   have d48:listed[48]? = some true:=h.cl (49,48) (by decide) d49
   have y624:hp 624=some (kwT):=(h.ext (by decide)).trans hF.b624
   have y1112:hp 1112=some (kwZ):=h.bxi hi (w:=48) (by decide) d48 (by decide)
   refine GO_walk [17] rfl (by kernel_rfl) (by first|assumption|simp) ?_;intro q hq;simp [hC,hY,vf46,vf47,vf49,y624,y1112,v0,v1,b0,b1,tyb,x2,o2,l1,l2];(repeat ((first|(refine heapK_mv hS1 G1F hT3.ok (fun k=>if k=100 then 624 else if k=108 then 1112 else k) (fun k hk=>(if_neg (by omega)).trans (if_neg (by omega))) ?_ (by simp) (by simp [kwM_rn,kwS_rn,kwT_rn,kwZ_rn,hxr,vf46,vf47,vf49,y624,y1112,v0,v1,b0,b1,tyb,x2,o2,l1,l2]<;>(try simp [kwM,kwS,kwT,kwZ])) (by simp [keys]) (by simp [keys];rfl) ?_;focus (simp [ren,renA,renF,ren0];done)));try simp [hC,hY,vf46,vf47,vf49,y624,y1112,v0,v1,b0,b1,tyb,x2,o2,l1,l2]));refine hq _ _ _ _ ?_;clear hq q
   exact hk _ _ (h.tmp w6N1 w6N2 hi (by simp [w6D,d46,d47,d48,d49]) (i:=50) (t:=109) (by decide) rfl (by decide))
  ·-- 51
   have hd0:=hdep _ rfl
   simp [Region.binds] at hd0
   have d46:listed[46]? = some true:=by simp [hd0]
   have d50:listed[50]? = some true:=by simp [hd0]
   have vf46:ts 105=.bool true:=h.tm (46,105) (by decide) d46
   have vf50:ts 109=.bool true:=h.tm (50,109) (by decide) d50
   refine GO_walk [] rfl (by kernel_rfl) (by first|assumption|simp) ?_;intro q hq;simp [hC,hY,vf46,vf50,v0,v1,b0,b1,tyb,x2,o2,l1,l2];refine hq _ _ _ _ ?_;clear hq q
   exact hk _ _ (h.tmp w6N1 w6N2 hi (by simp [w6D,d46,d50]) (i:=51) (t:=110) (by decide) rfl (by decide))
  ·-- 52
   have hd0:=hdep _ rfl
   simp [Region.binds] at hd0
   have d51:listed[51]? = some true:=by simp [hd0]
   have vf51:ts 110=.bool true:=h.tm (51,110) (by decide) d51
   refine GO_walk [] rfl (by kernel_rfl) (by first|assumption|simp) ?_;intro q hq;simp [hC,hY,vf51,v0,v1,b0,b1,tyb,x2,o2,l1,l2];refine hq _ _ _ _ ?_;clear hq q
   exact hk _ _ (h.tmp w6N1 w6N2 hi (by simp [w6D,d51]) (i:=52) (t:=111) (by decide) rfl (by decide))
  ·-- 53
   have hd0:=hdep _ rfl
   simp [Region.binds] at hd0
   have d52:listed[52]? = some true:=by simp [hd0]
   have vf52:ts 111=.bool true:=h.tm (52,111) (by decide) d52
   have vx1:ts 1=.pointer (some ⟨240,0,none⟩):=(h.t0 1 (by decide)).trans hF.e1
   have y240:hp 240=some (⟨#[.slice (some ⟨208,0,none⟩) 2 2,.int .i64 100,.int .i64 1000,.int .i64 1000,.int .i64 2,.int .i64 0],.ty 24⟩):=(h.ext (by decide)).trans hF.b240
   refine GO_walk [] rfl (by kernel_rfl) (by first|assumption|simp) ?_;intro q hq;simp [hC,hY,vf52,vx1,y240,v0,v1,b0,b1,tyb,x2,o2,l1,l2];refine hq _ _ _ _ ?_;clear hq q
   exact hk _ _ (h.tmp w6N1 w6N2 hi (by simp [w6D,d52]) (i:=53) (t:=112) (by decide) rfl (by decide))
  ·-- 54
   have hd0:=hdep _ rfl
   simp [Region.binds] at hd0
   have d52:listed[52]? = some true:=by simp [hd0]
   have vf52:ts 111=.bool true:=h.tm (52,111) (by decide) d52
   have vx2:ts 2=.pointer (some ⟨248,0,none⟩):=(h.t0 2 (by decide)).trans hF.e2
   have y248:hp 248=some (⟨#[.int .i64 0,.slice (some ⟨209,0,none⟩) 2 2],.ty 27⟩):=(h.ext (by decide)).trans hF.b248
   refine GO_walk [] rfl (by kernel_rfl) (by first|assumption|simp) ?_;intro q hq;simp [hC,hY,vf52,vx2,y248,v0,v1,b0,b1,tyb,x2,o2,l1,l2];refine hq _ _ _ _ ?_;clear hq q
   exact hk _ _ (h.tmp w6N1 w6N2 hi (by simp [w6D,d52]) (i:=54) (t:=113) (by decide) rfl (by decide))
  ·-- 55
   have hd0:=hdep _ rfl
   simp [Region.binds] at hd0
   have d52:listed[52]? = some true:=by simp [hd0]
   have d53:listed[53]? = some true:=by simp [hd0]
   have d54:listed[54]? = some true:=by simp [hd0]
   have vf52:ts 111=.bool true:=h.tm (52,111) (by decide) d52
   have vf53:ts 112=.agg #[.slice (some ⟨208,0,none⟩) 2 2,.int .i64 100,.int .i64 1000,.int .i64 1000,.int .i64 2,.int .i64 0]:=h.tm (53,112) (by decide) d53
   have vf54:ts 113=.agg #[.int .i64 0,.slice (some ⟨209,0,none⟩) 2 2]:=h.tm (54,113) (by decide) d54
   have y208:hp 208=some (kwM):=(h.ext (by decide)).trans hF.b208
   have y209:hp 209=some (kwS):=(h.ext (by decide)).trans hF.b209
   refine GO_walk [17] rfl (by kernel_rfl) (by first|assumption|simp) ?_;intro q hq;simp [hC,hY,vf52,vf53,vf54,y208,y209,v0,v1,b0,b1,tyb,x2,o2,l1,l2];(repeat ((first|(refine heapK_mv hS2 G1F hT2.ok (fun k=>if k=100 then 208 else if k=108 then 209 else k) (fun k hk=>(if_neg (by omega)).trans (if_neg (by omega))) ?_ (by simp) (by simp [kwM_rn,kwS_rn,kwT_rn,kwZ_rn,hxr,vf52,vf53,vf54,y208,y209,v0,v1,b0,b1,tyb,x2,o2,l1,l2]<;>(try simp [kwM,kwS,kwT,kwZ])) (by simp [keys]) (by simp [keys];rfl) ?_;focus (simp [ren,renA,renF,ren0];done)));try simp [hC,hY,vf52,vf53,vf54,y208,y209,v0,v1,b0,b1,tyb,x2,o2,l1,l2]));refine hq _ _ _ _ ?_;clear hq q
   exact hk _ _ (h.tmp w6N1 w6N2 hi (by simp [w6D,d52,d53,d54]) (i:=55) (t:=114) (by decide) rfl (by decide))
  ·-- 56
   have hd0:=hdep _ rfl
   simp [Region.binds] at hd0
   have d52:listed[52]? = some true:=by simp [hd0]
   have d55:listed[55]? = some true:=by simp [hd0]
   have vf52:ts 111=.bool true:=h.tm (52,111) (by decide) d52
   have vf55:ts 114=.bool false:=h.tm (55,114) (by decide) d55
   refine GO_walk [] rfl (by kernel_rfl) (by first|assumption|simp) ?_;intro q hq;simp [hC,hY,vf52,vf55,v0,v1,b0,b1,tyb,x2,o2,l1,l2];refine hq _ _ _ _ ?_;clear hq q
   exact hk _ _ (h.tmp w6N1 w6N2 hi (by simp [w6D,d52,d55]) (i:=56) (t:=115) (by decide) rfl (by decide))
  ·-- 57
   have hd0:=hdep _ rfl
   simp [Region.binds] at hd0
   have d52:listed[52]? = some true:=by simp [hd0]
   have d56:listed[56]? = some true:=by simp [hd0]
   have vf52:ts 111=.bool true:=h.tm (52,111) (by decide) d52
   have vf56:ts 115=.bool true:=h.tm (56,115) (by decide) d56
   refine GO_walk [] rfl (by kernel_rfl) (by first|assumption|simp) ?_;intro q hq;simp [hC,hY,vf52,vf56,v0,v1,b0,b1,tyb,x2,o2,l1,l2];refine hq _ _ _ _ ?_;clear hq q
   exact hk _ _ (h.tmp w6N1 w6N2 hi (by simp [w6D,d52,d56]) (i:=57) (t:=116) (by decide) rfl (by decide))
  ·-- 58
   have hd0:=hdep _ rfl
   simp [Region.binds] at hd0
   have d57:listed[57]? = some true:=by simp [hd0]
   have vf57:ts 116=.bool true:=h.tm (57,116) (by decide) d57
   refine GO_walk [] rfl (by kernel_rfl) (by first|assumption|simp) ?_;intro q hq;simp [hC,hY,vf57,v0,v1,b0,b1,tyb,x2,o2,l1,l2];refine hq _ _ _ _ ?_;clear hq q
   exact hk _ _ (h.tmp w6N1 w6N2 hi (by simp [w6D,d57]) (i:=58) (t:=117) (by decide) rfl (by decide))
  ·-- 59
   have hd0:=hdep _ rfl
   simp [Region.binds] at hd0
   have d58:listed[58]? = some true:=by simp [hd0]
   have vf58:ts 117=.bool true:=h.tm (58,117) (by decide) d58
   have vx1:ts 1=.pointer (some ⟨240,0,none⟩):=(h.t0 1 (by decide)).trans hF.e1
   have y240:hp 240=some (⟨#[.slice (some ⟨208,0,none⟩) 2 2,.int .i64 100,.int .i64 1000,.int .i64 1000,.int .i64 2,.int .i64 0],.ty 24⟩):=(h.ext (by decide)).trans hF.b240
   refine GO_walk [] rfl (by kernel_rfl) (by first|assumption|simp) ?_;intro q hq;simp [hC,hY,vf58,vx1,y240,v0,v1,b0,b1,tyb,x2,o2,l1,l2];refine hq _ _ _ _ ?_;clear hq q
   exact hk _ _ (h.tmp w6N1 w6N2 hi (by simp [w6D,d58]) (i:=59) (t:=118) (by decide) rfl (by decide))
  ·-- 60
   have hd0:=hdep _ rfl
   simp [Region.binds] at hd0
   have d58:listed[58]? = some true:=by simp [hd0]
   have vf58:ts 117=.bool true:=h.tm (58,117) (by decide) d58
   have vx2:ts 2=.pointer (some ⟨248,0,none⟩):=(h.t0 2 (by decide)).trans hF.e2
   have y248:hp 248=some (⟨#[.int .i64 0,.slice (some ⟨209,0,none⟩) 2 2],.ty 27⟩):=(h.ext (by decide)).trans hF.b248
   refine GO_walk [] rfl (by kernel_rfl) (by first|assumption|simp) ?_;intro q hq;simp [hC,hY,vf58,vx2,y248,v0,v1,b0,b1,tyb,x2,o2,l1,l2];refine hq _ _ _ _ ?_;clear hq q
   exact hk _ _ (h.tmp w6N1 w6N2 hi (by simp [w6D,d58]) (i:=60) (t:=119) (by decide) rfl (by decide))
  ·-- 61
   have hd0:=hdep _ rfl
   simp [Region.binds] at hd0
   have d58:listed[58]? = some true:=by simp [hd0]
   have d59:listed[59]? = some true:=by simp [hd0]
   have d60:listed[60]? = some true:=by simp [hd0]
   have vf58:ts 117=.bool true:=h.tm (58,117) (by decide) d58
   have vf59:ts 118=.agg #[.slice (some ⟨208,0,none⟩) 2 2,.int .i64 100,.int .i64 1000,.int .i64 1000,.int .i64 2,.int .i64 0]:=h.tm (59,118) (by decide) d59
   have vf60:ts 119=.agg #[.int .i64 0,.slice (some ⟨209,0,none⟩) 2 2]:=h.tm (60,119) (by decide) d60
   have y208:hp 208=some (kwM):=(h.ext (by decide)).trans hF.b208
   have y209:hp 209=some (kwS):=(h.ext (by decide)).trans hF.b209
   refine GO_walk [19] rfl (by kernel_rfl) (by first|assumption|simp) ?_;intro q hq;simp [hC,hY,vf58,vf59,vf60,y208,y209,v0,v1,b0,b1,tyb,x2,o2,l1,l2];(repeat ((first|(refine heapK_mv hF1 G1F hT2.ok (fun k=>if k=100 then 208 else if k=108 then 209 else k) (fun k hk=>(if_neg (by omega)).trans (if_neg (by omega))) ?_ (by simp) (by simp [kwM_rn,kwS_rn,kwT_rn,kwZ_rn,hxr,vf58,vf59,vf60,y208,y209,v0,v1,b0,b1,tyb,x2,o2,l1,l2]<;>(try simp [kwM,kwS,kwT,kwZ])) (by simp [keys]) (by simp [keys];rfl) ?_;focus (simp [ren,renA,renF,ren0];done)));try simp [hC,hY,vf58,vf59,vf60,y208,y209,v0,v1,b0,b1,tyb,x2,o2,l1,l2]));refine hq _ _ _ _ ?_;clear hq q
   exact hk _ _ (h.tmp w6N1 w6N2 hi (by simp [w6D,d58,d59,d60]) (i:=61) (t:=120) (by decide) rfl (by decide))
  ·-- 62
   have hd0:=hdep _ rfl
   simp [Region.binds] at hd0
   have d58:listed[58]? = some true:=by simp [hd0]
   have d61:listed[61]? = some true:=by simp [hd0]
   have vf58:ts 117=.bool true:=h.tm (58,117) (by decide) d58
   have vf61:ts 120=.bool true:=h.tm (61,120) (by decide) d61
   refine GO_walk [] rfl (by kernel_rfl) (by first|assumption|simp) ?_;intro q hq;simp [hC,hY,vf58,vf61,v0,v1,b0,b1,tyb,x2,o2,l1,l2];refine hq _ _ _ _ ?_;clear hq q
   exact hk _ _ (h.tmp w6N1 w6N2 hi (by simp [w6D,d58,d61]) (i:=62) (t:=121) (by decide) rfl (by decide))
  ·-- 63
   have hd0:=hdep _ rfl
   simp [Region.binds] at hd0
   have d62:listed[62]? = some true:=by simp [hd0]
   have vf62:ts 121=.bool true:=h.tm (62,121) (by decide) d62
   refine GO_walk [] rfl (by kernel_rfl) (by first|assumption|simp) ?_;intro q hq;simp [hC,hY,vf62,v0,v1,b0,b1,tyb,x2,o2,l1,l2];refine hq _ _ _ _ ?_;clear hq q
   exact hk _ _ (h.tmp w6N1 w6N2 hi (by simp [w6D,d62]) (i:=63) (t:=122) (by decide) rfl (by decide))
  ·-- 64
   have hd0:=hdep _ rfl
   simp [Region.binds] at hd0
   have d63:listed[63]? = some true:=by simp [hd0]
   have vf63:ts 122=.bool true:=h.tm (63,122) (by decide) d63
   have vx12:ts 12=.pointer (some ⟨640,0,none⟩):=(h.t0 12 (by decide)).trans hF.e12
   have y640:hp 640=some (⟨#[.slice (some ⟨624,0,none⟩) 1 1,.int .i64 1,.int .i64 1,.int .i64 1,.int .i64 1,.int .i64 0],.ty 24⟩):=(h.ext (by decide)).trans hF.b640
   refine GO_walk [] rfl (by kernel_rfl) (by first|assumption|simp) ?_;intro q hq;simp [hC,hY,vf63,vx12,y640,v0,v1,b0,b1,tyb,x2,o2,l1,l2];refine hq _ _ _ _ ?_;clear hq q
   exact hk _ _ (h.tmp w6N1 w6N2 hi (by simp [w6D,d63]) (i:=64) (t:=123) (by decide) rfl (by decide))
  ·-- 65
   have hd0:=hdep _ rfl
   simp [Region.binds] at hd0
   have d63:listed[63]? = some true:=by simp [hd0]
   have vf63:ts 122=.bool true:=h.tm (63,122) (by decide) d63
   have vx2:ts 2=.pointer (some ⟨248,0,none⟩):=(h.t0 2 (by decide)).trans hF.e2
   have y248:hp 248=some (⟨#[.int .i64 0,.slice (some ⟨209,0,none⟩) 2 2],.ty 27⟩):=(h.ext (by decide)).trans hF.b248
   refine GO_walk [] rfl (by kernel_rfl) (by first|assumption|simp) ?_;intro q hq;simp [hC,hY,vf63,vx2,y248,v0,v1,b0,b1,tyb,x2,o2,l1,l2];refine hq _ _ _ _ ?_;clear hq q
   exact hk _ _ (h.tmp w6N1 w6N2 hi (by simp [w6D,d63]) (i:=65) (t:=124) (by decide) rfl (by decide))
  ·-- 66
   have hd0:=hdep _ rfl
   simp [Region.binds] at hd0
   have d63:listed[63]? = some true:=by simp [hd0]
   have d64:listed[64]? = some true:=by simp [hd0]
   have d65:listed[65]? = some true:=by simp [hd0]
   have vf63:ts 122=.bool true:=h.tm (63,122) (by decide) d63
   have vf64:ts 123=.agg #[.slice (some ⟨624,0,none⟩) 1 1,.int .i64 1,.int .i64 1,.int .i64 1,.int .i64 1,.int .i64 0]:=h.tm (64,123) (by decide) d64
   have vf65:ts 124=.agg #[.int .i64 0,.slice (some ⟨209,0,none⟩) 2 2]:=h.tm (65,124) (by decide) d65
   have y624:hp 624=some (kwT):=(h.ext (by decide)).trans hF.b624
   have y209:hp 209=some (kwS):=(h.ext (by decide)).trans hF.b209
   refine GO_walk [19] rfl (by kernel_rfl) (by first|assumption|simp) ?_;intro q hq;simp [hC,hY,vf63,vf64,vf65,y624,y209,v0,v1,b0,b1,tyb,x2,o2,l1,l2];(repeat ((first|(refine heapK_mv hF2 G1F hTF.ok (fun k=>if k=100 then 624 else if k=108 then 209 else k) (fun k hk=>(if_neg (by omega)).trans (if_neg (by omega))) ?_ (by simp) (by simp [kwM_rn,kwS_rn,kwT_rn,kwZ_rn,hxr,vf63,vf64,vf65,y624,y209,v0,v1,b0,b1,tyb,x2,o2,l1,l2]<;>(try simp [kwM,kwS,kwT,kwZ])) (by simp [keys]) (by simp [keys];rfl) ?_;focus (simp [ren,renA,renF,ren0];done)));try simp [hC,hY,vf63,vf64,vf65,y624,y209,v0,v1,b0,b1,tyb,x2,o2,l1,l2]));refine hq _ _ _ _ ?_;clear hq q
   exact hk _ _ (h.tmp w6N1 w6N2 hi (by simp [w6D,d63,d64,d65]) (i:=66) (t:=125) (by decide) rfl (by decide))
  ·-- 67
   have hd0:=hdep _ rfl
   simp [Region.binds] at hd0
   have d63:listed[63]? = some true:=by simp [hd0]
   have d66:listed[66]? = some true:=by simp [hd0]
   have vf63:ts 122=.bool true:=h.tm (63,122) (by decide) d63
   have vf66:ts 125=.bool false:=h.tm (66,125) (by decide) d66
   refine GO_walk [] rfl (by kernel_rfl) (by first|assumption|simp) ?_;intro q hq;simp [hC,hY,vf63,vf66,v0,v1,b0,b1,tyb,x2,o2,l1,l2];refine hq _ _ _ _ ?_;clear hq q
   exact hk _ _ (h.tmp w6N1 w6N2 hi (by simp [w6D,d63,d66]) (i:=67) (t:=126) (by decide) rfl (by decide))
  ·-- 68
   have hd0:=hdep _ rfl
   simp [Region.binds] at hd0
   have d63:listed[63]? = some true:=by simp [hd0]
   have d67:listed[67]? = some true:=by simp [hd0]
   have vf63:ts 122=.bool true:=h.tm (63,122) (by decide) d63
   have vf67:ts 126=.bool true:=h.tm (67,126) (by decide) d67
   refine GO_walk [] rfl (by kernel_rfl) (by first|assumption|simp) ?_;intro q hq;simp [hC,hY,vf63,vf67,v0,v1,b0,b1,tyb,x2,o2,l1,l2];refine hq _ _ _ _ ?_;clear hq q
   exact hk _ _ (h.tmp w6N1 w6N2 hi (by simp [w6D,d63,d67]) (i:=68) (t:=127) (by decide) rfl (by decide))
  ·-- 69
   have hd0:=hdep _ rfl
   simp [Region.binds] at hd0
   have d68:listed[68]? = some true:=by simp [hd0]
   have vf68:ts 127=.bool true:=h.tm (68,127) (by decide) d68
   refine GO_walk [] rfl (by kernel_rfl) (by first|assumption|simp) ?_;intro q hq;simp [hC,hY,vf68,v0,v1,b0,b1,tyb,x2,o2,l1,l2];refine hq _ _ _ _ ?_;clear hq q
   exact hk _ _ (h.tmp w6N1 w6N2 hi (by simp [w6D,d68]) (i:=69) (t:=0) (by decide) rfl (by decide))
 ·have hno:∀ j:Nat,(Array.replicate 70 false)[j]?≠some true:=fun j=>by
   rw [Array.getElem?_replicate]
   split<;>simp
  exact TJ.start hno
theorem kwakes (K:Value→Prop):callK Tryz.prog G1 8 #[] K↔K (.bool true):=callK_iff G1W (by kernel_rfl) wakes16_ret
theorem kgreat_L (L:List (Nat×Blk)) (ka ks:Nat) (bm bs:Blk) (hT:LKa L ka ks bm bs) (off n cap off2 n2 cap2:Nat) (g bx tp nr md st:Int) :
  Fun Tryz.prog G1 7 #[cfV (.slice (some ⟨ka,off,none⟩) n cap) g bx tp nr md,.agg #[.int .i64 st,.slice (some ⟨ks,off2,none⟩) n2 cap2]] (hpL G1 L) (keys L) (.ret (.bool (decide (9<n)||decide (9<n2))) []):=by
 refine fun_ofD (B:=200) G1F Tryz.func7 rfl Tryz.call7 hT.ok ?_ (by simp) (by simp) (by simp) (by simp [Tryz.ntmps7]) (by omega) ?_
 ·simp [idsV,idsA,idsF,ids0,hT.ia,hT.ib,cfV]
 intro C hC hC0 hY
 have hLow:=hT.low
 unfold cfV
 by_cases h1:9<n
 ·have h1':(9:Int)<(n:Int):=by omega
  rw [decide_eq_true h1,Bool.true_or]
  repeat' (first|refine gwA ?_|(refine gwX ?_;intro Q hQ hP;simp [hC,hY,h1,h1'];refine hQ _ _ _ _ (by kernel_rfl) ?_;clear hQ hP Q)|(refine gwC ?_ ?_<;>(intro hb;try (cases hb;done))))
  refine ⟨.inr rfl,by simp [Tryz.results7],kpT G1F⟩
 ·have h1':¬(9:Int)<(n:Int):=by omega
  rw [decide_eq_false h1,Bool.false_or]
  by_cases h2:9<n2
  ·have h2':(9:Int)<(n2:Int):=by omega
   rw [decide_eq_true h2]
   repeat' (first|refine gwA ?_|(refine gwX ?_;intro Q hQ hP;simp [hC,hY,h1,h2,h1',h2'];refine hQ _ _ _ _ (by kernel_rfl) ?_;clear hQ hP Q)|(refine gwC ?_ ?_<;>(intro hb;try (cases hb;done))))
   refine ⟨.inr rfl,by simp [Tryz.results7],kpT G1F⟩
  ·have h2':¬(9:Int)<(n2:Int):=by omega
   rw [decide_eq_false h2]
   repeat' (first|refine gwA ?_|(refine gwX ?_;intro Q hQ hP;simp [hC,hY,h1,h2,h1',h2'];refine hQ _ _ _ _ (by kernel_rfl) ?_;clear hQ hP Q)|(refine gwC ?_ ?_<;>(intro hb;try (cases hb;done))))
   refine ⟨.inr rfl,by simp [Tryz.results7],kpT G1F⟩
theorem knilL_ok:LOk [] 200:=⟨by simp,by simp [keys],by simp⟩
structure LKb (L:List (Nat×Blk)) (ka:Nat) (b:Blk):Prop where
 a8:(ka=100∧L=[(100,b)])∨(ka=0∧L=[]∧b=lmB)
 fb:b.fx
section
variable {L:List (Nat×Blk)} {ka:Nat} {b:Blk}
theorem LKb.ok (h:LKb L ka b):LOk L 200:=by
 rcases h.a8 with ⟨_,rfl⟩|⟨_,rfl,_⟩
 ·exact oneL_ok h.fb
 ·exact knilL_ok
theorem LKb.mem (h:LKb L ka b) (p:Nat×Blk) (hp:p∈L):hpL G1 L p.1=some p.2:=LOk.at h.ok.one p hp
theorem LKb.a (h:LKb L ka b):hpL G1 L ka=some b:=by
 rcases h.a8 with ⟨rfl,rfl⟩|⟨rfl,rfl,rfl⟩
 ·simp
 ·simp [G1]
theorem LKb.na (h:LKb L ka b) (k:Nat) (hk:200≤k):(ka=k)=False:=by
 have:ka<200:=by rcases h.a8 with ⟨e,_⟩|⟨e,_⟩<;>omega
 simp only [eq_iff_iff,iff_false]
 omega
theorem LKb.low (h:LKb L ka b) (k:Nat) (hk:k<100):hpL G1 L k=G1 k:=h.ok.low k hk
theorem LKb.ia (h:LKb L ka b):dom (hpL G1 L) ka:=by unfold dom;rw [h.a];simp
end
theorem nil_mv:MvG G0 G1 [(100,lmB)] [] gmv:=by
 refine ⟨G0F,G1F,⟨200,oneL_ok lmB_fx⟩,⟨200,knilL_ok⟩,fun k b hk=>⟨G0_sub hk,?_⟩,?_,?_,?_⟩
 ·have:=(G0F k b hk).1
  unfold gmv
  rw [if_neg (by omega),if_neg (by omega)]
 ·intro p hp
  simp only [List.mem_cons,List.not_mem_nil,or_false] at hp
  subst hp
  exact ⟨lmB,by simp [gmv,G1],fun r=>by rw [Blk.fx_rn lmB_fx]⟩
 ·intro k hk l hl e
  simp only [keys,List.map_cons,List.map_nil,List.mem_cons,List.not_mem_nil,or_false] at hk hl
  rw [hk,hl]
 ·intro k hk l b hl e
  simp only [keys,List.map_cons,List.map_nil,List.mem_cons,List.not_mem_nil,or_false] at hk
  subst hk
  unfold gmv at e
  rw [if_pos rfl] at e
  rw [←e,G0_no] at hl
  cases hl
theorem kn0fits_00 (g bx tp nr md st:Int):Fun Tryz.prog G0 19 #[.agg #[.slice none 0 0,.int .i64 g,.int .i64 bx,.int .i64 tp,.int .i64 nr,.int .i64 md],.agg #[.int .i64 st,.slice none 0 0]] (hpL G0 []) (keys []) (.ret (.bool false) []):=by
 refine fun_ofL (B:=200) G0F Tryz.func19 rfl Tryz.call19 knilL_ok ?_ (flatV_ids (by simp)) (by simp) (by simp) (by simp [Tryz.ntmps19]) (by omega) ?_
 ·simp [idsV,idsA,idsF,ids0,keys]
 intro C hC hC0 hY
 have hfx:Blk.fx (⟨#[.slice none 0 0,.int .i64 g,.int .i64 bx,.int .i64 tp,.int .i64 nr,.int .i64 md],.ty 24⟩:Blk):=fun x hx=>by
  simp at hx
  rcases hx with rfl|rfl|rfl|rfl|rfl|rfl<;>rfl
 have hck:=check0_fun (⟨#[.slice none 0 0,.int .i64 g,.int .i64 bx,.int .i64 tp,.int .i64 nr,.int .i64 md],.ty 24⟩:Blk) hfx g bx tp nr md
 have hbr:=fun ρ=>Blk.fx_rn hfx ρ
 unfold cfV at hck
 repeat' (first|refine gwA ?_|((first|refine gwR [37] ?_|refine gwD [37] ?_);intro Q hQ hP;simp [hC,hY];(repeat ((first|(refine heapK_mv hck G0F (B:=200) (oneL_ok hfx) (fun k=>if k=100 then 200 else k) (fun k hk=>if_neg (by omega)) (by simp [ren,renA,renF,ren0,cfV]) (by simp) (by simp [hbr]) (by simp [keys]) (by simp [keys];try rfl) ?_));try simp [hC,hY]));refine hQ _ _ _ _ (by kernel_rfl) ?_;clear hQ hP Q)|(refine gwC ?_ ?_<;>(intro hb;try (cases hb;done))))
 refine ⟨.inr rfl,by simp [Tryz.results19],kpS G0F⟩
theorem kngreat_00 (g bx tp nr md st:Int):Fun Tryz.prog G1 7 #[.agg #[.slice none 0 0,.int .i64 g,.int .i64 bx,.int .i64 tp,.int .i64 nr,.int .i64 md],.agg #[.int .i64 st,.slice none 0 0]] (hpL G1 []) (keys []) (.ret (.bool false) []):=by
 refine fun_ofL (B:=200) G1F Tryz.func7 rfl Tryz.call7 knilL_ok ?_ (flatV_ids (by simp)) (by simp) (by simp) (by simp [Tryz.ntmps7]) (by omega) ?_
 ·simp [idsV,idsA,idsF,ids0,keys]
 intro C hC hC0 hY
 repeat' (first|refine gwA ?_|(refine gwX ?_;intro Q hQ hP;simp [hC,hY];refine hQ _ _ _ _ (by kernel_rfl) ?_;clear hQ hP Q)|(refine gwC ?_ ?_<;>(intro hb;try (cases hb;done))))
 refine ⟨.inr rfl,by simp [Tryz.results7],kpS G1F⟩
theorem kngreat_0s (b:Blk) (off n cap:Nat) (f:Nat→Int) (h:SB b off n f) (g bx tp nr md st:Int):Fun Tryz.prog G1 7 #[.agg #[.slice none 0 0,.int .i64 g,.int .i64 bx,.int .i64 tp,.int .i64 nr,.int .i64 md],.agg #[.int .i64 st,.slice (some ⟨100,off,none⟩) n cap]] (hpL G1 [(100,b)]) (keys [(100,b)]) (.ret (.bool (decide (9<n))) []):=by
 refine fun_ofL (B:=200) G1F Tryz.func7 rfl Tryz.call7 (oneL_ok h.fx) ?_ (flatV_ids (by simp)) (by simp) (by simp) (by simp [Tryz.ntmps7]) (by omega) ?_
 ·simp [idsV,idsA,idsF,ids0,keys]
 intro C hC hC0 hY
 by_cases h1:9<n
 ·have h1':(9:Int)<(n:Int):=by omega
  rw [decide_eq_true h1]
  repeat' (first|refine gwA ?_|(refine gwX ?_;intro Q hQ hP;simp [hC,hY,h1,h1'];refine hQ _ _ _ _ (by kernel_rfl) ?_;clear hQ hP Q)|(refine gwC ?_ ?_<;>(intro hb;try (cases hb;done))))
  refine ⟨.inr rfl,by simp [Tryz.results7],kpS G1F⟩
 ·have h1':¬(9:Int)<(n:Int):=by omega
  rw [decide_eq_false h1]
  repeat' (first|refine gwA ?_|(refine gwX ?_;intro Q hQ hP;simp [hC,hY,h1,h1'];refine hQ _ _ _ _ (by kernel_rfl) ?_;clear hQ hP Q)|(refine gwC ?_ ?_<;>(intro hb;try (cases hb;done))))
  refine ⟨.inr rfl,by simp [Tryz.results7],kpS G1F⟩
theorem kngreat_s0 (L:List (Nat×Blk)) (ka:Nat) (b:Blk) (hT:LKb L ka b) (off n cap:Nat) (f:Nat→Int) (h:MB b off n f) (g bx tp nr md st:Int):Fun Tryz.prog G1 7 #[.agg #[.slice (some ⟨ka,off,none⟩) n cap,.int .i64 g,.int .i64 bx,.int .i64 tp,.int .i64 nr,.int .i64 md],.agg #[.int .i64 st,.slice none 0 0]] (hpL G1 L) (keys L) (.ret (.bool (decide (9<n))) []):=by
 refine fun_ofD (B:=200) G1F Tryz.func7 rfl Tryz.call7 hT.ok ?_ (flatV_ids (by simp)) (by simp) (by simp) (by simp [Tryz.ntmps7]) (by omega) ?_
 ·simp [idsV,idsA,idsF,ids0,keys,hT.ia]
 intro C hC hC0 hY
 have hA:=hT.a
 have hna:=hT.na
 have hLow:=hT.low
 by_cases h1:9<n
 ·have h1':(9:Int)<(n:Int):=by omega
  rw [decide_eq_true h1]
  repeat' (first|refine gwA ?_|(refine gwX ?_;intro Q hQ hP;simp [hC,hY,h1,h1'];refine hQ _ _ _ _ (by kernel_rfl) ?_;clear hQ hP Q)|(refine gwC ?_ ?_<;>(intro hb;try (cases hb;done))))
  refine ⟨.inr rfl,by simp [Tryz.results7],kpT G1F⟩
 ·have h1':¬(9:Int)<(n:Int):=by omega
  rw [decide_eq_false h1]
  repeat' (first|refine gwA ?_|(refine gwX ?_;intro Q hQ hP;simp [hC,hY,h1,h1'];refine hQ _ _ _ _ (by kernel_rfl) ?_;clear hQ hP Q)|(refine gwC ?_ ?_<;>(intro hb;try (cases hb;done))))
  refine ⟨.inr rfl,by simp [Tryz.results7],kpT G1F⟩
theorem heapK_slA {f:FuncId} {c:Array Value} {T:TypeId} {n nk b:Nat} {x:Int} {v:Value} {hp:Hp} {K:Eff→Prop} (h:Fun Tryz.prog G0 f #[.int .i64 x,.slice (some ⟨100,0,none⟩) n n] (hpL G0 [(100,⟨c,.ty T⟩)]) [100] (.ret v [])) (hc:∀ x∈c,flatF x=true) (hv:flatV v=true) (hb:100≤b)
  (h1:hp b=some ⟨c,.ty T⟩) (hK:K ((Res.ret v []).eff [b])):heapK Tryz.prog G0 f #[.int .i64 x,.slice (some ⟨b,0,none⟩) n n] hp nk K :=
 heapK_mv h G0F (B:=200) ⟨by simp,by simp [keys],fun p hp1=>by simp at hp1;subst hp1;exact fun x hx=>flatF_ids (hc x hx)⟩ (fun k=>if k=100 then b else k) (fun k hk=>if_neg (by omega)) (by simp [ren,renA,renF,ren0]) hv
  (by simp [hb,h1,Blk.rn];exact (map_eq_self (fun x hx=>flatF_ren (hc x hx))).symm) (by simp [keys]) (by simp [keys]) hK
theorem heapK_slB {f:FuncId} {c:Array Value} {T:TypeId} {n nk b:Nat} {v:Value} {hp:Hp} {K:Eff→Prop} (h:Fun Tryz.prog G0 f #[.slice (some ⟨100,0,none⟩) n n] (hpL G0 [(100,⟨c,.ty T⟩)]) [100] (.ret v [])) (hc:∀ x∈c,flatF x=true) (hv:flatV v=true) (hb:100≤b)
  (h1:hp b=some ⟨c,.ty T⟩) (hK:K ((Res.ret v []).eff [b])):heapK Tryz.prog G0 f #[.slice (some ⟨b,0,none⟩) n n] hp nk K :=
 heapK_mv h G0F (B:=200) ⟨by simp,by simp [keys],fun p hp1=>by simp at hp1;subst hp1;exact fun x hx=>flatF_ids (hc x hx)⟩ (fun k=>if k=100 then b else k) (fun k hk=>if_neg (by omega)) (by simp [ren,renA,renF,ren0]) hv
  (by simp [hb,h1,Blk.rn];exact (map_eq_self (fun x hx=>flatF_ren (hc x hx))).symm) (by simp [keys]) (by simp [keys]) hK
theorem fine9_1 {a0 a1 a2:Int} (h:inV 536870912 a0 a1 a2=true):Fun Tryz.prog G0 50 #[.slice (some ⟨100,0,none⟩) 1 1] (hpL G0 [(100,⟨#[.int .i64 a0,.int .i64 a1,.int .i64 a2],.ty 31⟩)]) (keys [(100,(⟨#[.int .i64 a0,.int .i64 a1,.int .i64 a2],.ty 31⟩:Blk))]) (.ret (.bool true) []):=by
 refine fun_ofL (B:=200) G0F Tryz.func50 rfl Tryz.call50 ⟨by simp,by simp [keys],by simp [ids_lit,idsF,ids0]⟩ ?_ (by simp) (by simp) (by simp) (by simp [Tryz.ntmps50]) (by omega) ?_
 ·simp [idsV,idsA,idsF,ids0,keys]
 intro C hC hC0 hY
 have im:i64 536870912:=by unfold i64;omega
 repeat' (first|refine GWL_start ?_|refine GWL_step ?_|refine gwA ?_|(refine gwX ?_;intro Q hQ hP;simp [hC,hY,h,im];refine hQ _ _ _ _ (by kernel_rfl) ?_;clear hQ hP Q)|(refine gwC ?_ ?_<;>(intro hb;try (cases hb;done))))
 refine ⟨.inr rfl,by simp [Tryz.results50],kpS G0F⟩
theorem fine9_2 {a0 a1 a2 b0 b1 b2:Int} (h:inV 536870912 a0 a1 a2=true) (k:inV 536870912 b0 b1 b2=true):Fun Tryz.prog G0 50 #[.slice (some ⟨100,0,none⟩) 2 2] (hpL G0 [(100,⟨#[.int .i64 a0,.int .i64 a1,.int .i64 a2,.int .i64 b0,.int .i64 b1,.int .i64 b2],.ty 31⟩)]) (keys [(100,(⟨#[.int .i64 a0,.int .i64 a1,.int .i64 a2,.int .i64 b0,.int .i64 b1,.int .i64 b2],.ty 31⟩:Blk))]) (.ret (.bool true) []):=by
 refine fun_ofL (B:=200) G0F Tryz.func50 rfl Tryz.call50 ⟨by simp,by simp [keys],by simp [ids_lit,idsF,ids0]⟩ ?_ (by simp) (by simp) (by simp) (by simp [Tryz.ntmps50]) (by omega) ?_
 ·simp [idsV,idsA,idsF,ids0,keys]
 intro C hC hC0 hY
 have im:i64 536870912:=by unfold i64;omega
 repeat' (first|refine GWL_start ?_|refine GWL_step ?_|refine gwA ?_|(refine gwX ?_;intro Q hQ hP;simp [hC,hY,h,k,im];refine hQ _ _ _ _ (by kernel_rfl) ?_;clear hQ hP Q)|(refine gwC ?_ ?_<;>(intro hb;try (cases hb;done))))
 refine ⟨.inr rfl,by simp [Tryz.results50],kpS G0F⟩
theorem told9_t {a0 a1 a2:Int} (h:inV 536870912 a0 a1 a2=true):Ret Tryz.prog G0 49 #[.agg #[.int .i64 a0,.int .i64 a1,.int .i64 a2],.bool true] (.tuple #[.agg #[.int .i64 a0,.int .i64 a1,.int .i64 a2],.int .i64 0]):=by
 refine ret_of G0F Tryz.func49 rfl Tryz.call49 (by simp) (by simp) (by simp [Tryz.ntmps49]) ?_
 intro C hC hC0 hY
 repeat' (first|refine gwA ?_|((first|refine gwR [50] ?_|refine gwD [50] ?_);intro Q hQ hP;simp [hC,hY];(repeat ((first|(refine heapK_slB (fine9_1 h) (by simp) (by simp) (by simp) ?_ ?_;focus (simp;done)));try simp [hC,hY]));refine hQ _ _ _ _ (by kernel_rfl) ?_;clear hQ hP Q)|(refine gwC ?_ ?_<;>(intro hb;try (cases hb;done))))
 refine ⟨.inr trivial,?_⟩
 simp [Tryz.results49]
theorem told9K {a0 a1 a2:Int} (h:inV 536870912 a0 a1 a2=true) (K:Value→Prop):callK Tryz.prog G0 49 #[.agg #[.int .i64 a0,.int .i64 a1,.int .i64 a2],.bool true] K↔K (.tuple #[.agg #[.int .i64 a0,.int .i64 a1,.int .i64 a2],.int .i64 0]):=callK_iff G0W (by kernel_rfl) (told9_t h)
theorem inV_of {m m' x y z:Int} (h:inW m x∧inW m y∧inW m z) (hm:m≤m'):inV m' x y z=true:=by
 refine inV_iff.2 ?_
 unfold inW at *
 omega
theorem sub_in {m a b:Int} (h:inW m a) (k:inW m b):inW (2*m) (a - b):=by
 unfold inW at *
 omega
theorem sub9_ret {a0 a1 a2 b0 b1 b2:Int} (h:inW 1048576 a0∧inW 1048576 a1∧inW 1048576 a2) (k:inW 1048576 b0∧inW 1048576 b1∧inW 1048576 b2):Ret Tryz.prog G0 30 #[.agg #[.int .i64 a0,.int .i64 a1,.int .i64 a2],.agg #[.int .i64 b0,.int .i64 b1,.int .i64 b2]] (.tuple #[.agg #[.int .i64 (a0 - b0),.int .i64 (a1 - b1),.int .i64 (a2 - b2)],.int .i64 0]):=by
 refine ret_of G0F Tryz.func30 rfl Tryz.call30 (by simp) (by simp) (by simp [Tryz.ntmps30]) ?_
 intro C hC hC0 hY
 have ha:=inV_of (m':=536870912) h (by omega)
 have hb9:=inV_of (m':=536870912) k (by omega)
 have hd:=inV_of (m':=536870912) ⟨sub_in h.1 k.1,sub_in h.2.1 k.2.1,sub_in h.2.2 k.2.2⟩ (by omega)
 have T:=told9K hd
 unfold inW at h k
 have q0:Int.bmod (a0 - b0) 18446744073709551616=a0 - b0:=bm (by omega) (by omega)
 have q1:Int.bmod (a1 - b1) 18446744073709551616=a1 - b1:=bm (by omega) (by omega)
 have q2:Int.bmod (a2 - b2) 18446744073709551616=a2 - b2:=bm (by omega) (by omega)
 repeat' (first|refine gwA ?_|((first|refine gwR [50] ?_|refine gwD [50] ?_);intro Q hQ hP;simp [hC,hY,q0,q1,q2,T];(repeat ((first|(refine heapK_slB (fine9_2 ha hb9) (by simp) (by simp) (by simp) ?_ ?_;focus (simp;done)));try simp [hC,hY,q0,q1,q2,T]));refine hQ _ _ _ _ (by kernel_rfl) ?_;clear hQ hP Q)|(refine gwC ?_ ?_<;>(intro hb;try (cases hb;done))))
 refine ⟨.inr trivial,?_⟩
 simp [Tryz.results30]
theorem sub9K {a0 a1 a2 b0 b1 b2:Int} (h:inW 1048576 a0∧inW 1048576 a1∧inW 1048576 a2) (k:inW 1048576 b0∧inW 1048576 b1∧inW 1048576 b2) (K:Value→Prop):callK Tryz.prog G0 30 #[.agg #[.int .i64 a0,.int .i64 a1,.int .i64 a2],.agg #[.int .i64 b0,.int .i64 b1,.int .i64 b2]] K↔K (.tuple #[.agg #[.int .i64 (a0 - b0),.int .i64 (a1 - b1),.int .i64 (a2 - b2)],.int .i64 0]):=callK_iff G0W (by kernel_rfl) (sub9_ret h k)
theorem dot9_ret {a0 a1 a2 b0 b1 b2:Int} (h:inW 2097152 a0∧inW 2097152 a1∧inW 2097152 a2):Ret Tryz.prog G0 63 #[.agg #[.int .i64 a0,.int .i64 a1,.int .i64 a2],.agg #[.int .i64 a0,.int .i64 a1,.int .i64 a2]] (.tuple #[.int .i64 (a0*a0+a1*a1+a2*a2),.int .i64 0]):=by
 refine ret_of G0F Tryz.func63 rfl Tryz.call63 (by simp) (by simp) (by simp [Tryz.ntmps63]) ?_
 intro C hC hC0 hY
 have ha:=inV_of (m':=536870912) h (by omega)
 have s0:=sq_in h.1
 have s1:=sq_in h.2.1
 have s2:=sq_in h.2.2
 have q0:Int.bmod (a0*a0) 18446744073709551616=a0*a0:=bm (by omega) (by omega)
 have q1:Int.bmod (a1*a1) 18446744073709551616=a1*a1:=bm (by omega) (by omega)
 have q2:Int.bmod (a2*a2) 18446744073709551616=a2*a2:=bm (by omega) (by omega)
 have q3:Int.bmod (a0*a0+a1*a1) 18446744073709551616=a0*a0+a1*a1:=bm (by omega) (by omega)
 have q4:Int.bmod (a0*a0+a1*a1+a2*a2) 18446744073709551616=a0*a0+a1*a1+a2*a2:=bm (by omega) (by omega)
 repeat' (first|refine gwA ?_|((first|refine gwR [50] ?_|refine gwD [50] ?_);intro Q hQ hP;simp [hC,hY,q0,q1,q2,q3,q4];(repeat ((first|(refine heapK_slB (fine9_2 ha ha) (by simp) (by simp) (by simp) ?_ ?_;focus (simp;done)));try simp [hC,hY,q0,q1,q2,q3,q4]));refine hQ _ _ _ _ (by kernel_rfl) ?_;clear hQ hP Q)|(refine gwC ?_ ?_<;>(intro hb;try (cases hb;done))))
 refine ⟨.inr trivial,?_⟩
 simp [Tryz.results63]
theorem dot9K {a0 a1 a2:Int} (h:inW 2097152 a0∧inW 2097152 a1∧inW 2097152 a2) (K:Value→Prop):callK Tryz.prog G0 63 #[.agg #[.int .i64 a0,.int .i64 a1,.int .i64 a2],.agg #[.int .i64 a0,.int .i64 a1,.int .i64 a2]] K↔K (.tuple #[.int .i64 (a0*a0+a1*a1+a2*a2),.int .i64 0]):=callK_iff G0W (by kernel_rfl) (dot9_ret (b0:=0) (b1:=0) (b2:=0) h)
theorem far9_ret {a0 a1 a2 b0 b1 b2:Int} (h:inW 1048576 a0∧inW 1048576 a1∧inW 1048576 a2) (k:inW 1048576 b0∧inW 1048576 b1∧inW 1048576 b2):Ret Tryz.prog G0 41 #[.agg #[.int .i64 a0,.int .i64 a1,.int .i64 a2],.agg #[.int .i64 b0,.int .i64 b1,.int .i64 b2]] (.tuple #[.int .i64 ((a0 - b0)*(a0 - b0)+(a1 - b1)*(a1 - b1)+(a2 - b2)*(a2 - b2)),.int .i64 0]):=by
 refine ret_of G0F Tryz.func41 rfl Tryz.call41 (by simp) (by simp) (by simp [Tryz.ntmps41]) ?_
 intro C hC hC0 hY
 have S:=sub9K h k
 have T:=dot9K (a0:=a0 - b0) (a1:=a1 - b1) (a2:=a2 - b2) ⟨sub_in h.1 k.1,sub_in h.2.1 k.2.1,sub_in h.2.2 k.2.2⟩
 repeat' (first|refine gwA ?_|(refine gwX ?_;intro Q hQ hP;simp [hC,hY,S,T];refine hQ _ _ _ _ (by kernel_rfl) ?_;clear hQ hP Q)|(refine gwC ?_ ?_<;>(intro hb;try (cases hb;done))))
 refine ⟨.inr trivial,?_⟩
 simp [Tryz.results41]
theorem far9K {a0 a1 a2 b0 b1 b2:Int} (h:inW 1048576 a0∧inW 1048576 a1∧inW 1048576 a2) (k:inW 1048576 b0∧inW 1048576 b1∧inW 1048576 b2) (K:Value→Prop):callK Tryz.prog G0 41 #[.agg #[.int .i64 a0,.int .i64 a1,.int .i64 a2],.agg #[.int .i64 b0,.int .i64 b1,.int .i64 b2]] K↔K (.tuple #[.int .i64 ((a0 - b0)*(a0 - b0)+(a1 - b1)*(a1 - b1)+(a2 - b2)*(a2 - b2)),.int .i64 0]):=callK_iff G0W (by kernel_rfl) (far9_ret h k)
def mnI (f:Nat→Int) (i:Nat) (m:Int):Nat→Int
 | 0=>m
 | k+1=>if d2F f i k<mnI f i m k then d2F f i k else mnI f i m k
def mnO (f:Nat→Int):Nat→Int
 | 0=>4611686018427387904
 | i+1=>mnI f i (mnO f i) i
theorem sq_nn (a:Int):0≤a*a:=by
 by_cases h:0≤a
 ·exact Int.mul_nonneg h h
 ·rw [←Int.neg_mul_neg]
  exact Int.mul_nonneg (by omega) (by omega)
theorem d2F_nn (f:Nat→Int) (i k:Nat):0≤d2F f i k:=by
 have h0:=sq_nn (f (6*i) - f (6*k))
 have h1:=sq_nn (f (6*i+1) - f (6*k+1))
 have h2:=sq_nn (f (6*i+2) - f (6*k+2))
 unfold d2F
 omega
theorem mnI_0 (f:Nat→Int) (i:Nat) {m:Int} (hm:0≤m):∀ k:Nat,0≤mnI f i m k∧(mnI f i m k=0↔m=0∨∃ j,j<k∧d2F f i j=0)
 | 0=>⟨hm,⟨fun h=>.inl h,fun h=>h.elim id fun ⟨j,h1,_⟩=>by omega⟩⟩
 | k+1=>by
  obtain ⟨h1,h2⟩:=mnI_0 f i hm k
  have h3:=d2F_nn f i k
  have e:mnI f i m (k+1)=if d2F f i k<mnI f i m k then d2F f i k else mnI f i m k:=rfl
  rw [e]
  split
  ·refine ⟨h3,fun h=>.inr ⟨k,by omega,h⟩,fun h=>?_⟩
   rcases h with h|⟨j,hj,hz⟩
   ·have:=h2.2 (.inl h)
    omega
   ·by_cases hjk:j=k
    ·rw [←hjk];exact hz
    ·have:=h2.2 (.inr ⟨j,by omega,hz⟩)
     omega
  ·refine ⟨h1,fun h=>?_,fun h=>?_⟩
   ·rcases h2.1 h with h|⟨j,hj,hz⟩
    ·exact .inl h
    ·exact .inr ⟨j,by omega,hz⟩
   ·rcases h with h|⟨j,hj,hz⟩
    ·exact h2.2 (.inl h)
    ·by_cases hjk:j=k
     ·rw [hjk] at hz
      omega
     ·exact h2.2 (.inr ⟨j,by omega,hz⟩)
theorem mnO_0 (f:Nat→Int):∀ n:Nat,0≤mnO f n∧(mnO f n=0↔∃ i j,j<i∧i<n∧d2F f i j=0)
 | 0=>⟨by show (0:Int)≤4611686018427387904;decide,⟨fun h=>absurd (show (4611686018427387904:Int)=0 from h) (by decide),fun ⟨i,j,_,h,_⟩=>by omega⟩⟩
 | n+1=>by
  obtain ⟨h1,h2⟩:=mnO_0 f n
  obtain ⟨h3,h4⟩:=mnI_0 f n h1 n
  refine ⟨h3,fun h=>?_,fun h=>?_⟩
  ·rcases h4.1 h with h|⟨j,hj,hz⟩
   ·obtain ⟨i,j,a,b,c⟩:=h2.1 h
    exact ⟨i,j,a,by omega,c⟩
   ·exact ⟨n,j,hj,by omega,hz⟩
  ·obtain ⟨i,j,a,b,c⟩:=h
   refine h4.2 ?_
   by_cases e:i=n
   ·subst e
    exact .inr ⟨j,a,c⟩
   ·exact .inl (h2.2 ⟨i,j,a,by omega,c⟩)
theorem sb_vec0 {b:Blk} {off n:Nat} {f:Nat→Int} (h:SB b off n f) {i:Nat} (hi:i<n):loadK Tryz.prog 31 b (off+i*6)=some (.agg #[.int .i64 (f (6*i)),.int .i64 (f (6*i+1)),.int .i64 (f (6*i+2))]):=by
 have hbrd:=Blk.fx_rd h.fx
 have:=loadK_rd (P:=Tryz.prog) (T:=31) (m:=3) (j:=6*i) (tyAgg_of Tryz.isAgg31) (tySize_of Tryz.sizeOf31) (by omega) h.rd (by omega)
 rw [show off+i*6=off+6*i by omega,this,fa_3]
 rfl
def lsSt (b:Blk) (st:Int) (off n cap:Nat) (m:Int) (i:Nat):GS :=
 ⟨tsL [(1,.pointer (some ⟨200,0,none⟩)),(2,.int .i64 0),(3,.bool false),(4,.int .i64 m),(5,.int .i64 i)],hpL G0 [(200,stB' st 100 off n cap),(100,b)],500,0⟩
def lsSu (b:Blk) (st:Int) (off n cap:Nat) (m:Int) (i k:Nat):GS :=
 ⟨tsL [(1,.pointer (some ⟨200,0,none⟩)),(2,.int .i64 0),(3,.bool false),(4,.int .i64 m),(5,.int .i64 i),(6,.int .i64 k)],hpL G0 [(200,stB' st 100 off n cap),(100,b)],500,0⟩
set_option maxRecDepth 8000 in
set_option maxHeartbeats 4000000 in
theorem least_fun (b:Blk) (off n cap:Nat) (f:Nat→Int) (h:SB b off n f) (st:Int) (r:rightB st f n=true) :
  Fun Tryz.prog G0 24 #[.agg #[.int .i64 st,.slice (some ⟨100,off,none⟩) n cap]] (hpL G0 [(100,b)]) (keys [(100,b)]) (.ret (.tuple #[.int .i64 (if n<2 then 0 else mnO f n),.bool (!decide (n<2))]) []):=by
 refine fun_ofL (B:=200) G0F Tryz.func24 rfl Tryz.call24 (oneL_ok h.fx) ?_ (flatV_ids (by simp)) (by simp) (by simp) (by simp [Tryz.ntmps24]) (by omega) ?_
 ·simp [idsV,idsA,idsF,ids0,keys]
 intro C hC hC0 hY
 have hr:=fun ρ=>Blk.fx_rn h.fx ρ
 have hid:=fun D=>Blk.fx_ids h.fx D
 have hri:=rig10_fun b off n cap f h st
 rw [r] at hri
 have hn4:=(right_n r).2.1
 by_cases h2:n<2
 ·have h2':(n:Int)<2:=by omega
  rw [if_pos h2,decide_eq_true h2]
  repeat' (first|refine gwA ?_|((first|refine gwR [34] ?_|refine gwD [34] ?_);intro Q hQ hP;simp [hC,hY,h2'];(repeat ((first|(refine heapK_mv hri G0F (B:=200) (oneL_ok h.fx) (fun k=>k) (fun k hk=>rfl) (by simp [ren,renA,renF,ren0]) (by simp) (by simp [hr]) (by simp [keys]) (by simp [keys];rfl) ?_));try simp [hC,hY,h2']));refine hQ _ _ _ _ (by kernel_rfl) ?_;clear hQ hP Q)|(refine gwC ?_ ?_<;>(intro hb;try (cases hb;done))))
  refine ⟨.inr rfl,by simp [Tryz.results24],kpS G0F⟩
 ·have h2':¬(n:Int)<2:=by omega
  rw [if_neg h2,decide_eq_false h2]
  repeat' (first|refine gwA ?_|((first|refine gwR [34] ?_|refine gwD [34] ?_);intro Q hQ hP;simp [hC,hY,h2'];(repeat ((first|(refine heapK_mv hri G0F (B:=200) (oneL_ok h.fx) (fun k=>k) (fun k hk=>rfl) (by simp [ren,renA,renF,ren0]) (by simp) (by simp [hr]) (by simp [keys]) (by simp [keys];rfl) ?_));try simp [hC,hY,h2']));refine hQ _ _ _ _ (by kernel_rfl) ?_;clear hQ hP Q)|(refine gwC ?_ ?_<;>(intro hb;try (cases hb;done))))
  refine GW_for n (fun i=>lsSt b st off n cap (mnO f i) i) ?_ ?_ ?_
  ·refine weakL _ 500 hC G0F (m0:=[(100,b)]) hC0 (by omega) ?_ ?_ ?_
   ·simp [idsV,idsA,idsF,ids0,dom,mnO]
   ·simp [stB',ids_lit,idsF,ids0,dom,hid]
   ·simp
  ·intro i hi
   have hi1:(i:Int)<n:=Int.ofNat_lt.2 hi
   have hz:(0:Int)≤i:=Int.natCast_nonneg i
   have hs1:=nat_succ hi hn4.2
   (try dsimp only)
   unfold lsSt stB'
   repeat' (first|refine gwA ?_|(refine gwX ?_;intro Q hQ hP;simp [hC,hY,hi1,hz];refine hQ _ _ _ _ (by kernel_rfl) ?_;clear hQ hP Q)|(refine gwC ?_ ?_<;>(intro hb;try (cases hb;done))))
   refine GW_for i (fun k=>lsSu b st off n cap (mnI f i (mnO f i) k) i k) ?_ ?_ ?_
   ·refine weakL _ 500 hC G0F (m0:=[(100,b)]) hC0 (by omega) ?_ ?_ ?_
    ·simp [idsV,idsA,idsF,ids0,dom,mnI]
    ·simp [stB',ids_lit,idsF,ids0,dom,hid]
    ·simp
   ·intro k hk
    have hk1:(k:Int)<i:=Int.ofNat_lt.2 hk
    have hk2:(k:Int)<n:=by omega
    have hkz:(0:Int)≤k:=Int.natCast_nonneg k
    have hs2:=nat_succ hk (by omega)
    have hv1:=sb_vec0 h hi
    have hv2:=sb_vec0 h (i:=k) (by omega)
    have F9:∀ K:Value→Prop,callK Tryz.prog G0 41 #[.agg #[.int .i64 (f (6*i)),.int .i64 (f (6*i+1)),.int .i64 (f (6*i+2))],.agg #[.int .i64 (f (6*k)),.int .i64 (f (6*k+1)),.int .i64 (f (6*k+2))]] K↔K (.tuple #[.int .i64 (d2F f i k),.int .i64 0]):=fun K=>far9K (right_b r hi).1 (right_b r (i:=k) (by omega)).1 K
    (try dsimp only)
    unfold lsSu stB'
    repeat' (first|refine gwA ?_|(refine gwX ?_;intro Q hQ hP;simp [hC,hY,hi1,hz,hk1,hk2,hkz,hs2,hv1,hv2,F9];refine hQ _ _ _ _ (by kernel_rfl) ?_;clear hQ hP Q)|(refine gwC ?_ ?_<;>(intro hb;try (cases hb;done))))
    refine weakL _ 500 hC G0F (m0:=[(100,b)]) hC0 (by omega) ?_ ?_ ?_
    ·simp [idsV,idsA,idsF,ids0,dom,hs2,mnI]
    ·simp [stB',ids_lit,idsF,ids0,dom,hid]
    ·simp
   ·(try dsimp only)
    unfold lsSu stB'
    repeat' (first|refine gwA ?_|(refine gwX ?_;intro Q hQ hP;simp [hC,hY,hs1];refine hQ _ _ _ _ (by kernel_rfl) ?_;clear hQ hP Q)|(refine gwC ?_ ?_<;>(intro hb;try (cases hb;done))))
    refine weakL _ 500 hC G0F (m0:=[(100,b)]) hC0 (by omega) ?_ ?_ ?_
    ·simp [idsV,idsA,idsF,ids0,dom,hs1,mnO]
    ·simp [stB',ids_lit,idsF,ids0,dom,hid]
    ·simp
  ·(try dsimp only)
   unfold lsSt stB'
   repeat' (first|refine gwA ?_|(refine gwX ?_;intro Q hQ hP;simp [hC,hY];refine hQ _ _ _ _ (by kernel_rfl) ?_;clear hQ hP Q)|(refine gwC ?_ ?_<;>(intro hb;try (cases hb;done))))
   refine ⟨.inr rfl,by simp [Tryz.results24],kpS G0F⟩
set_option maxRecDepth 8000 in
set_option maxHeartbeats 2000000 in
theorem fits16_L (L:List (Nat×Blk)) (ks:Nat) (bm bs:Blk) (hT:LTwo G0 L ks bm bs) (off n cap off2 n2 cap2:Nat) (fm fs:Nat→Int) (hm:MB bm off n fm) (hSb:SB bs off2 n2 fs) (g bx tp nr md st:Int) :
  Fun Tryz.prog G0 20 #[cfV (.slice (some ⟨100,off,none⟩) n cap) g bx tp nr md,.agg #[.int .i64 st,.slice (some ⟨ks,off2,none⟩) n2 cap2]] (hpL G0 L) (keys L) (.ret (.bool (fitB n n2 (cfOk n fm g bx tp nr md) (rightB st fs n2))) []):=by
 refine fun_ofL (B:=200) G0F Tryz.func20 rfl Tryz.call20 hT.ok ?_ (by simp) (by simp) (by simp) (by simp [Tryz.ntmps20]) (by omega) ?_
 ·simp [idsV,idsA,idsF,ids0,hT.ia,hT.ib,cfV]
 intro C hC hC0 hY
 have hA:=hT.a
 have hS:=hT.s
 have hne:=hT.ne
 have hLow:=hT.low
 have hks:=hT.k1
 have hks2:=hT.k2
 have hrm:=fun ρ=>Blk.fx_rn hm.fx ρ
 have hrs:=fun ρ=>Blk.fx_rn hSb.fx ρ
 have hck:=chk11_fun bm off n cap fm hm g bx tp nr md
 have hri:=rig10_fun bs off2 n2 cap2 fs hSb st
 unfold fitB
 unfold cfV at hck ⊢
 cases hc:cfOk n fm g bx tp nr md with
 | false =>
  rw [hc] at hck
  rw [show (decide (n=n2)&&(false&&rightB st fs n2))=false by simp]
  repeat' (first|refine gwA ?_|((first|refine gwR [38,34] ?_|refine gwD [38,34] ?_);intro Q hQ hP;simp [hC,hY,hA,hS,hne];(repeat ((first|(refine heapK_mv hck G0F (B:=200) (oneL_ok hm.fx) (fun k=>k) (fun k hk=>rfl) (by simp [ren,renA,renF,ren0,cfV]) (by simp) (by simp [hrm,hA]) (by simp [keys]) (by simp [keys];rfl) ?_));try simp [hC,hY,hA,hS,hne]));refine hQ _ _ _ _ (by kernel_rfl) ?_;clear hQ hP Q)|(refine gwC ?_ ?_<;>(intro hb;try (cases hb;done))))
  refine ⟨.inr rfl,by simp [Tryz.results20],kpT G0F⟩
 | true =>
  rw [hc] at hck
  cases hr:rightB st fs n2 with
  | false =>
   rw [hr] at hri
   rw [show (decide (n=n2)&&(true&&false))=false by simp]
   repeat' (first|refine gwA ?_|((first|refine gwR [38,34] ?_|refine gwD [38,34] ?_);intro Q hQ hP;simp [hC,hY,hA,hS,hne];(repeat ((first|(refine heapK_mv hck G0F (B:=200) (oneL_ok hm.fx) (fun k=>k) (fun k hk=>rfl) (by simp [ren,renA,renF,ren0,cfV]) (by simp) (by simp [hrm,hA]) (by simp [keys]) (by simp [keys];rfl) ?_)|(refine heapK_mv hri G0F (B:=200) (oneL_ok hSb.fx) (fun k=>if k=100 then ks else k) (fun k hk=>if_neg (by omega)) (by simp [ren,renA,renF,ren0]) (by simp) (by simp [hrs,hS,hne,hks]) (by simp [keys]) (by simp [keys];rfl) ?_));try simp [hC,hY,hA,hS,hne]));refine hQ _ _ _ _ (by kernel_rfl) ?_;clear hQ hP Q)|(refine gwC ?_ ?_<;>(intro hb;try (cases hb;done))))
   refine ⟨.inr rfl,by simp [Tryz.results20],kpT G0F⟩
  | true =>
   rw [hr] at hri
   by_cases hn:n=n2
   ·have hn':(n:Int)=(n2:Int):=by omega
    have hnb:((n:Int)==(n2:Int))=true:=by simpa using hn'
    rw [decide_eq_true hn]
    repeat' (first|refine gwA ?_|((first|refine gwR [38,34] ?_|refine gwD [38,34] ?_);intro Q hQ hP;simp [hC,hY,hA,hS,hne,hn',hnb];(repeat ((first|(refine heapK_mv hck G0F (B:=200) (oneL_ok hm.fx) (fun k=>k) (fun k hk=>rfl) (by simp [ren,renA,renF,ren0,cfV]) (by simp) (by simp [hrm,hA]) (by simp [keys]) (by simp [keys];rfl) ?_)|(refine heapK_mv hri G0F (B:=200) (oneL_ok hSb.fx) (fun k=>if k=100 then ks else k) (fun k hk=>if_neg (by omega)) (by simp [ren,renA,renF,ren0]) (by simp) (by simp [hrs,hS,hne,hks]) (by simp [keys]) (by simp [keys];rfl) ?_));try simp [hC,hY,hA,hS,hne,hn',hnb]));refine hQ _ _ _ _ (by kernel_rfl) ?_;clear hQ hP Q)|(refine gwC ?_ ?_<;>(intro hb;try (cases hb;done))))
    refine ⟨.inr rfl,by simp [Tryz.results20],kpT G0F⟩
   ·have hn':¬(n:Int)=(n2:Int):=by omega
    have hnb:((n:Int)==(n2:Int))=false:=by simpa using hn'
    rw [decide_eq_false hn]
    repeat' (first|refine gwA ?_|((first|refine gwR [38,34] ?_|refine gwD [38,34] ?_);intro Q hQ hP;simp [hC,hY,hA,hS,hne,hn',hnb];(repeat ((first|(refine heapK_mv hck G0F (B:=200) (oneL_ok hm.fx) (fun k=>k) (fun k hk=>rfl) (by simp [ren,renA,renF,ren0,cfV]) (by simp) (by simp [hrm,hA]) (by simp [keys]) (by simp [keys];rfl) ?_)|(refine heapK_mv hri G0F (B:=200) (oneL_ok hSb.fx) (fun k=>if k=100 then ks else k) (fun k hk=>if_neg (by omega)) (by simp [ren,renA,renF,ren0]) (by simp) (by simp [hrs,hS,hne,hks]) (by simp [keys]) (by simp [keys];rfl) ?_));try simp [hC,hY,hA,hS,hne,hn',hnb]));refine hQ _ _ _ _ (by kernel_rfl) ?_;clear hQ hP Q)|(refine gwC ?_ ?_<;>(intro hb;try (cases hb;done))))
    refine ⟨.inr rfl,by simp [Tryz.results20],kpT G0F⟩
@[simp] theorem ppull (n d g m x0 x1 x2:Int) (h0:inX x0) (h1:inX x1) (h2:inX x2) (k0:PIn n d g m x0 (x0*x0+x1*x1+x2*x2)) (k1:PIn n d g m x1 (x0*x0+x1*x1+x2*x2)) (k2:PIn n d g m x2 (x0*x0+x1*x1+x2*x2)) (K:Value→Prop) :
  callK Tryz.prog G1 27 #[.int .i64 n,.int .i64 d,.int .i64 g,.int .i64 m,.agg #[.int .i64 x0,.int .i64 x1,.int .i64 x2]] K↔K (.tuple #[.agg #[.int .i64 (pullV n d g m x0 (x0*x0+x1*x1+x2*x2)),.int .i64 (pullV n d g m x1 (x0*x0+x1*x1+x2*x2)),.int .i64 (pullV n d g m x2 (x0*x0+x1*x1+x2*x2))],.int .i64 0]) :=
 callK_iff G1W (by kernel_rfl) (ppull_ok n d g m x0 x1 x2 h0 h1 h2 k0 k1 k2)
theorem pull_at {n d g m x0 x1 x2 p0 p1 p2:Int} {r:Int} (hr:x0*x0+x1*x1+x2*x2=r) (h0:inX x0) (h1:inX x1) (h2:inX x2) (k0:PIn n d g m x0 r) (k1:PIn n d g m x1 r) (k2:PIn n d g m x2 r)
  (e0:pullV n d g m x0 r=p0) (e1:pullV n d g m x1 r=p1) (e2:pullV n d g m x2 r=p2) (K:Value→Prop) :
  callK Tryz.prog G1 27 #[.int .i64 n,.int .i64 d,.int .i64 g,.int .i64 m,.agg #[.int .i64 x0,.int .i64 x1,.int .i64 x2]] K↔K (.tuple #[.agg #[.int .i64 p0,.int .i64 p1,.int .i64 p2],.int .i64 0]):=by
 subst hr e0 e1 e2
 exact ppull n d g m x0 x1 x2 h0 h1 h2 k0 k1 k2 K
structure MayP (n d g m x0 x1 x2:Int):Prop where
 i0:inX x0
 i1:inX x1
 i2:inX x2
 far:¬(x0=0∧x1=0∧x2=0)
 n0:-2097152≤n
 n1:n≤2097152
 d0:1≤d
 d1:d≤2097152
 g0:1≤g
 g1:g≤1048576
 m0:1≤m
 m1:m≤1024
theorem sq_pos {x:Int} (h:x≠0):1≤x*x:=by
 by_cases h0:0≤x
 ·exact Int.mul_pos (by omega) (by omega)
 ·rw [←Int.neg_mul_neg];exact Int.mul_pos (by omega) (by omega)
theorem MayP.pin {n d g m x0 x1 x2:Int} (h:MayP n d g m x0 x1 x2):PIn n d g m x0 (x0*x0+x1*x1+x2*x2)∧PIn n d g m x1 (x0*x0+x1*x1+x2*x2)∧PIn n d g m x2 (x0*x0+x1*x1+x2*x2):=by
 have s0:=inB_sq h.i0
 have s1:=inB_sq h.i1
 have s2:=inB_sq h.i2
 have hr:1≤x0*x0+x1*x1+x2*x2:=by
  by_cases z0:x0=0
  ·by_cases z1:x1=0
   ·have:=sq_pos (x:=x2) (fun z2=>h.far ⟨z0,z1,z2⟩);omega
   ·have:=sq_pos z1;omega
  ·have:=sq_pos z0;omega
 refine ⟨⟨h.n0,h.n1,h.d0,h.d1,h.g0,h.g1,h.m0,h.m1,h.i0.1,h.i0.2,hr,by omega,by omega⟩,⟨h.n0,h.n1,h.d0,h.d1,h.g0,h.g1,h.m0,h.m1,h.i1.1,h.i1.2,hr,by omega,by omega⟩,⟨h.n0,h.n1,h.d0,h.d1,h.g0,h.g1,h.m0,h.m1,h.i2.1,h.i2.2,hr,by omega,by omega⟩⟩
theorem MayP.at {n d g m x0 x1 x2 r p0 p1 p2:Int} (h:MayP n d g m x0 x1 x2) (hr:x0*x0+x1*x1+x2*x2=r) (e0:pullV n d g m x0 r=p0) (e1:pullV n d g m x1 r=p1) (e2:pullV n d g m x2 r=p2) (K:Value→Prop) :
  callK Tryz.prog G1 27 #[.int .i64 n,.int .i64 d,.int .i64 g,.int .i64 m,.agg #[.int .i64 x0,.int .i64 x1,.int .i64 x2]] K↔K (.tuple #[.agg #[.int .i64 p0,.int .i64 p1,.int .i64 p2],.int .i64 0]):=by
 have hp:=h.pin
 rw [hr] at hp
 exact pull_at hr h.i0 h.i1 h.i2 hp.1 hp.2.1 hp.2.2 e0 e1 e2 K
theorem PIn.val {n d g m x r:Int} (h:PIn n d g m x r):-4503599627370496≤pullV n d g m x r∧pullV n d g m x r≤4503599627370496:=by
 have:=h.mag
 unfold pullV
 (repeat' split)<;>omega
theorem sq_lt_zero {q:Int} (h0:0≤q):(isq q+1) / 2=0↔q=0:=by
 obtain ⟨h1,h2,h3⟩:=isq_spec q h0
 constructor
 ·intro h
  have h4:isq q=0:=by omega
  rw [h4] at h3
  omega
 ·intro h
  subst h
  rw [isq_unique (r:=0) (by decide) (by decide) (by decide)]
  decide
theorem PIn.zero {n d g m x r:Int} (h:PIn n d g m x r):pullV n d g m x r=0↔2*n*g*m*x*(2*n*g*m*x)<d*d*r*r*r:=by
 have hB:0<d*d*r*r*r:=by have:=h.q4.1;have:=h.r0;omega
 have hA:=sq_nonneg (2*n*g*m*x)
 have e1:pullV n d g m x r=0↔pmag n d g m x r=0:=by
  have:=h.mag
  unfold pullV
  (repeat' split)<;>omega
 rw [e1]
 unfold pmag
 rw [sq_lt_zero (Int.ediv_nonneg hA (by omega))]
 generalize 2*n*g*m*x*(2*n*g*m*x)=A at *
 generalize d*d*r*r*r=B at *
 constructor
 ·intro h
  have e2:=Int.emod_lt_of_pos A hB
  have e3:=Int.mul_ediv_add_emod A B
  rw [h] at e3
  omega
 ·intro h;exact Int.ediv_eq_zero_of_lt hA h
end Go.Gy
namespace Go.Gy
set_option linter.unusedSimpArgs false
set_option linter.unusedVariables false
open Go Go.RowKit Go.Proofs
def bt (z:Int):Nat→Int
 | 0=>0
 | i+1=>if wi z i=0 then bt z i else 64*i+nbits (wi z i)
end Go.Gy
namespace Go.Gy
set_option linter.unusedSimpArgs false
set_option linter.unusedVariables false
open Go Go.RowKit Go.Proofs
instance inBdec (x:Int):Decidable (inX x):=by unfold inX;infer_instance
theorem fits16_ka (L:List (Nat×Blk)) (ka ks:Nat) (bm bs:Blk) (hT:LKa L ka ks bm bs) (off n cap off2 n2 cap2:Nat) (fm fs:Nat→Int) (hm:MB bm off n fm) (hSb:SB bs off2 n2 fs) (g bx tp nr md st:Int) :
  Fun Tryz.prog G1 20 #[cfV (.slice (some ⟨ka,off,none⟩) n cap) g bx tp nr md,.agg #[.int .i64 st,.slice (some ⟨ks,off2,none⟩) n2 cap2]] (hpL G1 L) (keys L) (.ret (.bool (fitB n n2 (cfOk n fm g bx tp nr md) (rightB st fs n2))) []):=by
 rcases hT.a8 with e|e
 ·subst e
  exact (fits16_L L ks bm bs hT.tw off n cap off2 n2 cap2 fm fs hm hSb g bx tp nr md st).up1 hT.ok
 ·obtain ⟨rfl,rfl,rfl⟩:=hT.ag e
  subst e
  have h:=(fits16_L _ 108 lmB bs (LTwo.two lmB_fx hSb.fx) off n cap off2 n2 cap2 fm fs hm hSb g bx tp nr md st).mvG (lim_mv hSb.fx) (fun k hk=>by cases hk) rfl
  simpa [cfV,ren,renA,renF,ren0,gmv,rnL] using h
theorem kk_zero {n d g:Int} {fm fs:Nat→Int} {N:Nat}:nzAny (kkF n d g fm fs N) N=false↔∀ i,i<N→∀ u,u<3→kS n d g fm fs N i u=0:=by
 rw [nzAny_f]
 have e:∀ i,nzB (kkF n d g fm fs N) i=false↔∀ u,u<3→kS n d g fm fs N i u=0:=fun i=>by
  have e0:=kkF_at n d g fm fs N i (u:=0) (by omega)
  have e1:=kkF_at n d g fm fs N i (u:=1) (by omega)
  have e2:=kkF_at n d g fm fs N i (u:=2) (by omega)
  rw [Nat.add_zero] at e0
  unfold nzB
  rw [e0,e1,e2]
  simp only [Bool.not_eq_false',Bool.and_eq_true,decide_eq_true_eq]
  constructor
  ·rintro ⟨a,b,c⟩ u hu
   have:u=0∨u=1∨u=2:=by omega
   rcases this with rfl|rfl|rfl<;>assumption
  ·intro h
   exact ⟨h 0 (by omega),h 1 (by omega),h 2 (by omega)⟩
 exact ⟨fun h i hi=>(e i).1 (h i hi),fun h i hi=>(e i).2 (h i hi)⟩
theorem kk_same {n d g:Int} {fm fs:Nat→Int} {N:Nat}:(∀ j,j<6*N→kcF n d g fm fs N j=fs j)↔nzAny (kkF n d g fm fs N) N=false:=by
 rw [kk_zero]
 constructor
 ·intro h i hi u hu
  have:=h (6*i+3+u) (by omega)
  rw [kcF_hi _ _ _ _ _ _ _ _ hu] at this
  omega
 ·intro h j hj
  by_cases c:j%6<3
  ·have e:j=6*(j / 6)+j%6:=by omega
   rw [e,kcF_lo _ _ _ _ _ _ _ _ c]
  ·have e:j=6*(j / 6)+3+(j%6 - 3):=by omega
   rw [e,kcF_hi _ _ _ _ _ _ _ _ (by omega),h _ (by omega) _ (by omega)]
   omega
theorem kk_0 (d g:Int) (fm fs:Nat→Int) (N:Nat):nzAny (kkF 0 d g fm fs N) N=false:=kk_zero.2 fun i _ u _=>kS_0 d g fm fs N i u
theorem kAny_mn (fs:Nat→Int) (N:Nat):kAny fs N=true↔mnO fs N=0:=by
 rw [(mnO_0 fs N).2]
 constructor
 ·intro h
  refine Classical.byContradiction fun c=>?_
  ·have:kAny fs N=false:=kAny_f.2 fun i hi=>kZ_f.2 fun k hk hne hz=>c (by
    by_cases l:i<k
    ·exact ⟨k,i,l,hk,hz⟩
    ·exact ⟨i,k,by omega,hi,by rw [d2F_sym];exact hz⟩)
   rw [this] at h
   cases h
 ·rintro ⟨i,j,h1,h2,h3⟩
  cases c:kAny fs N with
  | true=>rfl
  | false=>exact absurd h3 (kZ_f.1 (kAny_f.1 c j (by omega)) i h2 (by omega))
theorem still_least (fs:Nat→Int) (N:Nat):(N<2∧kAny fs N=false)∨(¬N<2∧0<mnO fs N∧kAny fs N=false)∨(¬N<2∧mnO fs N=0∧kAny fs N=true):=by
 have h:=kAny_mn fs N
 have h0:=(mnO_0 fs N).1
 by_cases c:N<2
 ·refine .inl ⟨c,kAny_f.2 fun i hi=>kZ_f.2 fun k hk hne _=>?_⟩
  omega
 ·right
  cases e:kAny fs N with
  | true=>exact .inr ⟨c,h.1 e,rfl⟩
  | false =>
   refine .inl ⟨c,?_,rfl⟩
   have:¬mnO fs N=0:=fun z=>by rw [h.2 z] at e;cases e
   omega
def stlB (p q g:Int) (fm fs:Nat→Int) (n:Nat):Bool:=kprtB p q&&(!(kAny fs n)&&!(nzAny (kkF p q g fm fs n) n))
theorem stl_0 (g:Int) (fm fs:Nat→Int) (n:Nat):stlB 0 1 g fm fs n=!(kAny fs n):=by
 unfold stlB
 rw [kk_0]
 simp [show kprtB 0 1=true from rfl]
theorem kstill_of (L:List (Nat×Blk)) (ka ks:Nat) (bm bs:Blk) (hT:LKa L ka ks bm bs) (off n cap off2 cap2:Nat) (fm fs:Nat→Int) (hm:MB bm off n fm) (hSb:SB bs off2 n fs) (g bx tp nr md st:Int) (hs:i64 st) (p q:Int) (hok:cfOk n fm g bx tp nr md=true) (hrt:rightB st fs n=true) :
  Fun Tryz.prog G1 17 #[cfV (.slice (some ⟨ka,off,none⟩) n cap) g bx tp nr md,.agg #[.int .i64 st,.slice (some ⟨ks,off2,none⟩) n cap2],.int .i64 p,.int .i64 q] (hpL G1 L) (keys L) (.ret (.bool (stlB p q g fm fs n)) []):=by
 unfold stlB
 cases hp:kprtB p q with
 | false=>exact kstill_bad L ka ks bm bs hT off n cap off2 n cap2 g bx tp nr md st p q 2 (by decide) (kkicks_b1 L ka ks bm bs hT off n cap off2 cap2 fm fs hm hSb g bx tp nr md st hs p q hok hrt hp)
 | true =>
  cases ha:kAny fs n with
  | true=>exact kstill_bad L ka ks bm bs hT off n cap off2 n cap2 g bx tp nr md st p q 30 (by decide) (kkicks_b2 L ka ks bm bs hT off n cap off2 cap2 fm fs hm hSb g bx tp nr md st hs p q hok hrt hp ha)
  | false=>exact kstill_ok L ka ks bm bs hT off n cap off2 cap2 fm fs hm hSb g bx tp nr md st hs p q hok hrt hp ha
theorem kick_of (L:List (Nat×Blk)) (ka ks:Nat) (bm bs:Blk) (hT:LKa L ka ks bm bs) (off n cap off2 cap2:Nat) (fm fs:Nat→Int) (hm:MB bm off n fm) (hSb:SB bs off2 n fs) (hcap2:n≤cap2) (g bx tp nr md st:Int) (hs:i64 st) (p q:Int) (hok:cfOk n fm g bx tp nr md=true) (hrt:rightB st fs n=true) :
  ∃ (F:Nat→Int) (e:Int),FunS Tryz.prog G1 14 #[cfV (.slice (some ⟨ka,off,none⟩) n cap) g bx tp nr md,.agg #[.int .i64 st,.slice (some ⟨ks,off2,none⟩) n cap2],.int .i64 p,.int .i64 q] (hpL G1 L) (keys L) (OwnT 1000 st n F e)∧(∀ j,j<6*n→i64 (F j))∧((stlB p q g fm fs n=true∧e=0∧sameB st st n n F fs=true)∨(stlB p q g fm fs n=false∧¬e=0)∨(stlB p q g fm fs n=false∧e=0∧sameB st st n n F fs=false)):=by
 cases hp:kprtB p q with
 | false=>exact ⟨fs,2,kick_bad L ka ks bm bs hT off n cap off2 n cap2 fm fs hm hSb hcap2 g bx tp nr md st hs p q 2 (by decide) (kkicks_b1 L ka ks bm bs hT off n cap off2 cap2 fm fs hm hSb g bx tp nr md st hs p q hok hrt hp),hSb.i6,.inr (.inl ⟨by unfold stlB;rw [hp];rfl,by decide⟩)⟩
 | true =>
  cases ha:kAny fs n with
  | true=>exact ⟨fs,30,kick_bad L ka ks bm bs hT off n cap off2 n cap2 fm fs hm hSb hcap2 g bx tp nr md st hs p q 30 (by decide) (kkicks_b2 L ka ks bm bs hT off n cap off2 cap2 fm fs hm hSb g bx tp nr md st hs p q hok hrt hp ha),hSb.i6,.inr (.inl ⟨by unfold stlB;rw [hp,ha];rfl,by decide⟩)⟩
  | false =>
   cases hz:nzAny (kkF p q g fm fs n) n with
   | false =>
    have h:=kk_same.2 hz
    have hr:rightB st (kcF p q g fm fs n) n=true:=by rw [kright_congr h];exact hrt
    exact ⟨_,0,kick_ok L ka ks bm bs hT off n cap off2 cap2 fm fs hm hSb hcap2 g bx tp nr md st hs p q hok hrt hp ha hr,fun j hj=>by have:=k_st hr hj;exact ⟨by omega,by omega⟩,.inl ⟨by unfold stlB;rw [hp,ha,hz];rfl,rfl,sameB_iff.2 ⟨rfl,rfl,h⟩⟩⟩
   | true =>
    cases hr:rightB st (kcF p q g fm fs n) n with
    | false=>exact ⟨fs,20,kick_over L ka ks bm bs hT off n cap off2 cap2 fm fs hm hSb hcap2 g bx tp nr md st hs p q hok hrt hp ha hr,hSb.i6,.inr (.inl ⟨by unfold stlB;rw [hp,ha,hz];rfl,by decide⟩)⟩
    | true =>
     refine ⟨_,0,kick_ok L ka ks bm bs hT off n cap off2 cap2 fm fs hm hSb hcap2 g bx tp nr md st hs p q hok hrt hp ha hr,fun j hj=>by have:=k_st hr hj;exact ⟨by omega,by omega⟩,.inr (.inr ⟨by unfold stlB;rw [hp,ha,hz];rfl,rfl,?_⟩)⟩
     cases hsm:sameB st st n n (kcF p q g fm fs n) fs with
     | false=>rfl
     | true =>
      have:=kk_same.1 (sameB_iff.1 hsm).2.2
      rw [this] at hz
      cases hz
theorem fits_00 (g bx tp nr md st:Int):Ret Tryz.prog G0 20 #[.agg #[.slice none 0 0,.int .i64 g,.int .i64 bx,.int .i64 tp,.int .i64 nr,.int .i64 md],.agg #[.int .i64 st,.slice none 0 0]] (.bool false):=by
 refine ret_of G0F Tryz.func20 rfl Tryz.call20 (by simp) (by simp) (by simp [Tryz.ntmps20]) ?_
 intro C hC hC0 hY
 repeat' (first|refine gwA ?_|(refine gwX ?_;intro Q hQ hP;simp [hC,hY];refine hQ _ _ _ _ (by kernel_rfl) ?_;clear hQ hP Q)|(refine gwC ?_ ?_<;>(intro hb;try (cases hb;done))))
 refine ⟨.inr trivial,?_⟩
 simp [Tryz.results20]
theorem fits_0s (b:Blk) (off n cap:Nat) (f:Nat→Int) (h:SB b off n f) (g bx tp nr md st:Int):Fun Tryz.prog G0 20 #[.agg #[.slice none 0 0,.int .i64 g,.int .i64 bx,.int .i64 tp,.int .i64 nr,.int .i64 md],.agg #[.int .i64 st,.slice (some ⟨100,off,none⟩) n cap]] (hpL G0 [(100,b)]) (keys [(100,b)]) (.ret (.bool false) []):=by
 refine fun_ofL (B:=200) G0F Tryz.func20 rfl Tryz.call20 (oneL_ok h.fx) ?_ (by simp) (by simp) (by simp) (by simp [Tryz.ntmps20]) (by omega) ?_
 ·simp [idsV,idsA,idsF,ids0,keys]
 intro C hC hC0 hY
 have hr:=fun ρ=>Blk.fx_rn h.fx ρ
 repeat' (first|refine gwA ?_|(refine gwX ?_;intro Q hQ hP;simp [hC,hY];refine hQ _ _ _ _ (by kernel_rfl) ?_;clear hQ hP Q)|(refine gwC ?_ ?_<;>(intro hb;try (cases hb;done))))
 refine ⟨.inr rfl,by simp [Tryz.results20],kpS G0F⟩
theorem fits_s0 (b:Blk) (off n cap:Nat) (f:Nat→Int) (h:MB b off n f) (g bx tp nr md st:Int):Fun Tryz.prog G0 20 #[.agg #[.slice (some ⟨100,off,none⟩) n cap,.int .i64 g,.int .i64 bx,.int .i64 tp,.int .i64 nr,.int .i64 md],.agg #[.int .i64 st,.slice none 0 0]] (hpL G0 [(100,b)]) (keys [(100,b)]) (.ret (.bool false) []):=by
 refine fun_ofL (B:=200) G0F Tryz.func20 rfl Tryz.call20 (oneL_ok h.fx) ?_ (by simp) (by simp) (by simp) (by simp [Tryz.ntmps20]) (by omega) ?_
 ·simp [idsV,idsA,idsF,ids0,keys]
 intro C hC hC0 hY
 have hr:=fun ρ=>Blk.fx_rn h.fx ρ
 have hck:=chk11_fun b off n cap f h g bx tp nr md
 unfold cfV at hck
 cases ok:cfOk n f g bx tp nr md with
 | false =>
  rw [ok] at hck
  simp only [Bool.false_eq_true,if_false] at hck
  repeat' (first|refine gwA ?_|((first|refine gwR [38] ?_|refine gwD [38] ?_);intro Q hQ hP;simp [hC,hY];(repeat ((first|(refine heapK_mv hck G0F (B:=200) (oneL_ok h.fx) (fun k=>k) (fun k hk=>rfl) (by simp [ren,renA,renF,ren0,cfV]) (by simp) (by simp [hr]) (by simp [keys]) (by simp [keys];rfl) ?_));try simp [hC,hY]));refine hQ _ _ _ _ (by kernel_rfl) ?_;clear hQ hP Q)|(refine gwC ?_ ?_<;>(intro hb;try (cases hb;done))))
  refine ⟨.inr rfl,by simp [Tryz.results20],kpS G0F⟩
 | true =>
  rw [ok] at hck
  simp only [if_true] at hck
  repeat' (first|refine gwA ?_|((first|refine gwR [38] ?_|refine gwD [38] ?_);intro Q hQ hP;simp [hC,hY];(repeat ((first|(refine heapK_mv hck G0F (B:=200) (oneL_ok h.fx) (fun k=>k) (fun k hk=>rfl) (by simp [ren,renA,renF,ren0,cfV]) (by simp) (by simp [hr]) (by simp [keys]) (by simp [keys];rfl) ?_));try simp [hC,hY]));refine hQ _ _ _ _ (by kernel_rfl) ?_;clear hQ hP Q)|(refine gwC ?_ ?_<;>(intro hb;try (cases hb;done))))
  refine ⟨.inr rfl,by simp [Tryz.results20],kpS G0F⟩
theorem k16_00K (g bx tp nr md st:Int) (K:Value→Prop):callK Tryz.prog G1 20 #[.agg #[.slice none 0 0,.int .i64 g,.int .i64 bx,.int .i64 tp,.int .i64 nr,.int .i64 md],.agg #[.int .i64 st,.slice none 0 0]] K↔K (.bool false):=callK_iff G1W (by kernel_rfl) ((fits_00 g bx tp nr md st).up G1up)
theorem k16_0s (b:Blk) (off n cap:Nat) (f:Nat→Int) (h:SB b off n f) (g bx tp nr md st:Int):Fun Tryz.prog G1 20 #[.agg #[.slice none 0 0,.int .i64 g,.int .i64 bx,.int .i64 tp,.int .i64 nr,.int .i64 md],.agg #[.int .i64 st,.slice (some ⟨100,off,none⟩) n cap]] (hpL G1 [(100,b)]) (keys [(100,b)]) (.ret (.bool false) []):=(fits_0s b off n cap f h g bx tp nr md st).up1 (oneL_ok h.fx)
theorem k16_s0 (L:List (Nat×Blk)) (ka:Nat) (b:Blk) (hT:LKb L ka b) (off n cap:Nat) (f:Nat→Int) (h:MB b off n f) (g bx tp nr md st:Int):Fun Tryz.prog G1 20 #[.agg #[.slice (some ⟨ka,off,none⟩) n cap,.int .i64 g,.int .i64 bx,.int .i64 tp,.int .i64 nr,.int .i64 md],.agg #[.int .i64 st,.slice none 0 0]] (hpL G1 L) (keys L) (.ret (.bool false) []):=by
 rcases hT.a8 with ⟨rfl,rfl⟩|⟨rfl,rfl,rfl⟩
 ·exact (fits_s0 b off n cap f h g bx tp nr md st).up1 hT.ok
 ·have h2:=(fits_s0 lmB off n cap f h g bx tp nr md st).mvG nil_mv (fun k hk=>by cases hk) rfl
  simpa [cfV,ren,renA,renF,ren0,gmv,rnL] using h2
theorem KickStill_00 (g bx tp nr md st:Int) (p q:Int) (_:i64 g) (_:i64 bx) (_:i64 tp) (_:i64 nr) (_:i64 md) (_:i64 st) (_:i64 p) (_:i64 q):Ret Tryz.prog G1 6 #[.agg #[.slice none 0 0,.int .i64 g,.int .i64 bx,.int .i64 tp,.int .i64 nr,.int .i64 md],.agg #[.int .i64 st,.slice none 0 0],.int .i64 p,.int .i64 q] (.bool true):=by
 refine ret_of G1F Tryz.func6 rfl Tryz.call6 (by simp) (by simp) (by simp [Tryz.ntmps6]) ?_
 intro C hC hC0 hY
 have hg:=kngreat_00 g bx tp nr md st
 have wk:=kwakes
 have kf:=k16_00K
 repeat' (first|refine gwA ?_|((first|refine gwR [7] ?_|refine gwD [7] ?_);intro Q hQ hP;simp [hC,hY,wk,kf];(repeat ((first|(refine heapK_mv hg G1F (B:=200) knilL_ok (fun k=>k) (fun k hk=>rfl) (by simp [ren,renA,renF,ren0,cfV]) (by simp) (by simp) (by simp [keys]) (by simp [keys];try rfl) ?_));try simp [hC,hY,wk,kf]));refine hQ _ _ _ _ (by kernel_rfl) ?_;clear hQ hP Q)|(refine gwC ?_ ?_<;>(intro hb;try (cases hb;done))))
 refine ⟨.inr trivial,?_⟩
 simp [Tryz.results6]
theorem KickStill_0s (b:Blk) (off n cap:Nat) (f:Nat→Int) (h:SB b off n f) (hcap:n≤cap) (g bx tp nr md st:Int) (p q:Int) (_:i64 g) (_:i64 bx) (_:i64 tp) (_:i64 nr) (_:i64 md) (_:i64 st) (_:i64 p) (_:i64 q):Fun Tryz.prog G1 6 #[.agg #[.slice none 0 0,.int .i64 g,.int .i64 bx,.int .i64 tp,.int .i64 nr,.int .i64 md],.agg #[.int .i64 st,.slice (some ⟨100,off,none⟩) n cap],.int .i64 p,.int .i64 q] (hpL G1 [(100,b)]) (keys [(100,b)]) (.ret (.bool true) []):=by
 refine fun_ofL (B:=200) G1F Tryz.func6 rfl Tryz.call6 (oneL_ok h.fx) ?_ (flatV_ids (by simp)) (by simp) (by simp) (by simp [Tryz.ntmps6]) (by omega) ?_
 ·simp [idsV,idsA,idsF,ids0,keys]
 intro C hC hC0 hY
 have hr:=fun ρ=>Blk.fx_rn h.fx ρ
 have hg:=kngreat_0s b off n cap f h g bx tp nr md st
 have wk:=kwakes
 have hf:=k16_0s b off n cap f h g bx tp nr md st
 by_cases h9:9<n
 ·rw [decide_eq_true h9] at hg
  repeat' (first|refine gwA ?_|((first|refine gwR [7] ?_|refine gwD [7] ?_);intro Q hQ hP;simp [hC,hY,wk];(repeat ((first|(refine heapK_mv hg G1F (B:=200) (oneL_ok h.fx) (fun k=>k) (fun k hk=>rfl) (by simp [ren,renA,renF,ren0,cfV]) (by simp) (by simp [hr]) (by simp [keys]) (by simp [keys];try rfl) ?_));try simp [hC,hY,wk]));refine hQ _ _ _ _ (by kernel_rfl) ?_;clear hQ hP Q)|(refine gwC ?_ ?_<;>(intro hb;try (cases hb;done))))
  refine ⟨.inr rfl,by simp [Tryz.results6],kpS G1F⟩
 ·rw [decide_eq_false h9] at hg
  repeat' (first|refine gwA ?_|((first|refine gwR [7,20] ?_|refine gwD [7,20] ?_);intro Q hQ hP;simp [hC,hY,wk];(repeat ((first|(refine heapK_mv hg G1F (B:=200) (oneL_ok h.fx) (fun k=>k) (fun k hk=>rfl) (by simp [ren,renA,renF,ren0,cfV]) (by simp) (by simp [hr]) (by simp [keys]) (by simp [keys];try rfl) ?_)|(refine heapK_mv hf G1F (B:=200) (oneL_ok h.fx) (fun k=>k) (fun k hk=>rfl) (by simp [ren,renA,renF,ren0,cfV]) (by simp) (by simp [hr]) (by simp [keys]) (by simp [keys];try rfl) ?_));try simp [hC,hY,wk]));refine hQ _ _ _ _ (by kernel_rfl) ?_;clear hQ hP Q)|(refine gwC ?_ ?_<;>(intro hb;try (cases hb;done))))
  refine ⟨.inr rfl,by simp [Tryz.results6],kpS G1F⟩
theorem KickStill_s0 (L:List (Nat×Blk)) (ka:Nat) (b:Blk) (hT:LKb L ka b) (off n cap:Nat) (f:Nat→Int) (h:MB b off n f) (hcap:n≤cap) (g bx tp nr md st:Int) (p q:Int) (_:i64 g) (_:i64 bx) (_:i64 tp) (_:i64 nr) (_:i64 md) (_:i64 st) (_:i64 p) (_:i64 q):Fun Tryz.prog G1 6 #[.agg #[.slice (some ⟨ka,off,none⟩) n cap,.int .i64 g,.int .i64 bx,.int .i64 tp,.int .i64 nr,.int .i64 md],.agg #[.int .i64 st,.slice none 0 0],.int .i64 p,.int .i64 q] (hpL G1 L) (keys L) (.ret (.bool true) []):=by
 refine fun_ofD (B:=200) G1F Tryz.func6 rfl Tryz.call6 hT.ok ?_ (flatV_ids (by simp)) (by simp) (by simp) (by simp [Tryz.ntmps6]) (by omega) ?_
 ·simp [idsV,idsA,idsF,ids0,keys,hT.ia]
 intro C hC hC0 hY
 have hA:=hT.a
 have hna:=hT.na
 have hLow:=hT.low
 have hg:=kngreat_s0 L ka b hT off n cap f h g bx tp nr md st
 have wk:=kwakes
 have hf:=k16_s0 L ka b hT off n cap f h g bx tp nr md st
 by_cases h9:9<n
 ·rw [decide_eq_true h9] at hg
  repeat' (first|refine gwA ?_|((first|refine gwR [7] ?_|refine gwD [7] ?_);intro Q hQ hP;simp [hC,hY,wk];(repeat ((first|(refine heapK_L hg hT.ok aMem ?_));try simp [hC,hY,wk]));refine hQ _ _ _ _ (by kernel_rfl) ?_;clear hQ hP Q)|(refine gwC ?_ ?_<;>(intro hb;try (cases hb;done))))
  refine ⟨.inr rfl,by simp [Tryz.results6],kpT G1F⟩
 ·rw [decide_eq_false h9] at hg
  repeat' (first|refine gwA ?_|((first|refine gwR [7,20] ?_|refine gwD [7,20] ?_);intro Q hQ hP;simp [hC,hY,wk];(repeat ((first|(refine heapK_L hg hT.ok aMem ?_)|(refine heapK_L hf hT.ok aMem ?_));try simp [hC,hY,wk]));refine hQ _ _ _ _ (by kernel_rfl) ?_;clear hQ hP Q)|(refine gwC ?_ ?_<;>(intro hb;try (cases hb;done))))
  refine ⟨.inr rfl,by simp [Tryz.results6],kpT G1F⟩
theorem KickOrder_00 (g bx tp nr md st:Int) (p q x y:Int) (_:i64 g) (_:i64 bx) (_:i64 tp) (_:i64 nr) (_:i64 md) (_:i64 st) (_:i64 p) (_:i64 q) (_:i64 x) (_:i64 y):Ret Tryz.prog G1 5 #[.agg #[.slice none 0 0,.int .i64 g,.int .i64 bx,.int .i64 tp,.int .i64 nr,.int .i64 md],.agg #[.int .i64 st,.slice none 0 0],.int .i64 p,.int .i64 q,.int .i64 x,.int .i64 y] (.bool true):=by
 refine ret_of G1F Tryz.func5 rfl Tryz.call5 (by simp) (by simp) (by simp [Tryz.ntmps5]) ?_
 intro C hC hC0 hY
 have hg:=kngreat_00 g bx tp nr md st
 have wk:=kwakes
 have kf:=k16_00K
 repeat' (first|refine gwA ?_|((first|refine gwR [7] ?_|refine gwD [7] ?_);intro Q hQ hP;simp [hC,hY,wk,kf];(repeat ((first|(refine heapK_mv hg G1F (B:=200) knilL_ok (fun k=>k) (fun k hk=>rfl) (by simp [ren,renA,renF,ren0,cfV]) (by simp) (by simp) (by simp [keys]) (by simp [keys];try rfl) ?_));try simp [hC,hY,wk,kf]));refine hQ _ _ _ _ (by kernel_rfl) ?_;clear hQ hP Q)|(refine gwC ?_ ?_<;>(intro hb;try (cases hb;done))))
 refine ⟨.inr trivial,?_⟩
 simp [Tryz.results5]
theorem KickOrder_0s (b:Blk) (off n cap:Nat) (f:Nat→Int) (h:SB b off n f) (hcap:n≤cap) (g bx tp nr md st:Int) (p q x y:Int) (_:i64 g) (_:i64 bx) (_:i64 tp) (_:i64 nr) (_:i64 md) (_:i64 st) (_:i64 p) (_:i64 q) (_:i64 x) (_:i64 y):Fun Tryz.prog G1 5 #[.agg #[.slice none 0 0,.int .i64 g,.int .i64 bx,.int .i64 tp,.int .i64 nr,.int .i64 md],.agg #[.int .i64 st,.slice (some ⟨100,off,none⟩) n cap],.int .i64 p,.int .i64 q,.int .i64 x,.int .i64 y] (hpL G1 [(100,b)]) (keys [(100,b)]) (.ret (.bool true) []):=by
 refine fun_ofL (B:=200) G1F Tryz.func5 rfl Tryz.call5 (oneL_ok h.fx) ?_ (flatV_ids (by simp)) (by simp) (by simp) (by simp [Tryz.ntmps5]) (by omega) ?_
 ·simp [idsV,idsA,idsF,ids0,keys]
 intro C hC hC0 hY
 have hr:=fun ρ=>Blk.fx_rn h.fx ρ
 have hg:=kngreat_0s b off n cap f h g bx tp nr md st
 have wk:=kwakes
 have hf:=k16_0s b off n cap f h g bx tp nr md st
 by_cases h9:9<n
 ·rw [decide_eq_true h9] at hg
  repeat' (first|refine gwA ?_|((first|refine gwR [7] ?_|refine gwD [7] ?_);intro Q hQ hP;simp [hC,hY,wk];(repeat ((first|(refine heapK_mv hg G1F (B:=200) (oneL_ok h.fx) (fun k=>k) (fun k hk=>rfl) (by simp [ren,renA,renF,ren0,cfV]) (by simp) (by simp [hr]) (by simp [keys]) (by simp [keys];try rfl) ?_));try simp [hC,hY,wk]));refine hQ _ _ _ _ (by kernel_rfl) ?_;clear hQ hP Q)|(refine gwC ?_ ?_<;>(intro hb;try (cases hb;done))))
  refine ⟨.inr rfl,by simp [Tryz.results5],kpS G1F⟩
 ·rw [decide_eq_false h9] at hg
  repeat' (first|refine gwA ?_|((first|refine gwR [7,20] ?_|refine gwD [7,20] ?_);intro Q hQ hP;simp [hC,hY,wk];(repeat ((first|(refine heapK_mv hg G1F (B:=200) (oneL_ok h.fx) (fun k=>k) (fun k hk=>rfl) (by simp [ren,renA,renF,ren0,cfV]) (by simp) (by simp [hr]) (by simp [keys]) (by simp [keys];try rfl) ?_)|(refine heapK_mv hf G1F (B:=200) (oneL_ok h.fx) (fun k=>k) (fun k hk=>rfl) (by simp [ren,renA,renF,ren0,cfV]) (by simp) (by simp [hr]) (by simp [keys]) (by simp [keys];try rfl) ?_));try simp [hC,hY,wk]));refine hQ _ _ _ _ (by kernel_rfl) ?_;clear hQ hP Q)|(refine gwC ?_ ?_<;>(intro hb;try (cases hb;done))))
  refine ⟨.inr rfl,by simp [Tryz.results5],kpS G1F⟩
theorem KickOrder_s0 (L:List (Nat×Blk)) (ka:Nat) (b:Blk) (hT:LKb L ka b) (off n cap:Nat) (f:Nat→Int) (h:MB b off n f) (hcap:n≤cap) (g bx tp nr md st:Int) (p q x y:Int) (_:i64 g) (_:i64 bx) (_:i64 tp) (_:i64 nr) (_:i64 md) (_:i64 st) (_:i64 p) (_:i64 q) (_:i64 x) (_:i64 y):Fun Tryz.prog G1 5 #[.agg #[.slice (some ⟨ka,off,none⟩) n cap,.int .i64 g,.int .i64 bx,.int .i64 tp,.int .i64 nr,.int .i64 md],.agg #[.int .i64 st,.slice none 0 0],.int .i64 p,.int .i64 q,.int .i64 x,.int .i64 y] (hpL G1 L) (keys L) (.ret (.bool true) []):=by
 refine fun_ofD (B:=200) G1F Tryz.func5 rfl Tryz.call5 hT.ok ?_ (flatV_ids (by simp)) (by simp) (by simp) (by simp [Tryz.ntmps5]) (by omega) ?_
 ·simp [idsV,idsA,idsF,ids0,keys,hT.ia]
 intro C hC hC0 hY
 have hA:=hT.a
 have hna:=hT.na
 have hLow:=hT.low
 have hg:=kngreat_s0 L ka b hT off n cap f h g bx tp nr md st
 have wk:=kwakes
 have hf:=k16_s0 L ka b hT off n cap f h g bx tp nr md st
 by_cases h9:9<n
 ·rw [decide_eq_true h9] at hg
  repeat' (first|refine gwA ?_|((first|refine gwR [7] ?_|refine gwD [7] ?_);intro Q hQ hP;simp [hC,hY,wk];(repeat ((first|(refine heapK_L hg hT.ok aMem ?_));try simp [hC,hY,wk]));refine hQ _ _ _ _ (by kernel_rfl) ?_;clear hQ hP Q)|(refine gwC ?_ ?_<;>(intro hb;try (cases hb;done))))
  refine ⟨.inr rfl,by simp [Tryz.results5],kpT G1F⟩
 ·rw [decide_eq_false h9] at hg
  repeat' (first|refine gwA ?_|((first|refine gwR [7,20] ?_|refine gwD [7,20] ?_);intro Q hQ hP;simp [hC,hY,wk];(repeat ((first|(refine heapK_L hg hT.ok aMem ?_)|(refine heapK_L hf hT.ok aMem ?_));try simp [hC,hY,wk]));refine hQ _ _ _ _ (by kernel_rfl) ?_;clear hQ hP Q)|(refine gwC ?_ ?_<;>(intro hb;try (cases hb;done))))
  refine ⟨.inr rfl,by simp [Tryz.results5],kpT G1F⟩
theorem sw_sw (a b i:Nat):sw a b (sw a b i)=i:=by
 unfold sw
 by_cases h:i=a
 ·rw [if_pos h]
  by_cases h2:b=a
  ·rw [if_pos h2];omega
  ·rw [if_neg h2,if_pos rfl];omega
 ·rw [if_neg h]
  by_cases h2:i=b
  ·rw [if_pos h2,if_pos rfl];omega
  ·rw [if_neg h2,if_neg h,if_neg h2]
theorem sw_inj {a b i k:Nat}:sw a b i=sw a b k↔i=k:=⟨fun h=>by rw [←sw_sw a b i,h,sw_sw],fun h=>by rw [h]⟩
theorem kpF_sw (n d g:Int) (fm fs:Nat→Int) (a b i u k:Nat) (hu:u<3):kpF n d g (fun j=>fm (sw a b j)) (swF fs a b) i u k=kpF n d g fm fs (sw a b i) u (sw a b k):=by
 unfold kpF
 rw [swF_u _ _ _ _ (by omega),swF_u _ _ _ _ (by omega),d2F_sw]
theorem kS_sw (n d g:Int) (fm fs:Nat→Int) {N a b:Nat} (ha:a<N) (hb:b<N) (i u:Nat) (hu:u<3):kS n d g (fun j=>fm (sw a b j)) (swF fs a b) N i u=kS n d g fm fs N (sw a b i) u:=by
 unfold kS
 rw [oS_sum,oS_sum,←sumN_sw (fun k=>if k=sw a b i then 0 else kpF n d g fm fs (sw a b i) u k) ha hb]
 refine sumN_congr fun k hk=>?_
 by_cases c:k=i
 ·rw [if_pos c,if_pos (by rw [c])]
 ·rw [if_neg c,if_neg (fun h=>c (sw_inj.1 h)),kpF_sw _ _ _ _ _ _ _ _ _ _ hu]
theorem kZ_sw (fs:Nat→Int) {N a b:Nat} (ha:a<N) (hb:b<N) (i:Nat):kZ (swF fs a b) N i=kZ fs N (sw a b i):=by
 rw [Bool.eq_iff_iff,kZ_t,kZ_t]
 constructor
 ·rintro ⟨k,h1,h2,h3⟩
  exact ⟨sw a b k,sw_lt ha hb h1,fun h=>h2 (sw_inj.1 h),by rw [←d2F_sw];exact h3⟩
 ·rintro ⟨k,h1,h2,h3⟩
  exact ⟨sw a b k,sw_lt ha hb h1,fun h=>h2 (by rw [←h,sw_sw]),by rw [d2F_sw,sw_sw];exact h3⟩
theorem kAny_t {fs:Nat→Int} {N:Nat}:kAny fs N=true↔∃ i,i<N∧kZ fs N i=true:=by
 unfold kAny
 rw [List.any_eq_true]
 exact ⟨fun ⟨i,h1,h2⟩=>⟨i,by simpa using h1,h2⟩,fun ⟨i,h1,h2⟩=>⟨i,by simpa using h1,h2⟩⟩
theorem kAny_sw (fs:Nat→Int) {N a b:Nat} (ha:a<N) (hb:b<N):kAny (swF fs a b) N=kAny fs N:=by
 rw [Bool.eq_iff_iff,kAny_t,kAny_t]
 constructor
 ·rintro ⟨i,h1,h2⟩
  exact ⟨sw a b i,sw_lt ha hb h1,by rw [←kZ_sw fs ha hb];exact h2⟩
 ·rintro ⟨i,h1,h2⟩
  exact ⟨sw a b i,sw_lt ha hb h1,by rw [kZ_sw fs ha hb,sw_sw];exact h2⟩
def orF (f:Nat→Int) (a b j:Nat):Int:=if j / 6=b∧3≤j%6 then (j%6:Nat) - 2 else if j / 6=a∧3≤j%6 then 0 else swF f a b j
theorem orF_lo (f:Nat→Int) (a b k v:Nat) (hv:v<3):orF f a b (6*k+v)=swF f a b (6*k+v):=by
 unfold orF
 rw [if_neg (by omega),if_neg (by omega)]
theorem orF_in (f:Nat→Int) (a b j:Nat):orF f a b j=swF f a b j∨(0≤orF f a b j∧orF f a b j≤3):=by
 unfold orF
 split
 ·right;omega
 ·split
  ·right;omega
  ·exact .inl rfl
theorem right_or {st:Int} {f:Nat→Int} {n a b:Nat} (h:rightB st f n=true) (ha:a<n) (hb:b<n):rightB st (orF f a b) n=true:=by
 have hw:=right_sw h ha hb
 obtain ⟨h1,h2,h3⟩:=right_iff.1 hw
 refine right_iff.2 ⟨h1,h2,fun i hi=>?_⟩
 obtain ⟨⟨⟨a0,a0',a0''⟩,⟨a1,a1',a1''⟩,⟨a2,a2',a2''⟩⟩,⟨b0,b0',b0''⟩,⟨b1,b1',b1''⟩,⟨b2,b2',b2''⟩⟩:=right_b hw hi
 have e0:=orF_lo f a b i 0 (by omega)
 have e1:=orF_lo f a b i 1 (by omega)
 have e2:=orF_lo f a b i 2 (by omega)
 have e3:=orF_in f a b (6*i+3)
 have e4:=orF_in f a b (6*i+4)
 have e5:=orF_in f a b (6*i+5)
 rw [Nat.add_zero] at e0
 unfold inB
 rw [Bool.and_eq_true,inV_iff,inV_iff,e0,e1,e2]
 exact ⟨⟨⟨a0,a0',a0''⟩,⟨a1,a1',a1''⟩,⟨a2,a2',a2''⟩⟩,⟨by omega,by omega,by omega⟩,⟨by omega,by omega,by omega⟩,⟨by omega,by omega,by omega⟩⟩
theorem kS_or (n d g:Int) (fm fs:Nat→Int) {N a b:Nat} (ha:a<N) (hb:b<N) {i u:Nat} (hi:i<N) (hu:u<3):kS n d g (fun j=>fm (sw a b j)) (orF fs a b) N i u=kS n d g fm fs N (sw a b i) u:=by
 rw [kS_congr (fs:=swF fs a b) hi (fun k _ v hv=>orF_lo fs a b k v hv) hu,kS_sw n d g fm fs ha hb i u hu]
theorem kAny_or (fs:Nat→Int) {N a b:Nat} (ha:a<N) (hb:b<N):kAny (orF fs a b) N=kAny fs N:=by
 rw [kAny_congr (fs:=swF fs a b) (fun k _ v hv=>orF_lo fs a b k v hv),kAny_sw fs ha hb]
def put6 (f:Nat→Int) (o:Nat) (v:Nat→Int):Nat→Int:=fun j=>if o≤j∧j<o+6 then v (j - o) else f j
theorem put6_upd (f:Nat→Int) (o:Nat) (v:Nat→Int):upd (upd (upd (upd (upd (upd f o (v 0)) (o+1) (v 1)) (o+2) (v 2)) (o+3) (v 3)) (o+4) (v 4)) (o+5) (v 5)=put6 f o v:=by
 funext j
 unfold upd put6
 by_cases h:o≤j∧j<o+6
 ·rw [if_pos h]
  have:j=o∨j=o+1∨j=o+2∨j=o+3∨j=o+4∨j=o+5:=by omega
  rcases this with rfl|rfl|rfl|rfl|rfl|rfl<;>simp
 ·rw [if_neg h,if_neg (by omega),if_neg (by omega),if_neg (by omega),if_neg (by omega),if_neg (by omega),if_neg (by omega)]
theorem put6_sw {f g:Nat→Int} {n a b:Nat} (ha:a<n) (hb:b<n) (h:∀ j,j<6*n→g j=f j):∀ j,j<6*n→put6 (put6 g (6*a) fun u=>f (6*b+u)) (6*b) (fun u=>f (6*a+u)) j=swF f a b j:=fun j hj=>by
 unfold put6 swF sw
 by_cases h1:6*b≤j∧j<6*b+6
 ·rw [if_pos h1]
  by_cases e:j / 6=a
  ·rw [if_pos e]
   exact congrArg f (by omega)
  ·rw [if_neg e,if_pos (by omega)]
   exact congrArg f (by omega)
 ·rw [if_neg h1]
  by_cases h2:6*a≤j∧j<6*a+6
  ·rw [if_pos h2,if_pos (by omega)]
   exact congrArg f (by omega)
  ·rw [if_neg h2,if_neg (by omega),if_neg (by omega),h j hj]
   exact congrArg f (by omega)
theorem put1_sw {f g:Nat→Int} {n a b:Nat} (ha:a<n) (hb:b<n) (h:∀ j,j<n→g j=f j):∀ j,j<n→upd (upd g a (f b)) b (f a) j=f (sw a b j):=fun j hj=>by
 unfold upd sw
 by_cases h1:j=b
 ·rw [if_pos h1]
  by_cases e:j=a
  ·rw [if_pos e,←e,h1]
  ·rw [if_neg e,if_pos h1]
 ·rw [if_neg h1]
  by_cases h2:j=a
  ·rw [if_pos h2,if_pos h2]
  ·rw [if_neg h2,if_neg h2,if_neg h1,h j hj]
theorem own_mb {n M:Nat} {g F:Nat→Int} (hM:n≤M) (hg:∀ j,j<n→g j=F j) (hF:∀ j,j<n→i64 (F j)) (hn:n≤17592186044416):MB ⟨fa M .i64 g,.ty 3⟩ 0 n F :=
 ⟨fun j hj=>by rw [←hg j hj];exact rdI_fa M g _ j (by omega),fa_fx _ _ _,hF,hn⟩
theorem rem_in (t:Int) {n:Nat} (hn:1≤n∧n≤4):∃ a:Nat,a<n∧(Int.bmod (Int.tmod t n+n) 18446744073709551616).tmod n=a:=by
 have h1:=Int.tmod_lt_of_pos t (b:=(n:Int)) (by omega)
 have h2:=Int.lt_tmod_of_pos t (b:=(n:Int)) (by omega)
 generalize Int.tmod t n=u at *
 rw [bm (by omega) (by omega),Int.tmod_eq_emod_of_nonneg (by omega)]
 have h3:=Int.emod_nonneg (u+n) (b:=(n:Int)) (by omega)
 have h4:=Int.emod_lt_of_pos (u+n) (b:=(n:Int)) (by omega)
 exact ⟨((u+n)%(n:Int)).toNat,by omega,by omega⟩
def s5N:List (Nat×Nat):=[(0,49),(1,50),(2,51),(3,52),(4,14),(5,15)]
def s5X:List (Nat×Nat):=[(1,464),(3,480),(4,488),(5,496),(6,488),(7,496)]
def s5D:List (Nat×Nat):=[(6,4),(7,5),(6,1),(7,3)]
def s5V (L:List (Nat×Blk)) (bm bs:Blk) (ka ks:Nat) (g bx tp nr md st p q:Int) (off n cap off2 cap2 a b:Nat) (fm fs:Nat→Int) (ca:Nat) (Ma:Nat) (ga:Nat→Int) (cb:Nat) (Mb:Nat) (gb:Nat→Int):Nat→Value
 | 0=>.agg #[.int .i64 st,.slice (some ⟨ks,off2,none⟩) n cap2]
 | 1=>.agg #[.int .i64 st,.slice (some ⟨464,0,none⟩) n ca]
 | 2=>.agg #[.slice (some ⟨ka,off,none⟩) n cap,.int .i64 g,.int .i64 bx,.int .i64 tp,.int .i64 nr,.int .i64 md]
 | 3=>.agg #[.slice (some ⟨480,0,none⟩) n cb,.int .i64 g,.int .i64 bx,.int .i64 tp,.int .i64 nr,.int .i64 md]
 | 4=>.pointer (some ⟨488,0,none⟩)
 | 5=>.pointer (some ⟨496,0,none⟩)
 | _=>.bool true
def s5Bk (L:List (Nat×Blk)) (bm bs:Blk) (ka ks:Nat) (g bx tp nr md st p q:Int) (off n cap off2 cap2 a b:Nat) (fm fs:Nat→Int) (ca:Nat) (Ma:Nat) (ga:Nat→Int) (cb:Nat) (Mb:Nat) (gb:Nat→Int):Nat→Blk
 | 1=>⟨fa Ma .i64 ga,.ty 45⟩
 | 3=>⟨fa Mb .i64 gb,.ty 3⟩
 | 4=>⟨#[.int .i64 0,.slice none 0 0],.ty 27⟩
 | 5=>⟨#[.slice none 0 0,.int .i64 0,.int .i64 0,.int .i64 0,.int .i64 0,.int .i64 0],.ty 24⟩
 | 6=>⟨#[.int .i64 st,.slice (some ⟨464,0,none⟩) n ca],.ty 27⟩
 | 7=>⟨#[.slice (some ⟨480,0,none⟩) n cb,.int .i64 g,.int .i64 bx,.int .i64 tp,.int .i64 nr,.int .i64 md],.ty 24⟩
 | _=>⟨#[],.mp⟩
structure s5F (L:List (Nat×Blk)) (bm bs:Blk) (ka ks:Nat) (g bx tp nr md st p q:Int) (off n cap off2 cap2 a b:Nat) (fm fs:Nat→Int) (ts0:Nat→Value) (hp0:Hp):Prop where
 e2:ts0 2=.int .i64 p
 e3:ts0 3=.int .i64 q
 e4:ts0 4=.int .i64 a
 e5:ts0 5=.int .i64 b
 e6:ts0 6=.pointer (some ⟨200,0,none⟩)
 e7:ts0 7=.pointer (some ⟨208,0,none⟩)
 e12:ts0 12=.bool false
 e13:ts0 13=.int .i64 n
 b200:hp0 200=some (⟨#[.slice (some ⟨ka,off,none⟩) n cap,.int .i64 g,.int .i64 bx,.int .i64 tp,.int .i64 nr,.int .i64 md],.ty 24⟩)
 b208:hp0 208=some (⟨#[.int .i64 st,.slice (some ⟨ks,off2,none⟩) n cap2],.ty 27⟩)
 low:∀ k,k<100→hp0 k=G1 k
 bL:∀ p∈L,hp0 p.1=some p.2
theorem s5N1:(s5N.map Prod.fst).Nodup:=by decide +kernel
theorem s5N2:(s5N.map Prod.snd).Nodup:=by decide +kernel
theorem s5X1:(s5X.map Prod.fst).Nodup:=by decide +kernel
theorem s5X200:∀ k,k<200→k∉s5X.map Prod.snd:=fun k hk=>by simp [s5X];try omega
theorem ko6_row {M a:Nat} {g v:Nat→Int}:((((((fa M IntKind.i64 g).setIfInBounds (a*6) (Value.int IntKind.i64 (v 0))).setIfInBounds (a*6+1) (Value.int IntKind.i64 (v 1))).setIfInBounds (a*6+1+1) (Value.int IntKind.i64 (v 2))).setIfInBounds (a*6+1+1+1) (Value.int IntKind.i64 (v 3))).setIfInBounds (a*6+1+1+1+1) (Value.int IntKind.i64 (v 4))).setIfInBounds (a*6+1+1+1+1+1) (Value.int IntKind.i64 (v 5))=fa M .i64 (put6 g (6*a) v):=by
 simp only [fa_set]
 rw [show a*6=6*a by omega]
 exact congrArg _ (put6_upd g (6*a) v)
def orU (g:Nat→Int) (a b:Nat):Nat→Int:=upd (upd (upd (upd (upd (upd g (a*6+3) 0) (a*6+3+1) 0) (a*6+3+1+1) 0) (b*6+3) 1) (b*6+3+1) 2) (b*6+3+1+1) 3
theorem orU_row (M a b:Nat) (g:Nat→Int):((((((fa M IntKind.i64 g).setIfInBounds (a*6+3) (Value.int IntKind.i64 0)).setIfInBounds (a*6+3+1) (Value.int IntKind.i64 0)).setIfInBounds (a*6+3+1+1) (Value.int IntKind.i64 0)).setIfInBounds (b*6+3) (Value.int IntKind.i64 1)).setIfInBounds (b*6+3+1) (Value.int IntKind.i64 2)).setIfInBounds (b*6+3+1+1) (Value.int IntKind.i64 3)=fa M .i64 (orU g a b):=by
 simp only [fa_set]
 rfl
theorem orU_or {g fs:Nat→Int} {a b n:Nat} (h:∀ j,j<6*n→g j=swF fs a b j) (j:Nat) (hj:j<6*n):orU g a b j=orF fs a b j:=by
 have hg:=h j hj
 unfold orU orF upd
 by_cases c1:j=b*6+3+1+1
 ·rw [if_pos c1,if_pos (by omega)];omega
 rw [if_neg c1]
 by_cases c2:j=b*6+3+1
 ·rw [if_pos c2,if_pos (by omega)];omega
 rw [if_neg c2]
 by_cases c3:j=b*6+3
 ·rw [if_pos c3,if_pos (by omega)];omega
 rw [if_neg c3,if_neg (show ¬(j / 6=b∧3≤j%6) by omega)]
 by_cases d1:j=a*6+3+1+1
 ·rw [if_pos d1,if_pos (by omega)]
 rw [if_neg d1]
 by_cases d2:j=a*6+3+1
 ·rw [if_pos d2,if_pos (by omega)]
 rw [if_neg d2]
 by_cases d3:j=a*6+3
 ·rw [if_pos d3,if_pos (by omega)]
 rw [if_neg d3,if_neg (by omega),hg]
theorem kown11_ka (L:List (Nat×Blk)) (ka ks:Nat) (bm bs:Blk) (hT:LKa L ka ks bm bs) (nk:Nat) (hnk:200≤nk) (off n cap:Nat) (fm:Nat→Int) (hm:MB bm off n fm) (hcap:n≤cap) (g bx tp nr md:Int) :
  ∃ hp rs,FunS Tryz.prog G1 23 #[cfV (.slice (some ⟨ka,off,none⟩) n cap) g bx tp nr md] hp rs (OwnC nk n fm g bx tp nr md)∧(∀ k∈rs,ka=100∧k=100∧hp k=some bm)∧∀ k,k<100→hp k=G1 k:=by
 rcases hT.a8 with e|e
 ·subst e
  refine ⟨_,_,FunS.up1 (m:=[(100,bm)]) (B:=200) (own11_nm 100 nk (by omega) (by omega) (by omega) bm off n cap fm hm hcap g bx tp nr md) (oneL_ok hm.fx),fun k hk=>?_,fun k hk=>?_⟩
  ·have e:k=100:=by simpa [keys] using hk
   subst e
   exact ⟨rfl,rfl,by simp⟩
  ·rw [hpL_cons,if_neg (by omega)]
   rfl
 ·obtain ⟨_,_,rfl⟩:=hT.ag e
  subst e
  have h0:=own11_fun lmB off n cap fm hm hcap g bx tp nr md
  have h1:FunS Tryz.prog G1 23 #[cfV (.slice (some ⟨0,off,none⟩) n cap) g bx tp nr md] (hpL G1 []) (keys []) (OwnC 1000 n fm g bx tp nr md):=by
   refine h0.mvG nil_mv (by simp [cfV,ren,renA,renF,ren0,gmv]) (ownC_rr2 (by simp [gmv]) n fm g bx tp nr md) (fun v ns hR k hk=>?_) (fun v ns hV k hk l hl _=>by rw [ownC_key hV k hk,ownC_key hV l hl])
   rw [ownC_key hR k hk]
   exact ⟨by simp [gmv],by simp [gmv,dom,hpL_nil]⟩
  have h2:=FunS.mvL (hp':=hpL G1 []) (rs':=[]) h1 G1F knilL_ok (fun k=>if k=1000 then nk else k) (args':=#[cfV (.slice (some ⟨0,off,none⟩) n cap) g bx tp nr md]) (fun k hk=>if_neg (by omega)) (by simp [cfV,ren,renA,renF,ren0]) (by simp [keys]) (ownC_rr2 (nk:=nk) (by simp) n fm g bx tp nr md) (fun k hk=>rfl) (by simp) (by simp [keys]) (fun v ns hV k hk=>?_) (fun v ns hV k hk l hl _=>by rw [ownC_key hV k hk,ownC_key hV l hl])
  ·exact ⟨_,_,h2,fun k hk=>absurd hk (by simp),fun k hk=>rfl⟩
  ·rw [ownC_key hV k hk]
   simp
   omega
theorem kicks_of (L:List (Nat×Blk)) (ka ks:Nat) (bm bs:Blk) (hT:LKa L ka ks bm bs) (off n cap off2 cap2:Nat) (fm fs:Nat→Int) (hm:MB bm off n fm) (hSb:SB bs off2 n fs) (g bx tp nr md st:Int) (hs:i64 st) (p q:Int) (hok:cfOk n fm g bx tp nr md=true) (hrt:rightB st fs n=true) {e:Int} (he:e=kkE true p q fs n) (h0:¬e=0) :
  Fun Tryz.prog G1 11 #[cfV (.slice (some ⟨ka,off,none⟩) n cap) g bx tp nr md,.agg #[.int .i64 st,.slice (some ⟨ks,off2,none⟩) n cap2],.int .i64 p,.int .i64 q] (hpL G1 L) (keys L) (.ret (.tuple #[.slice none 0 0,.int .i64 e]) []):=by
 subst he
 unfold kkE at h0 ⊢
 cases hp:kprtB p q with
 | false =>
  rw [if_neg (by simp)]
  exact kkicks_b1 L ka ks bm bs hT off n cap off2 cap2 fm fs hm hSb g bx tp nr md st hs p q hok hrt hp
 | true =>
  cases ha:kAny fs n with
  | true =>
   rw [if_pos ⟨rfl,rfl⟩,if_pos rfl]
   exact kkicks_b2 L ka ks bm bs hT off n cap off2 cap2 fm fs hm hSb g bx tp nr md st hs p q hok hrt hp ha
  | false =>
   rw [hp,ha] at h0
   exact absurd (by simp) h0
theorem kkE_or (p q:Int) (fs:Nat→Int) {N a b:Nat} (ha:a<N) (hb:b<N):kkE true p q (orF fs a b) N=kkE true p q fs N:=by
 unfold kkE
 rw [kAny_or fs ha hb]
theorem kkE_0 {p q:Int} {fs:Nat→Int} {N:Nat} (h:kkE true p q fs N=0):kprtB p q=true∧kAny fs N=false:=by
 unfold kkE at h
 cases hp:kprtB p q with
 | false=>rw [hp,if_neg (by simp)] at h;exact absurd h (by decide)
 | true =>
  cases ha:kAny fs N with
  | true=>rw [hp,ha,if_pos ⟨rfl,rfl⟩,if_pos rfl] at h;exact absurd h (by decide)
  | false=>exact ⟨rfl,rfl⟩
theorem ko_e0 {n a b:Nat} {p q g:Int} {fm fs g1 g2:Nat→Int} (ha:a<n) (hb:b<n) (y1:∀ j,j<3*n→g1 j=kkF p q g fm fs n j) (y2:∀ j,j<3*n→g2 j=kkF p q g (fun j=>fm (sw a b j)) (orF fs a b) n j) {j:Nat} (hj:j<n):g2 (3*j)=g1 (3*sw a b j)∧g2 (3*j+1)=g1 (3*sw a b j+1)∧g2 (3*j+2)=g1 (3*sw a b j+2):=by
 have e0:∀ u,u<3→g2 (3*j+u)=g1 (3*sw a b j+u):=fun u hu=>by
  have hl:=sw_lt ha hb hj
  rw [y2 _ (by omega),y1 _ (by omega),kkF_at _ _ _ _ _ _ _ hu,kkF_at _ _ _ _ _ _ _ hu,kS_or p q g fm fs ha hb hj hu]
 exact ⟨e0 0 (by omega),e0 1 (by omega),e0 2 (by omega)⟩
def koSt (L:List (Nat×Blk)) (n a b c1 c2:Nat) (g1 g2:Nat→Int) (j:Nat):GS :=
 ⟨tsL [(4,.int .i64 a),(5,.int .i64 b),(12,.bool false),(16,.slice (some ⟨984,0,none⟩) n c1),(18,.slice (some ⟨1064,0,none⟩) n c2),(20,.int .i64 j)],hpL G1 ([(984,⟨fa (3*c1) .i64 g1,.ty 31⟩),(1064,⟨fa (3*c2) .i64 g2,.ty 31⟩)]++L),2000,0⟩
set_option maxRecDepth 8000 in
set_option maxHeartbeats 8000000 in
theorem ko_wakes (L:List (Nat×Blk)) (ka ks:Nat) (bm bs:Blk) (hT:LKa L ka ks bm bs) (off n cap off2 N2 cap2:Nat) (fm fs:Nat→Int) (hm:MB bm off n fm) (hcap:n≤cap) (hSb:SB bs off2 N2 fs) (hcap2:N2≤cap2) (g bx tp nr md st:Int) (hs:i64 st) (p q x y:Int) (hg9:(decide (9<n)||decide (9<N2))=true∨fitB n N2 (cfOk n fm g bx tp nr md) (rightB st fs N2)=false) :
  Fun Tryz.prog G1 5 #[cfV (.slice (some ⟨ka,off,none⟩) n cap) g bx tp nr md,.agg #[.int .i64 st,.slice (some ⟨ks,off2,none⟩) N2 cap2],.int .i64 p,.int .i64 q,.int .i64 x,.int .i64 y] (hpL G1 L) (keys L) (.ret (.bool true) []):=by
 refine fun_ofD (B:=200) G1F Tryz.func5 rfl Tryz.call5 hT.ok ?_ (by simp) (by simp) (by simp) (by simp [Tryz.ntmps5]) (by omega) ?_
 ·simp [idsV,idsA,idsF,ids0,hT.ia,hT.ib,cfV]
 intro C hC hC0 hY
 have hA:=hT.a
 have hS:=hT.s
 have hne:=hT.ne
 have hna:=hT.na
 have hLow:=hT.low
 have hks:=hT.k1
 have hks2:=hT.k2
 have hrs:=fun ρ=>Blk.fx_rn hSb.fx ρ
 have hgr:=kgreat_L L ka ks bm bs hT off n cap off2 N2 cap2 g bx tp nr md st
 have hft:=fits16_ka L ka ks bm bs hT off n cap off2 N2 cap2 fm fs hm hSb g bx tp nr md st
 have wk:=kwakes
 unfold cfV at hgr hft ⊢
 cases hg:decide (9<n)||decide (9<N2) with
 | true =>
  rw [hg] at hgr
  repeat' (first|refine gwA ?_|((first|refine gwR [7,20] ?_|refine gwD [7,20] ?_);intro Q hQ hP;simp [hC,hY,hA,hS,hne,hna,wk];(repeat ((first|(refine heapK_L hgr hT.ok aMem ?_)|(refine heapK_L hft hT.ok aMem ?_));try simp [hC,hY,hA,hS,hne,hna,wk]));refine hQ _ _ _ _ (by kernel_rfl) ?_;clear hQ hP Q)|(refine gwC ?_ ?_<;>(intro hb;try (cases hb;done))))
  refine ⟨.inr rfl,by simp [Tryz.results5],kpT G1F⟩
 | false =>
  rw [hg] at hgr hg9
  rw [hg9.resolve_left (by decide)] at hft
  repeat' (first|refine gwA ?_|((first|refine gwR [7,20] ?_|refine gwD [7,20] ?_);intro Q hQ hP;simp [hC,hY,hA,hS,hne,hna,wk];(repeat ((first|(refine heapK_L hgr hT.ok aMem ?_)|(refine heapK_L hft hT.ok aMem ?_));try simp [hC,hY,hA,hS,hne,hna,wk]));refine hQ _ _ _ _ (by kernel_rfl) ?_;clear hQ hP Q)|(refine gwC ?_ ?_<;>(intro hb;try (cases hb;done))))
  refine ⟨.inr rfl,by simp [Tryz.results5],kpT G1F⟩
set_option maxRecDepth 8000 in
set_option maxHeartbeats 16000000 in
theorem ko_fit (L:List (Nat×Blk)) (ka ks:Nat) (bm bs:Blk) (hT:LKa L ka ks bm bs) (off n cap off2 cap2:Nat) (fm fs:Nat→Int) (hm:MB bm off n fm) (hcap:n≤cap) (hSb:SB bs off2 n fs) (hcap2:n≤cap2) (g bx tp nr md st:Int) (hs:i64 st) (p q x y:Int) (hx:i64 x) (hy:i64 y) (hok:cfOk n fm g bx tp nr md=true) (hrt:rightB st fs n=true) :
  Fun Tryz.prog G1 5 #[cfV (.slice (some ⟨ka,off,none⟩) n cap) g bx tp nr md,.agg #[.int .i64 st,.slice (some ⟨ks,off2,none⟩) n cap2],.int .i64 p,.int .i64 q,.int .i64 x,.int .i64 y] (hpL G1 L) (keys L) (.ret (.bool true) []):=by
 refine fun_ofD (B:=200) G1F Tryz.func5 rfl Tryz.call5 hT.ok ?_ (by simp) (by simp) (by simp) (by simp [Tryz.ntmps5]) (by omega) ?_
 ·simp [idsV,idsA,idsF,ids0,hT.ia,hT.ib,cfV]
 intro C hC hC0 hY
 have hA:=hT.a
 have hS:=hT.s
 have hne:=hT.ne
 have hna:=hT.na
 have hLow:=hT.low
 have hks:=hT.k1
 have hks2:=hT.k2
 have hrs:=fun ρ=>Blk.fx_rn hSb.fx ρ
 have hgr:=kgreat_L L ka ks bm bs hT off n cap off2 n cap2 g bx tp nr md st
 have hft:=fits16_ka L ka ks bm bs hT off n cap off2 n cap2 fm fs hm hSb g bx tp nr md st
 rw [fitB_iff.2 ⟨rfl,hok,hrt⟩] at hft
 have wk:=kwakes
 have hn4:=(right_n hrt).2.1
 have hg:(decide (9<n)||decide (9<n))=false:=by rw [decide_eq_false (by omega)];rfl
 rw [hg] at hgr
 have hnn:=hSb.nn
 have hn0:¬(n:Int)=0:=by omega
 have hn0':¬n=0:=by omega
 obtain ⟨a,ha,ia⟩:=rem_in x hn4
 obtain ⟨b,hbn,ib⟩:=rem_in y hn4
 have dO:=kown10_nm ks 464 (by omega) (by omega) (by omega) bs off2 n cap2 fs hSb hcap2 st
 obtain ⟨hpQ,rsQ,dQ,hQa,hQb⟩:=kown11_ka L ka ks bm bs hT 480 (by omega) off n cap fm hm hcap g bx tp nr md
 unfold cfV at hft hgr dQ ⊢
 repeat' (first|refine gwA ?_|((first|refine gwR [7,20] ?_|refine gwD [7,20] ?_);intro Q hQ hP;simp [hC,hY,hA,hS,hne,hna,wk,hn0,hn0',ia,ib];(repeat ((first|(refine heapK_L hgr hT.ok aMem ?_)|(refine heapK_L hft hT.ok aMem ?_));try simp [hC,hY,hA,hS,hne,hna,wk,hn0,hn0',ia,ib]));refine hQ _ _ _ _ (by kernel_rfl) ?_;clear hQ hP Q)|(refine gwC ?_ ?_<;>(intro hb;try (cases hb;done))))
 refine GW_any follows ?_
 simp only [Array.toList,List.append_eq,List.cons_append,List.nil_append,List.length_cons,List.length_nil,Nat.reduceAdd]
 refine GA_gen (s5F L bm bs ka ks g bx tp nr md st p q off n cap off2 cap2 a b fm fs) ?_ ?_
 ·refine ⟨by simp [ia,ib],by simp [ia,ib],by simp [ia,ib],by simp [ia,ib],by simp [ia,ib],by simp [ia,ib],by simp [ia,ib],by simp [ia,ib],by simp [ia,ib],by simp [ia,ib],?_,?_⟩
  ·intro k hk
   simp (disch:=omega) only [upd_other,updL,hpL_cons,hpL_nil,if_neg,hT.low]
  ·intro p hp
   have hb:=hT.ok.big p hp
   simp (disch:=omega) only [upd_other,updL,hpL_cons,hpL_nil,if_neg]
   exact hT.mem p hp
 intro ts0 hp0 hF
 refine GA_ind (fun listed ts hp=>∃ ca Ma ga cb Mb gb,(n≤ca∧6*n≤Ma∧(∀ j,j<6*n→ga j=fs j)∧n≤cb∧n≤Mb∧(∀ j,j<n→gb j=fm j))∧TJ s5N s5X s5D (s5V L bm bs ka ks g bx tp nr md st p q off n cap off2 cap2 a b fm fs ca Ma ga cb Mb gb) (s5Bk L bm bs ka ks g bx tp nr md st p q off n cap off2 cap2 a b fm fs ca Ma ga cb Mb gb) ts0 hp0 listed ts hp) (fun listed ts hp szR rdR hI=>?_) (fun fuel listed ts hp i szR hi hdep h hk=>?_) _ _ _ _ (by simp) (by decide +kernel) ?_
 ·have hall':=ready_nilB szR (by kernel_rfl) rdR
  have hall:∀ i,i<8→listed[i]? = some true:=fun i hi=>hall' i (by simpa using hi)
  obtain ⟨ca,Ma,ga,cb,Mb,gb,hinv,hI⟩:=hI
  have k2:ts 2=.int .i64 p:=(hI.t0 2 (by decide)).trans hF.e2
  have k3:ts 3=.int .i64 q:=(hI.t0 3 (by decide)).trans hF.e3
  have k4:ts 4=.int .i64 a:=(hI.t0 4 (by decide)).trans hF.e4
  have k5:ts 5=.int .i64 b:=(hI.t0 5 (by decide)).trans hF.e5
  have k6:ts 6=.pointer (some ⟨200,0,none⟩):=(hI.t0 6 (by decide)).trans hF.e6
  have k7:ts 7=.pointer (some ⟨208,0,none⟩):=(hI.t0 7 (by decide)).trans hF.e7
  have k12:ts 12=.bool false:=(hI.t0 12 (by decide)).trans hF.e12
  have k13:ts 13=.int .i64 n:=(hI.t0 13 (by decide)).trans hF.e13
  have k14:ts 14=.pointer (some ⟨488,0,none⟩):=hI.tm (4,14) (by decide) (hall 4 (by omega))
  have k15:ts 15=.pointer (some ⟨496,0,none⟩):=hI.tm (5,15) (by decide) (hall 5 (by omega))
  have c200:hp 200=some (⟨#[.slice (some ⟨ka,off,none⟩) n cap,.int .i64 g,.int .i64 bx,.int .i64 tp,.int .i64 nr,.int .i64 md],.ty 24⟩):=(hI.ext (by decide)).trans hF.b200
  have c208:hp 208=some (⟨#[.int .i64 st,.slice (some ⟨ks,off2,none⟩) n cap2],.ty 27⟩):=(hI.ext (by decide)).trans hF.b208
  have c464:hp 464=some (⟨fa Ma .i64 ga,.ty 45⟩):=hI.bx (1,464) (by decide) (hall 1 (by omega)) (by simp [s5X])
  have c480:hp 480=some (⟨fa Mb .i64 gb,.ty 3⟩):=hI.bx (3,480) (by decide) (hall 3 (by omega)) (by simp [s5X])
  have c488:hp 488=some (⟨#[.int .i64 st,.slice (some ⟨464,0,none⟩) n ca],.ty 27⟩):=hI.bx (6,488) (by decide) (hall 6 (by omega)) (by simp [s5X])
  have c496:hp 496=some (⟨#[.slice (some ⟨480,0,none⟩) n cb,.int .i64 g,.int .i64 bx,.int .i64 tp,.int .i64 nr,.int .i64 md],.ty 24⟩):=hI.bx (7,496) (by decide) (hall 7 (by omega)) (by simp [s5X])
  have cL:∀ p∈L,hp p.1=some p.2:=fun p hp=>(hI.ext (s5X200 _ (hT.ok.big p hp).2)).trans (hF.bL p hp)
  have clow:∀ k,k<100→hp k=G1 k:=fun k hk=>(hI.ext (s5X200 _ (by omega))).trans (hF.low k hk)
  simp only [thenG_normal]
  refine GW_weak (weakLL [(2,.int .i64 p),(3,.int .i64 q),(4,.int .i64 a),(5,.int .i64 b),(6,.pointer (some ⟨200,0,none⟩)),(7,.pointer (some ⟨208,0,none⟩)),(12,.bool false),(13,.int .i64 n),(14,.pointer (some ⟨488,0,none⟩)),(15,.pointer (some ⟨496,0,none⟩))] 520 hC G1F (m:=[(200,⟨#[.slice (some ⟨ka,off,none⟩) n cap,.int .i64 g,.int .i64 bx,.int .i64 tp,.int .i64 nr,.int .i64 md],.ty 24⟩),(208,⟨#[.int .i64 st,.slice (some ⟨ks,off2,none⟩) n cap2],.ty 27⟩),(464,⟨fa Ma .i64 ga,.ty 45⟩),(480,⟨fa Mb .i64 gb,.ty 3⟩),(488,⟨#[.int .i64 st,.slice (some ⟨464,0,none⟩) n ca],.ty 27⟩),(496,⟨#[.slice (some ⟨480,0,none⟩) n cb,.int .i64 g,.int .i64 bx,.int .i64 tp,.int .i64 nr,.int .i64 md],.ty 24⟩)]) hT.ok hT.fx hC0 (by omega) ?_ ?_ ?_) ?_
  ·simp [k2,k3,k4,k5,k6,k7,k12,k13,k14,k15,idsV,idsA,idsF,ids0,dom]
  ·simp [c200,c208,c464,c480,c488,c496,ids_lit,idsF,ids0,dom,hA,hS,hne,hna,Blk.fx_ids (fa_fx _ _ _)]
  ·exact cL
  simp only [List.cons_append,List.nil_append]
  obtain ⟨p1,p2,p3,p4,p5,p6⟩:=hinv
  have hbody:=hSb.body (i:=a) ha
  have hbody2:=hSb.body (i:=b) hbn
  have hmass:=hm.at (i:=a) ha
  have hmass2:=hm.at (i:=b) hbn
  have ha1:(a:Int)<n:=by omega
  have hb1:(b:Int)<n:=by omega
  have ha0:(0:Int)≤a:=by omega
  have hb0:(0:Int)≤b:=by omega
  have hMa:a*6+6≤Ma:=by omega
  have hMb:b*6+6≤Ma:=by omega
  have hMa2:a+1≤Mb:=by omega
  have hMb2:b+1≤Mb:=by omega
  refine GW_seq ?_
  (refine gwX ?_;intro Q hQ hP;simp [hC,hY,hA,hS,hne,hna,hbody,hbody2,ha1,hb1,ha0,hb0,hMa,hMb];(first|refine hQ _ _ _ _ (by rcases hT.k8 with h8|h8<;>rcases hT.a8 with h9|h9<;>subst h8<;>subst h9<;>kernel_rfl) ?_|refine hP _ _ (by rcases hT.k8 with h8|h8<;>rcases hT.a8 with h9|h9<;>subst h8<;>subst h9<;>kernel_rfl) fun _=>?_);clear hQ hP Q)
  simp only [wN,wM,Nat.reduceAdd,Nat.reduceMul]
  refine GW_seq ?_
  (refine gwX ?_;intro Q hQ hP;simp [hC,hY,hA,hS,hne,hna,hmass,hmass2,ha1,hb1,ha0,hb0,hMa2,hMb2];(first|refine hQ _ _ _ _ (by rcases hT.k8 with h8|h8<;>rcases hT.a8 with h9|h9<;>subst h8<;>subst h9<;>kernel_rfl) ?_|refine hP _ _ (by rcases hT.k8 with h8|h8<;>rcases hT.a8 with h9|h9<;>subst h8<;>subst h9<;>kernel_rfl) fun _=>?_);clear hQ hP Q)
  simp only [wN,wM,Nat.reduceAdd,Nat.reduceMul]
  have q1:=ko6_row (M:=Ma) (a:=a) (g:=ga) (v:=fun u=>fs (6*b+u))
  have q2:=ko6_row (M:=Ma) (a:=b) (g:=put6 ga (6*a) fun u=>fs (6*b+u)) (v:=fun u=>fs (6*a+u))
  simp only [Nat.add_zero] at q1 q2
  have q3:=fa_set Mb .i64 gb a (fm b)
  have q4:=fa_set Mb .i64 (upd gb a (fm b)) b (fm a)
  have hgo:=put6_sw ha hbn p3
  have hMo:=own_mb (n:=n) (M:=Mb) p5 (put1_sw ha hbn p6) (fun j hj=>hm.i6 _ (sw_lt ha hbn hj)) hm.nn
  generalize (put6 (put6 ga (6*a) fun u=>fs (6*b+u)) (6*b) fun u=>fs (6*a+u))=go at *
  generalize (upd (upd gb a (fm b)) b (fm a))=gq at *
  refine GW_weak (weakLL [(2,.int .i64 p),(3,.int .i64 q),(4,.int .i64 a),(5,.int .i64 b),(6,.pointer (some ⟨200,0,none⟩)),(7,.pointer (some ⟨208,0,none⟩)),(12,.bool false),(14,.pointer (some ⟨488,0,none⟩)),(15,.pointer (some ⟨496,0,none⟩))] 840 hC G1F (m:=[(200,⟨#[.slice (some ⟨ka,off,none⟩) n cap,.int .i64 g,.int .i64 bx,.int .i64 tp,.int .i64 nr,.int .i64 md],.ty 24⟩),(208,⟨#[.int .i64 st,.slice (some ⟨ks,off2,none⟩) n cap2],.ty 27⟩),(464,⟨fa Ma .i64 go,.ty 45⟩),(480,⟨fa Mb .i64 gq,.ty 3⟩),(488,⟨#[.int .i64 st,.slice (some ⟨464,0,none⟩) n ca],.ty 27⟩),(496,⟨#[.slice (some ⟨480,0,none⟩) n cb,.int .i64 g,.int .i64 bx,.int .i64 tp,.int .i64 nr,.int .i64 md],.ty 24⟩)]) hT.ok hT.fx hC0 (by omega) ?_ ?_ ?_) ?_
  ·simp [wi_zero,idsV,idsA,idsF,ids0,dom]
  ·simp [q1,q2,q3,q4,ids_lit,idsF,ids0,dom,hA,hS,hne,hna,Blk.fx_ids (fa_fx _ _ _)]
  ·(intro p hp;have hpb:=hT.ok.big p hp;(try dsimp only);simp (disch:=omega) only [addB,upd_other,hpL_cons,hpL_nil,if_neg,updL,List.cons_append,List.nil_append];first|exact hT.mem p hp|exact cL p hp)
  simp only [List.cons_append,List.nil_append]
  have hMa3:a*6+3+3≤Ma:=by omega
  have hMb3:b*6+3+3≤Ma:=by omega
  refine GW_seq ?_
  (refine gwX ?_;intro Q hQ hP;simp [hC,hY,hA,hS,hne,hna,ha1,hb1,ha0,hb0,hMa3,hMb3];(first|refine hQ _ _ _ _ (by rcases hT.k8 with h8|h8<;>rcases hT.a8 with h9|h9<;>subst h8<;>subst h9<;>kernel_rfl) ?_|refine hP _ _ (by rcases hT.k8 with h8|h8<;>rcases hT.a8 with h9|h9<;>subst h8<;>subst h9<;>kernel_rfl) fun _=>?_);clear hQ hP Q)
  simp only [wN,wM,Nat.reduceAdd,Nat.reduceMul]
  refine GW_weak (weakLL [(2,.int .i64 p),(3,.int .i64 q),(4,.int .i64 a),(5,.int .i64 b),(6,.pointer (some ⟨200,0,none⟩)),(7,.pointer (some ⟨208,0,none⟩)),(12,.bool false),(14,.pointer (some ⟨488,0,none⟩)),(15,.pointer (some ⟨496,0,none⟩))] 952 hC G1F (m:=[(200,⟨#[.slice (some ⟨ka,off,none⟩) n cap,.int .i64 g,.int .i64 bx,.int .i64 tp,.int .i64 nr,.int .i64 md],.ty 24⟩),(208,⟨#[.int .i64 st,.slice (some ⟨ks,off2,none⟩) n cap2],.ty 27⟩),(464,⟨fa Ma .i64 (orU go a b),.ty 45⟩),(480,⟨fa Mb .i64 gq,.ty 3⟩),(488,⟨#[.int .i64 st,.slice (some ⟨464,0,none⟩) n ca],.ty 27⟩),(496,⟨#[.slice (some ⟨480,0,none⟩) n cb,.int .i64 g,.int .i64 bx,.int .i64 tp,.int .i64 nr,.int .i64 md],.ty 24⟩)]) hT.ok hT.fx hC0 (by omega) ?_ ?_ ?_) ?_
  ·simp [wi_zero,idsV,idsA,idsF,ids0,dom]
  ·simp [orU_row,ids_lit,idsF,ids0,dom,hA,hS,hne,hna,Blk.fx_ids (fa_fx _ _ _)]
  ·(intro p hp;have hpb:=hT.ok.big p hp;(try dsimp only);simp (disch:=omega) only [addB,upd_other,hpL_cons,hpL_nil,if_neg,updL,List.cons_append,List.nil_append];first|exact hT.mem p hp|exact cL p hp)
  simp only [List.cons_append,List.nil_append]
  have hOr:=orU_or hgo
  have hF6:∀ j,j<6*n→i64 (orF fs a b j):=fun j hj=>by
   have:=k_st (right_or hrt ha hbn) hj
   exact ⟨by omega,by omega⟩
  have hSo:SB ⟨fa Ma .i64 (orU go a b),.ty 45⟩ 0 n (orF fs a b):=kown_sb p2 hOr hF6 hnn
  generalize orU go a b=g8 at *
  have hok2:=cfOk_sw hok ha hbn
  have hrt2:=right_or hrt ha hbn
  have hT2:=LKa.two hMo.fx hSo.fx
  by_cases hE:kkE true p q fs n=0
  rotate_left
  ·have hk1:=kicks_of L ka ks bm bs hT off n cap off2 cap2 fm fs hm hSb g bx tp nr md st hs p q hok hrt rfl hE
   have hk2:=kicks_of _ 100 108 _ _ hT2 0 n cb 0 ca _ _ hMo hSo g bx tp nr md st hs p q hok2 hrt2 (kkE_or p q fs ha hbn).symm hE
   generalize kkE true p q fs n=e at *
   unfold cfV at hk1 hk2
   repeat' (first|refine gwA ?_|((first|refine gwR [11] ?_|refine gwD [11] ?_);intro Q hQ hP;simp [hC,hY,hA,hS,hne,hna,wk];(repeat ((first|(first|refine heapK_L hk1 hT.ok aMem ?_|refine heapK_mv hk2 G1F (B:=200) hT2.ok (fun k=>if k=100 then 480 else if k=108 then 464 else k) (fun k hk=>(if_neg (by omega)).trans (if_neg (by omega))) (by simp [ren,renA,renF,ren0]) (by simp) (by simp [fa_rn]) (by simp [keys]) (by simp [keys];rfl) ?_));try simp [hC,hY,hA,hS,hne,hna,wk]));refine hQ _ _ _ _ (by kernel_rfl) ?_;clear hQ hP Q)|(refine gwC ?_ ?_<;>(intro hb;try (cases hb;done))))
   refine GW_for 0 (fun _=>⟨tsL [(12,.bool false),(16,.slice none 0 0),(18,.slice none 0 0),(20,.int .i64 0)],hpL G1 ([]++L),2000,0⟩) ?_ ?_ ?_
   ·refine weakLL _ 2000 hC G1F hT.ok hT.fx hC0 (by omega) ?_ ?_ aMem
    ·simp [idsV,idsA,idsF,ids0,dom]
    ·simp
   ·intro j hj
    omega
   ·
    repeat' (first|refine gwA ?_|(refine gwX ?_;intro Q hQ hP;simp [hC,hY,hA,hS,hne,hna,wk];refine hQ _ _ _ _ (by kernel_rfl) ?_;clear hQ hP Q)|(refine gwC ?_ ?_<;>(intro hb;try (cases hb;done))))
    refine ⟨.inr rfl,by simp [Tryz.results5],kpT G1F⟩
  obtain ⟨hpt,hany⟩:=kkE_0 hE
  have hany2:kAny (orF fs a b) n=false:=by rw [kAny_or fs ha hbn];exact hany
  have hk1:=(kkicks_ok L ka ks bm bs hT off n cap off2 cap2 fm fs hm hSb g bx tp nr md st hs p q hok hrt hpt hany).nmL hT.ok hT.fx 984 (by omega) (fun v ns=>kkR_key) (by have hl:r1n 984 ka=ka:=if_neg (by have:=hT.a2;omega);have hl2:r1n 984 ks=ks:=if_neg (by omega);simp [cfV,ren,renA,renF,ren0,hl,hl2]) (kkR_rr (ρ:=r1n 984) (nk:=984) rfl n (kkF p q g fm fs n))
  have hk2:=(kkicks_ok _ 100 108 _ _ hT2 0 n cb 0 ca _ _ hMo hSo g bx tp nr md st hs p q hok2 hrt2 hpt hany2).own3 (args':=#[.agg #[.slice (some ⟨480,0,none⟩) n cb,.int .i64 g,.int .i64 bx,.int .i64 tp,.int .i64 nr,.int .i64 md],.agg #[.int .i64 st,.slice (some ⟨464,0,none⟩) n ca],.int .i64 p,.int .i64 q]) hMo.fx hSo.fx 480 464 1064 (by omega) (by omega) (by omega) (by omega) (by omega) (by omega) (fun v ns=>kkR_key) (by simp [cfV,ren,renA,renF,ren0,r3n_a,r3n_b]) (kkR_rr r3n_k _ _)
  unfold cfV at hk1 hk2
  refine GW_seq ?_
  refine GW_list ?_
  simp only [Array.toList]
  refine GL_walk 4 [] rfl (by simp) (by kernel_rfl) ?_;intro q hq;simp [hC,hY,hA,hS,hne,hna];refine hq _ _ _ _ ?_;clear hq q
  simp only [wT,List.length_cons,List.length_nil,Nat.reduceAdd]
  refine GL_callL (f:=.func 11) (cap:=#[]) hC hk1 rfl (by simp) rfl rfl (by simp [okT]) (by simp [gev]) (by simp) (by simp [okX,junk]) (by simp [gev]) (by intro q hq;obtain ⟨p,hp,rfl⟩:=mem_keys.1 hq;have hpb:=hT.ok.big p hp;(try dsimp only);simp (disch:=omega) only [upd_other,hpL_cons,if_neg,updL]) (by (intro k hk;first|exact hLow k hk|(simp (disch:=omega) only [hLow,addB,List.mem_cons,List.not_mem_nil,or_false,upd_other,hpL_cons,hpL_nil,if_neg,updL,List.cons_append,List.nil_append]<;>done))) ?_ ?_
  ·intro v ns hV k hk
   rw [kkR_key hV k hk]
   omega
  rintro v ns ⟨c1,g1,x1,y1,rfl,rfl⟩
  refine GL_walk 5 [] rfl (by simp) (by kernel_rfl) ?_;intro q hq;simp [hC,hY,putT,updL];refine hq _ _ _ _ ?_;clear hq q
  simp only [wT,List.length_cons,List.length_nil,Nat.reduceAdd]
  refine GL_nil ?_
  simp only [thenG_normal]
  refine GW_seq ?_
  refine GW_list ?_
  simp only [Array.toList]
  refine GL_walk 4 [] rfl (by simp) (by kernel_rfl) ?_;intro q hq;simp [hC,hY,putT,updL,hA,hS,hne,hna];refine hq _ _ _ _ ?_;clear hq q
  simp only [wT,List.length_cons,List.length_nil,Nat.reduceAdd]
  refine GL_callL (f:=.func 11) (cap:=#[]) hC hk2 rfl (by simp) rfl rfl (by simp [okT]) (by simp [gev]) (by simp) (by simp [okX,junk]) (by simp [gev]) (by simp [putT,updL]) (by (intro k hk;first|exact hLow k hk|(simp (disch:=omega) only [hLow,addB,List.mem_cons,List.not_mem_nil,or_false,upd_other,hpL_cons,hpL_nil,if_neg,updL,List.cons_append,List.nil_append]<;>done))) ?_ ?_
  ·intro v ns hV k hk
   rw [kkR_key hV k hk]
   omega
  rintro v ns ⟨c2,g2,x2,y2,rfl,rfl⟩
  refine GL_walk 5 [] rfl (by simp) (by kernel_rfl) ?_;intro q hq;simp [hC,hY,putT,updL];refine hq _ _ _ _ ?_;clear hq q
  simp only [wT,List.length_cons,List.length_nil,Nat.reduceAdd]
  refine GL_nil ?_
  repeat' (first|refine gwA ?_|(refine gwX ?_;intro Q hQ hP;simp [hC,hY,putT,updL,hA,hS,hne,hna,wk];refine hQ _ _ _ _ (by kernel_rfl) ?_;clear hQ hP Q)|(refine gwC ?_ ?_<;>(intro hb;try (cases hb;done))))
  refine GW_for n (koSt L n a b c1 c2 g1 g2) ?_ ?_ ?_
  ·refine weakLL _ 2000 hC G1F hT.ok hT.fx hC0 (by omega) ?_ ?_ aMem
   ·simp [idsV,idsA,idsF,ids0,dom,putT,updL]
   ·simp [ids_lit,idsF,ids0,dom,hA,hS,hne,hna,Blk.fx_ids (fa_fx _ _ _),putT,updL]
  ·intro j hj
   have hj':(j:Int)<n:=Int.ofNat_lt.2 hj
   have hz:(0:Int)≤j:=Int.natCast_nonneg _
   have hs':=nat_succ hj hn4.2
   have l2:=kvec_ld (g:=g2) x2 hj
   have hsl:=sw_lt ha hbn hj
   have l1:=kvec_ld (g:=g1) x1 hsl
   obtain ⟨e00,e01,e02⟩:=ko_e0 ha hbn y1 y2 hj
   rw [e00,e01,e02] at l2
   have hsz:(0:Int)≤(sw a b j:Nat):=Int.natCast_nonneg _
   have hsn:((sw a b j:Nat):Int)<n:=Int.ofNat_lt.2 hsl
   unfold koSt
   by_cases ja:j=a
   ·have e:sw a b j=b:=by unfold sw;rw [if_pos ja]
    rw [e] at l1 l2 hsz hsn hsl
    subst ja
    repeat' (first|refine gwA ?_|(refine gwX ?_;intro Q hQ hP;simp [hC,hY,hA,hS,hne,hna,hj,hj',hz,hs',l1,l2,hsz,hsn,hsl];refine hQ _ _ _ _ (by kernel_rfl) ?_;clear hQ hP Q)|(refine gwC ?_ ?_<;>(intro hb;try (cases hb;done))))
    refine weakLL _ 2000 hC G1F hT.ok hT.fx hC0 (by omega) ?_ ?_ aMem
    ·simp [idsV,idsA,idsF,ids0,dom,hs']
    ·simp [ids_lit,idsF,ids0,dom,hA,hS,hne,hna,Blk.fx_ids (fa_fx _ _ _)]
   ·have haf:((j:Int)==(a:Int))=false:=beq_eq_false_iff_ne.2 fun h=>ja (Int.ofNat_inj.1 h)
    by_cases jb:j=b
    ·have e:sw a b j=a:=by unfold sw;rw [if_neg ja,if_pos jb]
     rw [e] at l1 l2 hsz hsn hsl
     subst jb
     repeat' (first|refine gwA ?_|(refine gwX ?_;intro Q hQ hP;simp [hC,hY,hA,hS,hne,hna,hj,hj',hz,hs',l1,l2,ja,haf,hsz,hsn,hsl];refine hQ _ _ _ _ (by kernel_rfl) ?_;clear hQ hP Q)|(refine gwC ?_ ?_<;>(intro hb;try (cases hb;done))))
     refine weakLL _ 2000 hC G1F hT.ok hT.fx hC0 (by omega) ?_ ?_ aMem
     ·simp [idsV,idsA,idsF,ids0,dom,hs']
     ·simp [ids_lit,idsF,ids0,dom,hA,hS,hne,hna,Blk.fx_ids (fa_fx _ _ _)]
    ·have e:sw a b j=j:=by unfold sw;rw [if_neg ja,if_neg jb]
     rw [e] at l1 l2 hsz hsn hsl
     have hbf:((j:Int)==(b:Int))=false:=beq_eq_false_iff_ne.2 fun h=>jb (Int.ofNat_inj.1 h)
     repeat' (first|refine gwA ?_|(refine gwX ?_;intro Q hQ hP;simp [hC,hY,hA,hS,hne,hna,hj,hj',hz,hs',l1,l2,ja,jb,haf,hbf,hsz,hsn,hsl];refine hQ _ _ _ _ (by kernel_rfl) ?_;clear hQ hP Q)|(refine gwC ?_ ?_<;>(intro hb;try (cases hb;done))))
     refine weakLL _ 2000 hC G1F hT.ok hT.fx hC0 (by omega) ?_ ?_ aMem
     ·simp [idsV,idsA,idsF,ids0,dom,hs']
     ·simp [ids_lit,idsF,ids0,dom,hA,hS,hne,hna,Blk.fx_ids (fa_fx _ _ _)]
  ·unfold koSt
   repeat' (first|refine gwA ?_|(refine gwX ?_;intro Q hQ hP;simp [hC,hY,hA,hS,hne,hna,wk];refine hQ _ _ _ _ (by kernel_rfl) ?_;clear hQ hP Q)|(refine gwC ?_ ?_<;>(intro hb;try (cases hb;done))))
   refine ⟨.inr rfl,by simp [Tryz.results5],kpT G1F⟩
 ·have hlt:i<8:=by
   have:=(Array.getElem?_eq_some_iff.1 hi).1
   rw [szR] at this
   simpa using this
  obtain ⟨ca,Ma,ga,cb,Mb,gb,hinv,h⟩:=h
  obtain rfl|rfl|rfl|rfl|rfl|rfl|rfl|rfl:i=0∨i=1∨i=2∨i=3∨i=4∨i=5∨i=6∨i=7:=by omega
  ·-- 0
   have vx7:ts 7=.pointer (some ⟨208,0,none⟩):=(h.t0 7 (by decide)).trans hF.e7
   have y208:hp 208=some (⟨#[.int .i64 st,.slice (some ⟨ks,off2,none⟩) n cap2],.ty 27⟩):=(h.ext (by decide)).trans hF.b208
   refine GO_walk [] rfl (by kernel_rfl) (by first|assumption|simp) ?_;intro q hq;simp [hC,hY,vx7,y208];refine hq _ _ _ _ ?_;clear hq q
   exact hk _ _ ⟨ca,Ma,ga,cb,Mb,gb,hinv,(h.tmp s5N1 s5N2 hi (by simp [s5D]) (i:=0) (t:=49) (by decide) rfl (by decide))⟩
  ·-- 1
   have hd0:=hdep _ rfl
   simp [Region.binds] at hd0
   have d0:listed[0]? = some true:=by simp [hd0]
   have vf0:ts 49=.agg #[.int .i64 st,.slice (some ⟨ks,off2,none⟩) n cap2]:=h.tm (0,49) (by decide) d0
   have low:∀ k,k<100→hp k=G1 k:=fun k hk=>(h.ext (s5X200 _ (by omega))).trans (hF.low k hk)
   have cL:∀ p∈L,hp p.1=some p.2:=fun p hp=>(h.ext (s5X200 _ (hT.ok.big p hp).2)).trans (hF.bL p hp)
   refine GO_callG (f:=.func 22) (cap:=#[]) hC dO rfl hi (by simp [wantedG]) (by simp [Tryz.ntmps5]) rfl rfl (by simp [okT]) (by simp [gev]) (by simp) (by simp [okX,junk,vf0]) (by simp [gev,vf0]) (by simp [cL _ hT.kb]) (fun q hq=>(low q hq).symm▸(by simp (disch:=omega) only [hpL_cons,hpL_nil,if_neg])) ?_ ?_
   ·intro v ns hV k hk
    rw [ownS_key hV k hk]
    omega
   rintro v ns ⟨ca',Ma',ga',u1,u2,u3,rfl,rfl⟩
   have h:=h.chg (V':=s5V L bm bs ka ks g bx tp nr md st p q off n cap off2 cap2 a b fm fs ca' Ma' ga' cb Mb gb) (Bk':=s5Bk L bm bs ka ks g bx tp nr md st p q off n cap off2 cap2 a b fm fs ca' Ma' ga' cb Mb gb) hi (fun j hj hD=>by unfold s5V;split<;>first|rfl|exact absurd rfl hj|exact (hD (by decide)).elim) (fun j hj hD=>by unfold s5Bk;split<;>first|rfl|exact absurd rfl hj|exact (hD (by decide)).elim)
   obtain ⟨_,_,_,v1,v2,v3⟩:=hinv
   exact hk _ _ ⟨ca',Ma',ga',cb,Mb,gb,⟨u1,u2,u3,v1,v2,v3⟩,h.new s5N1 s5N2 s5X1 hi (by simp [s5D]) (i:=1) (t:=50) (k:=464) (by decide) rfl (by decide) rfl (by decide)⟩
  ·-- 2
   have vx6:ts 6=.pointer (some ⟨200,0,none⟩):=(h.t0 6 (by decide)).trans hF.e6
   have y200:hp 200=some (⟨#[.slice (some ⟨ka,off,none⟩) n cap,.int .i64 g,.int .i64 bx,.int .i64 tp,.int .i64 nr,.int .i64 md],.ty 24⟩):=(h.ext (by decide)).trans hF.b200
   refine GO_walk [] rfl (by kernel_rfl) (by first|assumption|simp) ?_;intro q hq;simp [hC,hY,vx6,y200];refine hq _ _ _ _ ?_;clear hq q
   exact hk _ _ ⟨ca,Ma,ga,cb,Mb,gb,hinv,(h.tmp s5N1 s5N2 hi (by simp [s5D]) (i:=2) (t:=51) (by decide) rfl (by decide))⟩
  ·-- 3
   have hd0:=hdep _ rfl
   simp [Region.binds] at hd0
   have d2:listed[2]? = some true:=by simp [hd0]
   have vf2:ts 51=.agg #[.slice (some ⟨ka,off,none⟩) n cap,.int .i64 g,.int .i64 bx,.int .i64 tp,.int .i64 nr,.int .i64 md]:=h.tm (2,51) (by decide) d2
   have low:∀ k,k<100→hp k=G1 k:=fun k hk=>(h.ext (s5X200 _ (by omega))).trans (hF.low k hk)
   have cL:∀ p∈L,hp p.1=some p.2:=fun p hp=>(h.ext (s5X200 _ (hT.ok.big p hp).2)).trans (hF.bL p hp)
   refine GO_callG (f:=.func 23) (cap:=#[]) hC dQ rfl hi (by simp [wantedG]) (by simp [Tryz.ntmps5]) rfl rfl (by simp [okT]) (by simp [gev]) (by simp) (by simp [okX,junk,vf2]) (by simp [gev,vf2]) (fun q hq=>by obtain ⟨e1,rfl,e2⟩:=hQa q hq;rw [e2];exact (cL _ (hT.am e1)).symm) (fun q hq=>(hQb q hq).trans (low q hq).symm) ?_ ?_
   ·intro v ns hV k hk
    rw [ownC_key hV k hk]
    omega
   rintro v ns ⟨cb',Mb',gb',u1,u2,u3,rfl,rfl⟩
   have h:=h.chg (V':=s5V L bm bs ka ks g bx tp nr md st p q off n cap off2 cap2 a b fm fs ca Ma ga cb' Mb' gb') (Bk':=s5Bk L bm bs ka ks g bx tp nr md st p q off n cap off2 cap2 a b fm fs ca Ma ga cb' Mb' gb') hi (fun j hj hD=>by unfold s5V;split<;>first|rfl|exact absurd rfl hj|exact (hD (by decide)).elim) (fun j hj hD=>by unfold s5Bk;split<;>first|rfl|exact absurd rfl hj|exact (hD (by decide)).elim)
   obtain ⟨v1,v2,v3,_,_,_⟩:=hinv
   exact hk _ _ ⟨ca,Ma,ga,cb',Mb',gb',⟨v1,v2,v3,u1,u2,u3⟩,h.new s5N1 s5N2 s5X1 hi (by simp [s5D]) (i:=3) (t:=52) (k:=480) (by decide) rfl (by decide) rfl (by decide)⟩
  ·-- 4
   refine GO_walk [] rfl (by kernel_rfl) (by first|assumption|simp) ?_;intro q hq;simp [hC,hY];refine hq _ _ _ _ ?_;clear hq q
   exact hk _ _ ⟨ca,Ma,ga,cb,Mb,gb,hinv,(h.new s5N1 s5N2 s5X1 hi (by simp [s5D]) (i:=4) (t:=14) (k:=488) (by decide) rfl (by decide) rfl (by decide))⟩
  ·-- 5
   refine GO_walk [] rfl (by kernel_rfl) (by first|assumption|simp) ?_;intro q hq;simp [hC,hY];refine hq _ _ _ _ ?_;clear hq q
   exact hk _ _ ⟨ca,Ma,ga,cb,Mb,gb,hinv,(h.new s5N1 s5N2 s5X1 hi (by simp [s5D]) (i:=5) (t:=15) (k:=496) (by decide) rfl (by decide) rfl (by decide))⟩
  ·-- 6
   have hd0:=hdep _ rfl
   simp [Region.binds] at hd0
   have d1:listed[1]? = some true:=by simp [hd0]
   have d4:listed[4]? = some true:=by simp [hd0]
   have vf1:ts 50=.agg #[.int .i64 st,.slice (some ⟨464,0,none⟩) n ca]:=h.tm (1,50) (by decide) d1
   have vf4:ts 14=.pointer (some ⟨488,0,none⟩):=h.tm (4,14) (by decide) d4
   have y488:hp 488=some (⟨#[.int .i64 0,.slice none 0 0],.ty 27⟩):=h.bxi hi (w:=4) (by decide) d4 (by decide)
   refine GO_walk [] rfl (by kernel_rfl) (by first|assumption|simp) ?_;intro q hq;simp [hC,hY,vf1,vf4,y488];refine hq _ _ _ _ ?_;clear hq q
   exact hk _ _ ⟨ca,Ma,ga,cb,Mb,gb,hinv,(h.st s5X1 hi (by simp [s5D,d1,d4]) (i:=6) (k:=488) (by decide) (by decide) rfl (by decide))⟩
  ·-- 7
   have hd0:=hdep _ rfl
   simp [Region.binds] at hd0
   have d3:listed[3]? = some true:=by simp [hd0]
   have d5:listed[5]? = some true:=by simp [hd0]
   have vf3:ts 52=.agg #[.slice (some ⟨480,0,none⟩) n cb,.int .i64 g,.int .i64 bx,.int .i64 tp,.int .i64 nr,.int .i64 md]:=h.tm (3,52) (by decide) d3
   have vf5:ts 15=.pointer (some ⟨496,0,none⟩):=h.tm (5,15) (by decide) d5
   have y496:hp 496=some (⟨#[.slice none 0 0,.int .i64 0,.int .i64 0,.int .i64 0,.int .i64 0,.int .i64 0],.ty 24⟩):=h.bxi hi (w:=5) (by decide) d5 (by decide)
   refine GO_walk [] rfl (by kernel_rfl) (by first|assumption|simp) ?_;intro q hq;simp [hC,hY,vf3,vf5,y496];refine hq _ _ _ _ ?_;clear hq q
   exact hk _ _ ⟨ca,Ma,ga,cb,Mb,gb,hinv,(h.st s5X1 hi (by simp [s5D,d3,d5]) (i:=7) (k:=496) (by decide) (by decide) rfl (by decide))⟩
 ·have hno:∀ j:Nat,(Array.replicate 8 false)[j]?≠some true:=fun j=>by
   rw [Array.getElem?_replicate]
   split<;>simp
  exact ⟨n,6*n,fs,n,n,fm,⟨Nat.le_refl _,Nat.le_refl _,fun _ _=>rfl,Nat.le_refl _,Nat.le_refl _,fun _ _=>rfl⟩,TJ.start hno⟩
theorem KickOrder_in (L:List (Nat×Blk)) (ka ks:Nat) (bm bs:Blk) (hT:LKa L ka ks bm bs) (off n cap off2 N2 cap2:Nat) (fm fs:Nat→Int) (hm:MB bm off n fm) (hcap:n≤cap) (hSb:SB bs off2 N2 fs) (hcap2:N2≤cap2) (g bx tp nr md st:Int) (hs:i64 st) (p q x y:Int) (hp:i64 p) (hq:i64 q) (hx:i64 x) (hy:i64 y) :
  Fun Tryz.prog G1 5 #[cfV (.slice (some ⟨ka,off,none⟩) n cap) g bx tp nr md,.agg #[.int .i64 st,.slice (some ⟨ks,off2,none⟩) N2 cap2],.int .i64 p,.int .i64 q,.int .i64 x,.int .i64 y] (hpL G1 L) (keys L) (.ret (.bool true) []):=by
 cases hf:fitB n N2 (cfOk n fm g bx tp nr md) (rightB st fs N2) with
 | false=>exact ko_wakes L ka ks bm bs hT off n cap off2 N2 cap2 fm fs hm hcap hSb hcap2 g bx tp nr md st hs p q x y (.inr hf)
 | true =>
  obtain ⟨rfl,hok,hrt⟩:=fitB_iff.1 hf
  exact ko_fit L ka ks bm bs hT off n cap off2 cap2 fm fs hm hcap hSb hcap2 g bx tp nr md st hs p q x y hx hy hok hrt
theorem KickOrder_fun (L:List (Nat×Blk)) (ka ks:Nat) (bm bs:Blk) (hT:LKa L ka ks bm bs) (off n cap:Nat) (fm:Nat→Int) (hm:MB bm off n fm) (hcap:n≤cap) (off2 N2 cap2:Nat) (fs:Nat→Int) (hSb:SB bs off2 N2 fs) (hcap2:N2≤cap2) (g bx tp nr md st p q x y:Int) (_:i64 g) (_:i64 bx) (_:i64 tp) (_:i64 nr) (_:i64 md) (hs:i64 st) (hp:i64 p) (hq:i64 q) (hx:i64 x) (hy:i64 y) :
  Fun Tryz.prog G1 5 #[cfV (.slice (some ⟨ka,off,none⟩) n cap) g bx tp nr md,.agg #[.int .i64 st,.slice (some ⟨ks,off2,none⟩) N2 cap2],.int .i64 p,.int .i64 q,.int .i64 x,.int .i64 y] (hpL G1 L) (keys L) (.ret (.bool true) []) :=
 KickOrder_in L ka ks bm bs hT off n cap off2 N2 cap2 fm fs hm hcap hSb hcap2 g bx tp nr md st hs p q x y hp hq hx hy
end Go.Gy
namespace Go.Gy
set_option linter.unusedSimpArgs false
set_option linter.unusedVariables false
set_option maxRecDepth 100000
open Go Go.RowKit Go.Proofs Go.ChangeShapes Go.WideShapes Go.ChangeAt

section
variable {H:Type} {enc:TypeId×Value→H} {P:Program}
theorem post_of_below {f:Func} {s:ChangeSpec} {apart fresh handsOn again:Bool} {W W':World} {args:Array Value} {v:Value} {ds gs:List (DataW H)} {before pa pv:List MemPlace}
  (hW:DataW.Whole enc P f.params.toList s.vars apart W args.toList ds gs before)
  (hres:∀ (b:Nat) (sp:Nat→Bool) (hd:Bool),DataW.TrodAll enc P W' b sp hd f.resultTypes.toList (v.resultList f.resultTypes.size) (s.fn H (ds++gs)).results [])
  (hargs:∀ sp:Nat→Bool,(∀ p∈before,sp p.block=true)→DataW.TrodAll enc P W' 0 sp true f.params.toList args.toList (s.fn H (ds++gs)).args pa)
  (hvars:∀ sp:Nat→Bool,(∀ p∈before,sp p.block=true)→DataW.TrodVars enc P W' sp s.vars (s.fn H (ds++gs)).vars pv)
  (hps:before=pa++pv) (hb:Below W.heap.size W W')
  (hok:∀ (j:Nat) (t:TypeId) (r:Value),f.resultTypes[j]? = some t→(v.resultList f.resultTypes.size)[j]? = some r→Value.okWide P W' .any 0 t r) :
  s.post enc P f apart fresh handsOn again W args v W':=by
 have hlt:∀ p∈before,p.block<W.heap.size:=fun p hp=>hW.lt p hp
 have hold:∀ p∈before,(fun b=>decide (b<W.heap.size)) p.block=true:=fun p hp=>by simpa using hlt p hp
 refine ⟨ds,gs,before,[],pa,pv,hW,hres _ _ _,hargs _ hold,hvars _ hold,World.keptBut_mono (fun p hp=>⟨hp,?_⟩) (hb.frame (·∈before)),fun _=>?_⟩
 ·rw [hps,List.mem_append] at hp
  exact Or.inr hp
 ·obtain ⟨_,_,_,_,_,hz,hn⟩:=hW
  refine ⟨hok,_,_,([]++pa)++pv,⟨[]++pa,pv,trodAll_append (hargs _ (fun _ _=>rfl)) (hres _ _ _),hvars _ (fun _ _=>rfl),rfl,?_,?_⟩,?_⟩
  ·intro b off hp
   have hin:MemPlace.cell b off∈before:=by rw [hps];simpa using hp
   rw [hb.frozen (hlt _ hin)]
   exact hz b off hin
  ·intro ha
   have:=hn ha
   rw [hps] at this
   simpa using this
  ·intro p hp _
   rw [hps]
   simpa using hp
end

theorem cells_u64:Tryz.prog.cellsOf 84=1:=by kernel_rfl
theorem cells_wide:Tryz.prog.cellsOf 86=4:=by kernel_rfl
theorem mm_i64:IntKind.i64.min=-9223372036854775808∧IntKind.i64.max=9223372036854775807:=by decide
theorem wf_i64 {z:Int} (h:(Lit.int .i64 z).wf=true):i64 z:=by
 simp only [Lit.wf,Bool.and_eq_true,decide_eq_true_eq,mm_i64.1,mm_i64.2] at h;unfold i64;omega
section
variable {H:Type} {enc:TypeId×Value→H} {w:World}
end

theorem own:ownKnob Tryz.prog.godebug=none:=by kernel_rfl
theorem heap_of_var {P:Program} {W:World} {name:String} {g:Nat} {cs:Array Value} {z:Array Value} {T:TypeId} (hg:P.globalNamed name=some g) (hlt:g<P.globals.size) (hrow:((begin P (fun _ _=>0) default).world.heap[g]?).bind Obj.row? = some (z,T))
  (hS:W.ShapedOpen P) (hv:W.var? P name=some cs):W.heap[g]? = some (.cells cs T (0,0)):=by
 obtain ⟨c,h1,_⟩:=hS.1 g z T hlt hrow
 unfold World.var? at hv
 rw [hg] at hv
 simp only [Option.bind_some,h1,Option.some.injEq] at hv
 rw [h1,hv]
theorem gLeast : Tryz.prog.globalNamed "gyre/quot.least" = some 2 := by kernel_rfl
theorem gLeastType:(Tryz.prog.globals[2]?).map (·.type)=some 86:=by kernel_rfl
theorem gLeastRow:((begin Tryz.prog (fun _ _=>0) default).world.heap[2]?).bind Obj.row? = some (#[.int .u64 0,.int .u64 0,.int .u64 0,.int .u64 0],86):=by kernel_rfl
theorem least_of {W : World} {rest : List (String × DataW Unit)} (h : laidMet Tryz.prog (("gyre/quot.least", Proofs.YtmnknnojkhkceaaGreatDoor.Rows.laid_gyre_quot_least) :: rest) W) : W.var? Tryz.prog "gyre/quot.least" = some lsB.c :=
 Lib.tabIs_of_head (zs:=[0,0,0,9223372036854775808]) gLeast gLeastType Tryz.underlying86 Tryz.underlying84 cells_u64 cells_wide h
theorem cells_of_strs {H:Type} {enc:TypeId×Value→H} {P:Program} {w:World} {base:Nat} {sp:Nat→Bool} {held:Bool} {fuel:Nat} {t e:TypeId} {n:Nat} {cs:List Value} {ss:List (List UInt8)} {p:List MemPlace}
  (ht:P.underlying t=some (.array n e)) (he:P.underlying e=some .string) (hce:P.cellsOf e=1) (hct:P.cellsOf t=n)
  (h:DataW.trod enc P w base sp held fuel t cs=some (.agg (ss.map fun s=>.lit (.string s)),p)):cs=ss.map fun s=>Value.string ⟨s.toArray⟩:=by
 cases fuel with
 | zero=>simp [DataW.trod] at h
 | succ fuel =>
  simp only [DataW.trod,ht,hce,hct,Nat.mul_one] at h
  split at h
  ·rename_i hl
   obtain ⟨xs,hm,hx⟩:=Option.map_eq_some_iff.1 h
   have hxs:xs.map (·.1)=ss.map fun s=>(DataW.lit (.string s):DataW H):=by
    have:=congrArg Prod.fst hx
    simpa using this
   have hxl:xs.length=n:=by simpa using Lib.mapM_length hm
   have hzl:ss.length=n:=by
    have:=congrArg List.length hxs
    simp at this
    omega
   apply List.ext_getElem?
   intro i
   by_cases hi:i<n
   ·obtain ⟨b,hb,hf⟩:=Lib.mapM_at hm i i (by simp [hi])
    obtain ⟨s,hc,rfl,_⟩:=DataW.trod_string he hf
    have h1:cs[i]? = some (.string s):=by
     have:=congrArg (·[0]?) hc
     simpa [List.getElem?_take,List.getElem?_drop] using this
    have h2:(xs.map (·.1))[i]? = some (DataW.lit (.string s.data.toList):DataW H):=by simp [hb]
    rw [hxs] at h2
    simp only [List.getElem?_map,Option.map_eq_some_iff,DataW.lit.injEq,Lit.string.injEq] at h2
    obtain ⟨z',hz',rfl⟩:=h2
    simp [h1,hz']
   ·rw [List.getElem?_eq_none (by omega),List.getElem?_eq_none (by simp;omega)]
  ·cases h
theorem gNames : Tryz.prog.globalNamed "gyre/conf.names" = some 1 := by kernel_rfl
theorem gNamesType:(Tryz.prog.globals[1]?).map (·.type)=some 104:=by kernel_rfl
theorem cells_str:Tryz.prog.cellsOf 9=1:=by kernel_rfl
theorem cells_names:Tryz.prog.cellsOf 104=7:=by kernel_rfl
theorem gNamesRow:((begin Tryz.prog (fun _ _=>0) default).world.heap[1]?).bind Obj.row? = some (#[.string ⟨#[]⟩,.string ⟨#[]⟩,.string ⟨#[]⟩,.string ⟨#[]⟩,.string ⟨#[]⟩,.string ⟨#[]⟩,.string ⟨#[]⟩],104):=by kernel_rfl
theorem names_of {W : World} {rest : List (String × DataW Unit)} (h : laidMet Tryz.prog (("gyre/conf.names", Proofs.YtmnknnojkhkceaaGreatDoor.Rows.laid_gyre_conf_names) :: rest) W) : W.var? Tryz.prog "gyre/conf.names" = some cnB.c := by
 obtain ⟨ps,⟨g',t',cs,fuel,p,q,hg',ht',hvar,hd,_,_⟩,_⟩:=h
 obtain rfl:=Option.some.inj (gNames.symm.trans hg')
 obtain rfl:=Option.some.inj (gNamesType.symm.trans ht')
 have h9:=cells_of_strs (ss:=[[98,111,100,105,101,115],[109,97,115,115],[99,111,110,115,116,97,110,116],[98,111,120],[116,111,112],[110,101,97,114],[109,101,116,104,111,100]]) Tryz.underlying104 Tryz.underlying9 cells_str cells_names hd
 rw [hvar]
 congr 1
 exact Array.ext' h9
theorem celln_int:Tryz.prog.cellsOf 3=1:=by kernel_rfl
theorem cells_vec:Tryz.prog.cellsOf 31=3:=by kernel_rfl
theorem cells_body:Tryz.prog.cellsOf 45=6:=by kernel_rfl
theorem cells_bodies:Tryz.prog.cellsOf 25=1:=by kernel_rfl
theorem cells_state:Tryz.prog.cellsOf 27=2:=by kernel_rfl
theorem ctypes_state:Tryz.prog.cellTypes Tryz.prog.depth 27=some [3,25]:=by kernel_rfl
section
variable {H:Type} {enc:TypeId×Value→H} {w:World} {base:Nat} {spare:Nat→Bool} {held:Bool}
theorem vec_cells {fuel:Nat} {cs:List Value} {x:DataW H×List MemPlace} (h:DataW.trod enc Tryz.prog w base spare held fuel 31 cs=some x):cs.length=3∧∀ j,j<3→∃ z,cs[j]? = some (.int .i64 z)∧i64 z:=by
 obtain ⟨xs,m,_,rfl,hl,hxs,hi⟩:=DataW.trod_array Tryz.underlying31 h
 rw [cells_vec] at hl
 refine ⟨hl,fun j hj=>?_⟩
 have h1:=hi j hj
 rw [celln_int,Nat.mul_one,List.getElem?_eq_getElem (by omega)] at h1
 obtain ⟨z,e,_,hw⟩:=DataW.trod_int Tryz.underlying3 h1
 refine ⟨z,?_,wf_i64 hw⟩
 have:=congrArg (·[0]?) e
 simpa [List.getElem?_take,List.getElem?_drop] using this
theorem body_cells {fuel:Nat} {cs:List Value} {x:DataW H×List MemPlace} (h:DataW.trod enc Tryz.prog w base spare held fuel 45 cs=some x):cs.length=6∧∀ j,j<6→∃ z,cs[j]? = some (.int .i64 z)∧i64 z:=by
 obtain ⟨y0,y1,n,rfl,hl,h0,h1⟩:=trod_struct2 Tryz.underlying45 h
 rw [cells_body] at hl
 simp only [cells_vec] at h0 h1
 refine ⟨hl,fun j hj=>?_⟩
 by_cases c:j<3
 ·obtain ⟨z,e,hz⟩:=(vec_cells h0).2 j c
  refine ⟨z,?_,hz⟩
  simpa [List.getElem?_take,List.getElem?_drop,c] using e
 ·obtain ⟨z,e,hz⟩:=(vec_cells h1).2 (j - 3) (by omega)
  refine ⟨z,?_,hz⟩
  rw [List.getElem?_take,if_pos (by omega),List.getElem?_drop,show 3+(j - 3)=j by omega] at e
  exact e
theorem open_bodies {fuel:Nat} {cs:List Value} {x:DataW H×List MemPlace} (h:DataW.trod enc Tryz.prog w 0 (fun _=>true) held fuel 25 cs=some x) :
  cs=[.slice none 0 0]∨∃ (a:Addr) (len cap:Nat) (f:Nat→Int),cs=[.slice (some a) len cap]∧len≤cap∧∀ j,j<6*cap→w.cell? (a.add j)=some (.int .i64 (f j))∧i64 (f j):=by
 rcases Deep.open_slice Tryz.underlying25 h with ⟨h0,_⟩|⟨a,len,cap,m,n,D,Pl,rfl,_,hlc,hcm,hm,_,hel⟩
 ·exact .inl h0
 right
 rw [if_pos rfl] at hm
 subst hm
 refine ⟨a,len,m,fun j=>match w.cell? (a.add j) with|some (.int _ z)=>z|_=>0,rfl,hlc,fun j hj=>?_⟩
 obtain ⟨cs',h1,h2⟩:=hel (j / 6) (by omega)
 rw [cells_body] at h1
 obtain ⟨z,e,hz⟩:=(body_cells h2).2 (j%6) (by omega)
 unfold World.cells? at h1
 rw [if_pos (Nat.zero_le _)] at h1
 have h3:=mapM_some_get h1 (j%6) (j%6) (List.getElem?_range (by omega))
 rw [e,Deep.add_add,show j / 6*6+j%6=j by omega] at h3
 dsimp only
 rw [h3]
 exact ⟨rfl,hz⟩
theorem rowAt_uint {fits:TypeId→Bool} (h:fits 84=false) (d c o n:Nat):rowAt Tryz.prog fits d 84 c o n=false:=by
 cases d with
 | zero=>rfl
 | succ d=>simp [rowAt,h,Tryz.underlying84]
theorem rowAt_wide {fits:TypeId→Bool} (h:fits 84=false) (h2:fits 86=false) (d c o n:Nat):rowAt Tryz.prog fits d 86 c o n=false:=by
 cases d with
 | zero=>rfl
 | succ d=>simp [rowAt,h2,Tryz.underlying86,rowAt_uint h]
theorem lies_wide (d c o n:Nat):liesAt Tryz.prog d 86 c o 45 n=false:=by
 cases d with
 | zero=>rfl
 | succ d =>
  unfold liesAt
  rw [rowAt_wide (by kernel_rfl) (by kernel_rfl),Tryz.underlying45]
  rfl
theorem rowAt_str {fits:TypeId→Bool} (h:fits 9=false) (d c o n:Nat):rowAt Tryz.prog fits d 9 c o n=false:=by
 cases d with
 | zero=>rfl
 | succ d=>simp [rowAt,h,Tryz.underlying9]
theorem rowAt_names {fits:TypeId→Bool} (h:fits 9=false) (h2:fits 104=false) (d c o n:Nat):rowAt Tryz.prog fits d 104 c o n=false:=by
 cases d with
 | zero=>rfl
 | succ d=>simp [rowAt,h2,Tryz.underlying104,rowAt_str h]
theorem lies_names (d c o n:Nat):liesAt Tryz.prog d 104 c o 45 n=false:=by
 cases d with
 | zero=>rfl
 | succ d =>
  unfold liesAt
  rw [rowAt_names (by kernel_rfl) (by kernel_rfl),Tryz.underlying45]
  rfl
theorem G0_lies:∀ p∈G0L,∃ t,p.2.T=.ty t∧∀ d c o n,liesAt Tryz.prog d t c o 45 n=false:=by
 intro p hp
 unfold G0L at hp
 rcases List.mem_cons.1 hp with rfl|hp
 ·exact ⟨_,rfl,lies_wide⟩
 rcases List.mem_cons.1 hp with rfl|hp
 ·exact ⟨_,rfl,lies_names⟩
 cases hp
structure StAt (W:World) (k off n cap:Nat) (b:Blk) (f:Nat→Int):Prop where
 le:n≤cap
 heap:W.heap[k]? = some b.obj0
 fx:b.fx
 raw:∃ c T fr,b=⟨c,.raw T fr⟩
 rd:rdI b off (6*cap) f
 i6:∀ j,j<6*cap→i64 (f j)
 lies:∃ row c,W.shape? k=some (row,c)∧liesAt Tryz.prog Tryz.prog.depth row (c / Tryz.prog.cellsOf row) off 45 cap=true
theorem StAt.sb {W:World} {k off n cap:Nat} {b:Blk} {f:Nat→Int} (h:StAt W k off n cap b f) (hn:n≤2932031007402):SB b off n f:=⟨h.rd.le (by have:=h.le;omega),h.fx,fun j hj=>h.i6 j (by have:=h.le;omega),hn⟩
theorem open_state {r:Reach} {b0:Nat} {v:Value} {d:DataW H} {p:List MemPlace} (hv:Value.okWide Tryz.prog w r b0 27 v) (h:DataW.Trod enc Tryz.prog w 0 (fun _=>true) held 27 v d p) :
  ∃ st,i64 st∧(v=.agg #[.int .i64 st,.slice none 0 0]∨∃ (k off n cap:Nat) (b:Blk) (f:Nat→Int),v=.agg #[.int .i64 st,.slice (some ⟨k,off,none⟩) n cap]∧StAt w k off n cap b f):=by
 simp only [Value.okWide,Tryz.underlying27] at hv
 obtain ⟨cs,rfl,hsz,ts,hts,_,hall⟩:=hv
 rw [ctypes_state] at hts
 simp only [Option.some.injEq] at hts
 subst hts
 obtain ⟨fuel,hf⟩:=h
 obtain ⟨y0,y1,n,_,hl,h0,h1⟩:=trod_struct2 Tryz.underlying27 hf
 rw [celln_int] at h0
 rw [cells_bodies] at h1
 simp only [Value.cells] at h0 h1
 obtain ⟨st,e0,_,hw⟩:=DataW.trod_int Tryz.underlying3 h0
 rw [cells_state] at hsz
 obtain ⟨c0,c1,rfl⟩:∃ c0 c1,cs=#[c0,c1]:=by
  obtain ⟨l⟩:=cs
  match l,hsz with
  | [c0,c1],_=>exact ⟨c0,c1,rfl⟩
 simp at e0
 subst e0
 refine ⟨st,wf_i64 hw,?_⟩
 rcases open_bodies h1 with e1|⟨a,len,cap,f,e1,hle,hc⟩
 ·simp at e1
  subst e1
  exact .inl rfl
 ·simp at e1
  subst e1
  right
  obtain ⟨u,hu,hok⟩:=hall 1 _ rfl
  simp at hu
  subst hu
  simp only [Cell.okWide,Cell.ok,Tryz.underlying25] at hok
  obtain ⟨_,_,_,hsp,row,cells,hsh,hlies⟩:=hok
  obtain ⟨k,off,sp⟩:=a
  simp only at hsp hsh hlies
  subst hsp
  have hsh':=hsh
  unfold World.shape? at hsh'
  split at hsh'
  ·rename_i c T fr hh
   simp only [Option.some.injEq,Prod.mk.injEq] at hsh'
   obtain ⟨rfl,rfl⟩:=hsh'
   refine ⟨k,off,len,cap,⟨c,.raw T fr⟩,f,rfl,hle,hh,trivial,⟨c,T,fr,rfl⟩,fun j hj=>?_,fun j hj=>(hc j hj).2,T,_,hsh,hlies⟩
   have h2:=(hc j hj).1
   rw [Addr.add_lit] at h2
   simpa [World.cell?,hh] using h2
  ·cases hsh'
end
theorem trodAll_stays {H:Type} {enc:TypeId×Value→H} {P:Program} {base:Nat} (hl:laidOutB P=true) {W W':World} {sp':Nat→Bool}:∀ (ts:List TypeId) (vs:List Value) (ds:List (DataW H)) (ps:List MemPlace),(∀ t∈ts,P.readableRec t=true∧t<P.types.size) →
  DataW.TrodAll enc P W base (fun _=>true) true ts vs ds ps→(∀ p∈ps,W.sameAt W' p)→(∀ p∈ps,sp' p.block=true)→DataW.TrodAll enc P W' base sp' true ts vs ds ps
 | [],[],[],_,_,h,_,_=>h
 | t::_,_::_,_::_,_,hT,⟨p,q,h1,h2,e⟩,hm,hs=>⟨p,q,WideElems.Trod_stays hl (hT t (by simp)).1 (hT t (by simp)).2 h1 (fun x hx=>hm x (by rw [e];exact List.mem_append_left _ hx)) (fun x hx=>hs x (by rw [e];exact List.mem_append_left _ hx)),
   trodAll_stays hl _ _ _ _ (fun t ht=>hT t (List.mem_cons_of_mem _ ht)) h2 (fun x hx=>hm x (by rw [e];exact List.mem_append_right _ hx)) (fun x hx=>hs x (by rw [e];exact List.mem_append_right _ hx)),e⟩
theorem laid_out:laidOutB Tryz.prog=true:=by kernel_rfl
theorem bytes_body:Tryz.prog.bytesOf 45=48:=by kernel_rfl
theorem cap_le {H:Type} {enc:TypeId×Value→H} {w:World} {held:Bool} {st:Int} {a:Addr} {n cap:Nat} {d:DataW H} {p:List MemPlace} (h:DataW.Trod enc Tryz.prog w 0 (fun _=>true) held 27 (.agg #[.int .i64 st,.slice (some a) n cap]) d p) (hw:∀ x∈d.weights Tryz.prog 27,x≤reachBytes):cap≤2932031007402:=by
 obtain ⟨fuel,hf⟩:=h
 obtain ⟨y0,y1,m,hx,hl,h0,h1⟩:=trod_struct2 Tryz.underlying27 hf
 rw [cells_bodies] at h1
 simp only [Value.cells] at h1
 rcases Deep.open_slice Tryz.underlying25 h1 with ⟨e1,_⟩|⟨a',len,cap',m',n',D,Pl,e1,_,hlc,hcm,hm,hy1,_⟩
 ·simp at e1
 ·simp at e1
  obtain ⟨rfl,rfl,rfl⟩:=e1
  rw [if_pos rfl] at hm
  subst hm
  simp only [Prod.mk.injEq] at hx
  have hd:=hx.1
  rw [hd,hy1] at hw
  have:=hw ((n+(m' - n))*48) (by
   simp only [DataW.weights,Tryz.underlying27]
   simp [DataW.weightsEach,DataW.weights,Tryz.underlying25,bytes_body])
  unfold reachBytes at this
  omega
theorem StAt.ne {W:World} {k off n cap:Nat} {b:Blk} {f:Nat→Int} (h:StAt W k off n cap b f) (hg:GOK G0 W):∀ g c,G0 g=some c→k≠g:=fun g c hc e=>by
 have h1:=hg g c hc
 obtain ⟨t,ht,hl'⟩:=G0_lies _ (G0_mem hc)
 obtain ⟨row,q,hsh,hl⟩:=h.lies
 rw [e] at hsh
 unfold World.shape? at hsh
 rw [h1] at hsh
 obtain ⟨cc,T⟩:=c
 simp only at ht
 subst ht
 simp only [Blk.obj0,Option.some.injEq,Prod.mk.injEq] at hsh
 obtain ⟨rfl,rfl⟩:=hsh
 rw [hl'] at hl
 cases hl
theorem fun_state {P:Program} {G:Hp} {fn:FuncId} {args:Array Value} {b:Blk} {v:Value} {W:World} {k:Nat} (hGF:GFlat G) (hF:Fun P G fn args (hpL G [(100,b)]) (keys [(100,b)]) (.ret v [])) (hv:flatV v=true) (hgok:GOK G W) (hfx:b.fx) (hk:W.heap[k]? = some b.obj0) (hne:∀ g c,G g=some c→k≠g) :
  CallsS P fn (args.map (ren fun q=>if q=100 then k else q)) W fun e W'=>e=.returned v∧Below W.heap.size W W':=by
 have er:rst (hpL G [(100,b)]) (keys [(100,b)])=hpL G [(100,b)]:=LOk.rst hGF
 have hobj:∀ r,b.obj r=b.obj0:=fun r=>by
  obtain ⟨c,T⟩:=b
  cases T with
  | ty t=>exact Blk.obj_flat hfx
  | raw t fr=>rfl
  | mp=>exact hfx.elim
 have hmem:∀ q c,hpL G [(100,b)] q=some c→(q=100∧c=b)∨(q<100∧G q=some c):=fun q c hq=>by
  rcases hpL_mem hq with h|h
  ·simp at h;exact .inl h
  ·exact .inr ⟨(hGF q c h).1,h⟩
 have hrun:=hF.run (fun q=>if q=100 then k else q) W hgok ?_ ?_ ?_
 ·refine hrun.mono fun e W' h=>?_
  obtain ⟨he,ht⟩:=h
  rw [flatV_ren hv] at he
  exact ⟨he,ht.os,ht.tape,ht.output,ht.size,fun q hq=>ht.same q hq (by simp)⟩
 ·rw [er]
  intro q c hq
  rcases hmem q c hq with ⟨rfl,rfl⟩|⟨hlt,hG⟩
  ·exact ⟨by simp only [if_true];rw [hobj];exact hk,Blk.fx_ids hfx _⟩
  ·refine ⟨?_,Blk.flat_ids (hGF q c hG).2⟩
   have e1:(fun q=>if q=100 then k else q) q=q:=if_neg (by omega)
   rw [e1,hgok q c hG]
   congr 1
   obtain ⟨cc,T⟩:=c
   cases T with
   | ty t=>exact (Blk.obj_flat (hGF q _ hG).2).symm
   | raw t fr=>rfl
   | mp=>exact (Blk.obj_flat (hGF q _ hG).2).symm
 ·rw [er]
  intro q q' hq hq' e
  have e:(if q=100 then k else q)=if q'=100 then k else q':=e
  unfold dom at hq hq'
  cases h1:hpL G [(100,b)] q with
  | none=>exact absurd h1 hq
  | some c =>
   cases h2:hpL G [(100,b)] q' with
   | none=>exact absurd h2 hq'
   | some c' =>
    rcases hmem q c h1 with ⟨rfl,_⟩|⟨hlt,hG⟩<;>rcases hmem q' c' h2 with ⟨rfl,_⟩|⟨hlt',hG'⟩
    ·rfl
    ·rw [if_pos rfl,if_neg (by omega)] at e;exact absurd e (hne _ _ hG')
    ·rw [if_neg (by omega),if_pos rfl] at e;exact absurd e.symm (hne _ _ hG)
    ·rw [if_neg (by omega),if_neg (by omega)] at e;exact e
 ·intro q hq _
  exact if_neg (by omega)
section
variable {H:Type} {enc:TypeId×Value→H} {w:World} {base:Nat} {spare:Nat→Bool} {held:Bool}
end
theorem raw_same {W:World} {k:Nat} {b b':Blk} (h:W.heap[k]? = some b.obj0) (h':W.heap[k]? = some b'.obj0) (r:∃ c T fr,b=⟨c,.raw T fr⟩) (r':∃ c T fr,b'=⟨c,.raw T fr⟩):b=b':=by
 obtain ⟨c,T,fr,rfl⟩:=r
 obtain ⟨c',T',fr',rfl⟩:=r'
 rw [h] at h'
 simp only [Blk.obj0,Option.some.injEq,Obj.cells.injEq] at h'
 obtain ⟨rfl,rfl,rfl⟩:=h'
 rfl
theorem fun_L {P:Program} {G:Hp} {fn:FuncId} {args:Array Value} {L:List (Nat×Blk)} {v:Value} {W:World} (r:Nat→Nat) (hGF:GFlat G) (hF:Fun P G fn args (hpL G L) (keys L) (.ret v [])) (hv:flatV v=true) (hgok:GOK G W) (hL:LOk L 200) (hfx:∀ p∈L,p.2.fx)
  (hr:∀ p∈L,W.heap[r p.1]? = some p.2.obj0) (hne:∀ p∈L,∀ g c,G g=some c→r p.1≠g) (hinj:∀ p∈L,∀ q∈L,r p.1=r q.1→p.1=q.1) (hlow:∀ q,q<100→r q=q) :
  CallsS P fn (args.map (ren r)) W fun e W'=>e=.returned v∧Below W.heap.size W W':=by
 have er:rst (hpL G L) (keys L)=hpL G L:=LOk.rst hGF
 have hobj:∀ (b:Blk),b.fx→∀ r,b.obj r=b.obj0:=fun b hb r=>by
  obtain ⟨c,T⟩:=b
  cases T with
  | ty t=>exact Blk.obj_flat hb
  | raw t fr=>rfl
  | mp=>exact hb.elim
 have hmem:∀ q c,hpL G L q=some c→(q,c)∈L∨(q<100∧G q=some c):=fun q c hq=>by
  rcases hpL_mem hq with h|h
  ·exact .inl h
  ·exact .inr ⟨(hGF q c h).1,h⟩
 have hrun:=hF.run r W hgok ?_ ?_ ?_
 ·refine hrun.mono fun e W' h=>?_
  obtain ⟨he,ht⟩:=h
  rw [flatV_ren hv] at he
  exact ⟨he,ht.os,ht.tape,ht.output,ht.size,fun q hq=>ht.same q hq (by simp)⟩
 ·rw [er]
  intro q c hq
  rcases hmem q c hq with h|⟨hlt,hG⟩
  ·exact ⟨by rw [hobj c (hfx _ h)];exact hr _ h,Blk.fx_ids (hfx _ h) _⟩
  ·refine ⟨?_,Blk.flat_ids (hGF q c hG).2⟩
   rw [hlow q hlt,hgok q c hG]
   congr 1
   obtain ⟨cc,T⟩:=c
   cases T with
   | ty t=>exact (Blk.obj_flat (hGF q _ hG).2).symm
   | raw t fr=>rfl
   | mp=>exact (Blk.obj_flat (hGF q _ hG).2).symm
 ·rw [er]
  intro q q' hq hq' e
  unfold dom at hq hq'
  cases h1:hpL G L q with
  | none=>exact absurd h1 hq
  | some c =>
   cases h2:hpL G L q' with
   | none=>exact absurd h2 hq'
   | some c' =>
    rcases hmem q c h1 with h|⟨hlt,hG⟩<;>rcases hmem q' c' h2 with h'|⟨hlt',hG'⟩
    ·exact hinj _ h _ h' e
    ·rw [hlow q' hlt'] at e;exact absurd e (hne _ h _ _ hG')
    ·rw [hlow q hlt] at e;exact absurd e.symm (hne _ h' _ _ hG)
    ·rw [hlow q hlt,hlow q' hlt'] at e;exact e
 ·intro q hq _
  exact hlow q hq
def nmL (k k2 q:Nat):Nat:=if q=100 then k else if q=108 then k2 else q
theorem nmL_low (k k2 q:Nat) (h:q<100):nmL k k2 q=q:=by
 unfold nmL
 rw [if_neg (by omega),if_neg (by omega)]
@[simp] theorem nmL_a (k k2:Nat):nmL k k2 100=k:=by simp [nmL]
@[simp] theorem nmL_b (k k2:Nat):nmL k k2 108=k2:=by simp [nmL]
theorem fun_two {P:Program} {G:Hp} {fn:FuncId} {args:Nat→Array Value} {b b2:Blk} {v:Value} {W:World} {k k2:Nat} (hGF:GFlat G) (hF:∀ L ks,LTwo G L ks b b2→Fun P G fn (args ks) (hpL G L) (keys L) (.ret v [])) (hv:flatV v=true) (hgok:GOK G W)
  (h1:b.fx) (h2:b2.fx) (w1:W.heap[k]? = some b.obj0) (w2:W.heap[k2]? = some b2.obj0) (r1:∃ c T fr,b=⟨c,.raw T fr⟩) (r2:∃ c T fr,b2=⟨c,.raw T fr⟩) (n1:∀ g c,G g=some c→k≠g) (n2:∀ g c,G g=some c→k2≠g) {args':Array Value}
  (ha:∀ ks,ks=100∧k=k2∨ks=108→(args ks).map (ren (nmL k k2))=args'):CallsS P fn args' W fun e W'=>e=.returned v∧Below W.heap.size W W':=by
 by_cases e:k=k2
 ·subst e
  obtain rfl:=raw_same w1 w2 r1 r2
  have:=fun_L (nmL k k) hGF (hF _ _ (LTwo.one h1)) hv hgok (LTwo.one (G:=G) h1).ok (LTwo.one (G:=G) h1).fx (by simp [w1]) (by simp;exact n1) (by simp) (nmL_low k k)
  rwa [ha 100 (.inl ⟨rfl,rfl⟩)] at this
 ·have:=fun_L (nmL k k2) hGF (hF _ _ (LTwo.two h1 h2)) hv hgok (LTwo.two (G:=G) h1 h2).ok (LTwo.two (G:=G) h1 h2).fx (by simp [w1,w2]) (by simp;exact ⟨n1,n2⟩) (by simp;exact ⟨fun h=>e h,fun h=>e h.symm⟩) (nmL_low k k2)
  rwa [ha 108 (.inr rfl)] at this
theorem cells_ints:Tryz.prog.cellsOf 22=1:=by kernel_rfl
theorem cells_conf:Tryz.prog.cellsOf 24=6:=by kernel_rfl
theorem ctypes_conf:Tryz.prog.cellTypes Tryz.prog.depth 24=some [22,3,3,3,3,3]:=by kernel_rfl
theorem bytes_int:Tryz.prog.bytesOf 3=8:=by kernel_rfl
theorem lies_namesI (d c o n:Nat):liesAt Tryz.prog d 104 c o 3 n=false:=by
 cases d with
 | zero=>rfl
 | succ d =>
  unfold liesAt
  rw [rowAt_names (by kernel_rfl) (by kernel_rfl),Tryz.underlying3]
  rfl
theorem lies_wideI (d c o n:Nat):liesAt Tryz.prog d 86 c o 3 n=false:=by
 cases d with
 | zero=>rfl
 | succ d =>
  unfold liesAt
  rw [rowAt_wide (by kernel_rfl) (by kernel_rfl),Tryz.underlying3]
  rfl
theorem G0_liesI:∀ p∈G0L,∃ t,p.2.T=.ty t∧∀ d c o n,liesAt Tryz.prog d t c o 3 n=false:=by
 intro p hp
 unfold G0L at hp
 rcases List.mem_cons.1 hp with rfl|hp
 ·exact ⟨_,rfl,lies_wideI⟩
 rcases List.mem_cons.1 hp with rfl|hp
 ·exact ⟨_,rfl,lies_namesI⟩
 cases hp
structure CfAt (W:World) (k off n cap:Nat) (b:Blk) (f:Nat→Int):Prop where
 le:n≤cap
 heap:W.heap[k]? = some b.obj0
 fx:b.fx
 raw:∃ c T fr,b=⟨c,.raw T fr⟩
 rd:rdI b off cap f
 i6:∀ j,j<cap→i64 (f j)
 lies:∃ row c,W.shape? k=some (row,c)∧liesAt Tryz.prog Tryz.prog.depth row (c / Tryz.prog.cellsOf row) off 3 cap=true
theorem CfAt.mb {W:World} {k off n cap:Nat} {b:Blk} {f:Nat→Int} (h:CfAt W k off n cap b f) (hn:n≤17592186044416):MB b off n f:=⟨h.rd.le h.le,h.fx,fun j hj=>h.i6 j (Nat.lt_of_lt_of_le hj h.le),hn⟩
theorem CfAt.ne {W:World} {k off n cap:Nat} {b:Blk} {f:Nat→Int} (h:CfAt W k off n cap b f) (hg:GOK G0 W):∀ g c,G0 g=some c→k≠g:=fun g c hc e=>by
 have h1:=hg g c hc
 obtain ⟨t,ht,hl'⟩:=G0_liesI _ (G0_mem hc)
 obtain ⟨row,q,hsh,hl⟩:=h.lies
 rw [e] at hsh
 unfold World.shape? at hsh
 rw [h1] at hsh
 obtain ⟨cc,T⟩:=c
 simp only at ht
 subst ht
 simp only [Blk.obj0,Option.some.injEq,Prod.mk.injEq] at hsh
 obtain ⟨rfl,rfl⟩:=hsh
 rw [hl'] at hl
 cases hl
section
variable {H:Type} {enc:TypeId×Value→H} {w:World} {held:Bool}
theorem trod_struct6 {P:Program} {base:Nat} {spare:Nat→Bool} {t:TypeId} {f0 f1 f2 f3 f4 f5:Field} {fuel:Nat} {cs:List Value} {x:DataW H×List MemPlace} (ht:P.underlying t=some (.struct #[f0,f1,f2,f3,f4,f5])) (h:DataW.trod enc P w base spare held fuel t cs=some x) :
  ∃ y0 y1 y2 y3 y4 y5 n,x.1=.agg [y0.1,y1.1,y2.1,y3.1,y4.1,y5.1]∧DataW.trod enc P w base spare held n f0.type ((cs.drop f0.offset).take (P.cellsOf f0.type))=some y0∧DataW.trod enc P w base spare held n f1.type ((cs.drop f1.offset).take (P.cellsOf f1.type))=some y1 ∧
   DataW.trod enc P w base spare held n f2.type ((cs.drop f2.offset).take (P.cellsOf f2.type))=some y2∧DataW.trod enc P w base spare held n f3.type ((cs.drop f3.offset).take (P.cellsOf f3.type))=some y3∧DataW.trod enc P w base spare held n f4.type ((cs.drop f4.offset).take (P.cellsOf f4.type))=some y4∧DataW.trod enc P w base spare held n f5.type ((cs.drop f5.offset).take (P.cellsOf f5.type))=some y5:=by
 obtain ⟨xs,n,_,hx,hl,hlen,hf⟩:=DataW.trod_struct ht h
 match xs,hlen with
 | [y0,y1,y2,y3,y4,y5],_=>exact ⟨y0,y1,y2,y3,y4,y5,n,by rw [hx];rfl,by simpa using hf 0 f0 rfl,by simpa using hf 1 f1 rfl,by simpa using hf 2 f2 rfl,by simpa using hf 3 f3 rfl,by simpa using hf 4 f4 rfl,by simpa using hf 5 f5 rfl⟩
theorem trod_conf {fuel:Nat} {cs:List Value} {x:DataW H×List MemPlace} (h:DataW.trod enc Tryz.prog w 0 (fun _=>true) held fuel 24 cs=some x) :
  ∃ y0 y1 y2 y3 y4 y5 n,x.1=.agg [y0.1,y1.1,y2.1,y3.1,y4.1,y5.1]∧DataW.trod enc Tryz.prog w 0 (fun _=>true) held n 22 ((cs.drop 0).take 1)=some y0∧DataW.trod enc Tryz.prog w 0 (fun _=>true) held n 3 ((cs.drop 1).take 1)=some y1∧DataW.trod enc Tryz.prog w 0 (fun _=>true) held n 3 ((cs.drop 2).take 1)=some y2 ∧
   DataW.trod enc Tryz.prog w 0 (fun _=>true) held n 3 ((cs.drop 3).take 1)=some y3∧DataW.trod enc Tryz.prog w 0 (fun _=>true) held n 3 ((cs.drop 4).take 1)=some y4∧DataW.trod enc Tryz.prog w 0 (fun _=>true) held n 3 ((cs.drop 5).take 1)=some y5:=by
 obtain ⟨y0,y1,y2,y3,y4,y5,n,hx,f0,f1,f2,f3,f4,f5⟩:=trod_struct6 Tryz.underlying24 h
 rw [cells_ints] at f0
 rw [celln_int] at f1 f2 f3 f4 f5
 exact ⟨y0,y1,y2,y3,y4,y5,n,hx,f0,f1,f2,f3,f4,f5⟩
theorem open_conf {r:Reach} {b0:Nat} {v:Value} {d:DataW H} {p:List MemPlace} (hv:Value.okWide Tryz.prog w r b0 24 v) (h:DataW.Trod enc Tryz.prog w 0 (fun _=>true) held 24 v d p) :
  ∃ g bx tp nr md,i64 g∧i64 bx∧i64 tp∧i64 nr∧i64 md∧(v=cfV (.slice none 0 0) g bx tp nr md∨∃ (k off n cap:Nat) (b:Blk) (f:Nat→Int),v=cfV (.slice (some ⟨k,off,none⟩) n cap) g bx tp nr md∧CfAt w k off n cap b f):=by
 simp only [Value.okWide,Tryz.underlying24] at hv
 obtain ⟨cs,rfl,hsz,ts,hts,_,hall⟩:=hv
 rw [ctypes_conf] at hts
 simp only [Option.some.injEq] at hts
 subst hts
 obtain ⟨fuel,hf⟩:=h
 obtain ⟨y0,y1,y2,y3,y4,y5,n,_,h0,h1,h2,h3,h4,h5⟩:=trod_conf hf
 simp only [Value.cells] at h0 h1 h2 h3 h4 h5
 obtain ⟨g,e1,_,w1⟩:=DataW.trod_int Tryz.underlying3 h1
 obtain ⟨bx,e2,_,w2⟩:=DataW.trod_int Tryz.underlying3 h2
 obtain ⟨tp,e3,_,w3⟩:=DataW.trod_int Tryz.underlying3 h3
 obtain ⟨nr,e4,_,w4⟩:=DataW.trod_int Tryz.underlying3 h4
 obtain ⟨md,e5,_,w5⟩:=DataW.trod_int Tryz.underlying3 h5
 rw [cells_conf] at hsz
 obtain ⟨c0,c1,c2,c3,c4,c5,rfl⟩:∃ c0 c1 c2 c3 c4 c5,cs=#[c0,c1,c2,c3,c4,c5]:=by
  obtain ⟨l⟩:=cs
  match l,hsz with
  | [c0,c1,c2,c3,c4,c5],_=>exact ⟨c0,c1,c2,c3,c4,c5,rfl⟩
 simp at e1 e2 e3 e4 e5
 subst e1 e2 e3 e4 e5
 refine ⟨g,bx,tp,nr,md,wf_i64 w1,wf_i64 w2,wf_i64 w3,wf_i64 w4,wf_i64 w5,?_⟩
 rcases open_ints Tryz.underlying22 Tryz.underlying3 celln_int h0 with ⟨e0,_⟩|⟨a,len,cap,zs,e0,_,hle,_,hzl,_,hc,hw⟩
 ·simp at e0
  subst e0
  exact .inl rfl
 ·simp at e0
  subst e0
  right
  rw [if_pos rfl] at hzl
  obtain ⟨u,hu,hok⟩:=hall 0 _ rfl
  simp at hu
  subst hu
  simp only [Cell.okWide,Cell.ok,Tryz.underlying22] at hok
  obtain ⟨_,_,_,hsp,row,cells,hsh,hlies⟩:=hok
  obtain ⟨k,off,sp⟩:=a
  simp only at hsp hsh hlies
  subst hsp
  have hsh':=hsh
  unfold World.shape? at hsh'
  split at hsh'
  ·rename_i c T fr hh
   simp only [Option.some.injEq,Prod.mk.injEq] at hsh'
   obtain ⟨rfl,rfl⟩:=hsh'
   refine ⟨k,off,len,cap,⟨c,.raw T fr⟩,fun j=>zs.getD j 0,rfl,hle,hh,trivial,⟨c,T,fr,rfl⟩,fun j hj=>?_,fun j hj=>?_,T,_,hsh,hlies⟩
   ·have h2:=hc j (by omega)
    rw [Addr.add_lit] at h2
    simpa [World.cell?,hh] using h2
   ·have hjz:j<zs.length:=by omega
    exact wf_i64 (hw _ (by simp [List.getD,List.getElem?_eq_getElem hjz]))
  ·cases hsh'
theorem cap_leC {g bx tp nr md:Int} {a:Addr} {n cap:Nat} {d:DataW H} {p:List MemPlace} (h:DataW.Trod enc Tryz.prog w 0 (fun _=>true) held 24 (cfV (.slice (some a) n cap) g bx tp nr md) d p) (hw:∀ x∈d.weights Tryz.prog 24,x≤reachBytes):cap≤17592186044416:=by
 obtain ⟨fuel,hf⟩:=h
 obtain ⟨y0,y1,y2,y3,y4,y5,m,hx,h0,_⟩:=trod_conf hf
 simp only [cfV,Value.cells] at h0
 rcases Deep.open_slice Tryz.underlying22 h0 with ⟨e1,_⟩|⟨a',len,cap',m',n',D,Pl,e1,_,hlc,hcm,hm,hy1,_⟩
 ·simp at e1
 ·simp at e1
  obtain ⟨rfl,rfl,rfl⟩:=e1
  rw [if_pos rfl] at hm
  subst hm
  rw [show d=_ from hx,hy1] at hw
  have:=hw ((n+(m' - n))*8) (by
   simp only [DataW.weights,Tryz.underlying24]
   simp [DataW.weightsEach,DataW.weights,Tryz.underlying22,bytes_int])
  unfold reachBytes at this
  omega
end
end Go.Gy
