/-
  Lemmas of this claim, in their order (GyCD, GyCE, GyCF, GyEF, GyEP, GyEQ, GyER, GyNA, GyWI, GyCG, GyLJ, GyPA, GyFC, GyFB, GyFF, GyWO, GyPV, GyU2, GyU3, GyU4, GyU5, GyU6, GyU7, GyGB).
  Conditions: those of each theorem.
-/
import Derived.Test.YtmnknnojkhkceaaGreatDoorGz04
set_option linter.unusedSimpArgs false
set_option linter.unusedVariables false
namespace Go.Gy
set_option linter.unusedSimpArgs false
set_option linter.unusedVariables false
open Go Go.RowKit Go.Proofs
set_option maxRecDepth 8000 in
set_option maxHeartbeats 16000000 in
theorem why_fun (b:Blk) (off n cap:Nat) (f:Nat→Int) (h:MB b off n f) (g bx tp nr md:Int) :
  Fun Tryz.prog G0 55 #[cfV (.slice (some ⟨100,off,none⟩) n cap) g bx tp nr md] (hpL G0 [(100,b)]) (keys [(100,b)]) (.ret (.string (whyS n f g bx tp nr md)) []):=by
 refine fun_ofL (B:=200) G0F Tryz.func55 rfl Tryz.call55 (oneL_ok h.fx) ?_ (by simp) (by simp) (by simp) (by simp [Tryz.ntmps55]) (by omega) ?_
 ·simp [idsV,idsA,idsF,ids0,keys,cfV]
 intro C hC hC0 hY
 have hr:=fun ρ=>Blk.fx_rn h.fx ρ
 unfold cfV
 repeat' (first|refine gwA ?_|(refine gwX ?_;intro Q hQ hP;simp [hC,hY];refine hQ _ _ _ _ (by kernel_rfl) ?_;clear hQ hP Q)|(refine gwC ?_ ?_<;>(intro hb;try (cases hb;done))))
 refine GW_list ?_
 simp only [Array.toList]
 refine GL_walk 1 [] rfl (by simp) (by kernel_rfl) ?_;intro q hq;simp [hC,hY];refine hq _ _ _ _ ?_;clear hq q
 simp only [wT,List.length_cons,List.length_nil,Nat.reduceAdd]
 refine GL_callW 8 (f:=.func 78) (cap:=#[]) hC (musts_at 224 (by omega) b h.fx off n cap g bx tp nr md) rfl (by simp) rfl rfl (by simp [okT]) (by simp [gev]) (by simp) (by simp [okX,junk]) (by simp [gev,cfV]) (by simp) (by (intro k hk;first|rfl|(simp (disch:=omega) only [addB,List.mem_cons,List.not_mem_nil,or_false,upd_other,hpL_cons,hpL_nil,if_neg,updL]<;>done))) (fun v ns hV k hk=>by have:=mustsR_key (musts_rr hV) k hk;omega) ?_
 intro v ns hV
 obtain ⟨l,rfl,rfl,_,hf⟩:=musts_rr hV
 refine GL_walk 1 [] rfl (by simp) (by kernel_rfl) ?_;intro q hq;simp [hC,hY,putT,updL,mNs];refine hq _ _ _ _ ?_;clear hq q
 simp only [wT,List.length_cons,List.length_nil,Nat.reduceAdd]
 refine GL_nil ?_
 have f0:findL ⟨#[98,111,100,105,101,115]⟩ l=some (.func (.func 97) #[] #[.pointer (some ⟨226,0,none⟩),.pointer (some ⟨227,0,none⟩)]):=hf (⟨#[98,111,100,105,101,115]⟩,_) (by simp [mV])
 have f1:findL ⟨#[109,97,115,115]⟩ l=some (.func (.func 99) #[] #[.pointer (some ⟨225,0,none⟩)]):=hf (⟨#[109,97,115,115]⟩,_) (by simp [mV])
 have f2:findL ⟨#[99,111,110,115,116,97,110,116]⟩ l=some (.func (.func 97) #[] #[.pointer (some ⟨228,0,none⟩),.pointer (some ⟨229,0,none⟩)]):=hf (⟨#[99,111,110,115,116,97,110,116]⟩,_) (by simp [mV])
 have f3:findL ⟨#[98,111,120]⟩ l=some (.func (.func 97) #[] #[.pointer (some ⟨230,0,none⟩),.pointer (some ⟨231,0,none⟩)]):=hf (⟨#[98,111,120]⟩,_) (by simp [mV])
 have f4:findL ⟨#[116,111,112]⟩ l=some (.func (.func 97) #[] #[.pointer (some ⟨232,0,none⟩),.pointer (some ⟨233,0,none⟩)]):=hf (⟨#[116,111,112]⟩,_) (by simp [mV])
 have f5:findL ⟨#[110,101,97,114]⟩ l=some (.func (.func 97) #[] #[.pointer (some ⟨234,0,none⟩),.pointer (some ⟨235,0,none⟩)]):=hf (⟨#[110,101,97,114]⟩,_) (by simp [mV])
 have f6:findL ⟨#[109,101,116,104,111,100]⟩ l=some (.func (.func 102) #[] #[.pointer (some ⟨225,0,none⟩)]):=hf (⟨#[109,101,116,104,111,100]⟩,_) (by simp [mV])
 cases c0:wiB n 1 4 with
 | false =>
  have e:whyS n f g bx tp nr md=⟨#[98,111,100,105,101,115]⟩:=by unfold whyS;simp only [c0,Bool.true_eq_false,if_true,if_false,reduceCtorEq]
  rw [e]
  repeat' (first|refine GWL_start ?_|refine GWL_step ?_|refine gwA ?_|((first|refine gwR [97,99,102] ?_|refine gwD [97,99,102] ?_);intro Q hQ hP;simp [hC,hY,f0,c0,cnB];(repeat ((first|(refine heapK_mv (cn1_fun n 4) G0F (B:=200) ⟨by simp,by simp [keys],by simp [jb,ids_lit,idsF,ids0]⟩ (fun k=>if k=100 then 226 else if k=108 then 227 else k) (fun k hk=>(if_neg (by omega)).trans (if_neg (by omega))) ?_ (by simp) (by simp [jb_rn]) (by simp [keys]) (by simp [keys];rfl) ?_;focus (simp [ren,renA,renF,ren0];done)));try simp [hC,hY,f0,c0,cnB]));refine hQ _ _ _ _ (by kernel_rfl) ?_;clear hQ hP Q)|(refine gwC ?_ ?_<;>(intro hb;try (cases hb;done))))
  refine ⟨.inr rfl,by simp [Tryz.results55],kpS G0F⟩
 | true =>
  cases c1:allM f n with
  | false =>
   have e:whyS n f g bx tp nr md=⟨#[109,97,115,115]⟩:=by unfold whyS;simp only [c0,c1,Bool.true_eq_false,if_true,if_false,reduceCtorEq]
   rw [e]
   repeat' (first|refine GWL_start ?_|refine GWL_step ?_|refine gwA ?_|((first|refine gwR [97,99,102] ?_|refine gwD [97,99,102] ?_);intro Q hQ hP;simp [hC,hY,f0,f1,c0,c1,cnB];(repeat ((first|(refine heapK_mv (cn1_fun n 4) G0F (B:=200) ⟨by simp,by simp [keys],by simp [jb,ids_lit,idsF,ids0]⟩ (fun k=>if k=100 then 226 else if k=108 then 227 else k) (fun k hk=>(if_neg (by omega)).trans (if_neg (by omega))) ?_ (by simp) (by simp [jb_rn]) (by simp [keys]) (by simp [keys];rfl) ?_;focus (simp [ren,renA,renF,ren0];done))|(refine heapK_mv (cm2_fun b off n cap f h g bx tp nr md) G0F (B:=200) (cmL_ok h.fx off n cap g bx tp nr md) (fun k=>if k=108 then 225 else k) (fun k hk=>if_neg (by omega)) ?_ (by simp) (by simp [cmL,hr];simp [cfB,Blk.rn,renF,ren0]) (by simp [keys,cmL]) (by simp [keys,cmL];rfl) ?_;focus (simp [ren,renA,renF,ren0];done)));try simp [hC,hY,f0,f1,c0,c1,cnB]));refine hQ _ _ _ _ (by kernel_rfl) ?_;clear hQ hP Q)|(refine gwC ?_ ?_<;>(intro hb;try (cases hb;done))))
   refine ⟨.inr rfl,by simp [Tryz.results55],kpS G0F⟩
  | true =>
   cases c2:wiB g 1 1048576 with
   | false =>
    have e:whyS n f g bx tp nr md=⟨#[99,111,110,115,116,97,110,116]⟩:=by unfold whyS;simp only [c0,c1,c2,Bool.true_eq_false,if_true,if_false,reduceCtorEq]
    rw [e]
    repeat' (first|refine GWL_start ?_|refine GWL_step ?_|refine gwA ?_|((first|refine gwR [97,99,102] ?_|refine gwD [97,99,102] ?_);intro Q hQ hP;simp [hC,hY,f0,f1,f2,c0,c1,c2,cnB];(repeat ((first|(refine heapK_mv (cn1_fun n 4) G0F (B:=200) ⟨by simp,by simp [keys],by simp [jb,ids_lit,idsF,ids0]⟩ (fun k=>if k=100 then 226 else if k=108 then 227 else k) (fun k hk=>(if_neg (by omega)).trans (if_neg (by omega))) ?_ (by simp) (by simp [jb_rn]) (by simp [keys]) (by simp [keys];rfl) ?_;focus (simp [ren,renA,renF,ren0];done))|(refine heapK_mv (cm2_fun b off n cap f h g bx tp nr md) G0F (B:=200) (cmL_ok h.fx off n cap g bx tp nr md) (fun k=>if k=108 then 225 else k) (fun k hk=>if_neg (by omega)) ?_ (by simp) (by simp [cmL,hr];simp [cfB,Blk.rn,renF,ren0]) (by simp [keys,cmL]) (by simp [keys,cmL];rfl) ?_;focus (simp [ren,renA,renF,ren0];done))|(refine heapK_mv (cn1_fun g 1048576) G0F (B:=200) ⟨by simp,by simp [keys],by simp [jb,ids_lit,idsF,ids0]⟩ (fun k=>if k=100 then 228 else if k=108 then 229 else k) (fun k hk=>(if_neg (by omega)).trans (if_neg (by omega))) ?_ (by simp) (by simp [jb_rn]) (by simp [keys]) (by simp [keys];rfl) ?_;focus (simp [ren,renA,renF,ren0];done)));try simp [hC,hY,f0,f1,f2,c0,c1,c2,cnB]));refine hQ _ _ _ _ (by kernel_rfl) ?_;clear hQ hP Q)|(refine gwC ?_ ?_<;>(intro hb;try (cases hb;done))))
    refine ⟨.inr rfl,by simp [Tryz.results55],kpS G0F⟩
   | true =>
    cases c3:wiB bx 1 1048576 with
    | false =>
     have e:whyS n f g bx tp nr md=⟨#[98,111,120]⟩:=by unfold whyS;simp only [c0,c1,c2,c3,Bool.true_eq_false,if_true,if_false,reduceCtorEq]
     rw [e]
     repeat' (first|refine GWL_start ?_|refine GWL_step ?_|refine gwA ?_|((first|refine gwR [97,99,102] ?_|refine gwD [97,99,102] ?_);intro Q hQ hP;simp [hC,hY,f0,f1,f2,f3,c0,c1,c2,c3,cnB];(repeat ((first|(refine heapK_mv (cn1_fun n 4) G0F (B:=200) ⟨by simp,by simp [keys],by simp [jb,ids_lit,idsF,ids0]⟩ (fun k=>if k=100 then 226 else if k=108 then 227 else k) (fun k hk=>(if_neg (by omega)).trans (if_neg (by omega))) ?_ (by simp) (by simp [jb_rn]) (by simp [keys]) (by simp [keys];rfl) ?_;focus (simp [ren,renA,renF,ren0];done))|(refine heapK_mv (cm2_fun b off n cap f h g bx tp nr md) G0F (B:=200) (cmL_ok h.fx off n cap g bx tp nr md) (fun k=>if k=108 then 225 else k) (fun k hk=>if_neg (by omega)) ?_ (by simp) (by simp [cmL,hr];simp [cfB,Blk.rn,renF,ren0]) (by simp [keys,cmL]) (by simp [keys,cmL];rfl) ?_;focus (simp [ren,renA,renF,ren0];done))|(refine heapK_mv (cn1_fun g 1048576) G0F (B:=200) ⟨by simp,by simp [keys],by simp [jb,ids_lit,idsF,ids0]⟩ (fun k=>if k=100 then 228 else if k=108 then 229 else k) (fun k hk=>(if_neg (by omega)).trans (if_neg (by omega))) ?_ (by simp) (by simp [jb_rn]) (by simp [keys]) (by simp [keys];rfl) ?_;focus (simp [ren,renA,renF,ren0];done))|(refine heapK_mv (cn1_fun bx 1048576) G0F (B:=200) ⟨by simp,by simp [keys],by simp [jb,ids_lit,idsF,ids0]⟩ (fun k=>if k=100 then 230 else if k=108 then 231 else k) (fun k hk=>(if_neg (by omega)).trans (if_neg (by omega))) ?_ (by simp) (by simp [jb_rn]) (by simp [keys]) (by simp [keys];rfl) ?_;focus (simp [ren,renA,renF,ren0];done)));try simp [hC,hY,f0,f1,f2,f3,c0,c1,c2,c3,cnB]));refine hQ _ _ _ _ (by kernel_rfl) ?_;clear hQ hP Q)|(refine gwC ?_ ?_<;>(intro hb;try (cases hb;done))))
     refine ⟨.inr rfl,by simp [Tryz.results55],kpS G0F⟩
    | true =>
     cases c4:wiB tp 1 65536 with
     | false =>
      have e:whyS n f g bx tp nr md=⟨#[116,111,112]⟩:=by unfold whyS;simp only [c0,c1,c2,c3,c4,Bool.true_eq_false,if_true,if_false,reduceCtorEq]
      rw [e]
      repeat' (first|refine GWL_start ?_|refine GWL_step ?_|refine gwA ?_|((first|refine gwR [97,99,102] ?_|refine gwD [97,99,102] ?_);intro Q hQ hP;simp [hC,hY,f0,f1,f2,f3,f4,c0,c1,c2,c3,c4,cnB];(repeat ((first|(refine heapK_mv (cn1_fun n 4) G0F (B:=200) ⟨by simp,by simp [keys],by simp [jb,ids_lit,idsF,ids0]⟩ (fun k=>if k=100 then 226 else if k=108 then 227 else k) (fun k hk=>(if_neg (by omega)).trans (if_neg (by omega))) ?_ (by simp) (by simp [jb_rn]) (by simp [keys]) (by simp [keys];rfl) ?_;focus (simp [ren,renA,renF,ren0];done))|(refine heapK_mv (cm2_fun b off n cap f h g bx tp nr md) G0F (B:=200) (cmL_ok h.fx off n cap g bx tp nr md) (fun k=>if k=108 then 225 else k) (fun k hk=>if_neg (by omega)) ?_ (by simp) (by simp [cmL,hr];simp [cfB,Blk.rn,renF,ren0]) (by simp [keys,cmL]) (by simp [keys,cmL];rfl) ?_;focus (simp [ren,renA,renF,ren0];done))|(refine heapK_mv (cn1_fun g 1048576) G0F (B:=200) ⟨by simp,by simp [keys],by simp [jb,ids_lit,idsF,ids0]⟩ (fun k=>if k=100 then 228 else if k=108 then 229 else k) (fun k hk=>(if_neg (by omega)).trans (if_neg (by omega))) ?_ (by simp) (by simp [jb_rn]) (by simp [keys]) (by simp [keys];rfl) ?_;focus (simp [ren,renA,renF,ren0];done))|(refine heapK_mv (cn1_fun bx 1048576) G0F (B:=200) ⟨by simp,by simp [keys],by simp [jb,ids_lit,idsF,ids0]⟩ (fun k=>if k=100 then 230 else if k=108 then 231 else k) (fun k hk=>(if_neg (by omega)).trans (if_neg (by omega))) ?_ (by simp) (by simp [jb_rn]) (by simp [keys]) (by simp [keys];rfl) ?_;focus (simp [ren,renA,renF,ren0];done))|(refine heapK_mv (cn1_fun tp 65536) G0F (B:=200) ⟨by simp,by simp [keys],by simp [jb,ids_lit,idsF,ids0]⟩ (fun k=>if k=100 then 232 else if k=108 then 233 else k) (fun k hk=>(if_neg (by omega)).trans (if_neg (by omega))) ?_ (by simp) (by simp [jb_rn]) (by simp [keys]) (by simp [keys];rfl) ?_;focus (simp [ren,renA,renF,ren0];done)));try simp [hC,hY,f0,f1,f2,f3,f4,c0,c1,c2,c3,c4,cnB]));refine hQ _ _ _ _ (by kernel_rfl) ?_;clear hQ hP Q)|(refine gwC ?_ ?_<;>(intro hb;try (cases hb;done))))
      refine ⟨.inr rfl,by simp [Tryz.results55],kpS G0F⟩
     | true =>
      cases c5:wiB nr 1 (Int.bmod (2*bx) 18446744073709551616) with
      | false =>
       have e:whyS n f g bx tp nr md=⟨#[110,101,97,114]⟩:=by unfold whyS;simp only [c0,c1,c2,c3,c4,c5,Bool.true_eq_false,if_true,if_false,reduceCtorEq]
       rw [e]
       repeat' (first|refine GWL_start ?_|refine GWL_step ?_|refine gwA ?_|((first|refine gwR [97,99,102] ?_|refine gwD [97,99,102] ?_);intro Q hQ hP;simp [hC,hY,f0,f1,f2,f3,f4,f5,c0,c1,c2,c3,c4,c5,cnB];(repeat ((first|(refine heapK_mv (cn1_fun n 4) G0F (B:=200) ⟨by simp,by simp [keys],by simp [jb,ids_lit,idsF,ids0]⟩ (fun k=>if k=100 then 226 else if k=108 then 227 else k) (fun k hk=>(if_neg (by omega)).trans (if_neg (by omega))) ?_ (by simp) (by simp [jb_rn]) (by simp [keys]) (by simp [keys];rfl) ?_;focus (simp [ren,renA,renF,ren0];done))|(refine heapK_mv (cm2_fun b off n cap f h g bx tp nr md) G0F (B:=200) (cmL_ok h.fx off n cap g bx tp nr md) (fun k=>if k=108 then 225 else k) (fun k hk=>if_neg (by omega)) ?_ (by simp) (by simp [cmL,hr];simp [cfB,Blk.rn,renF,ren0]) (by simp [keys,cmL]) (by simp [keys,cmL];rfl) ?_;focus (simp [ren,renA,renF,ren0];done))|(refine heapK_mv (cn1_fun g 1048576) G0F (B:=200) ⟨by simp,by simp [keys],by simp [jb,ids_lit,idsF,ids0]⟩ (fun k=>if k=100 then 228 else if k=108 then 229 else k) (fun k hk=>(if_neg (by omega)).trans (if_neg (by omega))) ?_ (by simp) (by simp [jb_rn]) (by simp [keys]) (by simp [keys];rfl) ?_;focus (simp [ren,renA,renF,ren0];done))|(refine heapK_mv (cn1_fun bx 1048576) G0F (B:=200) ⟨by simp,by simp [keys],by simp [jb,ids_lit,idsF,ids0]⟩ (fun k=>if k=100 then 230 else if k=108 then 231 else k) (fun k hk=>(if_neg (by omega)).trans (if_neg (by omega))) ?_ (by simp) (by simp [jb_rn]) (by simp [keys]) (by simp [keys];rfl) ?_;focus (simp [ren,renA,renF,ren0];done))|(refine heapK_mv (cn1_fun tp 65536) G0F (B:=200) ⟨by simp,by simp [keys],by simp [jb,ids_lit,idsF,ids0]⟩ (fun k=>if k=100 then 232 else if k=108 then 233 else k) (fun k hk=>(if_neg (by omega)).trans (if_neg (by omega))) ?_ (by simp) (by simp [jb_rn]) (by simp [keys]) (by simp [keys];rfl) ?_;focus (simp [ren,renA,renF,ren0];done))|(refine heapK_mv (cn1_fun nr (Int.bmod (2*bx) 18446744073709551616)) G0F (B:=200) ⟨by simp,by simp [keys],by simp [jb,ids_lit,idsF,ids0]⟩ (fun k=>if k=100 then 234 else if k=108 then 235 else k) (fun k hk=>(if_neg (by omega)).trans (if_neg (by omega))) ?_ (by simp) (by simp [jb_rn]) (by simp [keys]) (by simp [keys];rfl) ?_;focus (simp [ren,renA,renF,ren0];done)));try simp [hC,hY,f0,f1,f2,f3,f4,f5,c0,c1,c2,c3,c4,c5,cnB]));refine hQ _ _ _ _ (by kernel_rfl) ?_;clear hQ hP Q)|(refine gwC ?_ ?_<;>(intro hb;try (cases hb;done))))
       refine ⟨.inr rfl,by simp [Tryz.results55],kpS G0F⟩
      | true =>
       cases c6:wiB md 0 4 with
       | false =>
        have e:whyS n f g bx tp nr md=⟨#[109,101,116,104,111,100]⟩:=by unfold whyS;simp only [c0,c1,c2,c3,c4,c5,c6,Bool.true_eq_false,if_true,if_false,reduceCtorEq]
        rw [e]
        repeat' (first|refine GWL_start ?_|refine GWL_step ?_|refine gwA ?_|((first|refine gwR [97,99,102] ?_|refine gwD [97,99,102] ?_);intro Q hQ hP;simp [hC,hY,f0,f1,f2,f3,f4,f5,f6,c0,c1,c2,c3,c4,c5,c6,cnB];(repeat ((first|(refine heapK_mv (cn1_fun n 4) G0F (B:=200) ⟨by simp,by simp [keys],by simp [jb,ids_lit,idsF,ids0]⟩ (fun k=>if k=100 then 226 else if k=108 then 227 else k) (fun k hk=>(if_neg (by omega)).trans (if_neg (by omega))) ?_ (by simp) (by simp [jb_rn]) (by simp [keys]) (by simp [keys];rfl) ?_;focus (simp [ren,renA,renF,ren0];done))|(refine heapK_mv (cm2_fun b off n cap f h g bx tp nr md) G0F (B:=200) (cmL_ok h.fx off n cap g bx tp nr md) (fun k=>if k=108 then 225 else k) (fun k hk=>if_neg (by omega)) ?_ (by simp) (by simp [cmL,hr];simp [cfB,Blk.rn,renF,ren0]) (by simp [keys,cmL]) (by simp [keys,cmL];rfl) ?_;focus (simp [ren,renA,renF,ren0];done))|(refine heapK_mv (cn1_fun g 1048576) G0F (B:=200) ⟨by simp,by simp [keys],by simp [jb,ids_lit,idsF,ids0]⟩ (fun k=>if k=100 then 228 else if k=108 then 229 else k) (fun k hk=>(if_neg (by omega)).trans (if_neg (by omega))) ?_ (by simp) (by simp [jb_rn]) (by simp [keys]) (by simp [keys];rfl) ?_;focus (simp [ren,renA,renF,ren0];done))|(refine heapK_mv (cn1_fun bx 1048576) G0F (B:=200) ⟨by simp,by simp [keys],by simp [jb,ids_lit,idsF,ids0]⟩ (fun k=>if k=100 then 230 else if k=108 then 231 else k) (fun k hk=>(if_neg (by omega)).trans (if_neg (by omega))) ?_ (by simp) (by simp [jb_rn]) (by simp [keys]) (by simp [keys];rfl) ?_;focus (simp [ren,renA,renF,ren0];done))|(refine heapK_mv (cn1_fun tp 65536) G0F (B:=200) ⟨by simp,by simp [keys],by simp [jb,ids_lit,idsF,ids0]⟩ (fun k=>if k=100 then 232 else if k=108 then 233 else k) (fun k hk=>(if_neg (by omega)).trans (if_neg (by omega))) ?_ (by simp) (by simp [jb_rn]) (by simp [keys]) (by simp [keys];rfl) ?_;focus (simp [ren,renA,renF,ren0];done))|(refine heapK_mv (cn1_fun nr (Int.bmod (2*bx) 18446744073709551616)) G0F (B:=200) ⟨by simp,by simp [keys],by simp [jb,ids_lit,idsF,ids0]⟩ (fun k=>if k=100 then 234 else if k=108 then 235 else k) (fun k hk=>(if_neg (by omega)).trans (if_neg (by omega))) ?_ (by simp) (by simp [jb_rn]) (by simp [keys]) (by simp [keys];rfl) ?_;focus (simp [ren,renA,renF,ren0];done))|(refine heapK_mv (cm3_fun b off n cap h.fx g bx tp nr md) G0F (B:=200) (cmL_ok h.fx off n cap g bx tp nr md) (fun k=>if k=108 then 225 else k) (fun k hk=>if_neg (by omega)) ?_ (by simp) (by simp [cmL,hr];simp [cfB,Blk.rn,renF,ren0]) (by simp [keys,cmL]) (by simp [keys,cmL];rfl) ?_;focus (simp [ren,renA,renF,ren0];done)));try simp [hC,hY,f0,f1,f2,f3,f4,f5,f6,c0,c1,c2,c3,c4,c5,c6,cnB]));refine hQ _ _ _ _ (by kernel_rfl) ?_;clear hQ hP Q)|(refine gwC ?_ ?_<;>(intro hb;try (cases hb;done))))
        refine ⟨.inr rfl,by simp [Tryz.results55],kpS G0F⟩
       | true =>
        have e:whyS n f g bx tp nr md=⟨#[]⟩:=by unfold whyS;simp only [c0,c1,c2,c3,c4,c5,c6,Bool.true_eq_false,if_true,if_false,reduceCtorEq]
        rw [e]
        repeat' (first|refine GWL_start ?_|refine GWL_step ?_|refine gwA ?_|((first|refine gwR [97,99,102] ?_|refine gwD [97,99,102] ?_);intro Q hQ hP;simp [hC,hY,f0,f1,f2,f3,f4,f5,f6,c0,c1,c2,c3,c4,c5,c6,cnB];(repeat ((first|(refine heapK_mv (cn1_fun n 4) G0F (B:=200) ⟨by simp,by simp [keys],by simp [jb,ids_lit,idsF,ids0]⟩ (fun k=>if k=100 then 226 else if k=108 then 227 else k) (fun k hk=>(if_neg (by omega)).trans (if_neg (by omega))) ?_ (by simp) (by simp [jb_rn]) (by simp [keys]) (by simp [keys];rfl) ?_;focus (simp [ren,renA,renF,ren0];done))|(refine heapK_mv (cm2_fun b off n cap f h g bx tp nr md) G0F (B:=200) (cmL_ok h.fx off n cap g bx tp nr md) (fun k=>if k=108 then 225 else k) (fun k hk=>if_neg (by omega)) ?_ (by simp) (by simp [cmL,hr];simp [cfB,Blk.rn,renF,ren0]) (by simp [keys,cmL]) (by simp [keys,cmL];rfl) ?_;focus (simp [ren,renA,renF,ren0];done))|(refine heapK_mv (cn1_fun g 1048576) G0F (B:=200) ⟨by simp,by simp [keys],by simp [jb,ids_lit,idsF,ids0]⟩ (fun k=>if k=100 then 228 else if k=108 then 229 else k) (fun k hk=>(if_neg (by omega)).trans (if_neg (by omega))) ?_ (by simp) (by simp [jb_rn]) (by simp [keys]) (by simp [keys];rfl) ?_;focus (simp [ren,renA,renF,ren0];done))|(refine heapK_mv (cn1_fun bx 1048576) G0F (B:=200) ⟨by simp,by simp [keys],by simp [jb,ids_lit,idsF,ids0]⟩ (fun k=>if k=100 then 230 else if k=108 then 231 else k) (fun k hk=>(if_neg (by omega)).trans (if_neg (by omega))) ?_ (by simp) (by simp [jb_rn]) (by simp [keys]) (by simp [keys];rfl) ?_;focus (simp [ren,renA,renF,ren0];done))|(refine heapK_mv (cn1_fun tp 65536) G0F (B:=200) ⟨by simp,by simp [keys],by simp [jb,ids_lit,idsF,ids0]⟩ (fun k=>if k=100 then 232 else if k=108 then 233 else k) (fun k hk=>(if_neg (by omega)).trans (if_neg (by omega))) ?_ (by simp) (by simp [jb_rn]) (by simp [keys]) (by simp [keys];rfl) ?_;focus (simp [ren,renA,renF,ren0];done))|(refine heapK_mv (cn1_fun nr (Int.bmod (2*bx) 18446744073709551616)) G0F (B:=200) ⟨by simp,by simp [keys],by simp [jb,ids_lit,idsF,ids0]⟩ (fun k=>if k=100 then 234 else if k=108 then 235 else k) (fun k hk=>(if_neg (by omega)).trans (if_neg (by omega))) ?_ (by simp) (by simp [jb_rn]) (by simp [keys]) (by simp [keys];rfl) ?_;focus (simp [ren,renA,renF,ren0];done))|(refine heapK_mv (cm3_fun b off n cap h.fx g bx tp nr md) G0F (B:=200) (cmL_ok h.fx off n cap g bx tp nr md) (fun k=>if k=108 then 225 else k) (fun k hk=>if_neg (by omega)) ?_ (by simp) (by simp [cmL,hr];simp [cfB,Blk.rn,renF,ren0]) (by simp [keys,cmL]) (by simp [keys,cmL];rfl) ?_;focus (simp [ren,renA,renF,ren0];done)));try simp [hC,hY,f0,f1,f2,f3,f4,f5,f6,c0,c1,c2,c3,c4,c5,c6,cnB]));refine hQ _ _ _ _ (by kernel_rfl) ?_;clear hQ hP Q)|(refine gwC ?_ ?_<;>(intro hb;try (cases hb;done))))
        refine ⟨.inr rfl,by simp [Tryz.results55],kpS G0F⟩
def cfOk (n:Nat) (f:Nat→Int) (g bx tp nr md:Int):Bool:=wiB n 1 4&&(allM f n&&(wiB g 1 1048576&&(wiB bx 1 1048576&&(wiB tp 1 65536&&(wiB nr 1 (Int.bmod (2*bx) 18446744073709551616)&&(wiB md 0 4))))))
set_option maxRecDepth 8000 in
set_option maxHeartbeats 8000000 in
theorem musts0_fun (b:Blk) (hb:b.fx) (g bx tp nr md:Int) :
  FunS Tryz.prog G0 78 #[cfV (.slice none 0 0) g bx tp nr md] (hpL G0 [(100,b)]) (keys [(100,b)]) (MustsR 1000 (.slice none 0 0) 0 g bx tp nr md):=by
 refine newS_ofL (B:=200) G0F Tryz.func78 rfl Tryz.call78 (oneL_ok hb) ?_ ?_ (by simp [Tryz.ntmps78]) (by omega) ?_
 ·simp [idsV,idsA,idsF,ids0,keys,cfV]
 ·rintro v ns ⟨l,rfl,rfl,hl,_⟩
  have hl2:∀ D:Nat→Prop,(∀ k,1000≤k→k<1012→D k)→(mpB l).ids D:=fun D hD=>mpB_ids.2 fun p hp=>by
   have:=hl p hp
   simp only [mV,List.mem_cons,List.not_mem_nil,or_false] at this
   rcases this with rfl|rfl|rfl|rfl|rfl|rfl|rfl<;>simp [idsF,ids0,hD]
  refine ⟨by simp [idsV,idsA,idsF,ids0,extD,keys,mNs],?_,?_⟩
  ·intro p hp
   simp only [mNs,List.mem_cons,List.not_mem_nil,or_false] at hp
   have hD:∀ k,1000≤k→k<1012→extD (fun k=>k∈keys [(100,b)]) (mNs 1000 l (.slice none 0 0) 0 g bx tp nr md) k:=fun k hk1 hk2=>.inr (by
    simp only [mNs,keys,List.map_cons,List.map_nil,List.mem_cons,List.not_mem_nil,or_false]
    omega)
   rcases hp with rfl|rfl|rfl|rfl|rfl|rfl|rfl|rfl|rfl|rfl|rfl|rfl
   ·exact ⟨by omega,hl2 _ hD⟩
   ·exact ⟨by omega,by simp [cfB,ids_lit,idsF,ids0,extD,keys]⟩
   all_goals exact ⟨by omega,by simp [jb,ids_lit,idsF,ids0]⟩
  ·intro k b c h1 h2
   simp only [mNs,List.mem_cons,List.not_mem_nil,or_false,Prod.mk.injEq] at h1 h2
   rcases h1 with ⟨e1,rfl⟩|⟨e1,rfl⟩|⟨e1,rfl⟩|⟨e1,rfl⟩|⟨e1,rfl⟩|⟨e1,rfl⟩|⟨e1,rfl⟩|⟨e1,rfl⟩|⟨e1,rfl⟩|⟨e1,rfl⟩|⟨e1,rfl⟩|⟨e1,rfl⟩<;>rcases h2 with ⟨e2,rfl⟩|⟨e2,rfl⟩|⟨e2,rfl⟩|⟨e2,rfl⟩|⟨e2,rfl⟩|⟨e2,rfl⟩|⟨e2,rfl⟩|⟨e2,rfl⟩|⟨e2,rfl⟩|⟨e2,rfl⟩|⟨e2,rfl⟩|⟨e2,rfl⟩<;>first|rfl|omega
 intro C hC hC0 hY
 unfold cfV
 repeat' (first|refine gwA ?_|(refine gwX ?_;intro Q hQ hP;simp [hC,hY];refine hQ _ _ _ _ (by kernel_rfl) ?_;clear hQ hP Q)|(refine gwC ?_ ?_<;>(intro hb;try (cases hb;done))))
 refine GW_any follows ?_
 simp only [Array.toList,List.length_cons,List.length_nil,Nat.reduceAdd]
 obtain ⟨sl,hsl⟩:∃ sl,Value.slice none 0 0=sl:=⟨_,rfl⟩
 refine GA_ind (MI b sl 0 g bx tp nr md) (fun listed ts hp hs hr hI=>?_) (fun fuel listed ts hp i hs hi hdep h hk=>?_) _ _ _ _ (by simp) (by decide +kernel) ?_
 ·have hall:=ready_nil hs (by kernel_rfl) hr
  have hall:∀ i,i<36→listed[i]? = some true:=fun i hi=>hall i (by simpa using hi)
  obtain ⟨l,l1,l2,l3⟩:=hI.mp (hall 0 (by omega))
  have h2:=hI.tm (35,2,.map (some 224)) (by simp [mT]) (hall 35 (by omega))
  have hinv:∀ q∈mI,renF mR (renF mS q.2.2)=q.2.2:=by simp [mI,renF,ren0,mR,mS]
  have hcan:∀ q∈mI,(q.2.1,renF mS q.2.2)∈mV 1000:=by simp [mI,mV,renF,ren0,mS]
  have hfind:∀ q∈mV 1000,∃ p∈mI,p.2.1=q.1∧renF mS p.2.2=q.2∧p.1<36:=by
   intro q hq
   simp only [mV,List.mem_cons,List.not_mem_nil,or_false] at hq
   rcases hq with rfl|rfl|rfl|rfl|rfl|rfl|rfl
   ·exact ⟨(6,⟨#[98,111,100,105,101,115]⟩,.func (.func 97) #[] #[.pointer (some ⟨264,0,none⟩),.pointer (some ⟨265,0,none⟩)]),by simp [mI],rfl,by simp [renF,ren0,mS],by omega⟩
   ·exact ⟨(8,⟨#[109,97,115,115]⟩,.func (.func 99) #[] #[.pointer (some ⟨200,0,none⟩)]),by simp [mI],rfl,by simp [renF,ren0,mS],by omega⟩
   ·exact ⟨(13,⟨#[99,111,110,115,116,97,110,116]⟩,.func (.func 97) #[] #[.pointer (some ⟨320,0,none⟩),.pointer (some ⟨321,0,none⟩)]),by simp [mI],rfl,by simp [renF,ren0,mS],by omega⟩
   ·exact ⟨(18,⟨#[98,111,120]⟩,.func (.func 97) #[] #[.pointer (some ⟨360,0,none⟩),.pointer (some ⟨361,0,none⟩)]),by simp [mI],rfl,by simp [renF,ren0,mS],by omega⟩
   ·exact ⟨(23,⟨#[116,111,112]⟩,.func (.func 97) #[] #[.pointer (some ⟨400,0,none⟩),.pointer (some ⟨401,0,none⟩)]),by simp [mI],rfl,by simp [renF,ren0,mS],by omega⟩
   ·exact ⟨(31,⟨#[110,101,97,114]⟩,.func (.func 97) #[] #[.pointer (some ⟨464,0,none⟩),.pointer (some ⟨465,0,none⟩)]),by simp [mI],rfl,by simp [renF,ren0,mS],by omega⟩
   ·exact ⟨(33,⟨#[109,101,116,104,111,100]⟩,.func (.func 102) #[] #[.pointer (some ⟨200,0,none⟩)]),by simp [mI],rfl,by simp [renF,ren0,mS],by omega⟩
  simp only [thenG_normal]
  refine GW_ret ?_
  refine ⟨.inr rfl,keep_of G0F (by simp [hI.b]) (fun k hk=>(hI.low k hk).trans (hpL_low (by simp) hk).symm),_,_,mR,⟨l.map fun p=>(p.1,renF mS p.2),rfl,rfl,fun p hp=>?_,fun q hq=>?_⟩,fun k hk=>?_,?_,?_,?_,?_⟩
  ·obtain ⟨p0,hp0,rfl⟩:=List.mem_map.1 hp
   obtain ⟨q,hq,rfl,_⟩:=l2 p0 hp0
   exact hcan q hq
  ·obtain ⟨p,hp,e1,e2,hlt⟩:=hfind q hq
   rw [findL_map,←e1,l3 p hp (hall _ hlt),←e2]
   rfl
  ·unfold mR
   iterate 12 rw [if_neg (by omega)]
  ·simp [mNs,mR]
  ·simp [mNs,mR]
  ·simp [Tryz.results78,h2,ren,renA,renF,ren0,mR]
   rfl
  ·subst hsl
   have hbx:=hI.bx
   have hm:(mpB (l.map fun p=>(p.1,renF mS p.2))).rn mR=mpB l:=by
    rw [mpB_rn,List.map_map]
    congr 1
    conv=>rhs;rw [←List.map_id l]
    refine List.map_congr_left fun p hp=>?_
    obtain ⟨q,hq,rfl,_⟩:=l2 p hp
    simp only [Function.comp_def,id]
    rw [hinv q hq]
   intro p hp
   simp only [mNs,List.mem_cons,List.not_mem_nil,or_false] at hp
   rcases hp with rfl|rfl|rfl|rfl|rfl|rfl|rfl|rfl|rfl|rfl|rfl|rfl
   ·show hp (mR 1000)=some ((mpB _).rn mR)
    rw [hm]
    exact l1
   ·show hp 200=some ((cfB _ g bx tp nr md).rn mR)
    rw [hI.c]
    simp [cfB,Blk.rn,renF,ren0,mR]
   ·show hp 264=some ((jb ((0:Nat):Int)).rn mR)
    rw [jb_rn]
    exact hbx (5,264,jb ((0:Nat):Int)) (by simp [mX]) (hall 5 (by omega))
   ·show hp 265=some ((jb 4).rn mR)
    rw [jb_rn]
    exact hbx (5,265,jb 4) (by simp [mX]) (hall 5 (by omega))
   ·show hp 320=some ((jb g).rn mR)
    rw [jb_rn]
    exact hbx (12,320,jb g) (by simp [mX]) (hall 12 (by omega))
   ·show hp 321=some ((jb 1048576).rn mR)
    rw [jb_rn]
    exact hbx (12,321,jb 1048576) (by simp [mX]) (hall 12 (by omega))
   ·show hp 360=some ((jb bx).rn mR)
    rw [jb_rn]
    exact hbx (17,360,jb bx) (by simp [mX]) (hall 17 (by omega))
   ·show hp 361=some ((jb 1048576).rn mR)
    rw [jb_rn]
    exact hbx (17,361,jb 1048576) (by simp [mX]) (hall 17 (by omega))
   ·show hp 400=some ((jb tp).rn mR)
    rw [jb_rn]
    exact hbx (22,400,jb tp) (by simp [mX]) (hall 22 (by omega))
   ·show hp 401=some ((jb 65536).rn mR)
    rw [jb_rn]
    exact hbx (22,401,jb 65536) (by simp [mX]) (hall 22 (by omega))
   ·show hp 464=some ((jb nr).rn mR)
    rw [jb_rn]
    exact hbx (30,464,jb nr) (by simp [mX]) (hall 30 (by omega))
   ·show hp 465=some ((jb (Int.bmod (2*bx) 18446744073709551616)).rn mR)
    rw [jb_rn]
    exact hbx (30,465,jb (Int.bmod (2*bx) 18446744073709551616)) (by simp [mX]) (hall 30 (by omega))
 ·have hlt:i<36:=by
   have:=(Array.getElem?_eq_some_iff.1 hi).1
   rw [hs] at this
   simpa using this
  subst hsl
  obtain rfl|rfl|rfl|rfl|rfl|rfl|rfl|rfl|rfl|rfl|rfl|rfl|rfl|rfl|rfl|rfl|rfl|rfl|rfl|rfl|rfl|rfl|rfl|rfl|rfl|rfl|rfl|rfl|rfl|rfl|rfl|rfl|rfl|rfl|rfl|rfl:i=0∨i=1∨i=2∨i=3∨i=4∨i=5∨i=6∨i=7∨i=8∨i=9∨i=10∨i=11∨i=12∨i=13∨i=14∨i=15∨i=16∨i=17∨i=18∨i=19∨i=20∨i=21∨i=22∨i=23∨i=24∨i=25∨i=26∨i=27∨i=28∨i=29∨i=30∨i=31∨i=32∨i=33∨i=34∨i=35:=by omega
  ·-- 0 map
   have f0:=h.t1
   have f1:=h.t3
   refine GO_walk [] rfl (by kernel_rfl) (by first|assumption|simp) ?_;intro q hq;simp [hC,hY,f0,f1];refine hq _ _ _ _ ?_;clear hq q
   exact hk _ _ (h.mkm hi)
  ·-- 1 mv
   have f0:=h.t1
   have f1:=h.t3
   refine GO_walk [] rfl (by kernel_rfl) (by first|assumption|simp) ?_;intro q hq;simp [hC,hY,f0,f1];refine hq _ _ _ _ ?_;clear hq q
   exact hk _ _ (h.tmp (i:=1) (t:=5) (by simp [mT]) (by simp [mX]) (by omega))
  ·-- 2 fa
   have f0:=h.t1
   have f1:=h.t3
   refine GO_walk [] rfl (by kernel_rfl) (by first|assumption|simp) ?_;intro q hq;simp [hC,hY,f0,f1];refine hq _ _ _ _ ?_;clear hq q
   exact hk _ _ (h.tmp (i:=2) (t:=6) (by simp [mT]) (by simp [mX]) (by omega))
  ·-- 3 ld
   have hd:∀ j∈[2],listed[j]? = some true:=by
    have hd0:=hdep _ rfl
    simp [Region.binds] at hd0
    simp [hd0]
   have f0:=h.t1
   have f1:=h.t3
   have f2:=h.tm (2,6,.pointer (some ⟨200,0,none⟩)) (by simp [mT]) (hd 2 (by simp))
   have fc:=h.c
   unfold cfB at fc
   refine GO_walk [] rfl (by kernel_rfl) (by first|assumption|simp) ?_;intro q hq;simp [hC,hY,f0,f1,f2,fc];refine hq _ _ _ _ ?_;clear hq q
   exact hk _ _ (h.tmp (i:=3) (t:=7) (by simp [mT]) (by simp [mX]) (by omega))
  ·-- 4 len
   have hd:∀ j∈[3],listed[j]? = some true:=by
    have hd0:=hdep _ rfl
    simp [Region.binds] at hd0
    simp [hd0]
   have f0:=h.t1
   have f1:=h.t3
   have f2:=h.tm (3,7,.slice none 0 0) (by simp [mT]) (hd 3 (by simp))
   refine GO_walk [] rfl (by kernel_rfl) (by first|assumption|simp) ?_;intro q hq;simp [hC,hY,f0,f1,f2];refine hq _ _ _ _ ?_;clear hq q
   exact hk _ _ (h.tmp (i:=4) (t:=8) (by simp [mT]) (by simp [mX]) (by omega))
  ·-- 5 call
   have hd:∀ j∈[1,4],listed[j]? = some true:=by
    have hd0:=hdep _ rfl
    simp [Region.binds] at hd0
    simp [hd0]
   have f0:=h.t1
   have f1:=h.t3
   have f2:=h.tm (1,5,.func (.func 96) #[] #[]) (by simp [mT]) (hd 1 (by simp))
   have f3:=h.tm (4,8,.int .i64 ((0:Nat):Int)) (by simp [mT]) (hd 4 (by simp))
   refine GO_callL (f:=.tmp 5) (cap:=#[]) hC (num_at 264 (by omega) ((0:Nat):Int) 4) rfl hi rfl (by simp [Tryz.ntmps78]) rfl rfl (by simp [okT,f0,f1,f2,f3]) (by simp [gev,f0,f1,f2,f3]) (by simp) (by simp [okX,junk,f0,f1,f2,f3]) (by simp [gev,f0,f1,f2,f3]) (by simp) (fun q hq=>(h.low q hq).symm▸(by simp)) ?_ ?_
   ·intro v ns hV k hk
    have:=numR_key hV k hk
    omega
   rintro v ns ⟨rfl,rfl⟩
   exact hk _ _ (h.call (i:=5) (t:=9) (by simp [mT]) (by omega) (by omega) (by simp [mX]))
  ·-- 6 ins
   have hd:∀ j∈[0,5],listed[j]? = some true:=by
    have hd0:=hdep _ rfl
    simp [Region.binds] at hd0
    simp [hd0]
   have f0:=h.t1
   have f1:=h.t3
   have f2:=h.tm (0,4,.map (some 224)) (by simp [mT]) (hd 0 (by simp))
   have f3:=h.tm (5,9,.func (.func 97) #[] #[.pointer (some ⟨264,0,none⟩),.pointer (some ⟨265,0,none⟩)]) (by simp [mT]) (hd 5 (by simp))
   obtain ⟨l,l1,l2,l3⟩:=h.mp (hd 0 (by simp))
   have hm:(6,⟨#[98,111,100,105,101,115]⟩,.func (.func 97) #[] #[.pointer (some ⟨264,0,none⟩),.pointer (some ⟨265,0,none⟩)])∈mI:=by simp [mI]
   have hn:=h.fresh hm hi l2
   refine GO_walk [] rfl (by kernel_rfl) (by first|assumption|simp) ?_;intro q hq;simp [hC,hY,f0,f1,f2,f3,l1,hn];refine hq _ _ _ _ ?_;clear hq q
   exact hk _ _ (h.ins hm (Array.getElem?_eq_some_iff.1 hi).1 l2 l3 hn (hd 0 (by simp)))
  ·-- 7 mk
   have f0:=h.t1
   have f1:=h.t3
   refine GO_walk [] rfl (by kernel_rfl) (by first|assumption|simp) ?_;intro q hq;simp [hC,hY,f0,f1];refine hq _ _ _ _ ?_;clear hq q
   exact hk _ _ (h.tmp (i:=7) (t:=10) (by simp [mT]) (by simp [mX]) (by omega))
  ·-- 8 ins
   have hd:∀ j∈[0,7],listed[j]? = some true:=by
    have hd0:=hdep _ rfl
    simp [Region.binds] at hd0
    simp [hd0]
   have f0:=h.t1
   have f1:=h.t3
   have f2:=h.tm (0,4,.map (some 224)) (by simp [mT]) (hd 0 (by simp))
   have f3:=h.tm (7,10,.func (.func 99) #[] #[.pointer (some ⟨200,0,none⟩)]) (by simp [mT]) (hd 7 (by simp))
   obtain ⟨l,l1,l2,l3⟩:=h.mp (hd 0 (by simp))
   have hm:(8,⟨#[109,97,115,115]⟩,.func (.func 99) #[] #[.pointer (some ⟨200,0,none⟩)])∈mI:=by simp [mI]
   have hn:=h.fresh hm hi l2
   refine GO_walk [] rfl (by kernel_rfl) (by first|assumption|simp) ?_;intro q hq;simp [hC,hY,f0,f1,f2,f3,l1,hn];refine hq _ _ _ _ ?_;clear hq q
   exact hk _ _ (h.ins hm (Array.getElem?_eq_some_iff.1 hi).1 l2 l3 hn (hd 0 (by simp)))
  ·-- 9 mv
   have f0:=h.t1
   have f1:=h.t3
   refine GO_walk [] rfl (by kernel_rfl) (by first|assumption|simp) ?_;intro q hq;simp [hC,hY,f0,f1];refine hq _ _ _ _ ?_;clear hq q
   exact hk _ _ (h.tmp (i:=9) (t:=11) (by simp [mT]) (by simp [mX]) (by omega))
  ·-- 10 fa
   have f0:=h.t1
   have f1:=h.t3
   refine GO_walk [] rfl (by kernel_rfl) (by first|assumption|simp) ?_;intro q hq;simp [hC,hY,f0,f1];refine hq _ _ _ _ ?_;clear hq q
   exact hk _ _ (h.tmp (i:=10) (t:=12) (by simp [mT]) (by simp [mX]) (by omega))
  ·-- 11 ld
   have hd:∀ j∈[10],listed[j]? = some true:=by
    have hd0:=hdep _ rfl
    simp [Region.binds] at hd0
    simp [hd0]
   have f0:=h.t1
   have f1:=h.t3
   have f2:=h.tm (10,12,.pointer (some ⟨200,1,none⟩)) (by simp [mT]) (hd 10 (by simp))
   have fc:=h.c
   unfold cfB at fc
   refine GO_walk [] rfl (by kernel_rfl) (by first|assumption|simp) ?_;intro q hq;simp [hC,hY,f0,f1,f2,fc];refine hq _ _ _ _ ?_;clear hq q
   exact hk _ _ (h.tmp (i:=11) (t:=13) (by simp [mT]) (by simp [mX]) (by omega))
  ·-- 12 call
   have hd:∀ j∈[9,11],listed[j]? = some true:=by
    have hd0:=hdep _ rfl
    simp [Region.binds] at hd0
    simp [hd0]
   have f0:=h.t1
   have f1:=h.t3
   have f2:=h.tm (9,11,.func (.func 96) #[] #[]) (by simp [mT]) (hd 9 (by simp))
   have f3:=h.tm (11,13,.int .i64 g) (by simp [mT]) (hd 11 (by simp))
   refine GO_callL (f:=.tmp 11) (cap:=#[]) hC (num_at 320 (by omega) g 1048576) rfl hi rfl (by simp [Tryz.ntmps78]) rfl rfl (by simp [okT,f0,f1,f2,f3]) (by simp [gev,f0,f1,f2,f3]) (by simp) (by simp [okX,junk,f0,f1,f2,f3]) (by simp [gev,f0,f1,f2,f3]) (by simp) (fun q hq=>(h.low q hq).symm▸(by simp)) ?_ ?_
   ·intro v ns hV k hk
    have:=numR_key hV k hk
    omega
   rintro v ns ⟨rfl,rfl⟩
   exact hk _ _ (h.call (i:=12) (t:=14) (by simp [mT]) (by omega) (by omega) (by simp [mX]))
  ·-- 13 ins
   have hd:∀ j∈[0,12],listed[j]? = some true:=by
    have hd0:=hdep _ rfl
    simp [Region.binds] at hd0
    simp [hd0]
   have f0:=h.t1
   have f1:=h.t3
   have f2:=h.tm (0,4,.map (some 224)) (by simp [mT]) (hd 0 (by simp))
   have f3:=h.tm (12,14,.func (.func 97) #[] #[.pointer (some ⟨320,0,none⟩),.pointer (some ⟨321,0,none⟩)]) (by simp [mT]) (hd 12 (by simp))
   obtain ⟨l,l1,l2,l3⟩:=h.mp (hd 0 (by simp))
   have hm:(13,⟨#[99,111,110,115,116,97,110,116]⟩,.func (.func 97) #[] #[.pointer (some ⟨320,0,none⟩),.pointer (some ⟨321,0,none⟩)])∈mI:=by simp [mI]
   have hn:=h.fresh hm hi l2
   refine GO_walk [] rfl (by kernel_rfl) (by first|assumption|simp) ?_;intro q hq;simp [hC,hY,f0,f1,f2,f3,l1,hn];refine hq _ _ _ _ ?_;clear hq q
   exact hk _ _ (h.ins hm (Array.getElem?_eq_some_iff.1 hi).1 l2 l3 hn (hd 0 (by simp)))
  ·-- 14 mv
   have f0:=h.t1
   have f1:=h.t3
   refine GO_walk [] rfl (by kernel_rfl) (by first|assumption|simp) ?_;intro q hq;simp [hC,hY,f0,f1];refine hq _ _ _ _ ?_;clear hq q
   exact hk _ _ (h.tmp (i:=14) (t:=15) (by simp [mT]) (by simp [mX]) (by omega))
  ·-- 15 fa
   have f0:=h.t1
   have f1:=h.t3
   refine GO_walk [] rfl (by kernel_rfl) (by first|assumption|simp) ?_;intro q hq;simp [hC,hY,f0,f1];refine hq _ _ _ _ ?_;clear hq q
   exact hk _ _ (h.tmp (i:=15) (t:=16) (by simp [mT]) (by simp [mX]) (by omega))
  ·-- 16 ld
   have hd:∀ j∈[15],listed[j]? = some true:=by
    have hd0:=hdep _ rfl
    simp [Region.binds] at hd0
    simp [hd0]
   have f0:=h.t1
   have f1:=h.t3
   have f2:=h.tm (15,16,.pointer (some ⟨200,2,none⟩)) (by simp [mT]) (hd 15 (by simp))
   have fc:=h.c
   unfold cfB at fc
   refine GO_walk [] rfl (by kernel_rfl) (by first|assumption|simp) ?_;intro q hq;simp [hC,hY,f0,f1,f2,fc];refine hq _ _ _ _ ?_;clear hq q
   exact hk _ _ (h.tmp (i:=16) (t:=17) (by simp [mT]) (by simp [mX]) (by omega))
  ·-- 17 call
   have hd:∀ j∈[14,16],listed[j]? = some true:=by
    have hd0:=hdep _ rfl
    simp [Region.binds] at hd0
    simp [hd0]
   have f0:=h.t1
   have f1:=h.t3
   have f2:=h.tm (14,15,.func (.func 96) #[] #[]) (by simp [mT]) (hd 14 (by simp))
   have f3:=h.tm (16,17,.int .i64 bx) (by simp [mT]) (hd 16 (by simp))
   refine GO_callL (f:=.tmp 15) (cap:=#[]) hC (num_at 360 (by omega) bx 1048576) rfl hi rfl (by simp [Tryz.ntmps78]) rfl rfl (by simp [okT,f0,f1,f2,f3]) (by simp [gev,f0,f1,f2,f3]) (by simp) (by simp [okX,junk,f0,f1,f2,f3]) (by simp [gev,f0,f1,f2,f3]) (by simp) (fun q hq=>(h.low q hq).symm▸(by simp)) ?_ ?_
   ·intro v ns hV k hk
    have:=numR_key hV k hk
    omega
   rintro v ns ⟨rfl,rfl⟩
   exact hk _ _ (h.call (i:=17) (t:=18) (by simp [mT]) (by omega) (by omega) (by simp [mX]))
  ·-- 18 ins
   have hd:∀ j∈[0,17],listed[j]? = some true:=by
    have hd0:=hdep _ rfl
    simp [Region.binds] at hd0
    simp [hd0]
   have f0:=h.t1
   have f1:=h.t3
   have f2:=h.tm (0,4,.map (some 224)) (by simp [mT]) (hd 0 (by simp))
   have f3:=h.tm (17,18,.func (.func 97) #[] #[.pointer (some ⟨360,0,none⟩),.pointer (some ⟨361,0,none⟩)]) (by simp [mT]) (hd 17 (by simp))
   obtain ⟨l,l1,l2,l3⟩:=h.mp (hd 0 (by simp))
   have hm:(18,⟨#[98,111,120]⟩,.func (.func 97) #[] #[.pointer (some ⟨360,0,none⟩),.pointer (some ⟨361,0,none⟩)])∈mI:=by simp [mI]
   have hn:=h.fresh hm hi l2
   refine GO_walk [] rfl (by kernel_rfl) (by first|assumption|simp) ?_;intro q hq;simp [hC,hY,f0,f1,f2,f3,l1,hn];refine hq _ _ _ _ ?_;clear hq q
   exact hk _ _ (h.ins hm (Array.getElem?_eq_some_iff.1 hi).1 l2 l3 hn (hd 0 (by simp)))
  ·-- 19 mv
   have f0:=h.t1
   have f1:=h.t3
   refine GO_walk [] rfl (by kernel_rfl) (by first|assumption|simp) ?_;intro q hq;simp [hC,hY,f0,f1];refine hq _ _ _ _ ?_;clear hq q
   exact hk _ _ (h.tmp (i:=19) (t:=19) (by simp [mT]) (by simp [mX]) (by omega))
  ·-- 20 fa
   have f0:=h.t1
   have f1:=h.t3
   refine GO_walk [] rfl (by kernel_rfl) (by first|assumption|simp) ?_;intro q hq;simp [hC,hY,f0,f1];refine hq _ _ _ _ ?_;clear hq q
   exact hk _ _ (h.tmp (i:=20) (t:=20) (by simp [mT]) (by simp [mX]) (by omega))
  ·-- 21 ld
   have hd:∀ j∈[20],listed[j]? = some true:=by
    have hd0:=hdep _ rfl
    simp [Region.binds] at hd0
    simp [hd0]
   have f0:=h.t1
   have f1:=h.t3
   have f2:=h.tm (20,20,.pointer (some ⟨200,3,none⟩)) (by simp [mT]) (hd 20 (by simp))
   have fc:=h.c
   unfold cfB at fc
   refine GO_walk [] rfl (by kernel_rfl) (by first|assumption|simp) ?_;intro q hq;simp [hC,hY,f0,f1,f2,fc];refine hq _ _ _ _ ?_;clear hq q
   exact hk _ _ (h.tmp (i:=21) (t:=21) (by simp [mT]) (by simp [mX]) (by omega))
  ·-- 22 call
   have hd:∀ j∈[19,21],listed[j]? = some true:=by
    have hd0:=hdep _ rfl
    simp [Region.binds] at hd0
    simp [hd0]
   have f0:=h.t1
   have f1:=h.t3
   have f2:=h.tm (19,19,.func (.func 96) #[] #[]) (by simp [mT]) (hd 19 (by simp))
   have f3:=h.tm (21,21,.int .i64 tp) (by simp [mT]) (hd 21 (by simp))
   refine GO_callL (f:=.tmp 19) (cap:=#[]) hC (num_at 400 (by omega) tp 65536) rfl hi rfl (by simp [Tryz.ntmps78]) rfl rfl (by simp [okT,f0,f1,f2,f3]) (by simp [gev,f0,f1,f2,f3]) (by simp) (by simp [okX,junk,f0,f1,f2,f3]) (by simp [gev,f0,f1,f2,f3]) (by simp) (fun q hq=>(h.low q hq).symm▸(by simp)) ?_ ?_
   ·intro v ns hV k hk
    have:=numR_key hV k hk
    omega
   rintro v ns ⟨rfl,rfl⟩
   exact hk _ _ (h.call (i:=22) (t:=22) (by simp [mT]) (by omega) (by omega) (by simp [mX]))
  ·-- 23 ins
   have hd:∀ j∈[0,22],listed[j]? = some true:=by
    have hd0:=hdep _ rfl
    simp [Region.binds] at hd0
    simp [hd0]
   have f0:=h.t1
   have f1:=h.t3
   have f2:=h.tm (0,4,.map (some 224)) (by simp [mT]) (hd 0 (by simp))
   have f3:=h.tm (22,22,.func (.func 97) #[] #[.pointer (some ⟨400,0,none⟩),.pointer (some ⟨401,0,none⟩)]) (by simp [mT]) (hd 22 (by simp))
   obtain ⟨l,l1,l2,l3⟩:=h.mp (hd 0 (by simp))
   have hm:(23,⟨#[116,111,112]⟩,.func (.func 97) #[] #[.pointer (some ⟨400,0,none⟩),.pointer (some ⟨401,0,none⟩)])∈mI:=by simp [mI]
   have hn:=h.fresh hm hi l2
   refine GO_walk [] rfl (by kernel_rfl) (by first|assumption|simp) ?_;intro q hq;simp [hC,hY,f0,f1,f2,f3,l1,hn];refine hq _ _ _ _ ?_;clear hq q
   exact hk _ _ (h.ins hm (Array.getElem?_eq_some_iff.1 hi).1 l2 l3 hn (hd 0 (by simp)))
  ·-- 24 mv
   have f0:=h.t1
   have f1:=h.t3
   refine GO_walk [] rfl (by kernel_rfl) (by first|assumption|simp) ?_;intro q hq;simp [hC,hY,f0,f1];refine hq _ _ _ _ ?_;clear hq q
   exact hk _ _ (h.tmp (i:=24) (t:=23) (by simp [mT]) (by simp [mX]) (by omega))
  ·-- 25 fa
   have f0:=h.t1
   have f1:=h.t3
   refine GO_walk [] rfl (by kernel_rfl) (by first|assumption|simp) ?_;intro q hq;simp [hC,hY,f0,f1];refine hq _ _ _ _ ?_;clear hq q
   exact hk _ _ (h.tmp (i:=25) (t:=24) (by simp [mT]) (by simp [mX]) (by omega))
  ·-- 26 ld
   have hd:∀ j∈[25],listed[j]? = some true:=by
    have hd0:=hdep _ rfl
    simp [Region.binds] at hd0
    simp [hd0]
   have f0:=h.t1
   have f1:=h.t3
   have f2:=h.tm (25,24,.pointer (some ⟨200,4,none⟩)) (by simp [mT]) (hd 25 (by simp))
   have fc:=h.c
   unfold cfB at fc
   refine GO_walk [] rfl (by kernel_rfl) (by first|assumption|simp) ?_;intro q hq;simp [hC,hY,f0,f1,f2,fc];refine hq _ _ _ _ ?_;clear hq q
   exact hk _ _ (h.tmp (i:=26) (t:=25) (by simp [mT]) (by simp [mX]) (by omega))
  ·-- 27 fa
   have f0:=h.t1
   have f1:=h.t3
   refine GO_walk [] rfl (by kernel_rfl) (by first|assumption|simp) ?_;intro q hq;simp [hC,hY,f0,f1];refine hq _ _ _ _ ?_;clear hq q
   exact hk _ _ (h.tmp (i:=27) (t:=26) (by simp [mT]) (by simp [mX]) (by omega))
  ·-- 28 ld
   have hd:∀ j∈[27],listed[j]? = some true:=by
    have hd0:=hdep _ rfl
    simp [Region.binds] at hd0
    simp [hd0]
   have f0:=h.t1
   have f1:=h.t3
   have f2:=h.tm (27,26,.pointer (some ⟨200,2,none⟩)) (by simp [mT]) (hd 27 (by simp))
   have fc:=h.c
   unfold cfB at fc
   refine GO_walk [] rfl (by kernel_rfl) (by first|assumption|simp) ?_;intro q hq;simp [hC,hY,f0,f1,f2,fc];refine hq _ _ _ _ ?_;clear hq q
   exact hk _ _ (h.tmp (i:=28) (t:=27) (by simp [mT]) (by simp [mX]) (by omega))
  ·-- 29 mul
   have hd:∀ j∈[28],listed[j]? = some true:=by
    have hd0:=hdep _ rfl
    simp [Region.binds] at hd0
    simp [hd0]
   have f0:=h.t1
   have f1:=h.t3
   have f2:=h.tm (28,27,.int .i64 bx) (by simp [mT]) (hd 28 (by simp))
   refine GO_walk [] rfl (by kernel_rfl) (by first|assumption|simp) ?_;intro q hq;simp [hC,hY,f0,f1,f2];refine hq _ _ _ _ ?_;clear hq q
   exact hk _ _ (h.tmp (i:=29) (t:=28) (by simp [mT]) (by simp [mX]) (by omega))
  ·-- 30 call
   have hd:∀ j∈[24,26,29],listed[j]? = some true:=by
    have hd0:=hdep _ rfl
    simp [Region.binds] at hd0
    simp [hd0]
   have f0:=h.t1
   have f1:=h.t3
   have f2:=h.tm (24,23,.func (.func 96) #[] #[]) (by simp [mT]) (hd 24 (by simp))
   have f3:=h.tm (26,25,.int .i64 nr) (by simp [mT]) (hd 26 (by simp))
   have f4:=h.tm (29,28,.int .i64 (Int.bmod (2*bx) 18446744073709551616)) (by simp [mT]) (hd 29 (by simp))
   refine GO_callL (f:=.tmp 23) (cap:=#[]) hC (num_at 464 (by omega) nr (Int.bmod (2*bx) 18446744073709551616)) rfl hi rfl (by simp [Tryz.ntmps78]) rfl rfl (by simp [okT,f0,f1,f2,f3,f4]) (by simp [gev,f0,f1,f2,f3,f4]) (by simp) (by simp [okX,junk,f0,f1,f2,f3,f4]) (by simp [gev,f0,f1,f2,f3,f4]) (by simp) (fun q hq=>(h.low q hq).symm▸(by simp)) ?_ ?_
   ·intro v ns hV k hk
    have:=numR_key hV k hk
    omega
   rintro v ns ⟨rfl,rfl⟩
   exact hk _ _ (h.call (i:=30) (t:=29) (by simp [mT]) (by omega) (by omega) (by simp [mX]))
  ·-- 31 ins
   have hd:∀ j∈[0,30],listed[j]? = some true:=by
    have hd0:=hdep _ rfl
    simp [Region.binds] at hd0
    simp [hd0]
   have f0:=h.t1
   have f1:=h.t3
   have f2:=h.tm (0,4,.map (some 224)) (by simp [mT]) (hd 0 (by simp))
   have f3:=h.tm (30,29,.func (.func 97) #[] #[.pointer (some ⟨464,0,none⟩),.pointer (some ⟨465,0,none⟩)]) (by simp [mT]) (hd 30 (by simp))
   obtain ⟨l,l1,l2,l3⟩:=h.mp (hd 0 (by simp))
   have hm:(31,⟨#[110,101,97,114]⟩,.func (.func 97) #[] #[.pointer (some ⟨464,0,none⟩),.pointer (some ⟨465,0,none⟩)])∈mI:=by simp [mI]
   have hn:=h.fresh hm hi l2
   refine GO_walk [] rfl (by kernel_rfl) (by first|assumption|simp) ?_;intro q hq;simp [hC,hY,f0,f1,f2,f3,l1,hn];refine hq _ _ _ _ ?_;clear hq q
   exact hk _ _ (h.ins hm (Array.getElem?_eq_some_iff.1 hi).1 l2 l3 hn (hd 0 (by simp)))
  ·-- 32 mk
   have f0:=h.t1
   have f1:=h.t3
   refine GO_walk [] rfl (by kernel_rfl) (by first|assumption|simp) ?_;intro q hq;simp [hC,hY,f0,f1];refine hq _ _ _ _ ?_;clear hq q
   exact hk _ _ (h.tmp (i:=32) (t:=30) (by simp [mT]) (by simp [mX]) (by omega))
  ·-- 33 ins
   have hd:∀ j∈[0,32],listed[j]? = some true:=by
    have hd0:=hdep _ rfl
    simp [Region.binds] at hd0
    simp [hd0]
   have f0:=h.t1
   have f1:=h.t3
   have f2:=h.tm (0,4,.map (some 224)) (by simp [mT]) (hd 0 (by simp))
   have f3:=h.tm (32,30,.func (.func 102) #[] #[.pointer (some ⟨200,0,none⟩)]) (by simp [mT]) (hd 32 (by simp))
   obtain ⟨l,l1,l2,l3⟩:=h.mp (hd 0 (by simp))
   have hm:(33,⟨#[109,101,116,104,111,100]⟩,.func (.func 102) #[] #[.pointer (some ⟨200,0,none⟩)])∈mI:=by simp [mI]
   have hn:=h.fresh hm hi l2
   refine GO_walk [] rfl (by kernel_rfl) (by first|assumption|simp) ?_;intro q hq;simp [hC,hY,f0,f1,f2,f3,l1,hn];refine hq _ _ _ _ ?_;clear hq q
   exact hk _ _ (h.ins hm (Array.getElem?_eq_some_iff.1 hi).1 l2 l3 hn (hd 0 (by simp)))
  ·-- 34 mv
   have hd:∀ j∈[0],listed[j]? = some true:=by
    have hd0:=hdep _ rfl
    simp [Region.binds] at hd0
    simp [hd0]
   have f0:=h.t1
   have f1:=h.t3
   have f2:=h.tm (0,4,.map (some 224)) (by simp [mT]) (hd 0 (by simp))
   refine GO_walk [] rfl (by kernel_rfl) (by first|assumption|simp) ?_;intro q hq;simp [hC,hY,f0,f1,f2];refine hq _ _ _ _ ?_;clear hq q
   exact hk _ _ (h.tmp (i:=34) (t:=31) (by simp [mT]) (by simp [mX]) (by omega))
  ·-- 35 asg
   have hd:∀ j∈[34],listed[j]? = some true:=by
    have hd0:=hdep _ rfl
    simp [Region.binds] at hd0
    simp [hd0]
   have f0:=h.t1
   have f1:=h.t3
   have f2:=h.tm (34,31,.map (some 224)) (by simp [mT]) (hd 34 (by simp))
   refine GO_walk [] rfl (by kernel_rfl) (by first|assumption|simp) ?_;intro q hq;simp [hC,hY,f0,f1,f2];refine hq _ _ _ _ ?_;clear hq q
   exact hk _ _ (h.tmp (i:=35) (t:=2) (by simp [mT]) (by simp [mX]) (by omega))
 ·have hno:∀ j,(Array.replicate 36 false)[j]?≠some true:=fun j=>by
   rw [Array.getElem?_replicate]
   split<;>simp
  exact ⟨by simp,by simp,fun p hp hl=>absurd hl (hno _),fun k hk=>by rw [upd_other _ _ (by omega)];exact hpL_low (by simp) hk,by simp,by simp [cfB,hsl],fun q hq hl=>absurd hl (hno _),fun hl=>absurd hl (hno _),fun q hq hl=>absurd hl (hno _)⟩
theorem musts0_rr {nk:Nat} {g bx tp nr md:Int} {v:Value} {ns:List (Nat×Blk)} (h:RR (mQ nk) (MustsR 1000 (.slice none 0 0) 0 g bx tp nr md) v ns):MustsR nk (.slice none 0 0) 0 g bx tp nr md v ns:=by
 obtain ⟨v0,ns0,⟨l,rfl,rfl,hl,hf⟩,rfl,rfl⟩:=h
 have e:=mQ_at nk
 have e0:=e 0 (by omega)
 have e1:=e 1 (by omega)
 have e2:=e 2 (by omega)
 have e3:=e 3 (by omega)
 have e4:=e 4 (by omega)
 have e5:=e 5 (by omega)
 have e6:=e 6 (by omega)
 have e7:=e 7 (by omega)
 have e8:=e 8 (by omega)
 have e9:=e 9 (by omega)
 have e10:=e 10 (by omega)
 have e11:=e 11 (by omega)
 simp only [Nat.reduceAdd,Nat.add_zero] at e0 e1 e2 e3 e4 e5 e6 e7 e8 e9 e10 e11
 have h100:=mQ_low nk 100 (by omega)
 have hmv:∀ q∈mV 1000,(q.1,renF (mQ nk) q.2)∈mV nk:=by
  simp [mV,renF,ren0,e1,e2,e3,e4,e5,e6,e7,e8,e9,e10,e11]
 have hvm:∀ q∈mV nk,∃ p∈mV 1000,p.1=q.1∧renF (mQ nk) p.2=q.2:=by
  simp [mV,renF,ren0,e1,e2,e3,e4,e5,e6,e7,e8,e9,e10,e11]
 refine ⟨l.map fun p=>(p.1,renF (mQ nk) p.2),by simp [ren,renA,renF,ren0,e0],?_,fun p hp=>?_,fun q hq=>?_⟩
 ·have hc:(cfB (.slice none 0 0) g bx tp nr md).rn (mQ nk)=cfB (.slice none 0 0) g bx tp nr md:=by simp [cfB,Blk.rn,renF,ren0,h100]
  simp only [rnL,mNs,List.map_cons,List.map_nil,mpB_rn,jb_rn,hc,Nat.reduceAdd,e0,e1,e2,e3,e4,e5,e6,e7,e8,e9,e10,e11]
 ·obtain ⟨p0,hp0,rfl⟩:=List.mem_map.1 hp
  exact hmv _ (hl _ hp0)
 ·obtain ⟨p,hp,h1,h2⟩:=hvm q hq
  rw [findL_map,←h1,hf p hp,←h2]
  rfl
theorem musts0_at (nk:Nat) (hnk:200≤nk) (b:Blk) (hb:b.fx) (g bx tp nr md:Int) :
  FunS Tryz.prog G0 78 #[cfV (.slice none 0 0) g bx tp nr md] (hpL G0 [(100,b)]) [100] (RR (mQ nk) (MustsR 1000 (.slice none 0 0) 0 g bx tp nr md)):=by
 have hr:=fun ρ=>Blk.fx_rn hb ρ
 have h100:=mQ_low nk 100 (by omega)
 refine (musts0_fun b hb g bx tp nr md).mvL G0F (oneL_ok hb) (mQ nk) (fun k hk=>mQ_low nk k (by omega)) (by simp [cfV,ren,renA,renF,ren0,h100]) (by simp [keys,h100]) rfl (oneL_ok hb).low (by simp [h100,hr]) (by simp [keys]) (fun v ns hV k hk=>?_) (fun v ns hV k hk l hl e=>?_)
 ·have h1:=mustsR_key hV k hk
  obtain ⟨j,hj,rfl⟩:∃ j,j<12∧k=1000+j:=⟨k - 1000,by omega,by omega⟩
  rw [mQ_at nk j hj]
  simp
  omega
 ·have h1:=mustsR_key hV k hk
  have h2:=mustsR_key hV l hl
  obtain ⟨j,hj,rfl⟩:∃ j,j<12∧k=1000+j:=⟨k - 1000,by omega,by omega⟩
  obtain ⟨i,hi,rfl⟩:∃ j,j<12∧l=1000+j:=⟨l - 1000,by omega,by omega⟩
  rw [mQ_at nk j hj,mQ_at nk i hi] at e
  omega
set_option maxRecDepth 8000 in
set_option maxHeartbeats 16000000 in
theorem why0_fun (b:Blk) (hb:b.fx) (g bx tp nr md:Int) :
  Fun Tryz.prog G0 55 #[cfV (.slice none 0 0) g bx tp nr md] (hpL G0 [(100,b)]) (keys [(100,b)]) (.ret (.string (⟨#[98,111,100,105,101,115]⟩)) []):=by
 refine fun_ofL (B:=200) G0F Tryz.func55 rfl Tryz.call55 (oneL_ok hb) ?_ (by simp) (by simp) (by simp) (by simp [Tryz.ntmps55]) (by omega) ?_
 ·simp [idsV,idsA,idsF,ids0,keys,cfV]
 intro C hC hC0 hY
 have hr:=fun ρ=>Blk.fx_rn hb ρ
 unfold cfV
 repeat' (first|refine gwA ?_|(refine gwX ?_;intro Q hQ hP;simp [hC,hY];refine hQ _ _ _ _ (by kernel_rfl) ?_;clear hQ hP Q)|(refine gwC ?_ ?_<;>(intro hb;try (cases hb;done))))
 refine GW_list ?_
 simp only [Array.toList]
 refine GL_walk 1 [] rfl (by simp) (by kernel_rfl) ?_;intro q hq;simp [hC,hY];refine hq _ _ _ _ ?_;clear hq q
 simp only [wT,List.length_cons,List.length_nil,Nat.reduceAdd]
 refine GL_callW 8 (f:=.func 78) (cap:=#[]) hC (musts0_at 224 (by omega) b hb g bx tp nr md) rfl (by simp) rfl rfl (by simp [okT]) (by simp [gev]) (by simp) (by simp [okX,junk]) (by simp [gev,cfV]) (by simp) (by (intro k hk;first|rfl|(simp (disch:=omega) only [addB,List.mem_cons,List.not_mem_nil,or_false,upd_other,hpL_cons,hpL_nil,if_neg,updL]<;>done))) (fun v ns hV k hk=>by have:=mustsR_key (musts0_rr hV) k hk;omega) ?_
 intro v ns hV
 obtain ⟨l,rfl,rfl,_,hf⟩:=musts0_rr hV
 refine GL_walk 1 [] rfl (by simp) (by kernel_rfl) ?_;intro q hq;simp [hC,hY,putT,updL,mNs];refine hq _ _ _ _ ?_;clear hq q
 simp only [wT,List.length_cons,List.length_nil,Nat.reduceAdd]
 refine GL_nil ?_
 have f0:findL ⟨#[98,111,100,105,101,115]⟩ l=some (.func (.func 97) #[] #[.pointer (some ⟨226,0,none⟩),.pointer (some ⟨227,0,none⟩)]):=hf (⟨#[98,111,100,105,101,115]⟩,_) (by simp [mV])
 have c0:wiB 0 1 4=false:=by decide +kernel
 repeat' (first|refine GWL_start ?_|refine GWL_step ?_|refine gwA ?_|((first|refine gwR [97,99,102] ?_|refine gwD [97,99,102] ?_);intro Q hQ hP;simp [hC,hY,f0,c0,cnB];(repeat ((first|(refine heapK_mv (cn1_fun 0 4) G0F (B:=200) ⟨by simp,by simp [keys],by simp [jb,ids_lit,idsF,ids0]⟩ (fun k=>if k=100 then 226 else if k=108 then 227 else k) (fun k hk=>(if_neg (by omega)).trans (if_neg (by omega))) ?_ (by simp) (by simp [jb_rn]) (by simp [keys]) (by simp [keys];rfl) ?_;focus (simp [ren,renA,renF,ren0];done)));try simp [hC,hY,f0,c0,cnB]));refine hQ _ _ _ _ (by kernel_rfl) ?_;clear hQ hP Q)|(refine gwC ?_ ?_<;>(intro hb;try (cases hb;done))))
 refine ⟨.inr rfl,by simp [Tryz.results55],kpS G0F⟩
def isStr:Value→Bool
 | .string _=>true
 | _=>false
def strV:Value→ByteArray
 | .string s=>s
 | _=>⟨#[]⟩
def sneB (a b:ByteArray):Bool:=!(a.toList==b.toList)
@[simp] theorem isStr_s (s:ByteArray):isStr (.string s)=true:=rfl
@[simp] theorem strV_s (s:ByteArray):strV (.string s)=s:=rfl
theorem isStr_of {v:Value} (h:isStr v=true):v=.string (strV v):=by
 unfold isStr at h
 split at h
 ·rfl
 ·cases h
@[simp] theorem bin2_str (P:Program) (op:BinOp) (T:TypeId) (a b:ByteArray):bin2 P op T (.string a) (.string b)=none:=by cases op<;>rfl
@[simp] theorem binX_strne {dst:Option Tmp} {x y:Operand} {T:TypeId} {ps:String} {af:Array Edge} {g:Option (Nat×Bool)} {ts:Nat→Value} {hp:Hp} {C:Eff→Prop} (h:isStr (gev ts x)=true) (h2:isStr (gev ts y)=true) (hx:okX ts hp x) (hy:okX ts hp y) :
  binX Tryz.prog none ⟨dst,.binOp .neq 9 x y 9,T,ps,af,g⟩ ts hp C↔C (val (.bool (sneB (strV (gev ts x)) (strV (gev ts y)))) []):=by
 have e1:=isStr_of h
 have e2:=isStr_of h2
 refine pureV_iff (K:=fun v=>C (val v [])) ?_ rfl fun W=>?_
 ·intro z hz
  simp [Op.operands] at hz
  rcases hz with rfl|rfl
  ·exact ⟨hx,by rw [e1];rfl⟩
  ·exact ⟨hy,by rw [e2];rfl⟩
 ·generalize strV (gev ts x)=a at e1 ⊢
  generalize strV (gev ts y)=b at e2 ⊢
  have hg:(eqGuard .neq 9 x y (.string a) (.string b)).run Tryz.prog W=.ok () W:=by unfold eqGuard;split<;>rfl
  simp only [execOp,e1,e2,Sem.run_bind,hg,Result.andThen_ok,binOp,Op.stringOp,Sem.run_pure,strV_s]
  simp [sneB]
theorem whyS_ne2 (n:Nat) (f:Nat→Int) (g bx tp nr md:Int):sneB (whyS n f g bx tp nr md) ⟨#[]⟩=!(cfOk n f g bx tp nr md):=by
 unfold whyS cfOk sneB
 rcases Bool.eq_false_or_eq_true (wiB n 1 4) with c|c<;>simp only [c,Bool.false_and,Bool.true_and,if_true,Bool.true_eq_false,if_false,Bool.not_false]<;>try decide +kernel
 rcases Bool.eq_false_or_eq_true (allM f n) with c|c<;>simp only [c,Bool.false_and,Bool.true_and,if_true,Bool.true_eq_false,if_false,Bool.not_false]<;>try decide +kernel
 rcases Bool.eq_false_or_eq_true (wiB g 1 1048576) with c|c<;>simp only [c,Bool.false_and,Bool.true_and,if_true,Bool.true_eq_false,if_false,Bool.not_false]<;>try decide +kernel
 rcases Bool.eq_false_or_eq_true (wiB bx 1 1048576) with c|c<;>simp only [c,Bool.false_and,Bool.true_and,if_true,Bool.true_eq_false,if_false,Bool.not_false]<;>try decide +kernel
 rcases Bool.eq_false_or_eq_true (wiB tp 1 65536) with c|c<;>simp only [c,Bool.false_and,Bool.true_and,if_true,Bool.true_eq_false,if_false,Bool.not_false]<;>try decide +kernel
 rcases Bool.eq_false_or_eq_true (wiB nr 1 (Int.bmod (2*bx) 18446744073709551616)) with c|c<;>simp only [c,Bool.false_and,Bool.true_and,if_true,Bool.true_eq_false,if_false,Bool.not_false]<;>try decide +kernel
 rcases Bool.eq_false_or_eq_true (wiB md 0 4) with c|c<;>simp only [c,Bool.false_and,Bool.true_and,if_true,Bool.true_eq_false,if_false,Bool.not_false]<;>try decide +kernel
theorem check_fun (b:Blk) (off n cap:Nat) (f:Nat→Int) (h:MB b off n f) (g bx tp nr md:Int) :
  Fun Tryz.prog G0 37 #[cfV (.slice (some ⟨100,off,none⟩) n cap) g bx tp nr md] (hpL G0 [(100,b)]) (keys [(100,b)]) (.ret (.int .i64 (if cfOk n f g bx tp nr md=true then 0 else 110)) []):=by
 refine fun_ofL (B:=200) G0F Tryz.func37 rfl Tryz.call37 (oneL_ok h.fx) ?_ (by simp) (by simp) (by simp) (by simp [Tryz.ntmps37]) (by omega) ?_
 ·simp [idsV,idsA,idsF,ids0,keys,cfV]
 intro C hC hC0 hY
 have hr:=fun ρ=>Blk.fx_rn h.fx ρ
 have hne:=whyS_ne2 n f g bx tp nr md
 cases hc:cfOk n f g bx tp nr md with
 | true =>
  rw [hc] at hne
  unfold cfV
  repeat' (first|refine gwA ?_|((first|refine gwR [55] ?_|refine gwD [55] ?_);intro Q hQ hP;simp [hC,hY,hne];(repeat ((first|(refine heapK_mv (why_fun b off n cap f h g bx tp nr md) G0F (B:=200) (oneL_ok h.fx) (fun k=>k) (fun k hk=>rfl) (by simp [ren,renA,renF,ren0,cfV]) (by simp) (by simp [hr]) (by simp [keys]) (by simp [keys];rfl) ?_));try simp [hC,hY,hne]));refine hQ _ _ _ _ (by kernel_rfl) ?_;clear hQ hP Q)|(refine gwC ?_ ?_<;>(intro hb;try (cases hb;done))))
  refine ⟨.inr rfl,by simp [Tryz.results37],kpS G0F⟩
 | false =>
  rw [hc] at hne
  unfold cfV
  repeat' (first|refine gwA ?_|((first|refine gwR [55] ?_|refine gwD [55] ?_);intro Q hQ hP;simp [hC,hY,hne];(repeat ((first|(refine heapK_mv (why_fun b off n cap f h g bx tp nr md) G0F (B:=200) (oneL_ok h.fx) (fun k=>k) (fun k hk=>rfl) (by simp [ren,renA,renF,ren0,cfV]) (by simp) (by simp [hr]) (by simp [keys]) (by simp [keys];rfl) ?_));try simp [hC,hY,hne]));refine hQ _ _ _ _ (by kernel_rfl) ?_;clear hQ hP Q)|(refine gwC ?_ ?_<;>(intro hb;try (cases hb;done))))
  refine ⟨.inr rfl,by simp [Tryz.results37],kpS G0F⟩
theorem check0_fun (b:Blk) (hb:b.fx) (g bx tp nr md:Int) :
  Fun Tryz.prog G0 37 #[cfV (.slice none 0 0) g bx tp nr md] (hpL G0 [(100,b)]) (keys [(100,b)]) (.ret (.int .i64 110) []):=by
 refine fun_ofL (B:=200) G0F Tryz.func37 rfl Tryz.call37 (oneL_ok hb) ?_ (by simp) (by simp) (by simp) (by simp [Tryz.ntmps37]) (by omega) ?_
 ·simp [idsV,idsA,idsF,ids0,keys,cfV]
 intro C hC hC0 hY
 have hr:=fun ρ=>Blk.fx_rn hb ρ
 have hne:sneB ⟨#[98,111,100,105,101,115]⟩ ⟨#[]⟩=true:=by decide +kernel
 unfold cfV
 repeat' (first|refine gwA ?_|((first|refine gwR [55] ?_|refine gwD [55] ?_);intro Q hQ hP;simp [hC,hY,hne];(repeat ((first|(refine heapK_mv (why0_fun b hb g bx tp nr md) G0F (B:=200) (oneL_ok hb) (fun k=>k) (fun k hk=>rfl) (by simp [ren,renA,renF,ren0,cfV]) (by simp) (by simp [hr]) (by simp [keys]) (by simp [keys];rfl) ?_));try simp [hC,hY,hne]));refine hQ _ _ _ _ (by kernel_rfl) ?_;clear hQ hP Q)|(refine gwC ?_ ?_<;>(intro hb;try (cases hb;done))))
 refine ⟨.inr rfl,by simp [Tryz.results37],kpS G0F⟩
def fitB (n n2:Nat) (okc rt:Bool):Bool:=decide (n=n2)&&(okc&&rt)
set_option maxRecDepth 8000 in
set_option maxHeartbeats 2000000 in
theorem kFits_L (L:List (Nat×Blk)) (ks:Nat) (bm bs:Blk) (hT:LTwo G0 L ks bm bs) (off n cap off2 n2 cap2:Nat) (fm fs:Nat→Int) (hm:MB bm off n fm) (hSb:SB bs off2 n2 fs) (g bx tp nr md st:Int) (hs:i64 st) :
  Fun Tryz.prog G0 19 #[cfV (.slice (some ⟨100,off,none⟩) n cap) g bx tp nr md,.agg #[.int .i64 st,.slice (some ⟨ks,off2,none⟩) n2 cap2]] (hpL G0 L) (keys L) (.ret (.bool (fitB n n2 (cfOk n fm g bx tp nr md) (rightB st fs n2))) []):=by
 refine fun_ofL (B:=200) G0F Tryz.func19 rfl Tryz.call19 hT.ok ?_ (by simp) (by simp) (by simp) (by simp [Tryz.ntmps19]) (by omega) ?_
 ·simp [idsV,idsA,idsF,ids0,hT.ia,hT.ib,cfV]
 intro C hC hC0 hY
 have hA:=hT.a
 have hS:=hT.s
 have hne:=hT.ne
 have hLow:=hT.low
 have hks:=hT.k1
 have hks2:=hT.k2
 have hrm:=fun ρ=>Blk.fx_rn hm.fx ρ
 have hrs:=fun ρ=>Blk.fx_rn hSb.fx ρ
 have hck:=check_fun bm off n cap fm hm g bx tp nr md
 have hri:=rig_fun bs off2 n2 cap2 fs hSb st hs
 unfold fitB
 unfold cfV at hck ⊢
 by_cases hn:n=n2
 ·have hn':(n:Int)=(n2:Int):=by omega
  have hnb:((n:Int)==(n2:Int))=true:=by simpa using hn'
  rw [decide_eq_true hn]
  cases hc:cfOk n fm g bx tp nr md with
  | false =>
   rw [hc] at hck
   repeat' (first|refine gwA ?_|((first|refine gwR [37,33] ?_|refine gwD [37,33] ?_);intro Q hQ hP;simp [hC,hY,hA,hS,hne,hn',hnb];(repeat ((first|(refine heapK_mv hck G0F (B:=200) (oneL_ok hm.fx) (fun k=>k) (fun k hk=>rfl) (by simp [ren,renA,renF,ren0,cfV]) (by simp) (by simp [hrm,hA]) (by simp [keys]) (by simp [keys];rfl) ?_));try simp [hC,hY,hA,hS,hne,hn',hnb]));refine hQ _ _ _ _ (by kernel_rfl) ?_;clear hQ hP Q)|(refine gwC ?_ ?_<;>(intro hb;try (cases hb;done))))
   refine ⟨.inr rfl,by simp [Tryz.results19],kpT G0F⟩
  | true =>
   rw [hc] at hck
   repeat' (first|refine gwA ?_|((first|refine gwR [37,33] ?_|refine gwD [37,33] ?_);intro Q hQ hP;simp [hC,hY,hA,hS,hne,hn',hnb];(repeat ((first|(refine heapK_mv hck G0F (B:=200) (oneL_ok hm.fx) (fun k=>k) (fun k hk=>rfl) (by simp [ren,renA,renF,ren0,cfV]) (by simp) (by simp [hrm,hA]) (by simp [keys]) (by simp [keys];rfl) ?_)|(refine heapK_mv hri G0F (B:=200) (oneL_ok hSb.fx) (fun k=>if k=100 then ks else k) (fun k hk=>if_neg (by omega)) (by simp [ren,renA,renF,ren0]) (by simp) (by simp [hrs,hS,hne,hks]) (by simp [keys]) (by simp [keys];rfl) ?_));try simp [hC,hY,hA,hS,hne,hn',hnb]));refine hQ _ _ _ _ (by kernel_rfl) ?_;clear hQ hP Q)|(refine gwC ?_ ?_<;>(intro hb;try (cases hb;done))))
   refine ⟨.inr rfl,by simp [Tryz.results19],kpT G0F⟩
 ·have hn':¬(n:Int)=(n2:Int):=by omega
  have hnb:((n:Int)==(n2:Int))=false:=by simpa using hn'
  rw [decide_eq_false hn]
  repeat' (first|refine gwA ?_|(refine gwX ?_;intro Q hQ hP;simp [hC,hY,hA,hS,hne,hn',hnb];refine hQ _ _ _ _ (by kernel_rfl) ?_;clear hQ hP Q)|(refine gwC ?_ ?_<;>(intro hb;try (cases hb;done))))
  refine ⟨.inr rfl,by simp [Tryz.results19],kpT G0F⟩
def plo (N s:Int):Int:=isq (N / s)
def phi (N s:Int):Int:=if plo N s*plo N s*s=N then plo N s else plo N s+1
theorem sqq_mono {a b:Int} (h0:0≤a) (h:a≤b):a*a≤b*b:=Int.mul_le_mul h h h0 (by omega)
theorem plo_spec {N s:Int} (hN:0≤N) (hs:0<s):0≤plo N s∧plo N s*plo N s*s≤N∧N<(plo N s+1)*(plo N s+1)*s:=by
 have hq:0≤N / s:=Int.ediv_nonneg hN (by omega)
 obtain ⟨r0,r1,r2⟩:=isq_spec (N / s) hq
 have h1:=Int.emod_add_mul_ediv N s
 have h2:=Int.emod_nonneg N (b:=s) (by omega)
 have h3:=Int.emod_lt_of_pos N hs
 unfold plo
 generalize isq (N / s)=r at *
 generalize N / s=q at *
 refine ⟨r0,?_,?_⟩
 ·have:r*r*s≤q*s:=Int.mul_le_mul_of_nonneg_right r1 (by omega)
  rw [Int.mul_comm q s] at this
  omega
 ·have h4:(q+1)*s≤(r+1)*(r+1)*s:=Int.mul_le_mul_of_nonneg_right (by omega) (by omega)
  rw [Int.add_mul,Int.mul_comm q s] at h4
  omega
theorem ph_iff {N s h:Int} (hN:0≤N) (hs:0<s) (hh:0≤h):N≤h*h*s↔phi N s≤h:=by
 obtain ⟨r0,r1,r2⟩:=plo_spec hN hs
 unfold phi
 constructor
 ·intro h1
  split
  ·rename_i e
   refine Classical.byContradiction fun c=>?_
   have h2:=sqq_mono (a:=h+1) (b:=plo N s) (by omega) (by omega)
   have h3:h*h<plo N s*plo N s:=by
    have:(h+1)*(h+1)=h*h+2*h+1:=by rw [Int.add_mul,Int.mul_add];omega
    omega
   have h4:=Int.mul_lt_mul_of_pos_right h3 hs
   omega
  ·rename_i e
   refine Classical.byContradiction fun c=>?_
   have h2:=sqq_mono (a:=h) (b:=plo N s) hh (by omega)
   have h3:=Int.mul_le_mul_of_nonneg_right h2 (show 0≤s by omega)
   omega
 ·intro h1
  split at h1
  ·rename_i e
   have h2:=sqq_mono r0 h1
   have h3:=Int.mul_le_mul_of_nonneg_right h2 (show 0≤s by omega)
   omega
  ·have h2:=sqq_mono (a:=plo N s+1) (b:=h) (by omega) h1
   have h3:=Int.mul_le_mul_of_nonneg_right h2 (show 0≤s by omega)
   omega
theorem phi_nn {N s:Int} (hN:0≤N) (hs:0<s):0≤phi N s:=by
 obtain ⟨r0,_,_⟩:=plo_spec hN hs
 unfold phi
 split<;>omega
structure EIn (g m w q:Int):Prop where
 g0:1≤g
 g1:g≤1048576
 m0:1≤m
 m1:m≤1024
 w0:1≤w
 w1:w≤1024
 q0:0≤q
 q1:q≤13194139533312
def enA (g m w:Int):Int:=g*m*w*1048576
def enLo (g m w q:Int):Int:=plo (enA g m w*enA g m w) q
def enHi (g m w q:Int):Int:=phi (enA g m w*enA g m w) q
theorem mulR {a b p q:Int} (h1:1≤a) (h2:a≤p) (h3:1≤b) (h4:b≤q):1≤a*b∧a*b≤p*q:=by
 constructor
 ·have:=Int.mul_le_mul (a:=1) (b:=1) (c:=a) (d:=b) h1 h3 (by omega) (by omega)
  omega
 ·exact Int.mul_le_mul h2 h4 (by omega) (by omega)
theorem EIn.gm {g m w q:Int} (h:EIn g m w q):1≤g*m∧g*m≤1073741824:=mulR h.g0 h.g1 h.m0 h.m1
theorem EIn.gmw {g m w q:Int} (h:EIn g m w q):1≤g*m*w∧g*m*w≤1099511627776:=mulR h.gm.1 h.gm.2 h.w0 h.w1
theorem EIn.a {g m w q:Int} (h:EIn g m w q):1048576≤enA g m w∧enA g m w≤1152921504606846976:=by
 have:=h.gmw
 unfold enA
 omega
theorem EIn.aa {g m w q:Int} (h:EIn g m w q):0≤enA g m w*enA g m w∧enA g m w*enA g m w≤1329227995784915872903807060280344576:=by
 have h1:=h.a
 exact ⟨Int.mul_nonneg (by omega) (by omega),Int.mul_le_mul h1.2 h1.2 (by omega) (by omega)⟩
theorem en_hi_eq (g m w q:Int):enHi g m w q=if enLo g m w q*enLo g m w q*q=enA g m w*enA g m w then enLo g m w q else enLo g m w q+1:=rfl
theorem EIn.holds {g m w q:Int} (h:EIn g m w q) (hq:0<q):enLo g m w q*enLo g m w q*q≤enA g m w*enA g m w∧enA g m w*enA g m w≤enHi g m w q*enHi g m w q*q∧(enLo g m w q=enHi g m w q↔enLo g m w q*enLo g m w q*q=enA g m w*enA g m w):=by
 refine ⟨(plo_spec h.aa.1 hq).2.1,(ph_iff h.aa.1 hq (phi_nn h.aa.1 hq)).2 (Int.le_refl _),?_⟩
 rw [en_hi_eq]
 split
 ·rename_i e
  exact ⟨fun _=>e,fun _=>rfl⟩
 ·rename_i e
  exact ⟨fun h=>absurd h (by omega),fun h=>absurd h e⟩
def sumN (f:Nat→Int):Nat→Int
 | 0=>0
 | n+1=>sumN f n+f n
theorem sumN_congr {f g:Nat→Int}:∀ {n:Nat},(∀ i,i<n→f i=g i)→sumN f n=sumN g n
 | 0,_=>rfl
 | n+1,h=>by
  unfold sumN
  rw [sumN_congr (fun i hi=>h i (by omega)),h n (by omega)]
theorem sumN_add (f g:Nat→Int):∀ n:Nat,sumN (fun i=>f i+g i) n=sumN f n+sumN g n
 | 0=>rfl
 | n+1=>by
  unfold sumN
  rw [sumN_add f g n]
  omega
def sw (a b i:Nat):Nat:=if i=a then b else if i=b then a else i
theorem sw_lt {a b i n:Nat} (ha:a<n) (hb:b<n) (hi:i<n):sw a b i<n:=by
 unfold sw
 split
 ·exact hb
 ·split
  ·exact ha
  ·exact hi
theorem sumN_set (f:Nat→Int) (a:Nat) (x:Int):∀ n:Nat,sumN (fun i=>if i=a then x else f i) n=sumN f n+if a<n then x - f a else 0
 | 0=>by simp [sumN]
 | n+1=>by
  unfold sumN
  rw [sumN_set f a x n]
  by_cases h:n=a
  ·subst h
   simp
   omega
  ·rw [if_neg h]
   by_cases h2:a<n
   ·rw [if_pos h2,if_pos (by omega)];omega
   ·rw [if_neg h2,if_neg (by omega)];omega
theorem sumN_sw (f:Nat→Int) {a b n:Nat} (ha:a<n) (hb:b<n):sumN (fun i=>f (sw a b i)) n=sumN f n:=by
 by_cases hab:a=b
 ·subst hab
  exact sumN_congr fun i _=>by
   unfold sw
   split
   ·rename_i h;rw [h]
   ·rfl
 ·have e:(fun i=>f (sw a b i))=fun i=>if i=a then f b else (fun i=>if i=b then f a else f i) i:=by
   funext i
   unfold sw
   by_cases h1:i=a
   ·simp only [if_pos h1]
   ·by_cases h2:i=b
    ·simp only [if_neg h1,if_pos h2]
    ·simp only [if_neg h1,if_neg h2]
  rw [e,sumN_set,sumN_set,if_pos ha,if_pos hb]
  simp only [if_neg hab]
  omega
theorem sub1_ret (x y:Int):Ret Tryz.prog G0 65 #[.int .i64 x,.int .i64 y] (.int .i64 (Int.bmod (x - y) 18446744073709551616)):=by
 refine ret_of G0F Tryz.func65 rfl Tryz.call65 (by simp) (by simp) (by simp [Tryz.ntmps65]) ?_
 intro C hC hC0 hY
 repeat' (first|refine gwA ?_|(refine gwX ?_;intro Q hQ hP;simp [hC,hY];refine hQ _ _ _ _ (by kernel_rfl) ?_;clear hQ hP Q)|(refine gwC ?_ ?_<;>(intro hb;try (cases hb;done))))
 refine ⟨.inr trivial,?_⟩
 simp [Tryz.results65]
@[simp] theorem vsub1 (x y:Int) (K:Value→Prop):callK Tryz.prog G0 65 #[.int .i64 x,.int .i64 y] K↔K (.int .i64 (Int.bmod (x - y) 18446744073709551616)):=callK_iff G0W (by kernel_rfl) (sub1_ret x y)
def subI (a b:Int):Int:=a - b
theorem fn_bs {a b:Int} (h1:fnI a) (h2:fnI b):Int.bmod (a - b) 18446744073709551616=a - b:=by
 obtain ⟨h1,h3⟩:=h1
 obtain ⟨h2,h4⟩:=h2
 exact bm (by omega) (by omega)
theorem sub_ret (a0 a1 a2 b0 b1 b2:Int):Ret Tryz.prog G0 43 #[.agg #[.int .i64 a0,.int .i64 a1,.int .i64 a2],.agg #[.int .i64 b0,.int .i64 b1,.int .i64 b2]]
  (.tuple #[.agg #[.int .i64 (eaV (eaE subI a0 a1 a2 b0 b1 b2) (subI a0 b0)),.int .i64 (eaV (eaE subI a0 a1 a2 b0 b1 b2) (subI a1 b1)),.int .i64 (eaV (eaE subI a0 a1 a2 b0 b1 b2) (subI a2 b2))],.int .i64 (eaE subI a0 a1 a2 b0 b1 b2)]):=by
 refine ret_of G0F Tryz.func43 rfl Tryz.call43 (by simp) (by simp) (by simp [Tryz.ntmps43]) ?_
 intro C hC hC0 hY
 have he:=fun K=>veach 65 subI (fun x y K hx hy=>by rw [vsub1,fn_bs hx hy];rfl) a0 a1 a2 b0 b1 b2 K
 repeat' (first|refine gwA ?_|(refine gwX ?_;intro Q hQ hP;simp [hC,hY,he];refine hQ _ _ _ _ (by kernel_rfl) ?_;clear hQ hP Q)|(refine gwC ?_ ?_<;>(intro hb;try (cases hb;done))))
 refine ⟨.inr trivial,?_⟩
 simp [Tryz.results43]
theorem SB.vec {b:Blk} {off n:Nat} {f:Nat→Int} (h:SB b off n f) {i:Nat} (hi:i<n) {u:Nat} (hu:u+3≤6):loadK Tryz.prog 31 b (off+i*6+u)=some (.agg #[.int .i64 (f (6*i+u)),.int .i64 (f (6*i+u+1)),.int .i64 (f (6*i+u+2))]):=by
 have hbrd:=Blk.fx_rd h.fx
 have:=loadK_rd (P:=Tryz.prog) (T:=31) (m:=3) (j:=6*i+u) (tyAgg_of Tryz.isAgg31) (tySize_of Tryz.sizeOf31) (by omega) h.rd (by omega)
 rw [show off+i*6+u=off+(6*i+u) by omega,this,fa_3]
 rfl
theorem w11_ret (n lo hi:Int):Ret Tryz.prog G0 79 #[.int .i64 n,.int .i64 lo,.int .i64 hi] (.bool (wiB n lo hi)):=by
 refine ret_of G0F Tryz.func79 rfl Tryz.call79 rfl (by simp) (by simp [Tryz.ntmps79]) ?_
 intro C hC hC0 hY
 unfold wiB
 by_cases c0:lo≤n
 ·by_cases c1:n≤hi
  ·rw [decide_eq_true ⟨c0,c1⟩]
   (repeat' (first|refine gwA ?_|(refine gwX ?_;intro Q hQ hP;simp [hC,hY,c0,c1];refine hQ _ _ _ _ (by kernel_rfl) ?_;clear hQ hP Q)|(refine gwC ?_ ?_<;>(intro hb;try (cases hb;done)))))
   refine ⟨.inr trivial,?_⟩
   simp [Tryz.results79]
  ·rw [decide_eq_false (by omega)]
   (repeat' (first|refine gwA ?_|(refine gwX ?_;intro Q hQ hP;simp [hC,hY,c0,c1];refine hQ _ _ _ _ (by kernel_rfl) ?_;clear hQ hP Q)|(refine gwC ?_ ?_<;>(intro hb;try (cases hb;done)))))
   refine ⟨.inr trivial,?_⟩
   simp [Tryz.results79]
 ·rw [decide_eq_false (by omega)]
  (repeat' (first|refine gwA ?_|(refine gwX ?_;intro Q hQ hP;simp [hC,hY,c0];refine hQ _ _ _ _ (by kernel_rfl) ?_;clear hQ hP Q)|(refine gwC ?_ ?_<;>(intro hb;try (cases hb;done)))))
  refine ⟨.inr trivial,?_⟩
  simp [Tryz.results79]
@[simp] theorem w11 (n lo hi:Int) (K:Value→Prop):callK Tryz.prog G0 79 #[.int .i64 n,.int .i64 lo,.int .i64 hi] K↔K (.bool (wiB n lo hi)):=callK_iff G0W (by kernel_rfl) (w11_ret n lo hi)
def whSt (b:Blk) (off n cap:Nat) (g bx tp nr md:Int) (i:Nat):GS :=
 ⟨tsL [(1,.pointer (some ⟨200,0,none⟩)),(3,.int .i64 i)],hpL G0 [(100,b),(200,cfB (.slice (some ⟨100,off,none⟩) n cap) g bx tp nr md)],400,0⟩
theorem allM_iff {f:Nat→Int} {n:Nat}:allM f n=true↔∀ i,i<n→wiB (f i) 1 1024=true:=by simp [allM]
theorem why11_fun (b:Blk) (off n cap:Nat) (f:Nat→Int) (h:MB b off n f) (g bx tp nr md:Int) :
  Fun Tryz.prog G0 56 #[cfV (.slice (some ⟨100,off,none⟩) n cap) g bx tp nr md] (hpL G0 [(100,b)]) (keys [(100,b)]) (.ret (.string (whyS n f g bx tp nr md)) []):=by
 refine fun_ofL (B:=200) G0F Tryz.func56 rfl Tryz.call56 (oneL_ok h.fx) ?_ (by simp [idsV,idsA,idsF,ids0]) (by simp) (by simp) (by simp [Tryz.ntmps56]) (by omega) ?_
 ·simp [idsV,idsA,idsF,ids0,keys,cfV]
 intro C hC hC0 hY
 have hid:=fun D=>Blk.fx_ids h.fx D
 unfold cfV
 cases h4:wiB n 1 4 with
 | false =>
  have hw:whyS n f g bx tp nr md=⟨#[98,111,100,105,101,115]⟩:=by simp [whyS,h4]
  rw [hw]
  repeat' (first|refine gwA ?_|(refine gwX ?_;intro Q hQ hP;simp [hC,hY,h4];refine hQ _ _ _ _ (by kernel_rfl) ?_;clear hQ hP Q)|(refine gwC ?_ ?_<;>(intro hb;try (cases hb;done))))
  refine ⟨.inr rfl,by simp [Tryz.results56],kpS G0F⟩
 | true =>
  obtain ⟨N,hN,hlt,hend⟩:=leadB (fun i=>wiB (f i) 1 1024) n
  repeat' (first|refine gwA ?_|(refine gwX ?_;intro Q hQ hP;simp [hC,hY,h4];refine hQ _ _ _ _ (by kernel_rfl) ?_;clear hQ hP Q)|(refine gwC ?_ ?_<;>(intro hb;try (cases hb;done))))
  refine GW_for N (whSt b off n cap g bx tp nr md) ?_ ?_ ?_
  ·refine weakL _ 400 hC G0F (m0:=[(100,b)]) hC0 (by omega) ?_ ?_ ?_
   ·simp [idsV,idsA,idsF,ids0,dom]
   ·simp [cfB,ids_lit,idsF,ids0,hid,dom]
   ·simp
  ·intro i hi
   have hi':(i:Int)<n:=by omega
   have hz:(0:Int)≤i:=by omega
   have hnn:=h.nn
   have hs:Int.bmod ((i:Int)+1) 18446744073709551616=((i+1:Nat):Int):=by rw [bm (by omega) (by omega)];rfl
   have hld:=h.at (i:=i) (by omega)
   have hw:=hlt i hi
   unfold whSt cfB
   repeat' (first|refine gwA ?_|(refine gwX ?_;intro Q hQ hP;simp [hC,hY,hi',hz,hs,hld,hw];refine hQ _ _ _ _ (by kernel_rfl) ?_;clear hQ hP Q)|(refine gwC ?_ ?_<;>(intro hb;try (cases hb;done))))
   refine weakL _ 400 hC G0F (m0:=[(100,b)]) hC0 (by omega) ?_ ?_ ?_
   ·simp [idsV,idsA,idsF,ids0,dom,hs]
   ·simp [cfB,ids_lit,idsF,ids0,hid,dom]
   ·simp
  ·by_cases hNn:N=n
   ·have hNs:=hNn.symm
    subst hNs
    have hm:allM f n=true:=allM_iff.2 hlt
    cases hg:wiB g 1 1048576 with
    | false =>
     have hw:whyS n f g bx tp nr md=⟨#[99,111,110,115,116,97,110,116]⟩:=by simp [whyS,h4,hm,hg]
     rw [hw]
     unfold whSt cfB
     repeat' (first|refine gwA ?_|(refine gwX ?_;intro Q hQ hP;simp [hC,hY,h4,hg];refine hQ _ _ _ _ (by kernel_rfl) ?_;clear hQ hP Q)|(refine gwC ?_ ?_<;>(intro hb;try (cases hb;done))))
     refine ⟨.inr rfl,by simp [Tryz.results56],kpS G0F⟩
    | true =>
     cases hx:wiB bx 1 1048576 with
     | false =>
      have hw:whyS n f g bx tp nr md=⟨#[98,111,120]⟩:=by simp [whyS,h4,hm,hg,hx]
      rw [hw]
      unfold whSt cfB
      repeat' (first|refine gwA ?_|(refine gwX ?_;intro Q hQ hP;simp [hC,hY,h4,hg,hx];refine hQ _ _ _ _ (by kernel_rfl) ?_;clear hQ hP Q)|(refine gwC ?_ ?_<;>(intro hb;try (cases hb;done))))
      refine ⟨.inr rfl,by simp [Tryz.results56],kpS G0F⟩
     | true =>
      cases ht:wiB tp 1 65536 with
      | false =>
       have hw:whyS n f g bx tp nr md=⟨#[116,111,112]⟩:=by simp [whyS,h4,hm,hg,hx,ht]
       rw [hw]
       unfold whSt cfB
       repeat' (first|refine gwA ?_|(refine gwX ?_;intro Q hQ hP;simp [hC,hY,h4,hg,hx,ht];refine hQ _ _ _ _ (by kernel_rfl) ?_;clear hQ hP Q)|(refine gwC ?_ ?_<;>(intro hb;try (cases hb;done))))
       refine ⟨.inr rfl,by simp [Tryz.results56],kpS G0F⟩
      | true =>
       cases hn:wiB nr 1 (Int.bmod (2*bx) 18446744073709551616) with
       | false =>
        have hw:whyS n f g bx tp nr md=⟨#[110,101,97,114]⟩:=by simp [whyS,h4,hm,hg,hx,ht,hn]
        rw [hw]
        unfold whSt cfB
        repeat' (first|refine gwA ?_|(refine gwX ?_;intro Q hQ hP;simp [hC,hY,h4,hg,hx,ht,hn];refine hQ _ _ _ _ (by kernel_rfl) ?_;clear hQ hP Q)|(refine gwC ?_ ?_<;>(intro hb;try (cases hb;done))))
        refine ⟨.inr rfl,by simp [Tryz.results56],kpS G0F⟩
       | true =>
        cases hd:wiB md 0 4 with
        | false =>
         have hw:whyS n f g bx tp nr md=⟨#[109,101,116,104,111,100]⟩:=by simp [whyS,h4,hm,hg,hx,ht,hn,hd]
         rw [hw]
         unfold whSt cfB
         repeat' (first|refine gwA ?_|(refine gwX ?_;intro Q hQ hP;simp [hC,hY,h4,hg,hx,ht,hn,hd];refine hQ _ _ _ _ (by kernel_rfl) ?_;clear hQ hP Q)|(refine gwC ?_ ?_<;>(intro hb;try (cases hb;done))))
         refine ⟨.inr rfl,by simp [Tryz.results56],kpS G0F⟩
        | true =>
         have hw:whyS n f g bx tp nr md=⟨#[]⟩:=by simp [whyS,h4,hm,hg,hx,ht,hn,hd]
         rw [hw]
         unfold whSt cfB
         repeat' (first|refine gwA ?_|(refine gwX ?_;intro Q hQ hP;simp [hC,hY,h4,hg,hx,ht,hn,hd];refine hQ _ _ _ _ (by kernel_rfl) ?_;clear hQ hP Q)|(refine gwC ?_ ?_<;>(intro hb;try (cases hb;done))))
         refine ⟨.inr rfl,by simp [Tryz.results56],kpS G0F⟩
   ·have hNn':N<n:=by omega
    have hend:=hend.resolve_left hNn
    have hm:allM f n=false:=by
     cases hm:allM f n with
     | false=>rfl
     | true=>have:=allM_iff.1 hm N hNn';rw [hend] at this;cases this
    have hw:whyS n f g bx tp nr md=⟨#[109,97,115,115]⟩:=by simp [whyS,h4,hm]
    rw [hw]
    have hi':(N:Int)<n:=by omega
    have hz:(0:Int)≤N:=by omega
    have hld:=h.at (i:=N) (by omega)
    unfold whSt cfB
    repeat' (first|refine gwA ?_|(refine gwX ?_;intro Q hQ hP;simp [hC,hY,hi',hz,hld,hend];refine hQ _ _ _ _ (by kernel_rfl) ?_;clear hQ hP Q)|(refine gwC ?_ ?_<;>(intro hb;try (cases hb;done))))
    refine ⟨.inr rfl,by simp [Tryz.results56],kpS G0F⟩
theorem chk11_fun (b:Blk) (off n cap:Nat) (f:Nat→Int) (h:MB b off n f) (g bx tp nr md:Int) :
  Fun Tryz.prog G0 38 #[cfV (.slice (some ⟨100,off,none⟩) n cap) g bx tp nr md] (hpL G0 [(100,b)]) (keys [(100,b)]) (.ret (.int .i64 (if cfOk n f g bx tp nr md=true then 0 else 110)) []):=by
 refine fun_ofL (B:=200) G0F Tryz.func38 rfl Tryz.call38 (oneL_ok h.fx) ?_ (by simp) (by simp) (by simp) (by simp [Tryz.ntmps38]) (by omega) ?_
 ·simp [idsV,idsA,idsF,ids0,keys,cfV]
 intro C hC hC0 hY
 have hr:=fun ρ=>Blk.fx_rn h.fx ρ
 have hne:=whyS_ne2 n f g bx tp nr md
 unfold cfV
 cases hc:cfOk n f g bx tp nr md with
 | true =>
  rw [hc] at hne
  repeat' (first|refine gwA ?_|((first|refine gwR [56] ?_|refine gwD [56] ?_);intro Q hQ hP;simp [hC,hY,hne];(repeat ((first|(refine heapK_mv (why11_fun b off n cap f h g bx tp nr md) G0F (B:=200) (oneL_ok h.fx) (fun k=>k) (fun k hk=>rfl) (by simp [ren,renA,renF,ren0,cfV]) (by simp) (by simp [hr]) (by simp [keys]) (by simp [keys];rfl) ?_));try simp [hC,hY,hne]));refine hQ _ _ _ _ (by kernel_rfl) ?_;clear hQ hP Q)|(refine gwC ?_ ?_<;>(intro hb;try (cases hb;done))))
  refine ⟨.inr rfl,by simp [Tryz.results38],kpS G0F⟩
 | false =>
  rw [hc] at hne
  repeat' (first|refine gwA ?_|((first|refine gwR [56] ?_|refine gwD [56] ?_);intro Q hQ hP;simp [hC,hY,hne];(repeat ((first|(refine heapK_mv (why11_fun b off n cap f h g bx tp nr md) G0F (B:=200) (oneL_ok h.fx) (fun k=>k) (fun k hk=>rfl) (by simp [ren,renA,renF,ren0,cfV]) (by simp) (by simp [hr]) (by simp [keys]) (by simp [keys];rfl) ?_));try simp [hC,hY,hne]));refine hQ _ _ _ _ (by kernel_rfl) ?_;clear hQ hP Q)|(refine gwC ?_ ?_<;>(intro hb;try (cases hb;done))))
  refine ⟨.inr rfl,by simp [Tryz.results38],kpS G0F⟩
theorem why11_nil (g bx tp nr md:Int):Ret Tryz.prog G0 56 #[.agg #[.slice none 0 0,.int .i64 g,.int .i64 bx,.int .i64 tp,.int .i64 nr,.int .i64 md]] (.string ⟨#[98,111,100,105,101,115]⟩):=by
 refine ret_of G0F Tryz.func56 rfl Tryz.call56 (by simp) (by simp) (by simp [Tryz.ntmps56]) ?_
 intro C hC hC0 hY
 have h4:wiB 0 1 4=false:=by decide
 repeat' (first|refine gwA ?_|(refine gwX ?_;intro Q hQ hP;simp [hC,hY,h4];refine hQ _ _ _ _ (by kernel_rfl) ?_;clear hQ hP Q)|(refine gwC ?_ ?_<;>(intro hb;try (cases hb;done))))
 refine ⟨.inr trivial,?_⟩
 simp [Tryz.results56]
@[simp] theorem why11N (g bx tp nr md:Int) (K:Value→Prop):callK Tryz.prog G0 56 #[.agg #[.slice none 0 0,.int .i64 g,.int .i64 bx,.int .i64 tp,.int .i64 nr,.int .i64 md]] K↔K (.string ⟨#[98,111,100,105,101,115]⟩):=callK_iff G0W (by kernel_rfl) (why11_nil g bx tp nr md)

theorem chk11_nil (g bx tp nr md:Int):Ret Tryz.prog G0 38 #[cfV (.slice none 0 0) g bx tp nr md] (.int .i64 110):=by
 unfold cfV
 refine ret_of G0F Tryz.func38 rfl Tryz.call38 (by simp) (by simp) (by simp [Tryz.ntmps38]) ?_
 intro C hC hC0 hY
 have hne:sneB ⟨#[98,111,100,105,101,115]⟩ ⟨#[]⟩=true:=by decide +kernel
 repeat' (first|refine gwA ?_|(refine gwX ?_;intro Q hQ hP;simp [hC,hY,hne];refine hQ _ _ _ _ (by kernel_rfl) ?_;clear hQ hP Q)|(refine gwC ?_ ?_<;>(intro hb;try (cases hb;done))))
 refine ⟨.inr trivial,?_⟩
 simp [Tryz.results38]
@[simp] theorem chk11N (g bx tp nr md:Int) (K:Value→Prop):callK Tryz.prog G0 38 #[.agg #[.slice none 0 0,.int .i64 g,.int .i64 bx,.int .i64 tp,.int .i64 nr,.int .i64 md]] K↔K (.int .i64 110):=callK_iff G0W (by kernel_rfl) (chk11_nil g bx tp nr md)
end Go.Gy
namespace Go.Gy
set_option linter.unusedSimpArgs false
set_option linter.unusedVariables false
open Go Go.RowKit
theorem weakRLL {C:Ctx} {G:Hp} {s:GS} {m L:List (Nat×Blk)} (ρ:Nat→Nat) (l:List (Nat×Value)) (B:Nat) (hG:C.G=G) (hGF:GFlat G) (hL:LOk L 200) (hfx:∀ p∈L,p.2.fx) (h0:C.hp0=hpL G L) (hB:200≤B)
  (hl:∀ p∈l,s.ts p.1=ren ρ p.2∧s.ts p.1≠junk∧idsV (dom (hpL G (m++L))) p.2)
  (hm:∀ p∈m,s.hp (ρ p.1)=some (p.2.rn ρ)∧p.2.ids (dom (hpL G (m++L)))∧200≤p.1∧p.1<B∧200≤ρ p.1)
  (hi:∀ p∈m,∀ q∈m,ρ p.1=ρ q.1→p.1=q.1) (hid:∀ k,k<200→ρ k=k) (hk:∀ p∈L,s.hp p.1=some p.2):WeakR C ρ s ⟨tsL l,hpL G (m++L),B,s.yc⟩:=by
 refine weakRL ρ l B hG hGF h0 (by omega) hl (fun p hp=>?_) (fun p hp q hq e=>?_) (fun k hk=>hid k (by omega)) (fun p hp=>?_)
 ·rcases List.mem_append.1 hp with h|h
  ·have:=hm p h
   exact ⟨this.1,this.2.1,by omega,this.2.2.2.1,by omega⟩
  ·have hb:=hL.big p h
   rw [hid p.1 hb.2,Blk.fx_rn (hfx p h) ρ]
   exact ⟨hk p h,Blk.fx_ids (hfx p h) _,hb.1,by omega,hb.1⟩
 ·rcases List.mem_append.1 hp with h|h<;>rcases List.mem_append.1 hq with h'|h'
  ·exact hi p h q h' e
  ·have:=(hm p h).2.2.2.2
   have hb:=hL.big q h'
   rw [hid q.1 hb.2] at e
   omega
  ·have:=(hm q h').2.2.2.2
   have hb:=hL.big p h
   rw [hid p.1 hb.2] at e
   omega
  ·rw [hid p.1 (hL.big p h).2,hid q.1 (hL.big q h').2] at e
   exact e
 ·have hb:=hL.big p hp
  exact ⟨hb.1,dom_app (mem_keys.2 ⟨p,hp,rfl⟩),hid p.1 hb.2⟩
end Go.Gy
namespace Go.Gy
set_option linter.unusedSimpArgs false
set_option linter.unusedVariables false
open Go Go.RowKit Go.Proofs
theorem cfOk_mass {n:Nat} {f:Nat→Int} {g bx tp nr md:Int} (h:cfOk n f g bx tp nr md=true) {i:Nat} (hi:i<n):1≤f i∧f i≤1024:=by
 unfold cfOk at h
 simp only [Bool.and_eq_true] at h
 have h2:=h.2.1
 unfold allM at h2
 rw [List.all_eq_true] at h2
 have:=h2 i (by simpa using hi)
 unfold wiB at this
 simpa using this
theorem cfOk_g {n:Nat} {f:Nat→Int} {g bx tp nr md:Int} (h:cfOk n f g bx tp nr md=true):1≤g∧g≤1048576:=by
 unfold cfOk at h
 simp only [Bool.and_eq_true] at h
 have:=h.2.2.1
 unfold wiB at this
 simpa using this
theorem fitB_iff {n n2:Nat} {okc rt:Bool}:fitB n n2 okc rt=true↔n=n2∧okc=true∧rt=true:=by
 unfold fitB
 simp
theorem sq_in {a m:Int} (h:inW m a):0≤a*a∧a*a≤m*m:=by
 obtain ⟨h0,h1,h2⟩:=h
 by_cases c:0≤a
 ·exact ⟨Int.mul_nonneg c c,Int.mul_le_mul h2 h2 c h0⟩
 ·rw [←Int.neg_mul_neg]
  exact ⟨Int.mul_nonneg (by omega) (by omega),Int.mul_le_mul (by omega) (by omega) (by omega) h0⟩
theorem eBodyAt {b:Blk} {off n:Nat} {f:Nat→Int} (h:SB b off n f) (i:Nat) (hi:i<n) (o:Nat) (e:o=off+i*6):loadK Tryz.prog 45 b o=some (.agg #[.int .i64 (f (6*i)),.int .i64 (f (6*i+1)),.int .i64 (f (6*i+2)),.int .i64 (f (6*i+3)),.int .i64 (f (6*i+4)),.int .i64 (f (6*i+5))]):=by rw [e];exact h.body hi
theorem eMassAt {b:Blk} {off n:Nat} {f:Nat→Int} (h:MB b off n f) (i:Nat) (hi:i<n) (o:Nat) (e:o=off+i):loadK Tryz.prog 3 b o=some (.int .i64 (f i)):=by rw [e];exact h.at hi
def ezB (cq:Array Value):Blk:=⟨cq,.raw 24 (0,0)⟩
theorem ezB_rn {cq:Array Value} {ρ:Nat→Nat}:(ezB cq).rn ρ=ezB cq:=rfl
theorem ezB_ids {cq:Array Value} {D:Nat→Prop}:(ezB cq).ids D:=trivial
theorem ez_ld {cq:Array Value} {g:Int} (h1:cq[1]? = some (.int .i64 g)):loadK Tryz.prog 3 ⟨cq,.raw 24 (0,0)⟩ 1=some (.int .i64 g):=by
 unfold loadK
 simp [h1,flatV,flatF,flat0]
theorem eIn {asd:List Nat} {f g:Hp} {k:Nat} (h:k∈asd):addB asd f g k=f k:=if_pos h
theorem eNi {asd:List Nat} {f g:Hp} {k:Nat} (h:k∉asd):addB asd f g k=g k:=if_neg h
theorem eOut {G:Hp}:∀ {L:List (Nat×Blk)} {k:Nat},k∉keys L→hpL G L k=G k
 | [],_,_=>rfl
 | (q,c)::L,k,h=>by
  simp only [keys,List.map_cons,List.mem_cons,not_or] at h
  rw [hpL_cons,if_neg h.1]
  exact eOut h.2
theorem right_iff {st:Int} {f:Nat→Int} {n:Nat}:rightB st f n=true↔stB st=true∧(1≤n∧n≤4)∧∀ i,i<n→inB 1048576 65536 f i=true:=by
 unfold rightB
 simp only [Bool.and_eq_true,decide_eq_true_eq,allB_iff]
 exact ⟨fun h=>⟨h.1.1,h.1.2,h.2⟩,fun h=>⟨⟨h.1,h.2.1⟩,h.2.2⟩⟩
def d2F (f:Nat→Int) (i k:Nat):Int:=(f (6*i) - f (6*k))*(f (6*i) - f (6*k))+(f (6*i+1) - f (6*k+1))*(f (6*i+1) - f (6*k+1))+(f (6*i+2) - f (6*k+2))*(f (6*i+2) - f (6*k+2))
theorem sq_sym (a b:Int):(a - b)*(a - b)=(b - a)*(b - a):=by
 rw [show a - b=-(b - a) by omega,Int.neg_mul_neg]
theorem d2F_sym (f:Nat→Int) (i k:Nat):d2F f i k=d2F f k i:=by
 unfold d2F
 rw [sq_sym (f (6*i)),sq_sym (f (6*i+1)),sq_sym (f (6*i+2))]
def swF (f:Nat→Int) (a b:Nat):Nat→Int:=fun j=>f (6*sw a b (j / 6)+j%6)
theorem swF_0 (f:Nat→Int) (a b i:Nat):swF f a b (6*i)=f (6*sw a b i):=by
 unfold swF
 rw [show 6*i / 6=i by omega,show 6*i%6=0 by omega]
 rfl
theorem swF_u (f:Nat→Int) (a b i:Nat) {u:Nat} (hu:u<6):swF f a b (6*i+u)=f (6*sw a b i+u):=by
 unfold swF
 rw [show (6*i+u) / 6=i by omega,show (6*i+u)%6=u by omega]
theorem right_sw {st:Int} {f:Nat→Int} {n a b:Nat} (h:rightB st f n=true) (ha:a<n) (hb:b<n):rightB st (swF f a b) n=true:=by
 obtain ⟨h1,h2,h3⟩:=right_iff.1 h
 refine right_iff.2 ⟨h1,h2,fun i hi=>?_⟩
 have:=h3 (sw a b i) (sw_lt ha hb hi)
 unfold inB at this ⊢
 rw [swF_0,swF_u _ _ _ _ (by omega),swF_u _ _ _ _ (by omega),swF_u _ _ _ _ (by omega),swF_u _ _ _ _ (by omega),swF_u _ _ _ _ (by omega)]
 exact this
theorem cfOk_sw {n:Nat} {f:Nat→Int} {g bx tp nr md:Int} {a b:Nat} (h:cfOk n f g bx tp nr md=true) (ha:a<n) (hb:b<n):cfOk n (fun i=>f (sw a b i)) g bx tp nr md=true:=by
 unfold cfOk at h ⊢
 rw [Bool.and_eq_true,Bool.and_eq_true] at h ⊢
 exact ⟨h.1,allM_iff.2 fun i hi=>allM_iff.1 h.2.1 _ (sw_lt ha hb hi),h.2.2⟩
theorem d2F_sw (f:Nat→Int) (a b i k:Nat):d2F (swF f a b) i k=d2F f (sw a b i) (sw a b k):=by
 unfold d2F
 rw [swF_0,swF_0,swF_u _ _ _ _ (by omega),swF_u _ _ _ _ (by omega),swF_u _ _ _ _ (by omega),swF_u _ _ _ _ (by omega)]
end Go.Gy
namespace Go.Gy
set_option linter.unusedSimpArgs false
set_option linter.unusedVariables false
open Go Go.RowKit Go.Proofs
def OwnC (nk n:Nat) (f:Nat→Int) (g bx tp nr md:Int) (v:Value) (ns:List (Nat×Blk)):Prop:=∃ (c M:Nat) (h:Nat→Int),n≤c∧n≤M∧(∀ j,j<n→h j=f j)∧v=cfV (.slice (some ⟨nk,0,none⟩) n c) g bx tp nr md∧ns=[(nk,⟨fa M .i64 h,.ty 3⟩)]
theorem ownc_fit {b:Blk} {n:Nat} {f:Nat→Int} {g bx tp nr md:Int} (v:Value) (ns:List (Nat×Blk)) (h:OwnC 1000 n f g bx tp nr md v ns):idsV (extD (fun k=>k∈keys [(100,b)]) ns) v∧(∀ p∈ns,200≤p.1∧p.2.ids (extD (fun k=>k∈keys [(100,b)]) ns))∧(∀ k b c,(k,b)∈ns→(k,c)∈ns→b=c):=by
 obtain ⟨c,M,h,h1,h2,h3,rfl,rfl⟩:=h
 refine ⟨by simp [cfV,idsV,idsA,idsF,ids0,extD,keys],?_,?_⟩
 ·simp only [List.mem_singleton,forall_eq]
  exact ⟨by omega,Blk.fx_ids (fa_fx _ _ _) _⟩
 ·intro k b c h1 h2
  simp at h1 h2
  rw [h1.2,h2.2]
set_option maxHeartbeats 1000000 in
theorem own11_fun (b:Blk) (off n cap:Nat) (f:Nat→Int) (h:MB b off n f) (hcap:n≤cap) (g bx tp nr md:Int) :
  FunS Tryz.prog G0 23 #[cfV (.slice (some ⟨100,off,none⟩) n cap) g bx tp nr md] (hpL G0 [(100,b)]) (keys [(100,b)]) (OwnC 1000 n f g bx tp nr md):=by
 refine newS_ofL (B:=200) G0F Tryz.func23 rfl Tryz.call23 (oneL_ok h.fx) ?_ ownc_fit (by simp [Tryz.ntmps23]) (by omega) ?_
 ·simp [idsV,idsA,idsF,ids0,keys,cfV]
 intro C hC hC0 hY
 have hnn:=h.nn
 have hbrd:=Blk.fx_rd h.fx
 unfold cfV
 repeat' (first|refine gwA ?_|(refine gwX ?_;intro Q hQ hP;simp [hC,hY];refine hQ _ _ _ _ (by kernel_rfl) ?_;clear hQ hP Q)|(refine gwC ?_ ?_<;>(intro hb;try (cases hb;done))))
 refine GW_list ?_
 simp only [Array.toList]
 refine GL_bs0 rfl (by simp) rfl Tryz.underlying22 (tySize_of Tryz.sizeOf3) ?_
 refine GL_walk 2 [] rfl (by simp) (by kernel_rfl) ?_;intro q hq;simp [hC,hY];refine hq _ _ _ _ ?_;clear hq q
 simp only [wT,List.length_cons,List.length_nil,Nat.reduceAdd]
 by_cases hn0:n=0
 ·subst hn0
  refine GL_appZ (p:=some (216,0)) (q:=some (100,off)) rfl (by simp) rfl Tryz.underlying22 (tySize_of Tryz.sizeOf3) (by simp;try rfl) (by simp;try rfl) (Nat.le_refl _) ?_
  refine GL_walk 2 [] rfl (by simp) (by kernel_rfl) ?_;intro q hq;simp [hC,hY,putT];refine hq _ _ _ _ ?_;clear hq q
  simp only [wT,List.length_cons,List.length_nil,Nat.reduceAdd]
  refine GL_nil ?_
  repeat' (first|refine gwA ?_|(refine gwX ?_;intro Q hQ hP;simp [hC,hY];refine hQ _ _ _ _ (by kernel_rfl) ?_;clear hQ hP Q)|(refine gwC ?_ ?_<;>(intro hb;try (cases hb;done))))
  refine ⟨.inr trivial,kpS G0F,_,_,fun k=>if k=1000 then 216 else k,⟨0,0,f,Nat.le_refl _,by omega,fun _ _=>rfl,rfl,rfl⟩,fun k hk=>if_neg (by omega),by simp,by simp,by simp [Tryz.results23,cfV,ren,renA,renF,ren0],?_⟩
  simp [fa,Blk.rn]
 ·refine GL_app0 (p:=some ⟨216,0,none⟩) (j:=100) (b2:=b) (off2:=off) (m:=n) (m':=cap) (nw:=(fa n .i64 f).toList) (sz:=1) (by':=8) (z:=.int .i64 0) rfl (by simp) rfl Tryz.underlying22 (tySize_of Tryz.sizeOf3) ?_ ?_ ?_ ?_ ?_ (rdI_nw h.rd) fa_list_flat (fun q x hx=>?_) (by omega) (by simp) (by unfold maxLen;omega) (by omega) (fun cap' hc'=>?_)
  ·kernel_rfl
  ·kernel_rfl
  ·simp
  ·simp
  ·simp
  ·have:=zc_mem hx
   simp [Value.cells] at this
   subst this
   rfl
  ·rw [zeros_fa (k:=.i64) (by simp [Value.cells]),app_new]
   refine GL_walk 2 [] rfl (by simp) (by kernel_rfl) ?_;intro q hq;simp [hC,hY,putT];refine hq _ _ _ _ ?_;clear hq q
   simp only [wT,List.length_cons,List.length_nil,Nat.reduceAdd]
   refine GL_nil ?_
   repeat' (first|refine gwA ?_|(refine gwX ?_;intro Q hQ hP;simp [hC,hY];refine hQ _ _ _ _ (by kernel_rfl) ?_;clear hQ hP Q)|(refine gwC ?_ ?_<;>(intro hb;try (cases hb;done))))
   refine ⟨.inr trivial,kpS G0F,_,_,fun k=>if k=1000 then 216+24 else k,⟨cap',n+(cap' - n)*1,catN f n 0 f,hc',?_,?_,rfl,rfl⟩,fun k hk=>if_neg (by omega),by simp,by simp,by simp [Tryz.results23,cfV,ren,renA,renF,ren0],?_⟩
   ·omega
   ·intro j hj
    unfold catN
    rw [if_pos (by omega)]
   ·simp only [List.mem_singleton,forall_eq]
    rw [fa_rn]
    simp [Value.cells]
def r2n (a nk k:Nat):Nat:=if k=100 then a else if k=1000 then nk else k
theorem r2n_a {a nk:Nat}:r2n a nk 100=a:=rfl
theorem r2n_k {a nk:Nat}:r2n a nk 1000=nk:=rfl
theorem r2n_low {a nk:Nat} (k:Nat) (h:k<100):r2n a nk k=k:=by
 unfold r2n
 rw [if_neg (by omega),if_neg (by omega)]
theorem FunS.own2 {fn:FuncId} {args args':Array Value} {b:Blk} {R R':Value→List (Nat×Blk)→Prop} (h:FunS Tryz.prog G0 fn args (hpL G0 [(100,b)]) (keys [(100,b)]) R) (hb:b.fx) (a nk:Nat) (ha:100≤a) (hk:100≤nk) (hne:a≠nk) (hR:∀ v ns,R v ns→∀ k∈keys ns,k=1000) (ea:args.map (ren (r2n a nk))=args') (eR:RR (r2n a nk) R=R') :
  FunS Tryz.prog G0 fn args' (hpL G0 [(a,b)]) [a] R':=by
 refine h.mvL G0F (oneL_ok hb) (r2n a nk) r2n_low ea (by simp [keys,r2n_a]) eR (fun k hk=>?_) ?_ (by simp [keys]) (fun v ns hV k hk=>?_) (fun v ns hV k hk l hl _=>by rw [hR v ns hV k hk,hR v ns hV l hl])
 ·rw [hpL_cons,if_neg (by omega)]
  rfl
 ·simp only [List.mem_singleton,forall_eq]
  rw [Blk.fx_rn hb,r2n_a]
  exact ⟨ha,by simp⟩
 ·rw [hR v ns hV k hk,r2n_k]
  simp
  exact ⟨by omega,fun e=>hne e.symm⟩
theorem ownS_rr2 {nk:Nat} {ρ:Nat→Nat} (h:ρ 1000=nk) (st:Int) (n:Nat) (f:Nat→Int):RR ρ (OwnS 1000 st n f)=OwnS nk st n f:=by
 funext v ns
 apply propext
 constructor
 ·rintro ⟨v0,ns0,⟨c,M,g,h1,h2,h3,rfl,rfl⟩,rfl,rfl⟩
  exact ⟨c,M,g,h1,h2,h3,by simp [ren,renA,renF,ren0,h],by simp [rnL,fa_rn,h]⟩
 ·rintro ⟨c,M,g,h1,h2,h3,rfl,rfl⟩
  exact ⟨_,_,⟨c,M,g,h1,h2,h3,rfl,rfl⟩,by simp [ren,renA,renF,ren0,h],by simp [rnL,fa_rn,h]⟩
theorem ownC_rr2 {nk:Nat} {ρ:Nat→Nat} (h0:ρ 1000=nk) (n:Nat) (f:Nat→Int) (g bx tp nr md:Int):RR ρ (OwnC 1000 n f g bx tp nr md)=OwnC nk n f g bx tp nr md:=by
 funext v ns
 apply propext
 constructor
 ·rintro ⟨v0,ns0,⟨c,M,h,h1,h2,h3,rfl,rfl⟩,rfl,rfl⟩
  exact ⟨c,M,h,h1,h2,h3,by simp [cfV,ren,renA,renF,ren0,h0],by simp [rnL,fa_rn,h0]⟩
 ·rintro ⟨c,M,h,h1,h2,h3,rfl,rfl⟩
  exact ⟨_,_,⟨c,M,h,h1,h2,h3,rfl,rfl⟩,by simp [cfV,ren,renA,renF,ren0,h0],by simp [rnL,fa_rn,h0]⟩
theorem ownS_key {nk:Nat} {st:Int} {n:Nat} {f:Nat→Int} {v:Value} {ns:List (Nat×Blk)} (h:OwnS nk st n f v ns):∀ k∈keys ns,k=nk:=fun k hk=>by
 obtain ⟨c,M,g,h1,h2,h3,rfl,rfl⟩:=h
 simpa [keys] using hk
theorem ownC_key {nk:Nat} {n:Nat} {f:Nat→Int} {g bx tp nr md:Int} {v:Value} {ns:List (Nat×Blk)} (h:OwnC nk n f g bx tp nr md v ns):∀ k∈keys ns,k=nk:=fun k hk=>by
 obtain ⟨c,M,g,h1,h2,h3,rfl,rfl⟩:=h
 simpa [keys] using hk
theorem own10_nm (a nk:Nat) (ha:100≤a) (hk:100≤nk) (hne:a≠nk) (b:Blk) (off n cap:Nat) (f:Nat→Int) (h:SB b off n f) (hcap:n≤cap) (st:Int) :
  FunS Tryz.prog G0 22 #[.agg #[.int .i64 st,.slice (some ⟨a,off,none⟩) n cap]] (hpL G0 [(a,b)]) [a] (OwnS nk st n f) :=
 (own10_fun b off n cap f h hcap st).own2 h.fx a nk ha hk hne (fun v ns=>ownS_key) (by simp [ren,renA,renF,ren0,r2n_a]) (ownS_rr2 r2n_k st n f)
theorem own11_nm (a nk:Nat) (ha:100≤a) (hk:100≤nk) (hne:a≠nk) (b:Blk) (off n cap:Nat) (f:Nat→Int) (h:MB b off n f) (hcap:n≤cap) (g bx tp nr md:Int) :
  FunS Tryz.prog G0 23 #[cfV (.slice (some ⟨a,off,none⟩) n cap) g bx tp nr md] (hpL G0 [(a,b)]) [a] (OwnC nk n f g bx tp nr md) :=
 (own11_fun b off n cap f h hcap g bx tp nr md).own2 h.fx a nk ha hk hne (fun v ns=>ownC_key) (by simp [cfV,ren,renA,renF,ren0,r2n_a]) (ownC_rr2 r2n_k n f g bx tp nr md)
def eqB (f g:Nat→Int) (i:Nat):Bool:=f (6*i)==g (6*i)&&(f (6*i+1)==g (6*i+1)&&(f (6*i+2)==g (6*i+2)&&(f (6*i+3)==g (6*i+3)&&(f (6*i+4)==g (6*i+4)&&f (6*i+5)==g (6*i+5)))))
def sameB (st st':Int) (n n':Nat) (f g:Nat→Int):Bool:=st==st'&&(n==n'&&(List.range n).all (eqB f g))
theorem eqB_iff {f g:Nat→Int} {i:Nat}:eqB f g i=true↔∀ u,u<6→f (6*i+u)=g (6*i+u):=by
 unfold eqB
 simp only [Bool.and_eq_true,beq_iff_eq]
 constructor
 ·rintro ⟨h0,h1,h2,h3,h4,h5⟩ u hu
  obtain rfl|rfl|rfl|rfl|rfl|rfl:u=0∨u=1∨u=2∨u=3∨u=4∨u=5:=by omega
  ·exact h0
  ·exact h1
  ·exact h2
  ·exact h3
  ·exact h4
  ·exact h5
 ·intro h
  exact ⟨h 0 (by omega),h 1 (by omega),h 2 (by omega),h 3 (by omega),h 4 (by omega),h 5 (by omega)⟩
theorem allE_iff {f g:Nat→Int} {n:Nat}:(List.range n).all (eqB f g)=true↔∀ j,j<6*n→f j=g j:=by
 simp only [List.all_eq_true,List.mem_range,eqB_iff]
 constructor
 ·intro h j hj
  have:=h (j / 6) (by omega) (j%6) (by omega)
  rwa [show 6*(j / 6)+j%6=j by omega] at this
 ·intro h i hi u hu
  exact h _ (by omega)
theorem sameB_iff {st st':Int} {n n':Nat} {f g:Nat→Int}:sameB st st' n n' f g=true↔st=st'∧n=n'∧∀ j,j<6*n→f j=g j:=by
 unfold sameB
 rw [Bool.and_eq_true,Bool.and_eq_true,allE_iff,beq_iff_eq,beq_iff_eq]
theorem six_ne:∀ a b c d e f:Bool,(a&&(b&&(c&&(d&&(e&&f)))))=false→((!a||(!b||!c))||(!d||(!e||!f)))=true:=by decide
def smL (b b':Blk):List (Nat×Blk):=[(100,b),(108,b')]
theorem smL_ok {b b':Blk} (hb:b.fx) (hb':b'.fx):LOk (smL b b') 200:=⟨by simp [smL],by simp [smL,keys],by
 simp only [smL,List.mem_cons,List.not_mem_nil,or_false,forall_eq_or_imp,forall_eq]
 exact ⟨Blk.fx_ids hb _,Blk.fx_ids hb' _⟩⟩
def smSt (b b':Blk) (st st':Int) (off off' n n' cap cap' i:Nat):GS :=
 ⟨tsL [(2,.pointer (some ⟨200,0,none⟩)),(3,.pointer (some ⟨208,0,none⟩)),(5,.int .i64 i)],hpL G0 [(100,b),(108,b'),(200,⟨#[.int .i64 st,.slice (some ⟨100,off,none⟩) n cap],.ty 27⟩),(208,⟨#[.int .i64 st',.slice (some ⟨108,off',none⟩) n' cap'],.ty 27⟩)],400,0⟩
set_option maxRecDepth 8000 in
set_option maxHeartbeats 4000000 in
theorem same_fun (b b':Blk) (off off' n n' cap cap':Nat) (f g:Nat→Int) (h:SB b off n f) (h':SB b' off' n' g) (st st':Int) :
  Fun Tryz.prog G0 16 #[.agg #[.int .i64 st,.slice (some ⟨100,off,none⟩) n cap],.agg #[.int .i64 st',.slice (some ⟨108,off',none⟩) n' cap']] (hpL G0 (smL b b')) (keys (smL b b')) (.ret (.bool (sameB st st' n n' f g)) []):=by
 refine fun_ofL (B:=200) G0F Tryz.func16 rfl Tryz.call16 (smL_ok h.fx h'.fx) ?_ (by simp) (by simp) (by simp) (by simp [Tryz.ntmps16]) (by omega) ?_
 ·simp [idsV,idsA,idsF,ids0,keys,smL]
 intro C hC hC0 hY
 have hnn:=h.nn
 have hid:=fun D=>Blk.fx_ids h.fx D
 have hid':=fun D=>Blk.fx_ids h'.fx D
 unfold smL at hC0 ⊢
 by_cases cs:st=st'
 ·by_cases cn:n=n'
  ·subst cs cn
   obtain ⟨N,hN,hlt,hend⟩:=leadB (eqB f g) n
   have hval:sameB st st n n f g=decide (N=n):=by
    unfold sameB
    simp only [beq_self_eq_true,Bool.true_and]
    by_cases hNn:N=n
    ·subst hNn
     rw [decide_eq_true rfl]
     simpa using hlt
    ·rw [decide_eq_false hNn]
     cases hb:(List.range n).all (eqB f g) with
     | false=>rfl
     | true =>
      have:=List.all_eq_true.1 hb N (by simp;omega)
      rw [hend.resolve_left hNn] at this
      cases this
   rw [hval]
   repeat' (first|refine gwA ?_|(refine gwX ?_;intro Q hQ hP;simp [hC,hY];refine hQ _ _ _ _ (by kernel_rfl) ?_;clear hQ hP Q)|(refine gwC ?_ ?_<;>(intro hb;try (cases hb;done))))
   refine GW_for N (smSt b b' st st off off' n n cap cap') ?_ ?_ ?_
   ·refine weakL _ 400 hC G0F (m0:=[(100,b),(108,b')]) hC0 (by omega) ?_ ?_ ?_
    ·simp [idsV,idsA,idsF,ids0,dom]
    ·simp [ids_lit,idsF,ids0,hid,hid',dom]
    ·simp
   ·intro i hi
    have hin:i<n:=by omega
    have hi':(i:Int)<n:=by omega
    have hz:(0:Int)≤i:=by omega
    have hs:Int.bmod ((i:Int)+1) 18446744073709551616=((i+1:Nat):Int):=by rw [bm (by omega) (by omega)];rfl
    have hld:=h.body hin
    have hld':=h'.body hin
    have he:=eqB_iff.1 (hlt i hi)
    have e0:=he 0 (by omega)
    have e1:=he 1 (by omega)
    have e2:=he 2 (by omega)
    have e3:=he 3 (by omega)
    have e4:=he 4 (by omega)
    have e5:=he 5 (by omega)
    simp only [Nat.add_zero] at e0
    unfold smSt
    repeat' (first|refine gwA ?_|(refine gwX ?_;intro Q hQ hP;simp [hC,hY,hi,hin,hi',hz,hs,hld,hld',e0,e1,e2,e3,e4,e5];refine hQ _ _ _ _ (by kernel_rfl) ?_;clear hQ hP Q)|(refine gwC ?_ ?_<;>(intro hb;try (cases hb;done))))
    refine weakL _ 400 hC G0F (m0:=[(100,b),(108,b')]) hC0 (by omega) ?_ ?_ ?_
    ·simp [idsV,idsA,idsF,ids0,dom,hs]
    ·simp [ids_lit,idsF,ids0,hid,hid',dom]
    ·simp
   ·by_cases hNn:N=n
    ·rw [decide_eq_true hNn]
     subst hNn
     unfold smSt
     repeat' (first|refine gwA ?_|(refine gwX ?_;intro Q hQ hP;simp [hC,hY];refine hQ _ _ _ _ (by kernel_rfl) ?_;clear hQ hP Q)|(refine gwC ?_ ?_<;>(intro hb;try (cases hb;done))))
     refine ⟨.inr rfl,by simp [Tryz.results16],kpS G0F⟩
    ·rw [decide_eq_false hNn]
     have hin:N<n:=by omega
     have hi':(N:Int)<n:=by omega
     have hz:(0:Int)≤N:=by omega
     have hld:=h.body hin
     have hld':=h'.body hin
     have hne:=hend.resolve_left hNn
     unfold eqB at hne
     replace hne:=six_ne _ _ _ _ _ _ hne
     unfold smSt
     repeat' (first|refine gwA ?_|(refine gwX ?_;intro Q hQ hP;simp [hC,hY,hin,hi',hz,hld,hld',hne];refine hQ _ _ _ _ (by kernel_rfl) ?_;clear hQ hP Q)|(refine gwC ?_ ?_<;>(intro hb;try (cases hb;done))))
     refine ⟨.inr rfl,by simp [Tryz.results16],kpS G0F⟩
  ·have hval:sameB st st' n n' f g=false:=by
    unfold sameB
    rw [show (n==n')=false by simpa using cn]
    simp
   rw [hval]
   subst cs
   have cn':((n:Int)==(n':Int))=false:=by simp;omega
   have cn2:(n==n')=false:=by simpa using cn
   have cn3:((n:Int) != (n':Int))=true:=by unfold bne;rw [cn'];rfl
   repeat' (first|refine gwA ?_|(refine gwX ?_;intro Q hQ hP;simp [hC,hY,cn,cn',cn2,cn3];refine hQ _ _ _ _ (by kernel_rfl) ?_;clear hQ hP Q)|(refine gwC ?_ ?_<;>(intro hb;try (cases hb;done))))
   refine ⟨.inr rfl,by simp [Tryz.results16],kpS G0F⟩
 ·have hval:sameB st st' n n' f g=false:=by
   unfold sameB
   rw [show (st==st')=false by simpa using cs]
   simp
  rw [hval]
  have cs':(st==st')=false:=by simpa using cs
  have cs2:(st != st')=true:=by unfold bne;rw [cs'];rfl
  repeat' (first|refine gwA ?_|(refine gwX ?_;intro Q hQ hP;simp [hC,hY,cs,cs',cs2];refine hQ _ _ _ _ (by kernel_rfl) ?_;clear hQ hP Q)|(refine gwC ?_ ?_<;>(intro hb;try (cases hb;done))))
  refine ⟨.inr rfl,by simp [Tryz.results16],kpS G0F⟩
theorem G0_no:G0 0=none:=by simp [G0,G0L]
theorem G0_sub {k:Nat} {b:Blk} (h:G0 k=some b):G1 k=some b:=by
 have h0:¬k=0:=fun e=>by rw [e,G0_no] at h;cases h
 unfold G1
 rw [hpL_cons,if_neg h0]
 exact h
theorem lmB_fx:lmB.fx:=fun x hx=>by
 simp only [lmB,List.mem_toArray,List.mem_cons,List.not_mem_nil,or_false] at hx
 rcases hx with h|h|h|h|h|h|h|h|h|h|h|h<;>(rw [h];rfl)
theorem up_mv {m:List (Nat×Blk)} {B:Nat} (ok:LOk m B):MvG G0 G1 m m (fun k=>k):=by
 refine ⟨G0F,G1F,⟨B,ok⟩,⟨B,ok⟩,fun k b h=>⟨G0_sub h,rfl⟩,fun p hp=>⟨p.2,LOk.at ok.one p hp,fun r=>by rw [Blk.rn_id]⟩,fun k _ l _ e=>e,fun k hk l b hl e=>?_⟩
 obtain ⟨p,hp,rfl⟩:=mem_keys.1 hk
 have:=(ok.big p hp).1
 have:=(G0F l b hl).1
 omega
theorem ren_idA {args:Array Value}:args.map (ren fun k=>k)=args:=by
 rw [show (ren fun k=>k)=id from funext fun v=>ren_id v]
 simp
theorem rnL_idL {ws:List (Nat×Blk)}:rnL (fun k=>k) ws=ws:=by
 unfold rnL
 rw [List.map_congr_left (g:=id) fun p _=>by rw [Blk.rn_id];rfl]
 simp
theorem RR_id {R:Value→List (Nat×Blk)→Prop}:RR (fun k=>k) R=R:=by
 funext v ns
 apply propext
 constructor
 ·rintro ⟨v0,ns0,h,rfl,rfl⟩
  rw [ren_id,rnL_idL]
  exact h
 ·intro h
  exact ⟨v,ns,h,(ren_id v).symm,rnL_idL.symm⟩
theorem Fun.up1 {f:FuncId} {args:Array Value} {m ws:List (Nat×Blk)} {v:Value} {B:Nat} (h:Fun Tryz.prog G0 f args (hpL G0 m) (keys m) (.ret v ws)) (ok:LOk m B):Fun Tryz.prog G1 f args (hpL G1 m) (keys m) (.ret v ws):=by
 have:=h.mvG (up_mv ok) (fun k hk=>(h.fits.2.1 k hk).1) ren_idA
 rwa [ren_id,rnL_idL] at this
theorem FunS.up1 {f:FuncId} {args:Array Value} {m:List (Nat×Blk)} {R:Value→List (Nat×Blk)→Prop} {B:Nat} (h:FunS Tryz.prog G0 f args (hpL G0 m) (keys m) R) (ok:LOk m B):FunS Tryz.prog G1 f args (hpL G1 m) (keys m) R:=by
 refine h.mvG (up_mv ok) ren_idA RR_id (fun v ns hR k hk=>?_) (fun _ _ _ k _ l _ e=>e)
 have h1:=(h.fits v ns hR).2.1 k hk
 rw [LOk.rst (m:=m) G0F] at h1
 refine ⟨h1.1,fun hd=>h1.2 ?_⟩
 unfold dom at hd
 cases hb:hpL G1 m k with
 | none=>exact absurd hb hd
 | some b =>
  rcases hpL_mem hb with h2|h2
  ·exact ok.sub k (mem_keys.2 ⟨_,h2,rfl⟩)
  ·have:=(G1F k b h2).1
   omega
structure LKa (L:List (Nat×Blk)) (ka ks:Nat) (b b2:Blk):Prop where
 ok:LOk L 200
 fx:∀ p∈L,p.2.fx
 kb:(ks,b2)∈L
 k8:ks=100∨ks=108
 a8:ka=100∨ka=0
 am:ka=100→(100,b)∈L
 ag:ka=0→ks=100∧L=[(100,b2)]∧b=lmB
section
variable {L:List (Nat×Blk)} {ka ks:Nat} {b b2:Blk}
theorem LKa.mem (h:LKa L ka ks b b2) (p:Nat×Blk) (hp:p∈L):hpL G1 L p.1=some p.2:=LOk.at h.ok.one p hp
theorem LKa.a (h:LKa L ka ks b b2):hpL G1 L ka=some b:=by
 rcases h.a8 with e|e
 ·rw [e];exact h.mem _ (h.am e)
 ·obtain ⟨_,rfl,rfl⟩:=h.ag e
  rw [e]
  simp [G1]
theorem LKa.s (h:LKa L ka ks b b2):hpL G1 L ks=some b2:=h.mem _ h.kb
theorem LKa.k1 (h:LKa L ka ks b b2):100≤ks:=(h.ok.big _ h.kb).1
theorem LKa.k2 (h:LKa L ka ks b b2):ks<200:=(h.ok.big _ h.kb).2
theorem LKa.a2 (h:LKa L ka ks b b2):ka<200:=by rcases h.a8 with e|e<;>omega
theorem LKa.ne (h:LKa L ka ks b b2) (k:Nat) (hk:200≤k):(ks=k)=False:=by
 have:=h.k2
 simp only [eq_iff_iff,iff_false]
 omega
theorem LKa.na (h:LKa L ka ks b b2) (k:Nat) (hk:200≤k):(ka=k)=False:=by
 have:=h.a2
 simp only [eq_iff_iff,iff_false]
 omega
theorem LKa.low (h:LKa L ka ks b b2) (k:Nat) (hk:k<100):hpL G1 L k=G1 k:=h.ok.low k hk
theorem LKa.ia (h:LKa L ka ks b b2):dom (hpL G1 L) ka:=by unfold dom;rw [h.a];simp
theorem LKa.ib (h:LKa L ka ks b b2):dom (hpL G1 L) ks:=by unfold dom;rw [h.s];simp
theorem LKa.kbk (h:LKa L ka ks b b2):ks∈keys L:=mem_keys.2 ⟨_,h.kb,rfl⟩
theorem LKa.aQ (h:LKa L ka ks b b2):ka∈keys L∨(ka<100∧dom G1 ka):=by
 rcases h.a8 with e|e
 ·exact .inl (mem_keys.2 ⟨_,h.am e,e.symm⟩)
 ·refine .inr ⟨by omega,?_⟩
  unfold dom
  rw [e,G1_limits]
  simp
theorem LKa.two {x y:Blk} (hx:x.fx) (hy:y.fx):LKa [(100,x),(108,y)] 100 108 x y:=by
 have h:=LTwo.two (G:=G0) hx hy
 exact ⟨h.ok,h.fx,h.kb,.inr rfl,.inl rfl,fun _=>by simp,fun e=>by have:(100:Nat)=0:=e;omega⟩
theorem LKa.of {L:List (Nat×Blk)} {ks:Nat} {b b2:Blk} (h:LTwo G1 L ks b b2):LKa L 100 ks b b2:=⟨h.ok,h.fx,h.kb,h.k8,.inl rfl,fun _=>h.ka,fun e=>by have:(100:Nat)=0:=e;omega⟩
theorem LKa.lim {y:Blk} (hy:y.fx):LKa [(100,y)] 0 100 lmB y :=
 ⟨⟨by simp,by simp [keys],by simpa using Blk.fx_ids hy _⟩,by simpa using hy,by simp,.inl rfl,.inr rfl,fun e=>by have:0=(100:Nat):=e;omega,fun _=>⟨rfl,rfl,rfl⟩⟩
theorem LKa.tw (h:LKa L 100 ks b b2):LTwo G0 L ks b b2:=⟨h.ok,h.fx,h.am rfl,h.kb,h.k8⟩
end
def gmv (k:Nat):Nat:=if k=100 then 0 else if k=108 then 100 else k
theorem lim_mv {y:Blk} (hy:y.fx):MvG G0 G1 [(100,lmB),(108,y)] [(100,y)] gmv:=by
 have h:=LTwo.two (G:=G0) lmB_fx hy
 have h2:=LKa.lim hy
 refine ⟨G0F,G1F,⟨200,h.ok⟩,⟨200,h2.ok⟩,fun k b hk=>⟨G0_sub hk,?_⟩,?_,?_,?_⟩
 ·have:=(G0F k b hk).1
  unfold gmv
  rw [if_neg (by omega),if_neg (by omega)]
 ·intro p hp
  simp only [List.mem_cons,List.not_mem_nil,or_false] at hp
  rcases hp with rfl|rfl
  ·exact ⟨lmB,h2.a,fun r=>by rw [Blk.fx_rn lmB_fx]⟩
  ·exact ⟨y,h2.s,fun r=>by rw [Blk.fx_rn hy]⟩
 ·intro k hk l hl e
  simp only [keys,List.map_cons,List.map_nil,List.mem_cons,List.not_mem_nil,or_false] at hk hl
  unfold gmv at e
  rcases hk with rfl|rfl<;>rcases hl with rfl|rfl<;>simp at e ⊢
 ·intro k hk l b hl e
  simp only [keys,List.map_cons,List.map_nil,List.mem_cons,List.not_mem_nil,or_false] at hk
  unfold gmv at e
  rcases hk with rfl|rfl
  ·rw [if_pos rfl] at e
   rw [←e,G0_no] at hl
   cases hl
  ·have:=(G0F l b hl).1
   rw [if_neg (by omega),if_pos rfl] at e
   omega
theorem kFits_ka (L:List (Nat×Blk)) (ka ks:Nat) (bm bs:Blk) (hT:LKa L ka ks bm bs) (off n cap off2 n2 cap2:Nat) (fm fs:Nat→Int) (hm:MB bm off n fm) (hSb:SB bs off2 n2 fs) (g bx tp nr md st:Int) (hs:i64 st) :
  Fun Tryz.prog G1 19 #[cfV (.slice (some ⟨ka,off,none⟩) n cap) g bx tp nr md,.agg #[.int .i64 st,.slice (some ⟨ks,off2,none⟩) n2 cap2]] (hpL G1 L) (keys L) (.ret (.bool (fitB n n2 (cfOk n fm g bx tp nr md) (rightB st fs n2))) []):=by
 rcases hT.a8 with e|e
 ·subst e
  exact (kFits_L L ks bm bs hT.tw off n cap off2 n2 cap2 fm fs hm hSb g bx tp nr md st hs).up1 hT.ok
 ·obtain ⟨rfl,rfl,rfl⟩:=hT.ag e
  subst e
  have h:=(kFits_L _ 108 lmB bs (LTwo.two lmB_fx hSb.fx) off n cap off2 n2 cap2 fm fs hm hSb g bx tp nr md st hs).mvG (lim_mv hSb.fx) (fun k hk=>by cases hk) rfl
  simpa [cfV,ren,renA,renF,ren0,gmv,rnL] using h
@[simp] theorem vsubG (a0 a1 a2 b0 b1 b2:Int) (K:Value→Prop):callK Tryz.prog G1 43 #[.agg #[.int .i64 a0,.int .i64 a1,.int .i64 a2],.agg #[.int .i64 b0,.int .i64 b1,.int .i64 b2]] K ↔
  K (.tuple #[.agg #[.int .i64 (eaV (eaE subI a0 a1 a2 b0 b1 b2) (subI a0 b0)),.int .i64 (eaV (eaE subI a0 a1 a2 b0 b1 b2) (subI a1 b1)),.int .i64 (eaV (eaE subI a0 a1 a2 b0 b1 b2) (subI a2 b2))],.int .i64 (eaE subI a0 a1 a2 b0 b1 b2)]):=callK_iff G1W (by kernel_rfl) ((sub_ret a0 a1 a2 b0 b1 b2).up G1up)
theorem rn_ofD {m:List (Nat×Blk)} {B:Nat} (hm:LOd G1 m B) (ρ:Nat→Nat) (hlow:∀ k,k<100→ρ k=k) {hp:Hp} (hp0:∀ k,k<100→hp k=G1 k) (hat:∀ p∈m,100≤ρ p.1∧hp (ρ p.1)=some (p.2.rn ρ)) (hinj:∀ k∈keys m,∀ l∈keys m,ρ k=ρ l→k=l):Rn ρ (hpL G1 m) hp (keys m):=by
 refine ⟨fun k hk=>⟨hlow k hk,by rw [hp0 k hk,hm.low k hk]⟩,fun k hk _=>?_,fun k hk _=>?_,fun k hk l hl _ _ e=>?_⟩
 ·obtain ⟨p,hp,rfl⟩:=mem_keys.1 hk
  exact (hat p hp).1
 ·obtain ⟨p,hp,rfl⟩:=mem_keys.1 hk
  exact ⟨p.2,LOk.at hm.one p hp,(hat p hp).2⟩
 ·exact hinj k hk l hl e
theorem iterk_mvD {f:FuncId} {caps caps':Array Value} {m:List (Nat×Blk)} {B:Nat} {xs:List (Array Value)} {hp:Hp} {rs:List Nat} (h:IterK Tryz.prog G1 f caps (hpL G1 m) (keys m) xs) (hm:LOd G1 m B) (ρ:Nat→Nat) (hlow:∀ k,k<100→ρ k=k) (ea:caps.map (ren0 ρ)=caps') (er:(keys m).map ρ=rs)
  (hp0:∀ k,k<100→hp k=G1 k) (hat:∀ p∈m,100≤ρ p.1∧hp (ρ p.1)=some (p.2.rn ρ)) (hinj:∀ k∈keys m,∀ l∈keys m,ρ k=ρ l→k=l):IterK Tryz.prog G1 f caps' hp rs xs:=by
 subst ea er
 exact h.rn ρ G1F hm.low (rn_ofD hm ρ hlow hp0 hat hinj)
def chkE (n d g m x r:Int):Int :=
 if -2097152≤n∧n≤2097152∧1≤d∧d≤2097152∧1≤g∧g≤1048576∧1≤m∧m≤1024∧-2097152≤x∧x≤2097152∧0≤r∧r≤13194139533312 then (if r=0 then 30 else if x*x≤r then 0 else 2) else 2
def ckHp (n d g m x r:Int):Hp:=hpL G1 [(100,⟨#[.int .i64 n,.int .i64 d,.int .i64 g,.int .i64 m,.int .i64 x,.int .i64 r],.ty 3⟩)]
theorem ckHp_rst (n d g m x r:Int):rst (ckHp n d g m x r) [100]=ckHp n d g m x r:=hpL_rst G1F (by simp)
theorem ckHp_closed (n d g m x r:Int) (D:Nat→Prop) (k:Nat) (c:Blk) (h:ckHp n d g m x r k=some c):c.ids D:=by
 rcases hpL_mem h with h|h
 ·simp at h
  rcases h with ⟨_,rfl⟩
  simp
 ·exact G1_closed _ _ _ h
theorem ckHp_free (n d g m x r:Int) (k:Nat) (hk:200≤k):ckHp n d g m x r k=none:=by
 simp [ckHp,show ¬k=100 by omega,show 100≤k by omega]
set_option maxHeartbeats 2000000 in
theorem check_ok (n d g m x r:Int) (h:chkE n d g m x r=0):Fun Tryz.prog G1 69 #[.slice (some ⟨100,0,none⟩) 6 6] (ckHp n d g m x r) [100] (.ret (.tuple #[]) []):=by
 refine fun_of (B:=200) G1F (fun k hk=>hpL_low (by simp) hk) Tryz.func69 rfl Tryz.call69 ?_ ?_ ⟨flatV_ids (by simp),by simp [keys],by simp,by simp⟩ (by simp [Tryz.ntmps69]) (by omega) ?_ ?_
 ·rw [ckHp_rst];simp [ckHp,dom]
 ·rw [ckHp_rst];exact ckHp_closed n d g m x r _
 ·rw [ckHp_rst];exact ckHp_free n d g m x r
 ·intro C hC hC0 hY
  rw [ckHp_rst] at hC0 ⊢
  unfold chkE at h
  split at h
  rotate_left
  ·cases h
  rename_i hc
  obtain ⟨f0,f1,f2,f3,f4,f5,f6,f7,f8,f9,f10,f11⟩:=hc
  split at h
  ·cases h
  rename_i hr
  split at h
  rotate_left
  ·cases h
  rename_i hx
  have hr0:0<r:=by omega
  have hxx:x*x≤2097152*2097152:=by
   by_cases h0:0≤x
   ·exact Int.mul_le_mul (by omega) (by omega) h0 (by omega)
   ·rw [←Int.neg_mul_neg];exact Int.mul_le_mul (by omega) (by omega) (by omega) (by omega)
  have hx0:0≤x*x:=by
   by_cases h0:0≤x
   ·exact Int.mul_nonneg h0 h0
   ·rw [←Int.neg_mul_neg];exact Int.mul_nonneg (by omega) (by omega)
  have hb2:Int.bmod (x*x) 18446744073709551616=x*x:=bm (by omega) (by omega)
  repeat' (first|refine GWL_start ?_|refine GWL_step ?_|refine gwA ?_|((first|refine gwR [1000067] ?_|refine gwD [1000067] ?_);intro Q hQ hP;simp [hC,hY,ckHp,lmB,f0,f1,f2,f3,f4,f5,f6,f7,f8,f9,f10,f11,hr0,hx,hb2];(repeat ((first|(refine callP_of (pmust_t _) ?_)|(refine callP_of (pmust_f _) ?_));try simp [hC,hY,ckHp,lmB,f0,f1,f2,f3,f4,f5,f6,f7,f8,f9,f10,f11,hr0,hx,hb2]));(first|refine hQ _ _ _ _ (by kernel_rfl) ?_|refine hP _ _ (by kernel_rfl) fun _=>?_);clear hQ hP Q)|(refine gwC ?_ ?_<;>(intro hb;try (cases hb;done))))
  refine ⟨.inl rfl,by simp [Tryz.results69],fun k hk=>?_⟩
  have hk3:k<200:=Classical.byContradiction fun h=>hk (ckHp_free n d g m x r k (by omega))
  first|rfl|(simp (disch:=omega) only [upd_far];rfl)
set_option maxHeartbeats 4000000 in
theorem check_bad (n d g m x r:Int) (h:chkE n d g m x r≠0):Fun Tryz.prog G1 69 #[.slice (some ⟨100,0,none⟩) 6 6] (ckHp n d g m x r) [100] (.pan (erV (chkE n d g m x r))):=by
 refine fun_of (B:=200) G1F (fun k hk=>hpL_low (by simp) hk) Tryz.func69 rfl Tryz.call69 ?_ ?_ trivial (by simp [Tryz.ntmps69]) (by omega) ?_ ?_
 ·rw [ckHp_rst];simp [ckHp,dom]
 ·rw [ckHp_rst];exact ckHp_closed n d g m x r _
 ·rw [ckHp_rst];exact ckHp_free n d g m x r
 ·intro C hC hC0 hY
  rw [ckHp_rst] at hC0 ⊢
  by_cases f0:-2097152≤n
  rotate_left
  ·have hE:chkE n d g m x r=2:=if_neg (by omega)
   rw [hE]
   repeat' (first|refine GWL_start ?_|refine GWL_step ?_|refine gwA ?_|((first|refine gwR [1000067] ?_|refine gwD [1000067] ?_);intro Q hQ hP;simp [hC,hY,ckHp,lmB,f0];(repeat ((first|(refine callP_of (pmust_t _) ?_)|(refine callP_of (pmust_f _) ?_));try simp [hC,hY,ckHp,lmB,f0]));(first|refine hQ _ _ _ _ (by kernel_rfl) ?_|refine hP _ _ (by kernel_rfl) fun _=>?_);clear hQ hP Q)|(refine gwC ?_ ?_<;>(intro hb;try (cases hb;done))))
   refine ⟨rfl,fun k hk=>?_⟩
   have hk3:k<200:=Classical.byContradiction fun h=>hk (ckHp_free n d g m x r k (by omega))
   first|rfl|(simp (disch:=omega) only [upd_far];rfl)
  by_cases f1:n≤2097152
  rotate_left
  ·have hE:chkE n d g m x r=2:=if_neg (by omega)
   rw [hE]
   repeat' (first|refine GWL_start ?_|refine GWL_step ?_|refine gwA ?_|((first|refine gwR [1000067] ?_|refine gwD [1000067] ?_);intro Q hQ hP;simp [hC,hY,ckHp,lmB,f0,f1];(repeat ((first|(refine callP_of (pmust_t _) ?_)|(refine callP_of (pmust_f _) ?_));try simp [hC,hY,ckHp,lmB,f0,f1]));(first|refine hQ _ _ _ _ (by kernel_rfl) ?_|refine hP _ _ (by kernel_rfl) fun _=>?_);clear hQ hP Q)|(refine gwC ?_ ?_<;>(intro hb;try (cases hb;done))))
   refine ⟨rfl,fun k hk=>?_⟩
   have hk3:k<200:=Classical.byContradiction fun h=>hk (ckHp_free n d g m x r k (by omega))
   first|rfl|(simp (disch:=omega) only [upd_far];rfl)
  by_cases f2:1≤d
  rotate_left
  ·have hE:chkE n d g m x r=2:=if_neg (by omega)
   rw [hE]
   repeat' (first|refine GWL_start ?_|refine GWL_step ?_|refine gwA ?_|((first|refine gwR [1000067] ?_|refine gwD [1000067] ?_);intro Q hQ hP;simp [hC,hY,ckHp,lmB,f0,f1,f2];(repeat ((first|(refine callP_of (pmust_t _) ?_)|(refine callP_of (pmust_f _) ?_));try simp [hC,hY,ckHp,lmB,f0,f1,f2]));(first|refine hQ _ _ _ _ (by kernel_rfl) ?_|refine hP _ _ (by kernel_rfl) fun _=>?_);clear hQ hP Q)|(refine gwC ?_ ?_<;>(intro hb;try (cases hb;done))))
   refine ⟨rfl,fun k hk=>?_⟩
   have hk3:k<200:=Classical.byContradiction fun h=>hk (ckHp_free n d g m x r k (by omega))
   first|rfl|(simp (disch:=omega) only [upd_far];rfl)
  by_cases f3:d≤2097152
  rotate_left
  ·have hE:chkE n d g m x r=2:=if_neg (by omega)
   rw [hE]
   repeat' (first|refine GWL_start ?_|refine GWL_step ?_|refine gwA ?_|((first|refine gwR [1000067] ?_|refine gwD [1000067] ?_);intro Q hQ hP;simp [hC,hY,ckHp,lmB,f0,f1,f2,f3];(repeat ((first|(refine callP_of (pmust_t _) ?_)|(refine callP_of (pmust_f _) ?_));try simp [hC,hY,ckHp,lmB,f0,f1,f2,f3]));(first|refine hQ _ _ _ _ (by kernel_rfl) ?_|refine hP _ _ (by kernel_rfl) fun _=>?_);clear hQ hP Q)|(refine gwC ?_ ?_<;>(intro hb;try (cases hb;done))))
   refine ⟨rfl,fun k hk=>?_⟩
   have hk3:k<200:=Classical.byContradiction fun h=>hk (ckHp_free n d g m x r k (by omega))
   first|rfl|(simp (disch:=omega) only [upd_far];rfl)
  by_cases f4:1≤g
  rotate_left
  ·have hE:chkE n d g m x r=2:=if_neg (by omega)
   rw [hE]
   repeat' (first|refine GWL_start ?_|refine GWL_step ?_|refine gwA ?_|((first|refine gwR [1000067] ?_|refine gwD [1000067] ?_);intro Q hQ hP;simp [hC,hY,ckHp,lmB,f0,f1,f2,f3,f4];(repeat ((first|(refine callP_of (pmust_t _) ?_)|(refine callP_of (pmust_f _) ?_));try simp [hC,hY,ckHp,lmB,f0,f1,f2,f3,f4]));(first|refine hQ _ _ _ _ (by kernel_rfl) ?_|refine hP _ _ (by kernel_rfl) fun _=>?_);clear hQ hP Q)|(refine gwC ?_ ?_<;>(intro hb;try (cases hb;done))))
   refine ⟨rfl,fun k hk=>?_⟩
   have hk3:k<200:=Classical.byContradiction fun h=>hk (ckHp_free n d g m x r k (by omega))
   first|rfl|(simp (disch:=omega) only [upd_far];rfl)
  by_cases f5:g≤1048576
  rotate_left
  ·have hE:chkE n d g m x r=2:=if_neg (by omega)
   rw [hE]
   repeat' (first|refine GWL_start ?_|refine GWL_step ?_|refine gwA ?_|((first|refine gwR [1000067] ?_|refine gwD [1000067] ?_);intro Q hQ hP;simp [hC,hY,ckHp,lmB,f0,f1,f2,f3,f4,f5];(repeat ((first|(refine callP_of (pmust_t _) ?_)|(refine callP_of (pmust_f _) ?_));try simp [hC,hY,ckHp,lmB,f0,f1,f2,f3,f4,f5]));(first|refine hQ _ _ _ _ (by kernel_rfl) ?_|refine hP _ _ (by kernel_rfl) fun _=>?_);clear hQ hP Q)|(refine gwC ?_ ?_<;>(intro hb;try (cases hb;done))))
   refine ⟨rfl,fun k hk=>?_⟩
   have hk3:k<200:=Classical.byContradiction fun h=>hk (ckHp_free n d g m x r k (by omega))
   first|rfl|(simp (disch:=omega) only [upd_far];rfl)
  by_cases f6:1≤m
  rotate_left
  ·have hE:chkE n d g m x r=2:=if_neg (by omega)
   rw [hE]
   repeat' (first|refine GWL_start ?_|refine GWL_step ?_|refine gwA ?_|((first|refine gwR [1000067] ?_|refine gwD [1000067] ?_);intro Q hQ hP;simp [hC,hY,ckHp,lmB,f0,f1,f2,f3,f4,f5,f6];(repeat ((first|(refine callP_of (pmust_t _) ?_)|(refine callP_of (pmust_f _) ?_));try simp [hC,hY,ckHp,lmB,f0,f1,f2,f3,f4,f5,f6]));(first|refine hQ _ _ _ _ (by kernel_rfl) ?_|refine hP _ _ (by kernel_rfl) fun _=>?_);clear hQ hP Q)|(refine gwC ?_ ?_<;>(intro hb;try (cases hb;done))))
   refine ⟨rfl,fun k hk=>?_⟩
   have hk3:k<200:=Classical.byContradiction fun h=>hk (ckHp_free n d g m x r k (by omega))
   first|rfl|(simp (disch:=omega) only [upd_far];rfl)
  by_cases f7:m≤1024
  rotate_left
  ·have hE:chkE n d g m x r=2:=if_neg (by omega)
   rw [hE]
   repeat' (first|refine GWL_start ?_|refine GWL_step ?_|refine gwA ?_|((first|refine gwR [1000067] ?_|refine gwD [1000067] ?_);intro Q hQ hP;simp [hC,hY,ckHp,lmB,f0,f1,f2,f3,f4,f5,f6,f7];(repeat ((first|(refine callP_of (pmust_t _) ?_)|(refine callP_of (pmust_f _) ?_));try simp [hC,hY,ckHp,lmB,f0,f1,f2,f3,f4,f5,f6,f7]));(first|refine hQ _ _ _ _ (by kernel_rfl) ?_|refine hP _ _ (by kernel_rfl) fun _=>?_);clear hQ hP Q)|(refine gwC ?_ ?_<;>(intro hb;try (cases hb;done))))
   refine ⟨rfl,fun k hk=>?_⟩
   have hk3:k<200:=Classical.byContradiction fun h=>hk (ckHp_free n d g m x r k (by omega))
   first|rfl|(simp (disch:=omega) only [upd_far];rfl)
  by_cases f8:-2097152≤x
  rotate_left
  ·have hE:chkE n d g m x r=2:=if_neg (by omega)
   rw [hE]
   repeat' (first|refine GWL_start ?_|refine GWL_step ?_|refine gwA ?_|((first|refine gwR [1000067] ?_|refine gwD [1000067] ?_);intro Q hQ hP;simp [hC,hY,ckHp,lmB,f0,f1,f2,f3,f4,f5,f6,f7,f8];(repeat ((first|(refine callP_of (pmust_t _) ?_)|(refine callP_of (pmust_f _) ?_));try simp [hC,hY,ckHp,lmB,f0,f1,f2,f3,f4,f5,f6,f7,f8]));(first|refine hQ _ _ _ _ (by kernel_rfl) ?_|refine hP _ _ (by kernel_rfl) fun _=>?_);clear hQ hP Q)|(refine gwC ?_ ?_<;>(intro hb;try (cases hb;done))))
   refine ⟨rfl,fun k hk=>?_⟩
   have hk3:k<200:=Classical.byContradiction fun h=>hk (ckHp_free n d g m x r k (by omega))
   first|rfl|(simp (disch:=omega) only [upd_far];rfl)
  by_cases f9:x≤2097152
  rotate_left
  ·have hE:chkE n d g m x r=2:=if_neg (by omega)
   rw [hE]
   repeat' (first|refine GWL_start ?_|refine GWL_step ?_|refine gwA ?_|((first|refine gwR [1000067] ?_|refine gwD [1000067] ?_);intro Q hQ hP;simp [hC,hY,ckHp,lmB,f0,f1,f2,f3,f4,f5,f6,f7,f8,f9];(repeat ((first|(refine callP_of (pmust_t _) ?_)|(refine callP_of (pmust_f _) ?_));try simp [hC,hY,ckHp,lmB,f0,f1,f2,f3,f4,f5,f6,f7,f8,f9]));(first|refine hQ _ _ _ _ (by kernel_rfl) ?_|refine hP _ _ (by kernel_rfl) fun _=>?_);clear hQ hP Q)|(refine gwC ?_ ?_<;>(intro hb;try (cases hb;done))))
   refine ⟨rfl,fun k hk=>?_⟩
   have hk3:k<200:=Classical.byContradiction fun h=>hk (ckHp_free n d g m x r k (by omega))
   first|rfl|(simp (disch:=omega) only [upd_far];rfl)
  by_cases f10:0≤r
  rotate_left
  ·have hE:chkE n d g m x r=2:=if_neg (by omega)
   rw [hE]
   repeat' (first|refine GWL_start ?_|refine GWL_step ?_|refine gwA ?_|((first|refine gwR [1000067] ?_|refine gwD [1000067] ?_);intro Q hQ hP;simp [hC,hY,ckHp,lmB,f0,f1,f2,f3,f4,f5,f6,f7,f8,f9,f10];(repeat ((first|(refine callP_of (pmust_t _) ?_)|(refine callP_of (pmust_f _) ?_));try simp [hC,hY,ckHp,lmB,f0,f1,f2,f3,f4,f5,f6,f7,f8,f9,f10]));(first|refine hQ _ _ _ _ (by kernel_rfl) ?_|refine hP _ _ (by kernel_rfl) fun _=>?_);clear hQ hP Q)|(refine gwC ?_ ?_<;>(intro hb;try (cases hb;done))))
   refine ⟨rfl,fun k hk=>?_⟩
   have hk3:k<200:=Classical.byContradiction fun h=>hk (ckHp_free n d g m x r k (by omega))
   first|rfl|(simp (disch:=omega) only [upd_far];rfl)
  by_cases f11:r≤13194139533312
  rotate_left
  ·have hE:chkE n d g m x r=2:=if_neg (by omega)
   rw [hE]
   repeat' (first|refine GWL_start ?_|refine GWL_step ?_|refine gwA ?_|((first|refine gwR [1000067] ?_|refine gwD [1000067] ?_);intro Q hQ hP;simp [hC,hY,ckHp,lmB,f0,f1,f2,f3,f4,f5,f6,f7,f8,f9,f10,f11];(repeat ((first|(refine callP_of (pmust_t _) ?_)|(refine callP_of (pmust_f _) ?_));try simp [hC,hY,ckHp,lmB,f0,f1,f2,f3,f4,f5,f6,f7,f8,f9,f10,f11]));(first|refine hQ _ _ _ _ (by kernel_rfl) ?_|refine hP _ _ (by kernel_rfl) fun _=>?_);clear hQ hP Q)|(refine gwC ?_ ?_<;>(intro hb;try (cases hb;done))))
   refine ⟨rfl,fun k hk=>?_⟩
   have hk3:k<200:=Classical.byContradiction fun h=>hk (ckHp_free n d g m x r k (by omega))
   first|rfl|(simp (disch:=omega) only [upd_far];rfl)
  have hall:chkE n d g m x r=(if r=0 then 30 else if x*x≤r then 0 else 2):=if_pos ⟨f0,f1,f2,f3,f4,f5,f6,f7,f8,f9,f10,f11⟩
  rw [hall] at h ⊢
  by_cases hr:r=0
  ·have hr0:¬0<r:=by omega
   rw [if_pos hr]
   repeat' (first|refine GWL_start ?_|refine GWL_step ?_|refine gwA ?_|((first|refine gwR [1000067] ?_|refine gwD [1000067] ?_);intro Q hQ hP;simp [hC,hY,ckHp,lmB,f0,f1,f2,f3,f4,f5,f6,f7,f8,f9,f10,f11,hr0];(repeat ((first|(refine callP_of (pmust_t _) ?_)|(refine callP_of (pmust_f _) ?_));try simp [hC,hY,ckHp,lmB,f0,f1,f2,f3,f4,f5,f6,f7,f8,f9,f10,f11,hr0]));(first|refine hQ _ _ _ _ (by kernel_rfl) ?_|refine hP _ _ (by kernel_rfl) fun _=>?_);clear hQ hP Q)|(refine gwC ?_ ?_<;>(intro hb;try (cases hb;done))))
   refine ⟨rfl,fun k hk=>?_⟩
   have hk3:k<200:=Classical.byContradiction fun h=>hk (ckHp_free n d g m x r k (by omega))
   first|rfl|(simp (disch:=omega) only [upd_far];rfl)
  have hr0:0<r:=by omega
  rw [if_neg hr] at h ⊢
  by_cases hx:x*x≤r
  ·rw [if_pos hx] at h;exact absurd rfl h
  ·rw [if_neg hx]
   have hxx:x*x≤2097152*2097152:=by
    by_cases h0:0≤x
    ·exact Int.mul_le_mul (by omega) (by omega) h0 (by omega)
    ·rw [←Int.neg_mul_neg];exact Int.mul_le_mul (by omega) (by omega) (by omega) (by omega)
   have hx0:0≤x*x:=by
    by_cases h0:0≤x
    ·exact Int.mul_nonneg h0 h0
    ·rw [←Int.neg_mul_neg];exact Int.mul_nonneg (by omega) (by omega)
   have hb2:Int.bmod (x*x) 18446744073709551616=x*x:=bm (by omega) (by omega)
   repeat' (first|refine GWL_start ?_|refine GWL_step ?_|refine gwA ?_|((first|refine gwR [1000067] ?_|refine gwD [1000067] ?_);intro Q hQ hP;simp [hC,hY,ckHp,lmB,f0,f1,f2,f3,f4,f5,f6,f7,f8,f9,f10,f11,hr0,hx,hb2];(repeat ((first|(refine callP_of (pmust_t _) ?_)|(refine callP_of (pmust_f _) ?_));try simp [hC,hY,ckHp,lmB,f0,f1,f2,f3,f4,f5,f6,f7,f8,f9,f10,f11,hr0,hx,hb2]));(first|refine hQ _ _ _ _ (by kernel_rfl) ?_|refine hP _ _ (by kernel_rfl) fun _=>?_);clear hQ hP Q)|(refine gwC ?_ ?_<;>(intro hb;try (cases hb;done))))
   refine ⟨rfl,fun k hk=>?_⟩
   have hk3:k<200:=Classical.byContradiction fun h=>hk (ckHp_free n d g m x r k (by omega))
   first|rfl|(simp (disch:=omega) only [upd_far];rfl)

theorem psquare_ret (a:Int):Ret Tryz.prog G1 71 #[wd a] (wd (sz a*sz a)):=by
 refine ret_of G1F Tryz.func71 rfl Tryz.call71 (by simp) (by simp) (by simp [Tryz.ntmps71]) ?_
 intro C hC hC0 hY
 repeat' (first|refine gwA ?_|(refine gwX ?_;intro Q hQ hP;simp [hC,hY];(first|refine hQ _ _ _ _ (by kernel_rfl) ?_|refine hP _ _ (by kernel_rfl) fun _=>?_);clear hQ hP Q)|(refine gwC ?_ ?_<;>(intro hb;try (cases hb;done))))
 refine ⟨.inr trivial,?_⟩
 simp [Tryz.results71]
@[simp] theorem psquare (a:Int) (K:Value→Prop):callK Tryz.prog G1 71 #[Value.agg #[.int .u64 (wi (a) 0),.int .u64 (wi (a) 1),.int .u64 (wi (a) 2),.int .u64 (wi (a) 3)]] K↔K (wd (sz a*sz a)):=callK_iff G1W (by kernel_rfl) (psquare_ret a)
set_option maxHeartbeats 1000000 in
theorem times5_fun (a0 a1 a2 a3 a4:Int) (hi:i64 a0∧i64 a1∧i64 a2∧i64 a3∧i64 a4) (hw:wr (a0)∧wr (a0*a1)∧wr (a0*a1*a2)∧wr (a0*a1*a2*a3)∧wr (a0*a1*a2*a3*a4)):Fun Tryz.prog G1 72 #[.slice (some ⟨100,0,none⟩) 5 5] (hpL G1 [(100,⟨#[.int .i64 a0,.int .i64 a1,.int .i64 a2,.int .i64 a3,.int .i64 a4],.ty 3⟩)]) [100] (.ret (wd (a0*a1*a2*a3*a4)) []):=by
 have hrst:rst (hpL G1 [(100,⟨#[.int .i64 a0,.int .i64 a1,.int .i64 a2,.int .i64 a3,.int .i64 a4],.ty 3⟩)]) [100]=hpL G1 [(100,⟨#[.int .i64 a0,.int .i64 a1,.int .i64 a2,.int .i64 a3,.int .i64 a4],.ty 3⟩)]:=hpL_rst G1F (by simp)
 have hfree:∀ k,200≤k→hpL G1 [(100,⟨#[.int .i64 a0,.int .i64 a1,.int .i64 a2,.int .i64 a3,.int .i64 a4],.ty 3⟩)] k=none:=fun k hk=>by simp [show ¬k=100 by omega,show 100≤k by omega]
 refine fun_of (B:=200) G1F (fun k hk=>hpL_low (by simp) hk) Tryz.func72 rfl Tryz.call72 ?_ ?_ ⟨flatV_ids (by simp),by simp [keys],by simp,by simp⟩ (by simp [Tryz.ntmps72]) (by omega) ?_ ?_
 ·rw [hrst];simp [dom]
 ·rw [hrst]
  intro k c h
  rcases hpL_mem h with h|h
  ·simp at h
   rcases h with ⟨_,rfl⟩
   simp
  ·exact G1_closed _ _ _ h
 ·rw [hrst];exact hfree
 ·intro C hC hC0 hY
  rw [hrst] at hC0 ⊢
  obtain ⟨i0,i1,i2,i3,i4⟩:=hi
  obtain ⟨w0,w1,w2,w3,w4⟩:=hw
  have s0:=wr_sz w0
  have s1:=wr_sz w1
  have s2:=wr_sz w2
  have s3:=wr_sz w3
  have s4:=wr_sz w4
  have t1:=wr_sz (i64_wr i1)
  have t2:=wr_sz (i64_wr i2)
  have t3:=wr_sz (i64_wr i3)
  have t4:=wr_sz (i64_wr i4)
  have j1:=i64_1
  have e1:sz 1=1:=by decide
  repeat' (first|refine GWL_start ?_|refine GWL_step ?_|refine gwA ?_|(refine gwX ?_;intro Q hQ hP;simp [hC,hY,j1,e1,Int.one_mul,i0,i1,i2,i3,i4,s0,s1,s2,s3,s4,t1,t2,t3,t4];(first|refine hQ _ _ _ _ (by kernel_rfl) ?_|refine hP _ _ (by kernel_rfl) fun _=>?_);clear hQ hP Q)|(refine gwC ?_ ?_<;>(intro hb;try (cases hb;done))))
  refine ⟨.inr rfl,by simp [Tryz.results72],fun k hk=>?_⟩
  have hk3:k<200:=Classical.byContradiction fun h=>hk (hfree k (by omega))
  simp (disch:=omega) only [upd_far]
  rfl
def vv (x0 x1 x2:Int):Value:=.agg #[.int .i64 x0,.int .i64 x1,.int .i64 x2]
def vb (x0 x1 x2:Int):Blk:=⟨#[.int .i64 x0,.int .i64 x1,.int .i64 x2],.ty 31⟩
theorem parts_new (x0 x1 x2:Int) (k:Nat) (h100:100≤k):Fun Tryz.prog G1 47 #[vv x0 x1 x2] G1 [] (.new (.func (.func 68) #[] #[.pointer (some ⟨k,0,none⟩)]) [(k,vb x0 x1 x2)]):=by
 have e0:rst G1 []=G1:=rst_G G1F []
 refine new_of (B:=200) (fun j=>if j=k then 200 else j) G1F (fun _ _=>rfl) Tryz.func47 rfl Tryz.call47 (by simp [vv,idsV,idsA,idsF,ids0]) (by rw [e0];exact G1_closed _) ?_ (by simp [Tryz.ntmps47]) (by omega) (by rw [e0];exact fun x hx=>G1_big x (by omega)) (fun j hj=>?_) ?_ ?_ ?_ ?_
 ·refine ⟨by simp [idsV,idsA,idsF,ids0,extD,keys],by simp [keys];omega,fun q b c h1 h2=>?_⟩
  simp at h1 h2
  rw [h1.2,h2.2]
 ·rw [e0] at hj;have:=G1_dom hj;rw [if_neg (by omega)]
 ·simp [e0,dom]
 ·simp
 ·simp [vb,ids_lit,idsF,ids0]
 ·intro C hC hC0 hY
  rw [e0]
  repeat' (first|apply gwS|simp only [wN,wM,Nat.reduceAdd,Nat.reduceMul]|(refine gwX ?_;intro Q hQ hP;simp [hC,hY,vv];(first|refine hQ _ _ _ _ (by kernel_rfl) ?_|refine hP _ _ (by kernel_rfl) fun _=>?_);clear hQ hP Q)|apply gwB|apply gwT|apply gwK|apply gwE|apply gwG|apply gwL|simp only [blockG_exit]|(refine gwC ?_ ?_<;>(intro hb;try (cases hb;done))))
  refine ⟨.inr trivial,?_⟩
  simp [Tryz.results47,ren,renA,renF,ren0,vb]
  intro j hj
  have:=G1_dom hj
  intro h;omega
def partsXs (x0 x1 x2:Int):List (Array Value):=[#[.int .i64 0,.int .i64 x0],#[.int .i64 1,.int .i64 x1],#[.int .i64 2,.int .i64 x2]]
def pHp (x0 x1 x2:Int):Hp:=hpL G1 [(100,vb x0 x1 x2)]
theorem parts_it (x0 x1 x2:Int):IterG Tryz.prog G1 68 #[.pointer (some ⟨100,0,none⟩)] (pHp x0 x1 x2) [100] (partsXs x0 x1 x2):=by
 have e0:rst (pHp x0 x1 x2) [100]=pHp x0 x1 x2:=hpL_rst G1F (by simp)
 refine iter_of (B:=200) (v:=.tuple #[]) G1F (fun k hk=>hpL_low (by simp) hk) Tryz.func68 rfl Tryz.call68 ?_ ?_ (by simp [Tryz.ntmps68]) (by omega) ?_ ?_
 ·rw [e0];simp [idsV,idsA,idsF,ids0,dom,pHp]
 ·rw [e0]
  intro k c hk
  rcases hpL_mem hk with h|h
  ·simp at h
   rcases h with ⟨_,rfl⟩;simp [vb,ids_lit,idsF,ids0]
  ·exact Blk.flat_ids ((G1F k c h).2)
 ·rw [e0]
  intro x hx
  have h1:¬x=100:=by omega
  have h3:100≤x:=by omega
  simp [pHp,h1,h3]
 ·intro C l stop hC hC0 hY
  rw [e0] at hC0 ⊢
  by_cases h3:3≤stop
  ·have q0:(0 != stop)=true:=by simp;omega
   have q1:(1 != stop)=true:=by simp;omega
   have q2:(2 != stop)=true:=by simp;omega
   have l1:1≤stop:=by omega
   have l2:2≤stop:=by omega
   repeat' (first|apply gwS|refine GWL_start ?_|refine GWL_step ?_|simp only [wN,wM,Nat.reduceAdd,Nat.reduceMul]|(refine gwX ?_;intro Q hQ hP;simp [hC,hY,pHp,vb,partsXs,q0,q1,q2,l1,l2,h3];(first|refine hQ _ _ _ _ (by kernel_rfl) ?_|refine hP _ _ (by kernel_rfl) fun _=>?_);clear hQ hP Q)|apply gwB|apply gwT|apply gwK|apply gwE|apply gwG|apply gwL|simp only [blockG_exit]|(refine gwC ?_ ?_<;>(intro hb;try (cases hb;done))))
   refine ⟨by simp,by simp [Tryz.results68],?_⟩
   simp [partsXs];omega
  ·have:stop=0∨stop=1∨stop=2:=by omega
   rcases this with rfl|rfl|rfl
   all_goals
    repeat' (first|apply gwS|refine GWL_start ?_|refine GWL_step ?_|simp only [wN,wM,Nat.reduceAdd,Nat.reduceMul]|(refine gwX ?_;intro Q hQ hP;simp [hC,hY,pHp,vb,partsXs];(first|refine hQ _ _ _ _ (by kernel_rfl) ?_|refine hP _ _ (by kernel_rfl) fun _=>?_);clear hQ hP Q)|apply gwB|apply gwT|apply gwK|apply gwE|apply gwG|apply gwL|simp only [blockG_exit]|(refine gwC ?_ ?_<;>(intro hb;try (cases hb;done))))
   all_goals
    exact ⟨by simp,by simp [Tryz.results68],by simp [partsXs]⟩
theorem parts_itP (x0 x1 x2:Int):IterP Tryz.prog G1 68 #[.pointer (some ⟨100,0,none⟩)] (pHp x0 x1 x2) [100] (partsXs x0 x1 x2):=by
 have e0:rst (pHp x0 x1 x2) [100]=pHp x0 x1 x2:=hpL_rst G1F (by simp)
 refine iterp_of (B:=200) G1F (fun k hk=>hpL_low (by simp) hk) Tryz.func68 rfl Tryz.call68 ?_ ?_ (by simp [Tryz.ntmps68]) (by omega) ?_ ?_
 ·rw [e0];simp [idsV,idsA,idsF,ids0,dom,pHp]
 ·rw [e0]
  intro k c hk
  rcases hpL_mem hk with h|h
  ·simp at h
   rcases h with ⟨_,rfl⟩;simp [vb,ids_lit,idsF,ids0]
  ·exact Blk.flat_ids ((G1F k c h).2)
 ·rw [e0]
  intro x hx
  have h1:¬x=100:=by omega
  have h3:100≤x:=by omega
  simp [pHp,h1,h3]
 ·intro pv C l stop hC hC0 hl hY
  rw [e0] at hC0 ⊢
  have:stop=0∨stop=1∨stop=2:=by simp [partsXs] at hl;omega
  rcases this with rfl|rfl|rfl
  all_goals
   repeat' (first|apply gwS|refine GWL_start ?_|refine GWL_step ?_|simp only [wN,wM,Nat.reduceAdd,Nat.reduceMul]|(refine gwX ?_;intro Q hQ hP;simp [hC,hY,pHp,vb,partsXs];(first|refine hQ _ _ _ _ (by kernel_rfl) ?_|refine hP _ _ (by kernel_rfl) fun _=>?_);clear hQ hP Q)|apply gwB|apply gwT|apply gwK|apply gwE|apply gwG|apply gwL|simp only [blockG_exit]|(refine gwC ?_ ?_<;>(intro hb;try (cases hb;done))))
def inX (x:Int):Prop:=-2097152≤x∧x≤2097152
instance (x:Int):Decidable (inX x):=by unfold inX;infer_instance
theorem inB_sq {x:Int} (h:inX x):0≤x*x∧x*x≤4398046511104:=by
 obtain ⟨h1,h2⟩:=h
 by_cases h0:0≤x
 ·have h:x*x≤2097152*2097152:=Int.mul_le_mul (by omega) (by omega) h0 (by omega)
  exact ⟨Int.mul_nonneg h0 h0,by omega⟩
 ·rw [←Int.neg_mul_neg]
  have h:-x*-x≤2097152*2097152:=Int.mul_le_mul (by omega) (by omega) (by omega) (by omega)
  exact ⟨Int.mul_nonneg (by omega) (by omega),by omega⟩
theorem IterX.cast {pn:Option Value} {P:Program} {G:Hp} {f:FuncId} {caps caps':Array Value} {hp:Hp} {rs rs':List Nat} {xs:List (Array Value)} (h:IterX pn P G f caps hp rs xs) (e1:caps=caps') (e2:rs=rs'):IterX pn P G f caps' hp rs' xs:=by subst e1 e2;exact h
def smHp (x0 x1 x2:Int) (i:Nat):Hp:=hpL G1 [(200,vb x0 x1 x2),(208,⟨#[.int .i64 (match i with|0=>0|1=>x0*x0|2=>x0*x0+x1*x1|_=>x0*x0+x1*x1+x2*x2)],.ty 3⟩)]
def smTs:Nat→Value:=tsL [(1,.pointer (some ⟨200,0,none⟩)),(2,.pointer (some ⟨208,0,none⟩))]
theorem psum_ok (x0 x1 x2:Int) (h0:inX x0) (h1:inX x1) (h2:inX x2):RetP Tryz.prog G1 46 #[vv x0 x1 x2] (.ret (.int .i64 (x0*x0+x1*x1+x2*x2))):=by
 refine retp_of G1F Tryz.func46 rfl Tryz.call46 (fun v h=>by cases h;simp) (by simp [vv]) (by simp [Tryz.ntmps46]) ?_
 have z0:=inB_sq h0
 obtain ⟨l0,u0⟩:=h0
 have q0:Int.bmod (x0*x0) 18446744073709551616=x0*x0:=bm (by omega) (by omega)
 have s0:Int.bmod (x0*x0) 18446744073709551616=x0*x0:=bm (by omega) (by omega)
 have z1:=inB_sq h1
 obtain ⟨l1,u1⟩:=h1
 have q1:Int.bmod (x1*x1) 18446744073709551616=x1*x1:=bm (by omega) (by omega)
 have s1:Int.bmod (x0*x0+x1*x1) 18446744073709551616=x0*x0+x1*x1:=bm (by omega) (by omega)
 have z2:=inB_sq h2
 obtain ⟨l2,u2⟩:=h2
 have q2:Int.bmod (x2*x2) 18446744073709551616=x2*x2:=bm (by omega) (by omega)
 have s2:Int.bmod (x0*x0+x1*x1+x2*x2) 18446744073709551616=x0*x0+x1*x1+x2*x2:=bm (by omega) (by omega)
 intro C hC hC0 hY
 repeat' (first|refine gwA ?_|(refine gwX ?_;intro Q hQ hP;simp [hC,hY,vv];(first|refine hQ _ _ _ _ (by kernel_rfl) ?_|refine hP _ _ (by kernel_rfl) fun _=>?_);clear hQ hP Q)|(refine gwC ?_ ?_<;>(intro hb;try (cases hb;done))))
 refine GW_region' [47] (by kernel_rfl) ?_;intro Q hQ hP;simp [hC,hY]
 refine heapK_of (parts_new x0 x1 x2 224 (by omega)) (by simp) (fun _ _=>rfl) (by simp [Res.at]) ?_
 simp
 refine hQ _ _ _ _ ?_;clear hQ hP Q
 repeat' (first|refine gwA ?_|(refine gwX ?_;intro Q hQ hP;simp [hC,hY];(first|refine hQ _ _ _ _ (by kernel_rfl) ?_|refine hP _ _ (by kernel_rfl) fun _=>?_);clear hQ hP Q)|(refine gwC ?_ ?_<;>(intro hb;try (cases hb;done))))
 refine GW_range (f:=68) (rs:=[224]) (xs:=partsXs x0 x1 x2) (caps:=#[.pointer (some ⟨224,0,none⟩)]) (by simp) ?_ (by simp [partsXs]) (by simp [Tryz.ntmps46]) smTs (smHp x0 x1 x2) 300 3 (by simp [partsXs]) ?_ ?_ ?_ ?_ ?_
 ·rw [hC]
  refine IterX.cast (IterX.rn (fun k=>if k=100 then 224 else k) G1F (fun k hk=>hpL_low (by simp) hk) (rs:=[100]) ?_ (parts_it x0 x1 x2)) (by simp [ren0]) (by simp)
  refine ⟨fun k hk=>?_,?_,?_,?_⟩
  ·have h1:¬k=100:=by omega
   have h3:¬k=200:=by omega
   have h4:¬k=208:=by omega
   have h8:¬k=224:=by omega
   simp [h1,h3,h4,h8,pHp]
  ·simp
  ·simp [pHp,vb,Blk.rn,renF,ren0]
  ·simp
 ·refine weakL _ 300 hC G1F (m0:=[]) hC0 (by omega) ?_ ?_ ?_
  ·simp [idsV,idsA,idsF,ids0,dom]
  ·simp [ids_lit,idsF,ids0,vb]
  ·simp
 ·simp [smHp,dom]
 ·intro i hi t
  refine tsL_ids ?_ t
  simp [idsV,idsA,idsF,ids0,dom,smHp]
 ·intro i x hi hx C1 l hC1 hh1 hY1
  have hCC:=hC
  have hC1':C1.G=G1:=hC1.trans hC
  replace hC:=hC1'
  replace hY:=hY1
  have:i=0∨i=1∨i=2:=by omega
  rcases this with rfl|rfl|rfl
  all_goals
   simp [partsXs] at hx
   subst hx
   unfold smHp
  all_goals
   repeat' (first|refine gwA ?_|(refine gwX ?_;intro Q hQ hP;simp [hC,hY,roundTs,smTs];(first|refine hQ _ _ _ _ (by kernel_rfl) ?_|refine hP _ _ (by kernel_rfl) fun _=>?_);clear hQ hP Q)|(refine gwC ?_ ?_<;>(intro hb;try (cases hb;done))))
  all_goals
   intro C2 hC2 hh2 hY2
   replace hC:C2.G=G1:=hC2.trans hCC
   replace hY:=hY2
   repeat' (first|refine gwA ?_|((first|refine gwR [1000067] ?_|refine gwD [1000067] ?_);intro Q hQ hP;simp [hC,hY,roundTs,smTs,lmB,l0,u0,q0,s0,l1,u1,q1,s1,l2,u2,q2,s2];(repeat ((first|(refine callP_of (pmust_t _) ?_)|(refine callP_of (pmust_f _) ?_));try simp [hC,hY,roundTs,smTs,lmB,l0,u0,q0,s0,l1,u1,q1,s1,l2,u2,q2,s2]));(first|refine hQ _ _ _ _ (by kernel_rfl) ?_|refine hP _ _ (by kernel_rfl) fun _=>?_);clear hQ hP Q)|(refine gwC ?_ ?_<;>(intro hb;try (cases hb;done))))
  all_goals
   refine weakL [] 300 hC1' G1F hh1 (by omega) ?_ ?_ ?_
   ·simp
   ·simp [ids_lit,idsF,ids0,vb]
   ·simp [vb]
 ·left
  refine ⟨rfl,?_⟩
  unfold smHp smTs
  repeat' (first|refine gwA ?_|(refine gwX ?_;intro Q hQ hP;simp [hC,hY];(first|refine hQ _ _ _ _ (by kernel_rfl) ?_|refine hP _ _ (by kernel_rfl) fun _=>?_);clear hQ hP Q)|(refine gwC ?_ ?_<;>(intro hb;try (cases hb;done))))
  refine ⟨.inr trivial,?_⟩
  simp [Tryz.results46]
theorem slice_Rn {c:Array Value} {T:TypeId} (hc:∀ x∈c,flatF x=true) (b:Nat) (hb:100≤b):Rn (fun k=>if k=100 then b else k) (hpL G1 [(100,⟨c,T⟩)]) (hpL G1 [(b,⟨c,T⟩)]) [100]:=by
 refine ⟨fun k hk=>?_,?_,?_,?_⟩
 ·have h1:¬k=100:=by omega
  have h2:¬k=b:=by omega
  simp [h1,h2]
 ·simp [hb]
 ·simp [Blk.rn]
  exact (map_eq_self (fun x hx=>flatF_ren (hc x hx))).symm
 ·simp
theorem Fun.sl {f:FuncId} {c:Array Value} {T:TypeId} {n:Nat} {v:Value} (h:Fun Tryz.prog G1 f #[.slice (some ⟨100,0,none⟩) n n] (hpL G1 [(100,⟨c,T⟩)]) [100] (.ret v [])) (hc:∀ x∈c,flatF x=true) (hv:flatV v=true) (b:Nat) (hb:100≤b) :
  Fun Tryz.prog G1 f #[.slice (some ⟨b,0,none⟩) n n] (hpL G1 [(b,⟨c,T⟩)]) [b] (.ret v []):=by
 have h':=h.rn (fun k=>if k=100 then b else k) G1F (fun k hk=>hpL_low (by simp) hk) (slice_Rn hc b hb)
 rw [flatV_ren hv] at h'
 simpa [ren,renA,renF,ren0,rnL] using h'
theorem Fun.slp {f:FuncId} {c:Array Value} {T:TypeId} {n:Nat} {v:Value} (h:Fun Tryz.prog G1 f #[.slice (some ⟨100,0,none⟩) n n] (hpL G1 [(100,⟨c,T⟩)]) [100] (.pan v)) (hc:∀ x∈c,flatF x=true) (b:Nat) (hb:100≤b) :
  Fun Tryz.prog G1 f #[.slice (some ⟨b,0,none⟩) n n] (hpL G1 [(b,⟨c,T⟩)]) [b] (.pan v):=by
 have h':=h.rnp (fun k=>if k=100 then b else k) G1F (fun k hk=>hpL_low (by simp) hk) (slice_Rn hc b hb)
 simpa [ren,renA,renF,ren0,rnL] using h'
theorem heapK_sl {f:FuncId} {c:Array Value} {T:TypeId} {n nk b:Nat} {v:Value} {hp:Hp} {K:Eff→Prop} (h:Fun Tryz.prog G1 f #[.slice (some ⟨100,0,none⟩) n n] (hpL G1 [(100,⟨c,T⟩)]) [100] (.ret v [])) (hc:∀ x∈c,flatF x=true) (hv:flatV v=true) (hb:100≤b)
  (h1:hp b=some ⟨c,T⟩) (hK:K ((Res.ret v []).eff [b])):heapK Tryz.prog G1 f #[.slice (some ⟨b,0,none⟩) n n] hp nk K :=
 heapK_of (hp':=hpL G1 [(b,⟨c,T⟩)]) (h.sl hc hv b hb) (by simp [h1]) (fun k hk=>hpL_low (by simp;omega) hk) trivial hK
theorem heapK_slp {f:FuncId} {c:Array Value} {T:TypeId} {n nk b:Nat} {v:Value} {hp:Hp} {K:Eff→Prop} (h:Fun Tryz.prog G1 f #[.slice (some ⟨100,0,none⟩) n n] (hpL G1 [(100,⟨c,T⟩)]) [100] (.pan v)) (hc:∀ x∈c,flatF x=true) (hb:100≤b)
  (h1:hp b=some ⟨c,T⟩) (hK:K ((Res.pan v).eff [b])):heapK Tryz.prog G1 f #[.slice (some ⟨b,0,none⟩) n n] hp nk K :=
 heapK_of (hp':=hpL G1 [(b,⟨c,T⟩)]) (h.slp hc b hb) (by simp [h1]) (fun k hk=>hpL_low (by simp;omega) hk) trivial hK
theorem absmul {a b p q:Int} (h1:-p≤a) (h2:a≤p) (h3:-q≤b) (h4:b≤q):-(p*q)≤a*b∧a*b≤p*q:=by
 have e1:a.natAbs≤p.natAbs:=by omega
 have e2:b.natAbs≤q.natAbs:=by omega
 have e3:=Nat.mul_le_mul e1 e2
 rw [←Int.natAbs_mul,←Int.natAbs_mul] at e3
 have e4:0≤p*q:=Int.mul_nonneg (by omega) (by omega)
 omega
theorem sq_nonneg (a:Int):0≤a*a:=by
 by_cases h:0≤a
 ·exact Int.mul_nonneg h h
 ·rw [←Int.neg_mul_neg];exact Int.mul_nonneg (by omega) (by omega)
def pmag (n d g m x r:Int):Int:=(isq (2*n*g*m*x*(2*n*g*m*x) / (d*d*r*r*r))+1) / 2
def pullV (n d g m x r:Int):Int:=if n<0 then (if x<0 then pmag n d g m x r else -pmag n d g m x r) else (if x<0 then -pmag n d g m x r else pmag n d g m x r)
structure PIn (n d g m x r:Int):Prop where
 n0:-2097152≤n
 n1:n≤2097152
 d0:1≤d
 d1:d≤2097152
 g0:1≤g
 g1:g≤1048576
 m0:1≤m
 m1:m≤1024
 x0:-2097152≤x
 x1:x≤2097152
 r0:1≤r
 r1:r≤13194139533312
 xr:x*x≤r
theorem chk_in {n d g m x r:Int}:chkE n d g m x r=0↔PIn n d g m x r:=by
 unfold chkE
 constructor
 ·intro h
  split at h
  rotate_left
  ·cases h
  rename_i hc
  obtain ⟨f0,f1,f2,f3,f4,f5,f6,f7,f8,f9,f10,f11⟩:=hc
  split at h
  ·cases h
  rename_i hr
  split at h
  rotate_left
  ·cases h
  rename_i hx
  exact ⟨f0,f1,f2,f3,f4,f5,f6,f7,f8,f9,by omega,f11,hx⟩
 ·rintro ⟨f0,f1,f2,f3,f4,f5,f6,f7,f8,f9,f10,f11,f12⟩
  rw [if_pos ⟨f0,f1,f2,f3,f4,f5,f6,f7,f8,f9,by omega,f11⟩,if_neg (by omega),if_pos f12]
section
variable {n d g m x r:Int} (h:PIn n d g m x r)
include h
theorem PIn.p1:-4194304≤2*n∧2*n≤4194304:=⟨by have:=h.n0;omega,by have:=h.n1;omega⟩
theorem PIn.p2:-4398046511104≤2*n*g∧2*n*g≤4398046511104:=by
 have:=absmul h.p1.1 h.p1.2 (b:=g) (q:=1048576) (by have:=h.g0;omega) h.g1
 simpa using this
theorem PIn.p3:-4503599627370496≤2*n*g*m∧2*n*g*m≤4503599627370496:=by
 have:=absmul h.p2.1 h.p2.2 (b:=m) (q:=1024) (by have:=h.m0;omega) h.m1
 simpa using this
theorem PIn.p4:-9444732965739290427392≤2*n*g*m*x∧2*n*g*m*x≤9444732965739290427392:=by
 have:=absmul h.p3.1 h.p3.2 h.x0 h.x1
 simpa using this
theorem PIn.q1:1≤d*d∧d*d≤4398046511104:=by
 have h1:=absmul (p:=2097152) (q:=2097152) (by have:=h.d0;omega) h.d1 (by have:=h.d0;omega) h.d1
 have h2:1*1≤d*d:=Int.mul_le_mul h.d0 h.d0 (by omega) (by have:=h.d0;omega)
 omega
theorem PIn.q2:r≤d*d*r∧d*d*r≤4398046511104*13194139533312:=by
 refine ⟨?_,Int.mul_le_mul h.q1.2 h.r1 (by have:=h.r0;omega) (by omega)⟩
 have h2:1*r≤d*d*r:=Int.mul_le_mul_of_nonneg_right h.q1.1 (by have:=h.r0;omega)
 omega
theorem PIn.q3:r≤d*d*r*r∧d*d*r*r≤4398046511104*13194139533312*13194139533312:=by
 have hr:=h.r0
 have h1:=h.q2
 refine ⟨?_,Int.mul_le_mul h1.2 h.r1 (by omega) (by omega)⟩
 have h2:1*r≤d*d*r*r:=Int.mul_le_mul_of_nonneg_right (by omega) (by omega)
 omega
theorem PIn.q4:r≤d*d*r*r*r∧d*d*r*r*r≤4398046511104*13194139533312*13194139533312*13194139533312:=by
 have hr:=h.r0
 have h1:=h.q3
 refine ⟨?_,Int.mul_le_mul h1.2 h.r1 (by omega) (by omega)⟩
 have h2:1*r≤d*d*r*r*r:=Int.mul_le_mul_of_nonneg_right (by omega) (by omega)
 omega
theorem PIn.a_le:2*n*g*m*x*(2*n*g*m*x)≤89202980794122492566142873090593446023921664:=by
 have:=(absmul h.p4.1 h.p4.2 h.p4.1 h.p4.2).2
 simpa using this
theorem PIn.div_le:2*n*g*m*x*(2*n*g*m*x) / (d*d*r*r*r)≤20282409603651670423947251286016:=by
 have hr:=h.r0
 have hB:=h.q4.1
 have h1:(2*n*g*m)*(2*n*g*m)≤20282409603651670423947251286016:=by
  have:=(absmul h.p3.1 h.p3.2 h.p3.1 h.p3.2).2
  simpa using this
 have e:2*n*g*m*x*(2*n*g*m*x)=(2*n*g*m)*(2*n*g*m)*(x*x):=by
  rw [Int.mul_assoc (2*n*g*m) x,Int.mul_left_comm x,←Int.mul_assoc]
 have h2:(2*n*g*m)*(2*n*g*m)*(x*x)≤20282409603651670423947251286016*r:=Int.mul_le_mul h1 h.xr (sq_nonneg x) (by omega)
 have h3:20282409603651670423947251286016*r≤20282409603651670423947251286016*(d*d*r*r*r):=Int.mul_le_mul_of_nonneg_left hB (by omega)
 rw [e]
 refine Int.le_of_lt_add_one (Int.ediv_lt_of_lt_mul (by omega) ?_)
 rw [Int.add_mul]
 omega
theorem PIn.mag:0≤pmag n d g m x r∧pmag n d g m x r≤4503599627370496:=by
 have hB:0<d*d*r*r*r:=by have:=h.q4.1;have:=h.r0;omega
 have hA:=sq_nonneg (2*n*g*m*x)
 obtain ⟨h1,h2,h3⟩:=isq_spec (2*n*g*m*x*(2*n*g*m*x) / (d*d*r*r*r)) (Int.ediv_nonneg hA (by omega))
 have h4:=h.div_le
 have h5:=sq_bd 4503599627370497 h1 (by decide) (by omega)
 unfold pmag
 omega
end
set_option maxHeartbeats 1000000 in
theorem one_ok (n d g m x r:Int) (h:PIn n d g m x r):RetP Tryz.prog G1 48 #[.int .i64 n,.int .i64 d,.int .i64 g,.int .i64 m,.int .i64 x,.int .i64 r] (.ret (.int .i64 (pullV n d g m x r))):=by
 refine retp_of G1F Tryz.func48 rfl Tryz.call48 (fun v h=>by cases h;simp) (by simp) (by simp [Tryz.ntmps48]) ?_
 intro C hC hC0 hY
 have hck:=check_ok n d g m x r (chk_in.2 h)
 have p1:=h.p1
 have p2:=h.p2
 have p3:=h.p3
 have p4:=h.p4
 have q1:=h.q1
 have q2:=h.q2
 have q3:=h.q3
 have q4:=h.q4
 have r0:=h.r0
 have t1:=times5_fun 2 n g m x ⟨by decide,⟨by have:=h.n0;omega,by have:=h.n1;omega⟩,⟨by have:=h.g0;omega,by have:=h.g1;omega⟩,⟨by have:=h.m0;omega,by have:=h.m1;omega⟩,⟨by have:=h.x0;omega,by have:=h.x1;omega⟩⟩
  ⟨⟨by decide,by decide⟩,⟨by omega,by omega⟩,⟨by omega,by omega⟩,⟨by omega,by omega⟩,⟨by omega,by omega⟩⟩
 have t2:=times5_fun d d r r r ⟨⟨by have:=h.d0;omega,by have:=h.d1;omega⟩,⟨by have:=h.d0;omega,by have:=h.d1;omega⟩,⟨by omega,by have:=h.r1;omega⟩,⟨by omega,by have:=h.r1;omega⟩,⟨by omega,by have:=h.r1;omega⟩⟩
  ⟨⟨by have:=h.d0;omega,by have:=h.d1;omega⟩,⟨by omega,by omega⟩,⟨by omega,by omega⟩,⟨by omega,by omega⟩,⟨by omega,by omega⟩⟩
 have wA:wr (2*n*g*m*x):=⟨by omega,by omega⟩
 have sA:=wr_sz wA
 have hAle:=h.a_le
 have hA0:=sq_nonneg (2*n*g*m*x)
 have wA2:wr (2*n*g*m*x*(2*n*g*m*x)):=⟨by omega,by omega⟩
 have wB:wr (d*d*r*r*r):=⟨by omega,by omega⟩
 have hB0:0<d*d*r*r*r:=by omega
 have hm:=h.mag
 have hmw:wr (pmag n d g m x r):=⟨by omega,by omega⟩
 have sM:=wr_sz hmw
 have iM:i64 (pmag n d g m x r):=⟨by omega,by omega⟩
 have hmb:Int.bmod (-pmag n d g m x r) 18446744073709551616=-pmag n d g m x r:=bm (by omega) (by omega)
 have hpm:(isq (2*n*g*m*x*(2*n*g*m*x) / (d*d*r*r*r))+1) / 2=pmag n d g m x r:=rfl
 unfold pullV
 by_cases hn:n<0<;>by_cases hx:x<0
 all_goals simp only [hn,hx,if_true,if_false]
 all_goals
  repeat' (first|refine gwA ?_|((first|refine gwR [69,72] ?_|refine gwD [69,72] ?_);intro Q hQ hP;simp [hC,hY,sA,wA2,wB,hA0,hB0,hpm,sM,iM,hmb,hn,hx];(repeat ((first|(refine heapK_sl hck (by simp) (by simp) (by omega) ?_ ?_;focus (simp;done))|(refine heapK_sl t1 (by simp) (by simp) (by omega) ?_ ?_;focus (simp;done))|(refine heapK_sl t2 (by simp) (by simp) (by omega) ?_ ?_;focus (simp;done)));try simp [hC,hY,sA,wA2,wB,hA0,hB0,hpm,sM,iM,hmb,hn,hx]));(first|refine hQ _ _ _ _ (by kernel_rfl) ?_|refine hP _ _ (by kernel_rfl) fun _=>?_);clear hQ hP Q)|(refine gwC ?_ ?_<;>(intro hb;try (cases hb;done))))
 all_goals
  refine ⟨.inr trivial,?_⟩
  simp [Tryz.results48]
theorem one_bad (n d g m x r:Int) (h:chkE n d g m x r≠0):RetP Tryz.prog G1 48 #[.int .i64 n,.int .i64 d,.int .i64 g,.int .i64 m,.int .i64 x,.int .i64 r] (.pan (erV (chkE n d g m x r))):=by
 refine retp_of G1F Tryz.func48 rfl Tryz.call48 (fun v h=>by cases h) (by simp) (by simp [Tryz.ntmps48]) ?_
 intro C hC hC0 hY
 have hck:=check_bad n d g m x r h
 repeat' (first|refine gwA ?_|((first|refine gwR [69] ?_|refine gwD [69] ?_);intro Q hQ hP;simp [hC,hY];(repeat ((first|(refine heapK_slp hck (by simp) (by omega) (by simp) ?_));try simp [hC,hY]));(first|refine hQ _ _ _ _ (by kernel_rfl) ?_|refine hP _ _ (by kernel_rfl) fun _=>?_);clear hQ hP Q)|(refine gwC ?_ ?_<;>(intro hb;try (cases hb;done))))
 rfl
def ib (n:Int):Blk:=⟨#[.int .i64 n],.ty 3⟩
def otV (fm fs:Nat→Int) (i k:Nat):Array Value:=#[.int .i64 (fm k),.agg #[.int .i64 (fs (6*k) - fs (6*i)),.int .i64 (fs (6*k+1) - fs (6*i+1)),.int .i64 (fs (6*k+2) - fs (6*i+2))]]
def otIx (n i:Nat):List Nat:=(List.range n).filter fun k=>k != i
def otXs (fm fs:Nat→Int) (n i:Nat):List (Array Value):=(otIx n i).map (otV fm fs i)
def otM (L:List (Nat×Blk)) (ka ks off n cap off2 n2 cap2:Nat) (g bx tp nr md st i:Int):List (Nat×Blk):=(200,cfB (.slice (some ⟨ka,off,none⟩) n cap) g bx tp nr md)::(208,stB' st ks off2 n2 cap2)::(216,ib i)::L
theorem otM_ok {L:List (Nat×Blk)} {ka ks:Nat} {bm bs:Blk} (hT:LKa L ka ks bm bs) (off n cap off2 n2 cap2:Nat) (g bx tp nr md st i:Int):LOd G1 (otM L ka ks off n cap off2 n2 cap2 g bx tp nr md st i) 300:=by
 have hL:=hT.ok
 refine ⟨?_,?_,?_⟩
 ·intro p hp
  rcases List.mem_cons.1 hp with rfl|hp
  ·simp
  ·rcases List.mem_cons.1 hp with rfl|hp
   ·simp
   ·rcases List.mem_cons.1 hp with rfl|hp
    ·simp
    ·have:=hL.big p hp;omega
 ·have h2:∀ q,200≤q→q∉keys L:=fun q hq h=>by
   obtain ⟨p,hp,e⟩:=mem_keys.1 h
   have:=hL.big p hp
   omega
  refine List.nodup_cons.2 ⟨fun h=>?_,List.nodup_cons.2 ⟨fun h=>?_,List.nodup_cons.2 ⟨h2 216 (by omega),hL.one⟩⟩⟩
  ·rcases List.mem_cons.1 h with e|h
   ·exact absurd e (by simp)
   ·rcases List.mem_cons.1 h with e|h
    ·exact absurd e (by simp)
    ·exact h2 200 (by omega) h
  ·rcases List.mem_cons.1 h with e|h
   ·exact absurd e (by simp)
   ·exact h2 208 (by omega) h
 ·have h1:dom (hpL G1 (otM L ka ks off n cap off2 n2 cap2 g bx tp nr md st i)) ka:=by
   have:=hT.a2
   unfold dom otM
   rw [hpL_cons,if_neg (by omega),hpL_cons,if_neg (by omega),hpL_cons,if_neg (by omega),hT.a]
   simp
  have h2:dom (hpL G1 (otM L ka ks off n cap off2 n2 cap2 g bx tp nr md st i)) ks:=by
   have:=hT.k2
   unfold dom otM
   rw [hpL_cons,if_neg (by omega),hpL_cons,if_neg (by omega),hpL_cons,if_neg (by omega),hT.s]
   simp
  intro p hp
  rcases List.mem_cons.1 hp with rfl|hp
  ·simp [cfB,ids_lit,idsF,ids0,h1]
  ·rcases List.mem_cons.1 hp with rfl|hp
   ·simp [stB',ids_lit,idsF,ids0,h2]
   ·rcases List.mem_cons.1 hp with rfl|hp
    ·simp [ib,ids_lit,idsF,ids0]
    ·exact Blk.fx_ids (hT.fx p hp) _
theorem ot_sub {st:Int} {fs:Nat→Int} {n:Nat} (hr:rightB st fs n=true) (i k:Nat) (hi:i<n) (hk:k<n):eaE subI (fs (6*k)) (fs (6*k+1)) (fs (6*k+2)) (fs (6*i)) (fs (6*i+1)) (fs (6*i+2))=0:=by
 have a:=(right_b hr hi).1
 have b:=(right_b hr hk).1
 unfold eaE
 rw [if_pos ?_]
 unfold inW at a b
 unfold fnI subI
 omega
theorem eBodyX {b:Blk} {off n:Nat} {f:Nat→Int} (h:SB b off n f) (i:Nat) (hi:i<n) (o:Nat) (e:o=off+i*6):loadK Tryz.prog 31 b o=some (.agg #[.int .i64 (f (6*i)),.int .i64 (f (6*i+1)),.int .i64 (f (6*i+2))]):=by rw [e];exact h.vec hi (u:=0) (by omega)
theorem ea_s (x y:Int):eaV 0 (subI x y)=x - y:=by unfold eaV subI;simp
set_option maxRecDepth 20000 in
set_option maxHeartbeats 4000000 in
theorem others_it10 (L:List (Nat×Blk)) (ka ks:Nat) (bm bs:Blk) (hT:LKa L ka ks bm bs) (off cap off2 cap2:Nat) (fm fs:Nat→Int) (hm:MB bm off 1 fm) (hSb:SB bs off2 1 fs) (g bx tp nr md st:Int) (hrt:rightB st fs 1=true) :
  IterK Tryz.prog G1 42 #[.pointer (some ⟨208,0,none⟩),.pointer (some ⟨216,0,none⟩),.pointer (some ⟨200,0,none⟩)] (hpL G1 (otM L ka ks off 1 cap off2 1 cap2 g bx tp nr md st 0)) (keys (otM L ka ks off 1 cap off2 1 cap2 g bx tp nr md st 0)) (otXs fm fs 1 0):=by
 have hL:=otM_ok hT off 1 cap off2 1 cap2 g bx tp nr md st 0
 have hlt:∀ k,dom (hpL G1 (otM L ka ks off 1 cap off2 1 cap2 g bx tp nr md st 0)) k→k<300:=fun k hk=>Classical.byContradiction fun h1=>hk (hL.free G1F (by omega) k (by omega))
 refine iterk_ofD (B:=300) (v:=.tuple #[]) G1F Tryz.func42 rfl Tryz.call42 hL ?_ (by simp [Tryz.ntmps42]) (by omega) ?_
 ·simp [idsV,idsA,idsF,ids0,otM,keys]
 intro C l stop hC hC0 hY
 have hA:=hT.a
 have hS:=hT.s
 have hne:=hT.ne
 have hna:=hT.na
 have hks:=hT.k1
 have exs:otXs fm fs 1 0=[]:=rfl
 rw [exs] at hY ⊢
 have b0:=eBodyAt hSb 0 (by omega) (off2) (by omega)
 simp only [Nat.reduceMul,Nat.reduceAdd,Nat.mul_zero,Nat.zero_add] at b0
 have w0:=eMassAt hm 0 (by omega) (off) (by omega)
 have v0:=eBodyX hSb 0 (by omega) (off2) (by omega)
 simp only [Nat.reduceMul,Nat.reduceAdd,Nat.mul_zero,Nat.zero_add] at v0
 have e0:=ot_sub hrt 0 0 (by omega) (by omega)
 simp only [Nat.reduceMul,Nat.reduceAdd,Nat.mul_zero,Nat.zero_add] at e0
 unfold otM cfB stB' ib
 repeat' (first|refine GWL_start ?_|refine GWL_step ?_|refine gwA ?_|(refine gwX ?_;intro Q hQ hP;simp [hC,hY,hA,hS,hne,hna,ea_s,b0,w0,v0,e0];(first|refine hQ _ _ _ _ (by rcases hT.k8 with h8|h8<;>rcases hT.a8 with h9|h9<;>subst h8<;>subst h9<;>kernel_rfl) ?_|refine hP _ _ (by rcases hT.k8 with h8|h8<;>rcases hT.a8 with h9|h9<;>subst h8<;>subst h9<;>kernel_rfl) fun _=>?_);clear hQ hP Q)|(refine gwC ?_ ?_<;>(intro hb;try (cases hb;done))))
 refine ⟨?_,?_,?_,fun k hk=>?_⟩
 ·simp
 ·simp [Tryz.results42]
 ·first|trivial|omega|(simp;done)|(simp;omega)
 ·have hk:=hlt k hk
  first|rfl|(simp (disch:=omega) only [upd_other]<;>rfl)
set_option maxRecDepth 20000 in
set_option maxHeartbeats 4000000 in
theorem others_it20 (L:List (Nat×Blk)) (ka ks:Nat) (bm bs:Blk) (hT:LKa L ka ks bm bs) (off cap off2 cap2:Nat) (fm fs:Nat→Int) (hm:MB bm off 2 fm) (hSb:SB bs off2 2 fs) (g bx tp nr md st:Int) (hrt:rightB st fs 2=true) :
  IterK Tryz.prog G1 42 #[.pointer (some ⟨208,0,none⟩),.pointer (some ⟨216,0,none⟩),.pointer (some ⟨200,0,none⟩)] (hpL G1 (otM L ka ks off 2 cap off2 2 cap2 g bx tp nr md st 0)) (keys (otM L ka ks off 2 cap off2 2 cap2 g bx tp nr md st 0)) (otXs fm fs 2 0):=by
 have hL:=otM_ok hT off 2 cap off2 2 cap2 g bx tp nr md st 0
 have hlt:∀ k,dom (hpL G1 (otM L ka ks off 2 cap off2 2 cap2 g bx tp nr md st 0)) k→k<300:=fun k hk=>Classical.byContradiction fun h1=>hk (hL.free G1F (by omega) k (by omega))
 refine iterk_ofD (B:=300) (v:=.tuple #[]) G1F Tryz.func42 rfl Tryz.call42 hL ?_ (by simp [Tryz.ntmps42]) (by omega) ?_
 ·simp [idsV,idsA,idsF,ids0,otM,keys]
 intro C l stop hC hC0 hY
 have hA:=hT.a
 have hS:=hT.s
 have hne:=hT.ne
 have hna:=hT.na
 have hks:=hT.k1
 have exs:otXs fm fs 2 0=[#[.int .i64 (fm 1),.agg #[.int .i64 (fs 6 - fs 0),.int .i64 (fs 7 - fs 1),.int .i64 (fs 8 - fs 2)]]]:=rfl
 rw [exs] at hY ⊢
 have b0:=eBodyAt hSb 0 (by omega) (off2) (by omega)
 simp only [Nat.reduceMul,Nat.reduceAdd,Nat.mul_zero,Nat.zero_add] at b0
 have w0:=eMassAt hm 0 (by omega) (off) (by omega)
 have v0:=eBodyX hSb 0 (by omega) (off2) (by omega)
 simp only [Nat.reduceMul,Nat.reduceAdd,Nat.mul_zero,Nat.zero_add] at v0
 have e0:=ot_sub hrt 0 0 (by omega) (by omega)
 simp only [Nat.reduceMul,Nat.reduceAdd,Nat.mul_zero,Nat.zero_add] at e0
 have b1:=eBodyAt hSb 1 (by omega) (off2+6) (by omega)
 simp only [Nat.reduceMul,Nat.reduceAdd,Nat.mul_zero,Nat.zero_add] at b1
 have w1:=eMassAt hm 1 (by omega) (off+1) (by omega)
 have v1:=eBodyX hSb 1 (by omega) (off2+6) (by omega)
 simp only [Nat.reduceMul,Nat.reduceAdd,Nat.mul_zero,Nat.zero_add] at v1
 have e1:=ot_sub hrt 0 1 (by omega) (by omega)
 simp only [Nat.reduceMul,Nat.reduceAdd,Nat.mul_zero,Nat.zero_add] at e1
 unfold otM cfB stB' ib
 by_cases hst:1≤stop
 ·have q0:(0 != stop)=true:=by simp;omega
  repeat' (first|refine GWL_start ?_|refine GWL_step ?_|refine gwA ?_|(refine gwX ?_;intro Q hQ hP;simp [hC,hY,hA,hS,hne,hna,ea_s,b0,w0,v0,e0,b1,w1,v1,e1,q0,hst];(first|refine hQ _ _ _ _ (by rcases hT.k8 with h8|h8<;>rcases hT.a8 with h9|h9<;>subst h8<;>subst h9<;>kernel_rfl) ?_|refine hP _ _ (by rcases hT.k8 with h8|h8<;>rcases hT.a8 with h9|h9<;>subst h8<;>subst h9<;>kernel_rfl) fun _=>?_);clear hQ hP Q)|(refine gwC ?_ ?_<;>(intro hb;try (cases hb;done))))
  refine ⟨?_,?_,?_,fun k hk=>?_⟩
  ·simp
  ·simp [Tryz.results42]
  ·first|trivial|omega|(simp;done)|(simp;omega)
  ·have hk:=hlt k hk
   first|rfl|(simp (disch:=omega) only [upd_other]<;>rfl)
 ·have:stop=0:=by omega
  rcases this with rfl
  all_goals
   repeat' (first|refine GWL_start ?_|refine GWL_step ?_|refine gwA ?_|(refine gwX ?_;intro Q hQ hP;simp [hC,hY,hA,hS,hne,hna,ea_s,b0,w0,v0,e0,b1,w1,v1,e1];(first|refine hQ _ _ _ _ (by rcases hT.k8 with h8|h8<;>rcases hT.a8 with h9|h9<;>subst h8<;>subst h9<;>kernel_rfl) ?_|refine hP _ _ (by rcases hT.k8 with h8|h8<;>rcases hT.a8 with h9|h9<;>subst h8<;>subst h9<;>kernel_rfl) fun _=>?_);clear hQ hP Q)|(refine gwC ?_ ?_<;>(intro hb;try (cases hb;done))))
  all_goals
   refine ⟨?_,?_,?_,fun k hk=>?_⟩
   ·simp
   ·simp [Tryz.results42]
   ·first|trivial|omega|(simp;done)|(simp;omega)
   ·have hk:=hlt k hk
    first|rfl|(simp (disch:=omega) only [upd_other]<;>rfl)
set_option maxRecDepth 20000 in
set_option maxHeartbeats 4000000 in
theorem others_it21 (L:List (Nat×Blk)) (ka ks:Nat) (bm bs:Blk) (hT:LKa L ka ks bm bs) (off cap off2 cap2:Nat) (fm fs:Nat→Int) (hm:MB bm off 2 fm) (hSb:SB bs off2 2 fs) (g bx tp nr md st:Int) (hrt:rightB st fs 2=true) :
  IterK Tryz.prog G1 42 #[.pointer (some ⟨208,0,none⟩),.pointer (some ⟨216,0,none⟩),.pointer (some ⟨200,0,none⟩)] (hpL G1 (otM L ka ks off 2 cap off2 2 cap2 g bx tp nr md st 1)) (keys (otM L ka ks off 2 cap off2 2 cap2 g bx tp nr md st 1)) (otXs fm fs 2 1):=by
 have hL:=otM_ok hT off 2 cap off2 2 cap2 g bx tp nr md st 1
 have hlt:∀ k,dom (hpL G1 (otM L ka ks off 2 cap off2 2 cap2 g bx tp nr md st 1)) k→k<300:=fun k hk=>Classical.byContradiction fun h1=>hk (hL.free G1F (by omega) k (by omega))
 refine iterk_ofD (B:=300) (v:=.tuple #[]) G1F Tryz.func42 rfl Tryz.call42 hL ?_ (by simp [Tryz.ntmps42]) (by omega) ?_
 ·simp [idsV,idsA,idsF,ids0,otM,keys]
 intro C l stop hC hC0 hY
 have hA:=hT.a
 have hS:=hT.s
 have hne:=hT.ne
 have hna:=hT.na
 have hks:=hT.k1
 have exs:otXs fm fs 2 1=[#[.int .i64 (fm 0),.agg #[.int .i64 (fs 0 - fs 6),.int .i64 (fs 1 - fs 7),.int .i64 (fs 2 - fs 8)]]]:=rfl
 rw [exs] at hY ⊢
 have b0:=eBodyAt hSb 0 (by omega) (off2) (by omega)
 simp only [Nat.reduceMul,Nat.reduceAdd,Nat.mul_zero,Nat.zero_add] at b0
 have w0:=eMassAt hm 0 (by omega) (off) (by omega)
 have v0:=eBodyX hSb 0 (by omega) (off2) (by omega)
 simp only [Nat.reduceMul,Nat.reduceAdd,Nat.mul_zero,Nat.zero_add] at v0
 have e0:=ot_sub hrt 1 0 (by omega) (by omega)
 simp only [Nat.reduceMul,Nat.reduceAdd,Nat.mul_zero,Nat.zero_add] at e0
 have b1:=eBodyAt hSb 1 (by omega) (off2+6) (by omega)
 simp only [Nat.reduceMul,Nat.reduceAdd,Nat.mul_zero,Nat.zero_add] at b1
 have w1:=eMassAt hm 1 (by omega) (off+1) (by omega)
 have v1:=eBodyX hSb 1 (by omega) (off2+6) (by omega)
 simp only [Nat.reduceMul,Nat.reduceAdd,Nat.mul_zero,Nat.zero_add] at v1
 have e1:=ot_sub hrt 1 1 (by omega) (by omega)
 simp only [Nat.reduceMul,Nat.reduceAdd,Nat.mul_zero,Nat.zero_add] at e1
 unfold otM cfB stB' ib
 by_cases hst:1≤stop
 ·have q0:(0 != stop)=true:=by simp;omega
  repeat' (first|refine GWL_start ?_|refine GWL_step ?_|refine gwA ?_|(refine gwX ?_;intro Q hQ hP;simp [hC,hY,hA,hS,hne,hna,ea_s,b0,w0,v0,e0,b1,w1,v1,e1,q0,hst];(first|refine hQ _ _ _ _ (by rcases hT.k8 with h8|h8<;>rcases hT.a8 with h9|h9<;>subst h8<;>subst h9<;>kernel_rfl) ?_|refine hP _ _ (by rcases hT.k8 with h8|h8<;>rcases hT.a8 with h9|h9<;>subst h8<;>subst h9<;>kernel_rfl) fun _=>?_);clear hQ hP Q)|(refine gwC ?_ ?_<;>(intro hb;try (cases hb;done))))
  refine ⟨?_,?_,?_,fun k hk=>?_⟩
  ·simp
  ·simp [Tryz.results42]
  ·first|trivial|omega|(simp;done)|(simp;omega)
  ·have hk:=hlt k hk
   first|rfl|(simp (disch:=omega) only [upd_other]<;>rfl)
 ·have:stop=0:=by omega
  rcases this with rfl
  all_goals
   repeat' (first|refine GWL_start ?_|refine GWL_step ?_|refine gwA ?_|(refine gwX ?_;intro Q hQ hP;simp [hC,hY,hA,hS,hne,hna,ea_s,b0,w0,v0,e0,b1,w1,v1,e1];(first|refine hQ _ _ _ _ (by rcases hT.k8 with h8|h8<;>rcases hT.a8 with h9|h9<;>subst h8<;>subst h9<;>kernel_rfl) ?_|refine hP _ _ (by rcases hT.k8 with h8|h8<;>rcases hT.a8 with h9|h9<;>subst h8<;>subst h9<;>kernel_rfl) fun _=>?_);clear hQ hP Q)|(refine gwC ?_ ?_<;>(intro hb;try (cases hb;done))))
  all_goals
   refine ⟨?_,?_,?_,fun k hk=>?_⟩
   ·simp
   ·simp [Tryz.results42]
   ·first|trivial|omega|(simp;done)|(simp;omega)
   ·have hk:=hlt k hk
    first|rfl|(simp (disch:=omega) only [upd_other]<;>rfl)
set_option maxRecDepth 20000 in
set_option maxHeartbeats 4000000 in
theorem others_it30 (L:List (Nat×Blk)) (ka ks:Nat) (bm bs:Blk) (hT:LKa L ka ks bm bs) (off cap off2 cap2:Nat) (fm fs:Nat→Int) (hm:MB bm off 3 fm) (hSb:SB bs off2 3 fs) (g bx tp nr md st:Int) (hrt:rightB st fs 3=true) :
  IterK Tryz.prog G1 42 #[.pointer (some ⟨208,0,none⟩),.pointer (some ⟨216,0,none⟩),.pointer (some ⟨200,0,none⟩)] (hpL G1 (otM L ka ks off 3 cap off2 3 cap2 g bx tp nr md st 0)) (keys (otM L ka ks off 3 cap off2 3 cap2 g bx tp nr md st 0)) (otXs fm fs 3 0):=by
 have hL:=otM_ok hT off 3 cap off2 3 cap2 g bx tp nr md st 0
 have hlt:∀ k,dom (hpL G1 (otM L ka ks off 3 cap off2 3 cap2 g bx tp nr md st 0)) k→k<300:=fun k hk=>Classical.byContradiction fun h1=>hk (hL.free G1F (by omega) k (by omega))
 refine iterk_ofD (B:=300) (v:=.tuple #[]) G1F Tryz.func42 rfl Tryz.call42 hL ?_ (by simp [Tryz.ntmps42]) (by omega) ?_
 ·simp [idsV,idsA,idsF,ids0,otM,keys]
 intro C l stop hC hC0 hY
 have hA:=hT.a
 have hS:=hT.s
 have hne:=hT.ne
 have hna:=hT.na
 have hks:=hT.k1
 have exs:otXs fm fs 3 0=[#[.int .i64 (fm 1),.agg #[.int .i64 (fs 6 - fs 0),.int .i64 (fs 7 - fs 1),.int .i64 (fs 8 - fs 2)]],#[.int .i64 (fm 2),.agg #[.int .i64 (fs 12 - fs 0),.int .i64 (fs 13 - fs 1),.int .i64 (fs 14 - fs 2)]]]:=rfl
 rw [exs] at hY ⊢
 have b0:=eBodyAt hSb 0 (by omega) (off2) (by omega)
 simp only [Nat.reduceMul,Nat.reduceAdd,Nat.mul_zero,Nat.zero_add] at b0
 have w0:=eMassAt hm 0 (by omega) (off) (by omega)
 have v0:=eBodyX hSb 0 (by omega) (off2) (by omega)
 simp only [Nat.reduceMul,Nat.reduceAdd,Nat.mul_zero,Nat.zero_add] at v0
 have e0:=ot_sub hrt 0 0 (by omega) (by omega)
 simp only [Nat.reduceMul,Nat.reduceAdd,Nat.mul_zero,Nat.zero_add] at e0
 have b1:=eBodyAt hSb 1 (by omega) (off2+6) (by omega)
 simp only [Nat.reduceMul,Nat.reduceAdd,Nat.mul_zero,Nat.zero_add] at b1
 have w1:=eMassAt hm 1 (by omega) (off+1) (by omega)
 have v1:=eBodyX hSb 1 (by omega) (off2+6) (by omega)
 simp only [Nat.reduceMul,Nat.reduceAdd,Nat.mul_zero,Nat.zero_add] at v1
 have e1:=ot_sub hrt 0 1 (by omega) (by omega)
 simp only [Nat.reduceMul,Nat.reduceAdd,Nat.mul_zero,Nat.zero_add] at e1
 have b2:=eBodyAt hSb 2 (by omega) (off2+12) (by omega)
 simp only [Nat.reduceMul,Nat.reduceAdd,Nat.mul_zero,Nat.zero_add] at b2
 have w2:=eMassAt hm 2 (by omega) (off+2) (by omega)
 have v2:=eBodyX hSb 2 (by omega) (off2+12) (by omega)
 simp only [Nat.reduceMul,Nat.reduceAdd,Nat.mul_zero,Nat.zero_add] at v2
 have e2:=ot_sub hrt 0 2 (by omega) (by omega)
 simp only [Nat.reduceMul,Nat.reduceAdd,Nat.mul_zero,Nat.zero_add] at e2
 unfold otM cfB stB' ib
 by_cases hst:2≤stop
 ·have q0:(0 != stop)=true:=by simp;omega
  have q1:(1 != stop)=true:=by simp;omega
  have l1:1≤stop:=by omega
  repeat' (first|refine GWL_start ?_|refine GWL_step ?_|refine gwA ?_|(refine gwX ?_;intro Q hQ hP;simp [hC,hY,hA,hS,hne,hna,ea_s,b0,w0,v0,e0,b1,w1,v1,e1,b2,w2,v2,e2,q0,q1,l1,hst];(first|refine hQ _ _ _ _ (by rcases hT.k8 with h8|h8<;>rcases hT.a8 with h9|h9<;>subst h8<;>subst h9<;>kernel_rfl) ?_|refine hP _ _ (by rcases hT.k8 with h8|h8<;>rcases hT.a8 with h9|h9<;>subst h8<;>subst h9<;>kernel_rfl) fun _=>?_);clear hQ hP Q)|(refine gwC ?_ ?_<;>(intro hb;try (cases hb;done))))
  refine ⟨?_,?_,?_,fun k hk=>?_⟩
  ·simp
  ·simp [Tryz.results42]
  ·first|trivial|omega|(simp;done)|(simp;omega)
  ·have hk:=hlt k hk
   first|rfl|(simp (disch:=omega) only [upd_other]<;>rfl)
 ·have:stop=0∨stop=1:=by omega
  rcases this with rfl|rfl
  all_goals
   repeat' (first|refine GWL_start ?_|refine GWL_step ?_|refine gwA ?_|(refine gwX ?_;intro Q hQ hP;simp [hC,hY,hA,hS,hne,hna,ea_s,b0,w0,v0,e0,b1,w1,v1,e1,b2,w2,v2,e2];(first|refine hQ _ _ _ _ (by rcases hT.k8 with h8|h8<;>rcases hT.a8 with h9|h9<;>subst h8<;>subst h9<;>kernel_rfl) ?_|refine hP _ _ (by rcases hT.k8 with h8|h8<;>rcases hT.a8 with h9|h9<;>subst h8<;>subst h9<;>kernel_rfl) fun _=>?_);clear hQ hP Q)|(refine gwC ?_ ?_<;>(intro hb;try (cases hb;done))))
  all_goals
   refine ⟨?_,?_,?_,fun k hk=>?_⟩
   ·simp
   ·simp [Tryz.results42]
   ·first|trivial|omega|(simp;done)|(simp;omega)
   ·have hk:=hlt k hk
    first|rfl|(simp (disch:=omega) only [upd_other]<;>rfl)
set_option maxRecDepth 20000 in
set_option maxHeartbeats 4000000 in
theorem others_it31 (L:List (Nat×Blk)) (ka ks:Nat) (bm bs:Blk) (hT:LKa L ka ks bm bs) (off cap off2 cap2:Nat) (fm fs:Nat→Int) (hm:MB bm off 3 fm) (hSb:SB bs off2 3 fs) (g bx tp nr md st:Int) (hrt:rightB st fs 3=true) :
  IterK Tryz.prog G1 42 #[.pointer (some ⟨208,0,none⟩),.pointer (some ⟨216,0,none⟩),.pointer (some ⟨200,0,none⟩)] (hpL G1 (otM L ka ks off 3 cap off2 3 cap2 g bx tp nr md st 1)) (keys (otM L ka ks off 3 cap off2 3 cap2 g bx tp nr md st 1)) (otXs fm fs 3 1):=by
 have hL:=otM_ok hT off 3 cap off2 3 cap2 g bx tp nr md st 1
 have hlt:∀ k,dom (hpL G1 (otM L ka ks off 3 cap off2 3 cap2 g bx tp nr md st 1)) k→k<300:=fun k hk=>Classical.byContradiction fun h1=>hk (hL.free G1F (by omega) k (by omega))
 refine iterk_ofD (B:=300) (v:=.tuple #[]) G1F Tryz.func42 rfl Tryz.call42 hL ?_ (by simp [Tryz.ntmps42]) (by omega) ?_
 ·simp [idsV,idsA,idsF,ids0,otM,keys]
 intro C l stop hC hC0 hY
 have hA:=hT.a
 have hS:=hT.s
 have hne:=hT.ne
 have hna:=hT.na
 have hks:=hT.k1
 have exs:otXs fm fs 3 1=[#[.int .i64 (fm 0),.agg #[.int .i64 (fs 0 - fs 6),.int .i64 (fs 1 - fs 7),.int .i64 (fs 2 - fs 8)]],#[.int .i64 (fm 2),.agg #[.int .i64 (fs 12 - fs 6),.int .i64 (fs 13 - fs 7),.int .i64 (fs 14 - fs 8)]]]:=rfl
 rw [exs] at hY ⊢
 have b0:=eBodyAt hSb 0 (by omega) (off2) (by omega)
 simp only [Nat.reduceMul,Nat.reduceAdd,Nat.mul_zero,Nat.zero_add] at b0
 have w0:=eMassAt hm 0 (by omega) (off) (by omega)
 have v0:=eBodyX hSb 0 (by omega) (off2) (by omega)
 simp only [Nat.reduceMul,Nat.reduceAdd,Nat.mul_zero,Nat.zero_add] at v0
 have e0:=ot_sub hrt 1 0 (by omega) (by omega)
 simp only [Nat.reduceMul,Nat.reduceAdd,Nat.mul_zero,Nat.zero_add] at e0
 have b1:=eBodyAt hSb 1 (by omega) (off2+6) (by omega)
 simp only [Nat.reduceMul,Nat.reduceAdd,Nat.mul_zero,Nat.zero_add] at b1
 have w1:=eMassAt hm 1 (by omega) (off+1) (by omega)
 have v1:=eBodyX hSb 1 (by omega) (off2+6) (by omega)
 simp only [Nat.reduceMul,Nat.reduceAdd,Nat.mul_zero,Nat.zero_add] at v1
 have e1:=ot_sub hrt 1 1 (by omega) (by omega)
 simp only [Nat.reduceMul,Nat.reduceAdd,Nat.mul_zero,Nat.zero_add] at e1
 have b2:=eBodyAt hSb 2 (by omega) (off2+12) (by omega)
 simp only [Nat.reduceMul,Nat.reduceAdd,Nat.mul_zero,Nat.zero_add] at b2
 have w2:=eMassAt hm 2 (by omega) (off+2) (by omega)
 have v2:=eBodyX hSb 2 (by omega) (off2+12) (by omega)
 simp only [Nat.reduceMul,Nat.reduceAdd,Nat.mul_zero,Nat.zero_add] at v2
 have e2:=ot_sub hrt 1 2 (by omega) (by omega)
 simp only [Nat.reduceMul,Nat.reduceAdd,Nat.mul_zero,Nat.zero_add] at e2
 unfold otM cfB stB' ib
 by_cases hst:2≤stop
 ·have q0:(0 != stop)=true:=by simp;omega
  have q1:(1 != stop)=true:=by simp;omega
  have l1:1≤stop:=by omega
  repeat' (first|refine GWL_start ?_|refine GWL_step ?_|refine gwA ?_|(refine gwX ?_;intro Q hQ hP;simp [hC,hY,hA,hS,hne,hna,ea_s,b0,w0,v0,e0,b1,w1,v1,e1,b2,w2,v2,e2,q0,q1,l1,hst];(first|refine hQ _ _ _ _ (by rcases hT.k8 with h8|h8<;>rcases hT.a8 with h9|h9<;>subst h8<;>subst h9<;>kernel_rfl) ?_|refine hP _ _ (by rcases hT.k8 with h8|h8<;>rcases hT.a8 with h9|h9<;>subst h8<;>subst h9<;>kernel_rfl) fun _=>?_);clear hQ hP Q)|(refine gwC ?_ ?_<;>(intro hb;try (cases hb;done))))
  refine ⟨?_,?_,?_,fun k hk=>?_⟩
  ·simp
  ·simp [Tryz.results42]
  ·first|trivial|omega|(simp;done)|(simp;omega)
  ·have hk:=hlt k hk
   first|rfl|(simp (disch:=omega) only [upd_other]<;>rfl)
 ·have:stop=0∨stop=1:=by omega
  rcases this with rfl|rfl
  all_goals
   repeat' (first|refine GWL_start ?_|refine GWL_step ?_|refine gwA ?_|(refine gwX ?_;intro Q hQ hP;simp [hC,hY,hA,hS,hne,hna,ea_s,b0,w0,v0,e0,b1,w1,v1,e1,b2,w2,v2,e2];(first|refine hQ _ _ _ _ (by rcases hT.k8 with h8|h8<;>rcases hT.a8 with h9|h9<;>subst h8<;>subst h9<;>kernel_rfl) ?_|refine hP _ _ (by rcases hT.k8 with h8|h8<;>rcases hT.a8 with h9|h9<;>subst h8<;>subst h9<;>kernel_rfl) fun _=>?_);clear hQ hP Q)|(refine gwC ?_ ?_<;>(intro hb;try (cases hb;done))))
  all_goals
   refine ⟨?_,?_,?_,fun k hk=>?_⟩
   ·simp
   ·simp [Tryz.results42]
   ·first|trivial|omega|(simp;done)|(simp;omega)
   ·have hk:=hlt k hk
    first|rfl|(simp (disch:=omega) only [upd_other]<;>rfl)
set_option maxRecDepth 20000 in
set_option maxHeartbeats 4000000 in
theorem others_it32 (L:List (Nat×Blk)) (ka ks:Nat) (bm bs:Blk) (hT:LKa L ka ks bm bs) (off cap off2 cap2:Nat) (fm fs:Nat→Int) (hm:MB bm off 3 fm) (hSb:SB bs off2 3 fs) (g bx tp nr md st:Int) (hrt:rightB st fs 3=true) :
  IterK Tryz.prog G1 42 #[.pointer (some ⟨208,0,none⟩),.pointer (some ⟨216,0,none⟩),.pointer (some ⟨200,0,none⟩)] (hpL G1 (otM L ka ks off 3 cap off2 3 cap2 g bx tp nr md st 2)) (keys (otM L ka ks off 3 cap off2 3 cap2 g bx tp nr md st 2)) (otXs fm fs 3 2):=by
 have hL:=otM_ok hT off 3 cap off2 3 cap2 g bx tp nr md st 2
 have hlt:∀ k,dom (hpL G1 (otM L ka ks off 3 cap off2 3 cap2 g bx tp nr md st 2)) k→k<300:=fun k hk=>Classical.byContradiction fun h1=>hk (hL.free G1F (by omega) k (by omega))
 refine iterk_ofD (B:=300) (v:=.tuple #[]) G1F Tryz.func42 rfl Tryz.call42 hL ?_ (by simp [Tryz.ntmps42]) (by omega) ?_
 ·simp [idsV,idsA,idsF,ids0,otM,keys]
 intro C l stop hC hC0 hY
 have hA:=hT.a
 have hS:=hT.s
 have hne:=hT.ne
 have hna:=hT.na
 have hks:=hT.k1
 have exs:otXs fm fs 3 2=[#[.int .i64 (fm 0),.agg #[.int .i64 (fs 0 - fs 12),.int .i64 (fs 1 - fs 13),.int .i64 (fs 2 - fs 14)]],#[.int .i64 (fm 1),.agg #[.int .i64 (fs 6 - fs 12),.int .i64 (fs 7 - fs 13),.int .i64 (fs 8 - fs 14)]]]:=rfl
 rw [exs] at hY ⊢
 have b0:=eBodyAt hSb 0 (by omega) (off2) (by omega)
 simp only [Nat.reduceMul,Nat.reduceAdd,Nat.mul_zero,Nat.zero_add] at b0
 have w0:=eMassAt hm 0 (by omega) (off) (by omega)
 have v0:=eBodyX hSb 0 (by omega) (off2) (by omega)
 simp only [Nat.reduceMul,Nat.reduceAdd,Nat.mul_zero,Nat.zero_add] at v0
 have e0:=ot_sub hrt 2 0 (by omega) (by omega)
 simp only [Nat.reduceMul,Nat.reduceAdd,Nat.mul_zero,Nat.zero_add] at e0
 have b1:=eBodyAt hSb 1 (by omega) (off2+6) (by omega)
 simp only [Nat.reduceMul,Nat.reduceAdd,Nat.mul_zero,Nat.zero_add] at b1
 have w1:=eMassAt hm 1 (by omega) (off+1) (by omega)
 have v1:=eBodyX hSb 1 (by omega) (off2+6) (by omega)
 simp only [Nat.reduceMul,Nat.reduceAdd,Nat.mul_zero,Nat.zero_add] at v1
 have e1:=ot_sub hrt 2 1 (by omega) (by omega)
 simp only [Nat.reduceMul,Nat.reduceAdd,Nat.mul_zero,Nat.zero_add] at e1
 have b2:=eBodyAt hSb 2 (by omega) (off2+12) (by omega)
 simp only [Nat.reduceMul,Nat.reduceAdd,Nat.mul_zero,Nat.zero_add] at b2
 have w2:=eMassAt hm 2 (by omega) (off+2) (by omega)
 have v2:=eBodyX hSb 2 (by omega) (off2+12) (by omega)
 simp only [Nat.reduceMul,Nat.reduceAdd,Nat.mul_zero,Nat.zero_add] at v2
 have e2:=ot_sub hrt 2 2 (by omega) (by omega)
 simp only [Nat.reduceMul,Nat.reduceAdd,Nat.mul_zero,Nat.zero_add] at e2
 unfold otM cfB stB' ib
 by_cases hst:2≤stop
 ·have q0:(0 != stop)=true:=by simp;omega
  have q1:(1 != stop)=true:=by simp;omega
  have l1:1≤stop:=by omega
  repeat' (first|refine GWL_start ?_|refine GWL_step ?_|refine gwA ?_|(refine gwX ?_;intro Q hQ hP;simp [hC,hY,hA,hS,hne,hna,ea_s,b0,w0,v0,e0,b1,w1,v1,e1,b2,w2,v2,e2,q0,q1,l1,hst];(first|refine hQ _ _ _ _ (by rcases hT.k8 with h8|h8<;>rcases hT.a8 with h9|h9<;>subst h8<;>subst h9<;>kernel_rfl) ?_|refine hP _ _ (by rcases hT.k8 with h8|h8<;>rcases hT.a8 with h9|h9<;>subst h8<;>subst h9<;>kernel_rfl) fun _=>?_);clear hQ hP Q)|(refine gwC ?_ ?_<;>(intro hb;try (cases hb;done))))
  refine ⟨?_,?_,?_,fun k hk=>?_⟩
  ·simp
  ·simp [Tryz.results42]
  ·first|trivial|omega|(simp;done)|(simp;omega)
  ·have hk:=hlt k hk
   first|rfl|(simp (disch:=omega) only [upd_other]<;>rfl)
 ·have:stop=0∨stop=1:=by omega
  rcases this with rfl|rfl
  all_goals
   repeat' (first|refine GWL_start ?_|refine GWL_step ?_|refine gwA ?_|(refine gwX ?_;intro Q hQ hP;simp [hC,hY,hA,hS,hne,hna,ea_s,b0,w0,v0,e0,b1,w1,v1,e1,b2,w2,v2,e2];(first|refine hQ _ _ _ _ (by rcases hT.k8 with h8|h8<;>rcases hT.a8 with h9|h9<;>subst h8<;>subst h9<;>kernel_rfl) ?_|refine hP _ _ (by rcases hT.k8 with h8|h8<;>rcases hT.a8 with h9|h9<;>subst h8<;>subst h9<;>kernel_rfl) fun _=>?_);clear hQ hP Q)|(refine gwC ?_ ?_<;>(intro hb;try (cases hb;done))))
  all_goals
   refine ⟨?_,?_,?_,fun k hk=>?_⟩
   ·simp
   ·simp [Tryz.results42]
   ·first|trivial|omega|(simp;done)|(simp;omega)
   ·have hk:=hlt k hk
    first|rfl|(simp (disch:=omega) only [upd_other]<;>rfl)
set_option maxRecDepth 20000 in
set_option maxHeartbeats 4000000 in
theorem others_it40 (L:List (Nat×Blk)) (ka ks:Nat) (bm bs:Blk) (hT:LKa L ka ks bm bs) (off cap off2 cap2:Nat) (fm fs:Nat→Int) (hm:MB bm off 4 fm) (hSb:SB bs off2 4 fs) (g bx tp nr md st:Int) (hrt:rightB st fs 4=true) :
  IterK Tryz.prog G1 42 #[.pointer (some ⟨208,0,none⟩),.pointer (some ⟨216,0,none⟩),.pointer (some ⟨200,0,none⟩)] (hpL G1 (otM L ka ks off 4 cap off2 4 cap2 g bx tp nr md st 0)) (keys (otM L ka ks off 4 cap off2 4 cap2 g bx tp nr md st 0)) (otXs fm fs 4 0):=by
 have hL:=otM_ok hT off 4 cap off2 4 cap2 g bx tp nr md st 0
 have hlt:∀ k,dom (hpL G1 (otM L ka ks off 4 cap off2 4 cap2 g bx tp nr md st 0)) k→k<300:=fun k hk=>Classical.byContradiction fun h1=>hk (hL.free G1F (by omega) k (by omega))
 refine iterk_ofD (B:=300) (v:=.tuple #[]) G1F Tryz.func42 rfl Tryz.call42 hL ?_ (by simp [Tryz.ntmps42]) (by omega) ?_
 ·simp [idsV,idsA,idsF,ids0,otM,keys]
 intro C l stop hC hC0 hY
 have hA:=hT.a
 have hS:=hT.s
 have hne:=hT.ne
 have hna:=hT.na
 have hks:=hT.k1
 have exs:otXs fm fs 4 0=[#[.int .i64 (fm 1),.agg #[.int .i64 (fs 6 - fs 0),.int .i64 (fs 7 - fs 1),.int .i64 (fs 8 - fs 2)]],#[.int .i64 (fm 2),.agg #[.int .i64 (fs 12 - fs 0),.int .i64 (fs 13 - fs 1),.int .i64 (fs 14 - fs 2)]],#[.int .i64 (fm 3),.agg #[.int .i64 (fs 18 - fs 0),.int .i64 (fs 19 - fs 1),.int .i64 (fs 20 - fs 2)]]]:=rfl
 rw [exs] at hY ⊢
 have b0:=eBodyAt hSb 0 (by omega) (off2) (by omega)
 simp only [Nat.reduceMul,Nat.reduceAdd,Nat.mul_zero,Nat.zero_add] at b0
 have w0:=eMassAt hm 0 (by omega) (off) (by omega)
 have v0:=eBodyX hSb 0 (by omega) (off2) (by omega)
 simp only [Nat.reduceMul,Nat.reduceAdd,Nat.mul_zero,Nat.zero_add] at v0
 have e0:=ot_sub hrt 0 0 (by omega) (by omega)
 simp only [Nat.reduceMul,Nat.reduceAdd,Nat.mul_zero,Nat.zero_add] at e0
 have b1:=eBodyAt hSb 1 (by omega) (off2+6) (by omega)
 simp only [Nat.reduceMul,Nat.reduceAdd,Nat.mul_zero,Nat.zero_add] at b1
 have w1:=eMassAt hm 1 (by omega) (off+1) (by omega)
 have v1:=eBodyX hSb 1 (by omega) (off2+6) (by omega)
 simp only [Nat.reduceMul,Nat.reduceAdd,Nat.mul_zero,Nat.zero_add] at v1
 have e1:=ot_sub hrt 0 1 (by omega) (by omega)
 simp only [Nat.reduceMul,Nat.reduceAdd,Nat.mul_zero,Nat.zero_add] at e1
 have b2:=eBodyAt hSb 2 (by omega) (off2+12) (by omega)
 simp only [Nat.reduceMul,Nat.reduceAdd,Nat.mul_zero,Nat.zero_add] at b2
 have w2:=eMassAt hm 2 (by omega) (off+2) (by omega)
 have v2:=eBodyX hSb 2 (by omega) (off2+12) (by omega)
 simp only [Nat.reduceMul,Nat.reduceAdd,Nat.mul_zero,Nat.zero_add] at v2
 have e2:=ot_sub hrt 0 2 (by omega) (by omega)
 simp only [Nat.reduceMul,Nat.reduceAdd,Nat.mul_zero,Nat.zero_add] at e2
 have b3:=eBodyAt hSb 3 (by omega) (off2+18) (by omega)
 simp only [Nat.reduceMul,Nat.reduceAdd,Nat.mul_zero,Nat.zero_add] at b3
 have w3:=eMassAt hm 3 (by omega) (off+3) (by omega)
 have v3:=eBodyX hSb 3 (by omega) (off2+18) (by omega)
 simp only [Nat.reduceMul,Nat.reduceAdd,Nat.mul_zero,Nat.zero_add] at v3
 have e3:=ot_sub hrt 0 3 (by omega) (by omega)
 simp only [Nat.reduceMul,Nat.reduceAdd,Nat.mul_zero,Nat.zero_add] at e3
 unfold otM cfB stB' ib
 by_cases hst:3≤stop
 ·have q0:(0 != stop)=true:=by simp;omega
  have q1:(1 != stop)=true:=by simp;omega
  have l1:1≤stop:=by omega
  have q2:(2 != stop)=true:=by simp;omega
  have l2:2≤stop:=by omega
  repeat' (first|refine GWL_start ?_|refine GWL_step ?_|refine gwA ?_|(refine gwX ?_;intro Q hQ hP;simp [hC,hY,hA,hS,hne,hna,ea_s,b0,w0,v0,e0,b1,w1,v1,e1,b2,w2,v2,e2,b3,w3,v3,e3,q0,q1,l1,q2,l2,hst];(first|refine hQ _ _ _ _ (by rcases hT.k8 with h8|h8<;>rcases hT.a8 with h9|h9<;>subst h8<;>subst h9<;>kernel_rfl) ?_|refine hP _ _ (by rcases hT.k8 with h8|h8<;>rcases hT.a8 with h9|h9<;>subst h8<;>subst h9<;>kernel_rfl) fun _=>?_);clear hQ hP Q)|(refine gwC ?_ ?_<;>(intro hb;try (cases hb;done))))
  refine ⟨?_,?_,?_,fun k hk=>?_⟩
  ·simp
  ·simp [Tryz.results42]
  ·first|trivial|omega|(simp;done)|(simp;omega)
  ·have hk:=hlt k hk
   first|rfl|(simp (disch:=omega) only [upd_other]<;>rfl)
 ·have:stop=0∨stop=1∨stop=2:=by omega
  rcases this with rfl|rfl|rfl
  all_goals
   repeat' (first|refine GWL_start ?_|refine GWL_step ?_|refine gwA ?_|(refine gwX ?_;intro Q hQ hP;simp [hC,hY,hA,hS,hne,hna,ea_s,b0,w0,v0,e0,b1,w1,v1,e1,b2,w2,v2,e2,b3,w3,v3,e3];(first|refine hQ _ _ _ _ (by rcases hT.k8 with h8|h8<;>rcases hT.a8 with h9|h9<;>subst h8<;>subst h9<;>kernel_rfl) ?_|refine hP _ _ (by rcases hT.k8 with h8|h8<;>rcases hT.a8 with h9|h9<;>subst h8<;>subst h9<;>kernel_rfl) fun _=>?_);clear hQ hP Q)|(refine gwC ?_ ?_<;>(intro hb;try (cases hb;done))))
  all_goals
   refine ⟨?_,?_,?_,fun k hk=>?_⟩
   ·simp
   ·simp [Tryz.results42]
   ·first|trivial|omega|(simp;done)|(simp;omega)
   ·have hk:=hlt k hk
    first|rfl|(simp (disch:=omega) only [upd_other]<;>rfl)
set_option maxRecDepth 20000 in
set_option maxHeartbeats 4000000 in
theorem others_it41 (L:List (Nat×Blk)) (ka ks:Nat) (bm bs:Blk) (hT:LKa L ka ks bm bs) (off cap off2 cap2:Nat) (fm fs:Nat→Int) (hm:MB bm off 4 fm) (hSb:SB bs off2 4 fs) (g bx tp nr md st:Int) (hrt:rightB st fs 4=true) :
  IterK Tryz.prog G1 42 #[.pointer (some ⟨208,0,none⟩),.pointer (some ⟨216,0,none⟩),.pointer (some ⟨200,0,none⟩)] (hpL G1 (otM L ka ks off 4 cap off2 4 cap2 g bx tp nr md st 1)) (keys (otM L ka ks off 4 cap off2 4 cap2 g bx tp nr md st 1)) (otXs fm fs 4 1):=by
 have hL:=otM_ok hT off 4 cap off2 4 cap2 g bx tp nr md st 1
 have hlt:∀ k,dom (hpL G1 (otM L ka ks off 4 cap off2 4 cap2 g bx tp nr md st 1)) k→k<300:=fun k hk=>Classical.byContradiction fun h1=>hk (hL.free G1F (by omega) k (by omega))
 refine iterk_ofD (B:=300) (v:=.tuple #[]) G1F Tryz.func42 rfl Tryz.call42 hL ?_ (by simp [Tryz.ntmps42]) (by omega) ?_
 ·simp [idsV,idsA,idsF,ids0,otM,keys]
 intro C l stop hC hC0 hY
 have hA:=hT.a
 have hS:=hT.s
 have hne:=hT.ne
 have hna:=hT.na
 have hks:=hT.k1
 have exs:otXs fm fs 4 1=[#[.int .i64 (fm 0),.agg #[.int .i64 (fs 0 - fs 6),.int .i64 (fs 1 - fs 7),.int .i64 (fs 2 - fs 8)]],#[.int .i64 (fm 2),.agg #[.int .i64 (fs 12 - fs 6),.int .i64 (fs 13 - fs 7),.int .i64 (fs 14 - fs 8)]],#[.int .i64 (fm 3),.agg #[.int .i64 (fs 18 - fs 6),.int .i64 (fs 19 - fs 7),.int .i64 (fs 20 - fs 8)]]]:=rfl
 rw [exs] at hY ⊢
 have b0:=eBodyAt hSb 0 (by omega) (off2) (by omega)
 simp only [Nat.reduceMul,Nat.reduceAdd,Nat.mul_zero,Nat.zero_add] at b0
 have w0:=eMassAt hm 0 (by omega) (off) (by omega)
 have v0:=eBodyX hSb 0 (by omega) (off2) (by omega)
 simp only [Nat.reduceMul,Nat.reduceAdd,Nat.mul_zero,Nat.zero_add] at v0
 have e0:=ot_sub hrt 1 0 (by omega) (by omega)
 simp only [Nat.reduceMul,Nat.reduceAdd,Nat.mul_zero,Nat.zero_add] at e0
 have b1:=eBodyAt hSb 1 (by omega) (off2+6) (by omega)
 simp only [Nat.reduceMul,Nat.reduceAdd,Nat.mul_zero,Nat.zero_add] at b1
 have w1:=eMassAt hm 1 (by omega) (off+1) (by omega)
 have v1:=eBodyX hSb 1 (by omega) (off2+6) (by omega)
 simp only [Nat.reduceMul,Nat.reduceAdd,Nat.mul_zero,Nat.zero_add] at v1
 have e1:=ot_sub hrt 1 1 (by omega) (by omega)
 simp only [Nat.reduceMul,Nat.reduceAdd,Nat.mul_zero,Nat.zero_add] at e1
 have b2:=eBodyAt hSb 2 (by omega) (off2+12) (by omega)
 simp only [Nat.reduceMul,Nat.reduceAdd,Nat.mul_zero,Nat.zero_add] at b2
 have w2:=eMassAt hm 2 (by omega) (off+2) (by omega)
 have v2:=eBodyX hSb 2 (by omega) (off2+12) (by omega)
 simp only [Nat.reduceMul,Nat.reduceAdd,Nat.mul_zero,Nat.zero_add] at v2
 have e2:=ot_sub hrt 1 2 (by omega) (by omega)
 simp only [Nat.reduceMul,Nat.reduceAdd,Nat.mul_zero,Nat.zero_add] at e2
 have b3:=eBodyAt hSb 3 (by omega) (off2+18) (by omega)
 simp only [Nat.reduceMul,Nat.reduceAdd,Nat.mul_zero,Nat.zero_add] at b3
 have w3:=eMassAt hm 3 (by omega) (off+3) (by omega)
 have v3:=eBodyX hSb 3 (by omega) (off2+18) (by omega)
 simp only [Nat.reduceMul,Nat.reduceAdd,Nat.mul_zero,Nat.zero_add] at v3
 have e3:=ot_sub hrt 1 3 (by omega) (by omega)
 simp only [Nat.reduceMul,Nat.reduceAdd,Nat.mul_zero,Nat.zero_add] at e3
 unfold otM cfB stB' ib
 by_cases hst:3≤stop
 ·have q0:(0 != stop)=true:=by simp;omega
  have q1:(1 != stop)=true:=by simp;omega
  have l1:1≤stop:=by omega
  have q2:(2 != stop)=true:=by simp;omega
  have l2:2≤stop:=by omega
  repeat' (first|refine GWL_start ?_|refine GWL_step ?_|refine gwA ?_|(refine gwX ?_;intro Q hQ hP;simp [hC,hY,hA,hS,hne,hna,ea_s,b0,w0,v0,e0,b1,w1,v1,e1,b2,w2,v2,e2,b3,w3,v3,e3,q0,q1,l1,q2,l2,hst];(first|refine hQ _ _ _ _ (by rcases hT.k8 with h8|h8<;>rcases hT.a8 with h9|h9<;>subst h8<;>subst h9<;>kernel_rfl) ?_|refine hP _ _ (by rcases hT.k8 with h8|h8<;>rcases hT.a8 with h9|h9<;>subst h8<;>subst h9<;>kernel_rfl) fun _=>?_);clear hQ hP Q)|(refine gwC ?_ ?_<;>(intro hb;try (cases hb;done))))
  refine ⟨?_,?_,?_,fun k hk=>?_⟩
  ·simp
  ·simp [Tryz.results42]
  ·first|trivial|omega|(simp;done)|(simp;omega)
  ·have hk:=hlt k hk
   first|rfl|(simp (disch:=omega) only [upd_other]<;>rfl)
 ·have:stop=0∨stop=1∨stop=2:=by omega
  rcases this with rfl|rfl|rfl
  all_goals
   repeat' (first|refine GWL_start ?_|refine GWL_step ?_|refine gwA ?_|(refine gwX ?_;intro Q hQ hP;simp [hC,hY,hA,hS,hne,hna,ea_s,b0,w0,v0,e0,b1,w1,v1,e1,b2,w2,v2,e2,b3,w3,v3,e3];(first|refine hQ _ _ _ _ (by rcases hT.k8 with h8|h8<;>rcases hT.a8 with h9|h9<;>subst h8<;>subst h9<;>kernel_rfl) ?_|refine hP _ _ (by rcases hT.k8 with h8|h8<;>rcases hT.a8 with h9|h9<;>subst h8<;>subst h9<;>kernel_rfl) fun _=>?_);clear hQ hP Q)|(refine gwC ?_ ?_<;>(intro hb;try (cases hb;done))))
  all_goals
   refine ⟨?_,?_,?_,fun k hk=>?_⟩
   ·simp
   ·simp [Tryz.results42]
   ·first|trivial|omega|(simp;done)|(simp;omega)
   ·have hk:=hlt k hk
    first|rfl|(simp (disch:=omega) only [upd_other]<;>rfl)
set_option maxRecDepth 20000 in
set_option maxHeartbeats 4000000 in
theorem others_it42 (L:List (Nat×Blk)) (ka ks:Nat) (bm bs:Blk) (hT:LKa L ka ks bm bs) (off cap off2 cap2:Nat) (fm fs:Nat→Int) (hm:MB bm off 4 fm) (hSb:SB bs off2 4 fs) (g bx tp nr md st:Int) (hrt:rightB st fs 4=true) :
  IterK Tryz.prog G1 42 #[.pointer (some ⟨208,0,none⟩),.pointer (some ⟨216,0,none⟩),.pointer (some ⟨200,0,none⟩)] (hpL G1 (otM L ka ks off 4 cap off2 4 cap2 g bx tp nr md st 2)) (keys (otM L ka ks off 4 cap off2 4 cap2 g bx tp nr md st 2)) (otXs fm fs 4 2):=by
 have hL:=otM_ok hT off 4 cap off2 4 cap2 g bx tp nr md st 2
 have hlt:∀ k,dom (hpL G1 (otM L ka ks off 4 cap off2 4 cap2 g bx tp nr md st 2)) k→k<300:=fun k hk=>Classical.byContradiction fun h1=>hk (hL.free G1F (by omega) k (by omega))
 refine iterk_ofD (B:=300) (v:=.tuple #[]) G1F Tryz.func42 rfl Tryz.call42 hL ?_ (by simp [Tryz.ntmps42]) (by omega) ?_
 ·simp [idsV,idsA,idsF,ids0,otM,keys]
 intro C l stop hC hC0 hY
 have hA:=hT.a
 have hS:=hT.s
 have hne:=hT.ne
 have hna:=hT.na
 have hks:=hT.k1
 have exs:otXs fm fs 4 2=[#[.int .i64 (fm 0),.agg #[.int .i64 (fs 0 - fs 12),.int .i64 (fs 1 - fs 13),.int .i64 (fs 2 - fs 14)]],#[.int .i64 (fm 1),.agg #[.int .i64 (fs 6 - fs 12),.int .i64 (fs 7 - fs 13),.int .i64 (fs 8 - fs 14)]],#[.int .i64 (fm 3),.agg #[.int .i64 (fs 18 - fs 12),.int .i64 (fs 19 - fs 13),.int .i64 (fs 20 - fs 14)]]]:=rfl
 rw [exs] at hY ⊢
 have b0:=eBodyAt hSb 0 (by omega) (off2) (by omega)
 simp only [Nat.reduceMul,Nat.reduceAdd,Nat.mul_zero,Nat.zero_add] at b0
 have w0:=eMassAt hm 0 (by omega) (off) (by omega)
 have v0:=eBodyX hSb 0 (by omega) (off2) (by omega)
 simp only [Nat.reduceMul,Nat.reduceAdd,Nat.mul_zero,Nat.zero_add] at v0
 have e0:=ot_sub hrt 2 0 (by omega) (by omega)
 simp only [Nat.reduceMul,Nat.reduceAdd,Nat.mul_zero,Nat.zero_add] at e0
 have b1:=eBodyAt hSb 1 (by omega) (off2+6) (by omega)
 simp only [Nat.reduceMul,Nat.reduceAdd,Nat.mul_zero,Nat.zero_add] at b1
 have w1:=eMassAt hm 1 (by omega) (off+1) (by omega)
 have v1:=eBodyX hSb 1 (by omega) (off2+6) (by omega)
 simp only [Nat.reduceMul,Nat.reduceAdd,Nat.mul_zero,Nat.zero_add] at v1
 have e1:=ot_sub hrt 2 1 (by omega) (by omega)
 simp only [Nat.reduceMul,Nat.reduceAdd,Nat.mul_zero,Nat.zero_add] at e1
 have b2:=eBodyAt hSb 2 (by omega) (off2+12) (by omega)
 simp only [Nat.reduceMul,Nat.reduceAdd,Nat.mul_zero,Nat.zero_add] at b2
 have w2:=eMassAt hm 2 (by omega) (off+2) (by omega)
 have v2:=eBodyX hSb 2 (by omega) (off2+12) (by omega)
 simp only [Nat.reduceMul,Nat.reduceAdd,Nat.mul_zero,Nat.zero_add] at v2
 have e2:=ot_sub hrt 2 2 (by omega) (by omega)
 simp only [Nat.reduceMul,Nat.reduceAdd,Nat.mul_zero,Nat.zero_add] at e2
 have b3:=eBodyAt hSb 3 (by omega) (off2+18) (by omega)
 simp only [Nat.reduceMul,Nat.reduceAdd,Nat.mul_zero,Nat.zero_add] at b3
 have w3:=eMassAt hm 3 (by omega) (off+3) (by omega)
 have v3:=eBodyX hSb 3 (by omega) (off2+18) (by omega)
 simp only [Nat.reduceMul,Nat.reduceAdd,Nat.mul_zero,Nat.zero_add] at v3
 have e3:=ot_sub hrt 2 3 (by omega) (by omega)
 simp only [Nat.reduceMul,Nat.reduceAdd,Nat.mul_zero,Nat.zero_add] at e3
 unfold otM cfB stB' ib
 by_cases hst:3≤stop
 ·have q0:(0 != stop)=true:=by simp;omega
  have q1:(1 != stop)=true:=by simp;omega
  have l1:1≤stop:=by omega
  have q2:(2 != stop)=true:=by simp;omega
  have l2:2≤stop:=by omega
  repeat' (first|refine GWL_start ?_|refine GWL_step ?_|refine gwA ?_|(refine gwX ?_;intro Q hQ hP;simp [hC,hY,hA,hS,hne,hna,ea_s,b0,w0,v0,e0,b1,w1,v1,e1,b2,w2,v2,e2,b3,w3,v3,e3,q0,q1,l1,q2,l2,hst];(first|refine hQ _ _ _ _ (by rcases hT.k8 with h8|h8<;>rcases hT.a8 with h9|h9<;>subst h8<;>subst h9<;>kernel_rfl) ?_|refine hP _ _ (by rcases hT.k8 with h8|h8<;>rcases hT.a8 with h9|h9<;>subst h8<;>subst h9<;>kernel_rfl) fun _=>?_);clear hQ hP Q)|(refine gwC ?_ ?_<;>(intro hb;try (cases hb;done))))
  refine ⟨?_,?_,?_,fun k hk=>?_⟩
  ·simp
  ·simp [Tryz.results42]
  ·first|trivial|omega|(simp;done)|(simp;omega)
  ·have hk:=hlt k hk
   first|rfl|(simp (disch:=omega) only [upd_other]<;>rfl)
 ·have:stop=0∨stop=1∨stop=2:=by omega
  rcases this with rfl|rfl|rfl
  all_goals
   repeat' (first|refine GWL_start ?_|refine GWL_step ?_|refine gwA ?_|(refine gwX ?_;intro Q hQ hP;simp [hC,hY,hA,hS,hne,hna,ea_s,b0,w0,v0,e0,b1,w1,v1,e1,b2,w2,v2,e2,b3,w3,v3,e3];(first|refine hQ _ _ _ _ (by rcases hT.k8 with h8|h8<;>rcases hT.a8 with h9|h9<;>subst h8<;>subst h9<;>kernel_rfl) ?_|refine hP _ _ (by rcases hT.k8 with h8|h8<;>rcases hT.a8 with h9|h9<;>subst h8<;>subst h9<;>kernel_rfl) fun _=>?_);clear hQ hP Q)|(refine gwC ?_ ?_<;>(intro hb;try (cases hb;done))))
  all_goals
   refine ⟨?_,?_,?_,fun k hk=>?_⟩
   ·simp
   ·simp [Tryz.results42]
   ·first|trivial|omega|(simp;done)|(simp;omega)
   ·have hk:=hlt k hk
    first|rfl|(simp (disch:=omega) only [upd_other]<;>rfl)
set_option maxRecDepth 20000 in
set_option maxHeartbeats 4000000 in
theorem others_it43 (L:List (Nat×Blk)) (ka ks:Nat) (bm bs:Blk) (hT:LKa L ka ks bm bs) (off cap off2 cap2:Nat) (fm fs:Nat→Int) (hm:MB bm off 4 fm) (hSb:SB bs off2 4 fs) (g bx tp nr md st:Int) (hrt:rightB st fs 4=true) :
  IterK Tryz.prog G1 42 #[.pointer (some ⟨208,0,none⟩),.pointer (some ⟨216,0,none⟩),.pointer (some ⟨200,0,none⟩)] (hpL G1 (otM L ka ks off 4 cap off2 4 cap2 g bx tp nr md st 3)) (keys (otM L ka ks off 4 cap off2 4 cap2 g bx tp nr md st 3)) (otXs fm fs 4 3):=by
 have hL:=otM_ok hT off 4 cap off2 4 cap2 g bx tp nr md st 3
 have hlt:∀ k,dom (hpL G1 (otM L ka ks off 4 cap off2 4 cap2 g bx tp nr md st 3)) k→k<300:=fun k hk=>Classical.byContradiction fun h1=>hk (hL.free G1F (by omega) k (by omega))
 refine iterk_ofD (B:=300) (v:=.tuple #[]) G1F Tryz.func42 rfl Tryz.call42 hL ?_ (by simp [Tryz.ntmps42]) (by omega) ?_
 ·simp [idsV,idsA,idsF,ids0,otM,keys]
 intro C l stop hC hC0 hY
 have hA:=hT.a
 have hS:=hT.s
 have hne:=hT.ne
 have hna:=hT.na
 have hks:=hT.k1
 have exs:otXs fm fs 4 3=[#[.int .i64 (fm 0),.agg #[.int .i64 (fs 0 - fs 18),.int .i64 (fs 1 - fs 19),.int .i64 (fs 2 - fs 20)]],#[.int .i64 (fm 1),.agg #[.int .i64 (fs 6 - fs 18),.int .i64 (fs 7 - fs 19),.int .i64 (fs 8 - fs 20)]],#[.int .i64 (fm 2),.agg #[.int .i64 (fs 12 - fs 18),.int .i64 (fs 13 - fs 19),.int .i64 (fs 14 - fs 20)]]]:=rfl
 rw [exs] at hY ⊢
 have b0:=eBodyAt hSb 0 (by omega) (off2) (by omega)
 simp only [Nat.reduceMul,Nat.reduceAdd,Nat.mul_zero,Nat.zero_add] at b0
 have w0:=eMassAt hm 0 (by omega) (off) (by omega)
 have v0:=eBodyX hSb 0 (by omega) (off2) (by omega)
 simp only [Nat.reduceMul,Nat.reduceAdd,Nat.mul_zero,Nat.zero_add] at v0
 have e0:=ot_sub hrt 3 0 (by omega) (by omega)
 simp only [Nat.reduceMul,Nat.reduceAdd,Nat.mul_zero,Nat.zero_add] at e0
 have b1:=eBodyAt hSb 1 (by omega) (off2+6) (by omega)
 simp only [Nat.reduceMul,Nat.reduceAdd,Nat.mul_zero,Nat.zero_add] at b1
 have w1:=eMassAt hm 1 (by omega) (off+1) (by omega)
 have v1:=eBodyX hSb 1 (by omega) (off2+6) (by omega)
 simp only [Nat.reduceMul,Nat.reduceAdd,Nat.mul_zero,Nat.zero_add] at v1
 have e1:=ot_sub hrt 3 1 (by omega) (by omega)
 simp only [Nat.reduceMul,Nat.reduceAdd,Nat.mul_zero,Nat.zero_add] at e1
 have b2:=eBodyAt hSb 2 (by omega) (off2+12) (by omega)
 simp only [Nat.reduceMul,Nat.reduceAdd,Nat.mul_zero,Nat.zero_add] at b2
 have w2:=eMassAt hm 2 (by omega) (off+2) (by omega)
 have v2:=eBodyX hSb 2 (by omega) (off2+12) (by omega)
 simp only [Nat.reduceMul,Nat.reduceAdd,Nat.mul_zero,Nat.zero_add] at v2
 have e2:=ot_sub hrt 3 2 (by omega) (by omega)
 simp only [Nat.reduceMul,Nat.reduceAdd,Nat.mul_zero,Nat.zero_add] at e2
 have b3:=eBodyAt hSb 3 (by omega) (off2+18) (by omega)
 simp only [Nat.reduceMul,Nat.reduceAdd,Nat.mul_zero,Nat.zero_add] at b3
 have w3:=eMassAt hm 3 (by omega) (off+3) (by omega)
 have v3:=eBodyX hSb 3 (by omega) (off2+18) (by omega)
 simp only [Nat.reduceMul,Nat.reduceAdd,Nat.mul_zero,Nat.zero_add] at v3
 have e3:=ot_sub hrt 3 3 (by omega) (by omega)
 simp only [Nat.reduceMul,Nat.reduceAdd,Nat.mul_zero,Nat.zero_add] at e3
 unfold otM cfB stB' ib
 by_cases hst:3≤stop
 ·have q0:(0 != stop)=true:=by simp;omega
  have q1:(1 != stop)=true:=by simp;omega
  have l1:1≤stop:=by omega
  have q2:(2 != stop)=true:=by simp;omega
  have l2:2≤stop:=by omega
  repeat' (first|refine GWL_start ?_|refine GWL_step ?_|refine gwA ?_|(refine gwX ?_;intro Q hQ hP;simp [hC,hY,hA,hS,hne,hna,ea_s,b0,w0,v0,e0,b1,w1,v1,e1,b2,w2,v2,e2,b3,w3,v3,e3,q0,q1,l1,q2,l2,hst];(first|refine hQ _ _ _ _ (by rcases hT.k8 with h8|h8<;>rcases hT.a8 with h9|h9<;>subst h8<;>subst h9<;>kernel_rfl) ?_|refine hP _ _ (by rcases hT.k8 with h8|h8<;>rcases hT.a8 with h9|h9<;>subst h8<;>subst h9<;>kernel_rfl) fun _=>?_);clear hQ hP Q)|(refine gwC ?_ ?_<;>(intro hb;try (cases hb;done))))
  refine ⟨?_,?_,?_,fun k hk=>?_⟩
  ·simp
  ·simp [Tryz.results42]
  ·first|trivial|omega|(simp;done)|(simp;omega)
  ·have hk:=hlt k hk
   first|rfl|(simp (disch:=omega) only [upd_other]<;>rfl)
 ·have:stop=0∨stop=1∨stop=2:=by omega
  rcases this with rfl|rfl|rfl
  all_goals
   repeat' (first|refine GWL_start ?_|refine GWL_step ?_|refine gwA ?_|(refine gwX ?_;intro Q hQ hP;simp [hC,hY,hA,hS,hne,hna,ea_s,b0,w0,v0,e0,b1,w1,v1,e1,b2,w2,v2,e2,b3,w3,v3,e3];(first|refine hQ _ _ _ _ (by rcases hT.k8 with h8|h8<;>rcases hT.a8 with h9|h9<;>subst h8<;>subst h9<;>kernel_rfl) ?_|refine hP _ _ (by rcases hT.k8 with h8|h8<;>rcases hT.a8 with h9|h9<;>subst h8<;>subst h9<;>kernel_rfl) fun _=>?_);clear hQ hP Q)|(refine gwC ?_ ?_<;>(intro hb;try (cases hb;done))))
  all_goals
   refine ⟨?_,?_,?_,fun k hk=>?_⟩
   ·simp
   ·simp [Tryz.results42]
   ·first|trivial|omega|(simp;done)|(simp;omega)
   ·have hk:=hlt k hk
    first|rfl|(simp (disch:=omega) only [upd_other]<;>rfl)
end Go.Gy
