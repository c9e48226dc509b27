/-
  Lemmas of this claim, in their order (GyEU, GyEV, GyFD, GyFG, GyW1, GyU1, GyPU, GyJP, GyJQ, GyPD, GyFC, GyFE, GyRD, GyRE, GyRG, GyFJ, GyPB, GyFK, GyFN, GyFA, GyFO, GyFM, GyFP, GyJR).
  Conditions: those of each theorem.
-/
import Derived.Test.YtamodcpmplmaoaaGreatDoorGz07
set_option linter.unusedSimpArgs false
set_option linter.unusedVariables false
set_option maxRecDepth 8000
set_option maxHeartbeats 16000000
namespace Go.Gy
open Go Go.RowKit Go.Proofs Go.Proofs.Tryz
def z4w (n n2:Nat) (okc rt:Bool) (fs:Nat->Int):Int:=if zqa n n2 okc rt=true then (if zzp fs n2=0 then 0 else 30) else 2
def jns (n n2:Nat) (okc rt:Bool) (g:Int) (fm fs:Nat->Int):Int:=if z4w n n2 okc rt fs=0 then zlc g fm fs n2 else 0
def jnr (n n2:Nat) (okc rt:Bool) (g:Int) (fm fs:Nat->Int):Int:=if z4w n n2 okc rt fs=0 then zlb g fm fs n2 else 0
theorem z22 (L:List (Nat×Blk)) (ks:Nat) (bm bs:Blk) (hT:LTwo G0 L ks bm bs) (off n cap off2 n2 cap2:Nat) (fm fs:Nat->Int) (hm:MB bm off n fm) (hSb:SB bs off2 n2 fs) (g bx tp nr md st:Int) (hs:i64 st)
  (hf:zqa n n2 (zdr n fm g bx tp nr md) (zbl st fs n2)=false) :
  Fun prog G0 66 #[cfV (.slice (some ⟨100,off,none⟩) n cap) g bx tp nr md,.agg #[.int .i64 st,.slice (some ⟨ks,off2,none⟩) n2 cap2]] (hpL G0 L) (zaa L) (.ret (.tuple #[spV 0 0,.int .i64 2]) []):=by
 refine zar (B:=200) G0F func66 rfl call66 hT.ok ?_ (zai (by simp [spV])) (by simp) (by simp) (by simp [ntmps66]) (by omega) ?_
 ·simp [zap,zax,zah,zaj,hT.ia,hT.ib,cfV]
 intro C hC hC0 hY
 have hA:=hT.a
 have hS:=hT.s
 have hne:=hT.ne
 have hLow:=hT.low
 have hks:=hT.k1
 have hks2:=hT.k2
 have hfit:=zki L ks bm bs hT off n cap off2 n2 cap2 fm fs hm hSb g bx tp nr md st hs
 rw [hf] at hfit
 unfold cfV at hfit |-
 repeat' first|refine gwZ ?_|((first|refine gwR [94] ?_|refine gwD [94] ?_);intro Q hQ _;(repeat first|simp [hC,hY,hA,hS,hne,zaf]|refine za7 hfit hT.ok zdd ?_);refine gwq hQ ?_)|fail
 refine ⟨.inr rfl,by simp [results66,zaf,spV],kpT G0F⟩
def spB (lo hi:Int):Blk:=⟨#[.int .u64 (wi lo 0),.int .u64 (wi lo 1),.int .u64 (wi lo 2),.int .u64 (wi lo 3),.int .u64 (wi hi 0),.int .u64 (wi hi 1),.int .u64 (wi hi 2),.int .u64 (wi hi 3)],.ty 32⟩
def zqw:List (Nat×Value):=[(2,.pointer (some ⟨200,0,none⟩)),(4,.pointer (some ⟨216,0,none⟩)),(5,.pointer (some ⟨224,0,none⟩))]
def epM (cq:Array Value) (lo hi:Int):List (Nat×Blk):=[(200,ezB cq),(216,spB lo hi),(224,⟨#[.int .i64 0],.ty 41⟩)]
def epI (cq:Array Value) (F H:Nat->Nat->Int) (l:List (Nat×Nat)) (j:Nat) (h:Hp):Prop:=h=hpL G0 (epM cq (pS F (l.take j)) (pS H (l.take j)))
def epr (k:Nat):Nat:=if k=200 then 280 else if k=208 then 281 else k
theorem jo8 {L:List (Nat×Blk)} (hL:LOk L 200):(λk=>if k∈280::281::zaa L then none else hpL G0 L k)=hpL G0 []:=by
 funext k
 simp only [zaw]
 split
 ·rename_i hm
  rcases List.mem_cons.1 hm with rfl|hm
  ·exact (zfr _ (by omega)).symm
  ·rcases List.mem_cons.1 hm with rfl|hm
   ·exact (zfr _ (by omega)).symm
   ·obtain ⟨p,hp,rfl⟩:=zag.1 hm
    exact (zfr _ (hL.big p hp).1).symm
 ·rename_i hm
  exact je7 λh=>hm (List.mem_cons_of_mem _ (List.mem_cons_of_mem _ h))
theorem zg3 {k:Nat} (h:k<200):epr k=k:=by unfold epr;rw [if_neg (by omega),if_neg (by omega)]
theorem z23 (L:List (Nat×Blk)) (ks:Nat) (bm bs:Blk) (hT:LTwo G0 L ks bm bs) (off n cap off2 cap2:Nat) (fm fs:Nat->Int) (hm:MB bm off n fm) (hSb:SB bs off2 n fs) (hcap2:n<=cap2) (g bx tp nr md st:Int) (hs:i64 st)
  (hok:zdr n fm g bx tp nr md=true) (hrt:zbl st fs n=true) (hz:zzp fs n=0) :
  Fun prog G0 66 #[cfV (.slice (some ⟨100,off,none⟩) n cap) g bx tp nr md,.agg #[.int .i64 st,.slice (some ⟨ks,off2,none⟩) n cap2]] (hpL G0 L) (zaa L) (.ret (.tuple #[spV (zlc g fm fs n) (zlb g fm fs n),.int .i64 0]) []):=by
 refine zar (B:=200) G0F func66 rfl call66 hT.ok ?_ (zai (by simp [spV])) (by simp) (by simp) (by simp [ntmps66]) (by omega) ?_
 ·simp [zap,zax,zah,zaj,hT.ia,hT.ib,cfV]
 intro C hC hC0 hY
 have hA:=hT.a
 have hS:=hT.s
 have hne:=hT.ne
 have hLow:=hT.low
 have hks:=hT.k1
 have hks2:=hT.k2
 have hfit:=zki L ks bm bs hT off n cap off2 n cap2 fm fs hm hSb g bx tp nr md st hs
 rw [zdk.2 ⟨rfl,hok,hrt⟩] at hfit
 have hn4:=(zez hrt).2.1
 have hpr:=zop 280 (by omega) L ks bm bs hT off n cap off2 n cap2 g bx tp nr md st
 unfold cfV at hfit hpr |-
 repeat' first|refine gwZ ?_|((first|refine gwR [94] ?_|refine gwD [94] ?_);intro Q hQ _;(repeat first|simp [hC,hY,hA,hS,hne,zaf]|refine za7 hfit hT.ok zdd ?_);refine gwq hQ ?_)|fail
 refine zc3 ?_
 simp only [Array.toList]
 refine gwl 2 ?_;intro Q hQ;simp [hC,hY,hA,hS,hne];apply hQ
 simp only [wT,wM,Nat.reduceAdd]
 refine zeo (f:=.func 95) (cap:=#[]) hC hpr rfl (by simp) rfl rfl (by simp [okT]) (by simp [gev]) (by simp) (by simp [okX,zcm]) (by simp [gev]) (by intro q hq;obtain ⟨p,hp,rfl⟩:=zag.1 hq;have hpb:=hT.ok.big p hp;(try dsimp only);simp (disch:=omega) only [zab]) (by (intro k hk;first|exact hLow k hk|(simp (disch:=omega) only [hLow,zb3,List.mem_cons,List.not_mem_nil,or_false,zab,zaq,zaw,if_neg,zbi,List.cons_append,List.nil_append]<;>done))) (λv ns hV k hk=>by have:=zhc hV k hk;simp;omega) ?_
 rintro v ns ⟨rfl,rfl⟩
 refine zdc ?_
 repeat' first|refine gwZ ?_|(refine gwX ?_;intro Q hQ _;simp [hC,hY,zcx,zbi,hA,hS,hne];refine gwq hQ ?_)|fail
 simp only [zcx,zbi]
 refine zn4 200 (t:=24) (cs:=#[.slice (some ⟨100,off,none⟩) n cap,.int .i64 g,.int .i64 bx,.int .i64 tp,.int .i64 nr,.int .i64 md]) (by simp [cfB]) (by omega) ?_
 intro cq hq1 hq2
 have hq4:cq[1]? = some (.int .i64 g):=hq2 1 _ rfl rfl
 have hq6:cq.size=6:=hq1
 have hidL:∀ k∈zaa L,epr k=k:=λk hk=>by
  obtain ⟨p,hp,rfl⟩:=zag.1 hk
  exact zg3 (hT.ok.big p hp).2
 have hout:∀ k,200<=k->k≠280->k≠281->(k∈280::281::zaa L)=False:=λk h1 h2 h3=>eq_false λhm=>by
  rcases List.mem_cons.1 hm with e|hm
  ·exact h2 e
  ·rcases List.mem_cons.1 hm with e|hm
   ·exact h3 e
   ·obtain ⟨p,hp,rfl⟩:=zag.1 hm
    have:=(hT.ok.big p hp).2
    omega
 have hasd:∀ C0:Ctx,(C0.hp0=λk=>if k∈280::281::zaa L then none else C.hp0 k)->C0.hp0=hpL G0 []:=λC0 h0=>by
  rw [h0,hC0]
  exact jo8 hT.ok
 refine zn5 (f:=119) (rs:=280::281::zaa L) (xs:=(zhl n).map λp=>epV fm fs p.1 p.2) (caps:=#[.pointer (some ⟨281,0,none⟩),.pointer (some ⟨280,0,none⟩)]) (280::281::zaa L) hY (by simp) ?_ ?_ (by simp [ntmps66]) (tsL zqw) (tsL zqw) (epI cq (λi k=>zea g (fm i) (fm k) (zfp fs i k)) (λi k=>zjc g (fm i) (fm k) (zfp fs i k)) (zhl n)) (hpS:=hpL G0 (epM cq 0 0)) 300 (zhl n).length (by simp) (λk hk=>hk) ?_ ?_ ?_ ?_ ?_ (λ_=>.inl rfl) ?_ ?_
 ·rw [hC]
  refine zep (zoq L ks bm bs hT off n cap off2 cap2 fm fs hm hSb hcap2 hn4 g bx tp nr md st) G0F (zi4 hT off n cap off2 n cap2 g bx tp nr md st) epr (λk hk=>zg3 (by omega)) (by simp [zan,epr]) ?_ (by (intro k hk;first|exact hLow k hk|(simp (disch:=omega) only [hLow,zb3,List.mem_cons,List.not_mem_nil,or_false,zab,zaq,zaw,if_neg,zbi,List.cons_append,List.nil_append]<;>done))) ?_ ?_
  ·show epr 200::epr 208::(zaa L).map epr=_
   rw [List.map_congr_left hidL]
   simp [epr]
  ·intro p hp
   rcases List.mem_cons.1 hp with rfl|hp
   ·simp [epr,cfB,Blk.rn,zak,zan,upd]
   ·rcases List.mem_cons.1 hp with rfl|hp
    ·have h3:epr ks=ks:=zg3 hks2
     simp [zc0,Blk.rn,zak,zan,upd,h3]
     simp [epr,upd]
    ·have hpb:=hT.ok.big p hp
     rw [zg3 hpb.2,Blk.fx_rn (hT.fx p hp)]
     refine ⟨hpb.1,?_⟩
     (try dsimp only)
     simp (disch:=omega) only [zb3,zab,zaq,zaw,if_neg,zbi]
     exact hT.mem p hp
  ·have key:∀ k∈zaa (enM L ks off n cap off2 n cap2 g bx tp nr md st),(k=200/\epr k=280)\/(k=208/\epr k=281)\/(k<200/\epr k=k):=λk hk=>by
    rcases List.mem_cons.1 hk with rfl|hk
    ·exact .inl ⟨rfl,rfl⟩
    ·rcases List.mem_cons.1 hk with rfl|hk
     ·exact .inr (.inl ⟨rfl,rfl⟩)
     ·obtain ⟨p,hp,rfl⟩:=zag.1 hk
      have:=(hT.ok.big p hp).2
      exact .inr (.inr ⟨this,zg3 this⟩)
   intro k hk l hl e
   have:=key k hk
   have:=key l hl
   omega
 ·intro x hx
  simp only [List.mem_map] at hx
  obtain ⟨p,_,rfl⟩:=hx
  simp [epV]
 ·intro k hk
  rcases List.mem_cons.1 hk with rfl|hk
  ·simp [dom,upd]
  ·rcases List.mem_cons.1 hk with rfl|hk
   ·simp [dom,upd]
   ·obtain ⟨p,hp,rfl⟩:=zag.1 hk
    have hpb:=hT.ok.big p hp
    refine ⟨hpb.1,?_⟩
    unfold dom
    dsimp only
    simp (disch:=omega) only [zb3,zab,zaq,zaw,if_neg,zbi]
    rw [hT.mem p hp]
    simp
 ·intro k hk b hb1
  rcases List.mem_cons.1 hk with rfl|hk
  ·simp [upd] at hb1;subst hb1;simp [cfB,zad,zah,zaj,hT.ia]
  ·rcases List.mem_cons.1 hk with rfl|hk
   ·simp [upd] at hb1;subst hb1;simp [zc0,zad,zah,zaj,hT.ib]
   ·obtain ⟨p,hp,rfl⟩:=zag.1 hk
    have hpb:=hT.ok.big p hp
    dsimp only at hb1
    simp (disch:=omega) only [zb3,zab,zaq,zaw,if_neg,zbi] at hb1
    rw [hT.mem p hp] at hb1
    simp only [Option.some.injEq] at hb1
    subst hb1
    exact Blk.fx_ids (hT.fx p hp) _
 ·intro C0 h1 h2
  refine za3 _ 300 (h1.trans hC) G0F (m0:=[]) (hasd C0 h2) (by omega) ?_ ?_ ?_
  ·simp [zqw,epM,zap,zax,zah,zaj,dom]
  ·simp [epM,zm3,spB,zad,zah,zaj,dom,upd,zaf]
   rfl
  ·simp
 ·simp [epI,pS]
 ·intro k hk
  have h3:k=280\/k=281\/(100<=k/\k<200):=by
   rcases List.mem_cons.1 hk with rfl|hk
   ·exact .inl rfl
   ·rcases List.mem_cons.1 hk with rfl|hk
    ·exact .inr (.inl rfl)
    ·obtain ⟨p,hp,rfl⟩:=zag.1 hk
     exact .inr (.inr (hT.ok.big p hp))
  rw [je7 (λhm=>?_)]
  ·exact zfr k (by omega)
  ·simp [epM,zaa] at hm
   omega
 ·intro j x hq0 hj hx hI C1 lb hC1 hh1 hY1
  unfold epI at hI
  subst hI
  rw [List.getElem?_map,List.getElem?_eq_getElem hj] at hx
  simp only [Option.map_some,Option.some.injEq] at hx
  subst hx
  have t1:=zng (λi k=>zea g (fm i) (fm k) (zfp fs i k)) hj
  have t2:=zng (λi k=>zjc g (fm i) (fm k) (zfp fs i k)) hj
  have hmem:=List.getElem_mem hj
  unfold epI
  rw [t1,t2]
  clear t1 t2
  generalize (zhl n)[j]=p at *
  obtain ⟨hl1,hl2⟩:=zqv hmem
  have hsq:=zsr hrt (i:=p.1) (k:=p.2) hl2 (by omega)
  have hz1:¬zfp fs p.1 p.2=0:=λe=>by
   have:=(zkz (Z:=λi k=>if zfp fs i k=0 then 1 else 0) (λi k=>by by_cases c:zfp fs i k=0<;>simp [c]) n).1 hz p.1 p.2 hl1 hl2
   simp [e] at this
  have hg:=zom hok
  have hm1:=zbu hok (i:=p.1) hl2
  have hm2:=zbu hok (i:=p.2) (by omega)
  have hEI:EIn g (fm p.1) (fm p.2) (zfp fs p.1 p.2):=⟨hg.1,hg.2,hm1.1,hm1.2,hm2.1,hm2.2,hsq.1,hsq.2⟩
  have P:=zsq hEI (by omega) rfl rfl
  have hlo:=hEI.lo (by omega)
  have hhi:=hEI.hi (by omega)
  have hld:=z9f hq4
  generalize pS (λi k=>zea g (fm i) (fm k) (zfp fs i k)) ((zhl n).take j)=A at *
  generalize pS (λi k=>zjc g (fm i) (fm k) (zfp fs i k)) ((zhl n).take j)=H at *
  generalize zea g (fm p.1) (fm p.2) (zfp fs p.1 p.2)=lo at *
  generalize zjc g (fm p.1) (fm p.2) (zfp fs p.1 p.2)=hi at *
  have il:i64 lo:=⟨by omega,by omega⟩
  have ih:i64 hi:=⟨by omega,by omega⟩
  have hCC:=hC
  have hC1':C1.G=G0:=hC1.trans hC
  unfold epV
  clear hC hY
  have hC:=hC1'
  have hY:=hY1
  unfold epM spB ezB
  repeat' first|refine gwZ ?_|(refine gwX ?_;intro Q hQ _;simp [hC,hY,zav,zqw];refine gwq hQ ?_)|fail
  intro C2 hC2 hh2 hY2
  clear hC hY
  have hC:C2.G=G0:=hC2.trans hCC
  have hY:=hY2
  repeat' first|refine gwZ ?_|(refine gwX ?_;intro Q hQ _;simp [hC,hY,P,hld,il,ih];refine gwq hQ ?_)|fail
  refine ⟨λk=>k,hpL G0 (epM cq (A+lo) (H+hi)),λC0 h1 h2=>zp4 _ _ 300 (h1.trans hCC) G0F (m0:=[]) (hasd C0 h2) (by omega) ?_ ?_ ?_ ?_ ?_,rfl⟩
  ·simp [zqw,epM,dom,zcm,ren,zay,zak,zan,zap,zax,zah,zaj]
  ·simp [epM,z6p,zm3,spB,Blk.rn,zak,zan,zad,zah,zaj,dom]
   rfl
  ·simp [epM]
  ·intro k hk;rfl
  ·simp
 ·refine .inl ⟨by simp,?_⟩
  rintro hq hI
  have hI':hq=hpL G0 (epM cq (zlc g fm fs n) (zlb g fm fs n)):=by
   rw [hI,List.take_length]
   unfold zlc zlb
   rw [zrw _ hn4,zrw _ hn4]
  subst hI'
  refine ⟨λk hk=>?_,?_⟩
  ·have h3:k=280\/k=281\/(100<=k/\k<200):=by
    rcases List.mem_cons.1 hk with rfl|hk
    ·exact .inl rfl
    ·rcases List.mem_cons.1 hk with rfl|hk
     ·exact .inr (.inl rfl)
     ·obtain ⟨p,hp,rfl⟩:=zag.1 hk
      exact .inr (.inr (hT.ok.big p hp))
   refine ⟨?_,by omega⟩
   rw [je7 (λhm=>?_)]
   ·exact zfr k (by omega)
   ·simp [epM,zaa] at hm
    omega
  have hm16:=hout 216 (by omega) (by omega) (by omega)
  have hm24:=hout 224 (by omega) (by omega) (by omega)
  unfold zqw epM spB
  repeat' first|refine gwZ ?_|(refine gwX ?_;intro Q hQ _;simp [hC,hY,zb3,hm16,hm24];refine gwq hQ ?_)|fail
  refine ⟨.inr rfl,by simp [results66,spV,zb3,hm16,hm24],zb4 G0F (λp hp=>by
    have hpb:=hT.ok.big p hp
    have hm9:p.1∈280::281::zaa L:=List.mem_cons_of_mem _ (List.mem_cons_of_mem _ (zag.2 ⟨p,hp,rfl⟩))
    simp (disch:=omega) only [eIn hm9,zab,zaq,zaw,if_neg,zbi]) (λk hk=>by
    have hm9:k∉280::281::zaa L:=λhm9=>by
     rcases List.mem_cons.1 hm9 with rfl|hm9
     ·omega
     ·rcases List.mem_cons.1 hm9 with rfl|hm9
      ·omega
      ·obtain ⟨p,hp,rfl⟩:=zag.1 hm9
       have:=(hT.ok.big p hp).1
       omega
    simp (disch:=omega) only [eNi hm9,zab,zaq,zaw,if_neg,zbi,hLow])⟩
theorem zlv (t a:Int) {b nk:Nat} {hp:Hp} {K:Eff->Prop} (hb:100<=b) (h1:hp b=some (wb t)) (hK:K ((Res.ret (wd (t - a)) []).eff [b])) :
  zik prog G0 68 #[Value.agg #[.int .u64 (wi (a) 0),.int .u64 (wi (a) 1),.int .u64 (wi (a) 2),.int .u64 (wi (a) 3)],.pointer (some ⟨b,0,none⟩)] hp nk K :=
 zae (zxt t a) G0F (B:=200) ⟨by simp,by simp [zaa],by simp [wb,zad,zah,zaj]⟩ (λk=>if k=100 then b else k) (λk hk=>if_neg (by omega)) (by simp [ren,zay,zak,zan]) (by simp) (by simp [wb,Blk.rn,zak,zan,hb,h1]) (by simp [zaa]) (by simp [zaa]) hK
theorem zqt (L:List (Nat×Blk)) (ks:Nat) (bm bs:Blk) (hT:LTwo G0 L ks bm bs) (off n cap off2 cap2:Nat) (fm fs:Nat->Int) (hm:MB bm off n fm) (hSb:SB bs off2 n fs) (hcap:n<=cap) (hcap2:n<=cap2) (g bx tp nr md st:Int) (hs:i64 st)
  (hok:zdr n fm g bx tp nr md=true) (hrt:zbl st fs n=true) (hz:zzp fs n=0) :
  Fun prog G0 36 #[cfV (.slice (some ⟨100,off,none⟩) n cap) g bx tp nr md,.agg #[.int .i64 st,.slice (some ⟨ks,off2,none⟩) n cap2]] (hpL G0 L) (zaa L) (.ret (.tuple #[spV (z3x fm fs n - zlb g fm fs n) (z3x fm fs n - zlc g fm fs n),.int .i64 0]) []):=by
 refine zar (B:=200) G0F func36 rfl call36 hT.ok ?_ (zai (by simp [spV])) (by simp) (by simp) (by simp [ntmps36]) (by omega) ?_
 ·simp [zap,zax,zah,zaj,hT.ia,hT.ib,cfV]
 intro C hC hC0 hY
 have hA:=hT.a
 have hS:=hT.s
 have hne:=hT.ne
 have hLow:=hT.low
 have hks:=hT.k1
 have hks2:=hT.k2
 have hpo:=z23 L ks bm bs hT off n cap off2 cap2 fm fs hm hSb hcap2 g bx tp nr md st hs hok hrt hz
 have hki:=jfa L ks bm bs hT off n cap off2 n cap2 fm fs hm hSb hcap hcap2 g bx tp nr md st hs
 unfold jdb jda at hki
 rw [zdk.2 ⟨rfl,hok,hrt⟩,if_pos rfl,if_pos rfl] at hki
 unfold cfV spV at hpo
 unfold cfV at hki |-
 generalize z3x fm fs n=T at *
 generalize zlc g fm fs n=lo at *
 generalize zlb g fm fs n=hi at *
 repeat' first|refine gwZ ?_|((first|refine gwR [66,67,68] ?_|refine gwD [66,67,68] ?_);intro Q hQ _;(repeat first|simp [hC,hY,hA,hS,hne,zaf]|refine za7 hpo hT.ok zdd ?_|refine za7 hki hT.ok zdd ?_|(refine zlv T hi (by simp) ?_ ?_;focus (simp [wb];done))|(refine zlv T lo (by simp) ?_ ?_;focus (simp [wb];done)));refine gwq hQ ?_)|fail
 refine ⟨.inr rfl,by simp [results36,spV],kpT G0F⟩
theorem zxu {g m w q:Int} (h:EIn g m w q) (hq:q=0) (K:Value->Prop):za2 prog G0 96 #[.int .i64 g,.int .i64 m,.int .i64 w,.int .i64 q] K↔K (.tuple #[.int .i64 0,.int .i64 0,.int .i64 30]):=zac G0W (by kernel_rfl) (z9a h hq)
theorem zsv {P:Nat×Nat->Prop}:∀ {l:List (Nat×Nat)},(∃ p∈l,P p)->∃ N,∃ h:N<l.length,P l[N]/\∀ j,j<N->∀ h:j<l.length,¬P l[j]
 | [],h=>by obtain ⟨p,hp,_⟩:=h;cases hp
 | a::l,h=>by
  by_cases ha:P a
  ·exact ⟨0,by simp,ha,λj hj=>by omega⟩
  ·obtain ⟨p,hp,hP⟩:=h
   rcases List.mem_cons.1 hp with rfl|hp
   ·exact absurd hP ha
   ·obtain ⟨N,h1,h2,h3⟩:=zsv ⟨p,hp,hP⟩
    refine ⟨N+1,by simpa using h1,by simpa using h2,λj hj hl=>?_⟩
    cases j with
    | zero=>exact ha
    | succ j=>simpa using h3 j (by omega) (by simpa using hl)
theorem jhg {F:Nat->Nat->Int}:∀ {l:List (Nat×Nat)},¬pS F l=0->∃ p∈l,¬F p.1 p.2=0
 | [],h=>absurd rfl h
 | p::l,h=>by
  by_cases hp:F p.1 p.2=0
  ·obtain ⟨q,hq,h2⟩:=jhg (F:=F) (l:=l) λe=>h (by simp only [pS];omega)
   exact ⟨q,List.mem_cons_of_mem _ hq,h2⟩
  ·exact ⟨p,by simp,hp⟩
theorem z9i {fs:Nat->Int} {n:Nat} (hn:1<=n/\n<=4) (hz:¬zzp fs n=0):∃ N,∃ h:N<(zhl n).length,zfp fs (zhl n)[N].1 (zhl n)[N].2=0/\∀ j,j<N->∀ h:j<(zhl n).length,¬zfp fs (zhl n)[j].1 (zhl n)[j].2=0:=by
 unfold zzp at hz
 rw [zrw _ hn] at hz
 obtain ⟨p,hp,h⟩:=jhg hz
 refine zsv (P:=λp=>zfp fs p.1 p.2=0) ⟨p,hp,?_⟩
 by_cases c:zfp fs p.1 p.2=0
 ·exact c
 ·exact absurd (if_neg c) h
theorem zxw (L:List (Nat×Blk)) (ks:Nat) (bm bs:Blk) (hT:LTwo G0 L ks bm bs) (off n cap off2 cap2:Nat) (fm fs:Nat->Int) (hm:MB bm off n fm) (hSb:SB bs off2 n fs) (hcap2:n<=cap2) (g bx tp nr md st:Int) (hs:i64 st)
  (hok:zdr n fm g bx tp nr md=true) (hrt:zbl st fs n=true) (hz:¬zzp fs n=0) :
  Fun prog G0 66 #[cfV (.slice (some ⟨100,off,none⟩) n cap) g bx tp nr md,.agg #[.int .i64 st,.slice (some ⟨ks,off2,none⟩) n cap2]] (hpL G0 L) (zaa L) (.ret (.tuple #[spV 0 0,.int .i64 30]) []):=by
 refine zar (B:=200) G0F func66 rfl call66 hT.ok ?_ (zai (by simp [spV])) (by simp) (by simp) (by simp [ntmps66]) (by omega) ?_
 ·simp [zap,zax,zah,zaj,hT.ia,hT.ib,cfV]
 intro C hC hC0 hY
 have hA:=hT.a
 have hS:=hT.s
 have hne:=hT.ne
 have hLow:=hT.low
 have hks:=hT.k1
 have hks2:=hT.k2
 have hfit:=zki L ks bm bs hT off n cap off2 n cap2 fm fs hm hSb g bx tp nr md st hs
 rw [zdk.2 ⟨rfl,hok,hrt⟩] at hfit
 have hn4:=(zez hrt).2.1
 obtain ⟨N,hN,hzN,hbef⟩:=z9i hn4 hz
 have hpr:=zop 280 (by omega) L ks bm bs hT off n cap off2 n cap2 g bx tp nr md st
 unfold cfV at hfit hpr |-
 repeat' first|refine gwZ ?_|((first|refine gwR [94] ?_|refine gwD [94] ?_);intro Q hQ _;(repeat first|simp [hC,hY,hA,hS,hne,zaf]|refine za7 hfit hT.ok zdd ?_);refine gwq hQ ?_)|fail
 refine zc3 ?_
 simp only [Array.toList]
 refine gwl 2 ?_;intro Q hQ;simp [hC,hY,hA,hS,hne];apply hQ
 simp only [wT,wM,Nat.reduceAdd]
 refine zeo (f:=.func 95) (cap:=#[]) hC hpr rfl (by simp) rfl rfl (by simp [okT]) (by simp [gev]) (by simp) (by simp [okX,zcm]) (by simp [gev]) (by intro q hq;obtain ⟨p,hp,rfl⟩:=zag.1 hq;have hpb:=hT.ok.big p hp;(try dsimp only);simp (disch:=omega) only [zab]) (by (intro k hk;first|exact hLow k hk|(simp (disch:=omega) only [hLow,zb3,List.mem_cons,List.not_mem_nil,or_false,zab,zaq,zaw,if_neg,zbi,List.cons_append,List.nil_append]<;>done))) (λv ns hV k hk=>by have:=zhc hV k hk;simp;omega) ?_
 rintro v ns ⟨rfl,rfl⟩
 refine zdc ?_
 repeat' first|refine gwZ ?_|(refine gwX ?_;intro Q hQ _;simp [hC,hY,zcx,zbi,hA,hS,hne];refine gwq hQ ?_)|fail
 simp only [zcx,zbi]
 refine zn4 200 (t:=24) (cs:=#[.slice (some ⟨100,off,none⟩) n cap,.int .i64 g,.int .i64 bx,.int .i64 tp,.int .i64 nr,.int .i64 md]) (by simp [cfB]) (by omega) ?_
 intro cq hq1 hq2
 have hq4:cq[1]? = some (.int .i64 g):=hq2 1 _ rfl rfl
 have hq6:cq.size=6:=hq1
 have hidL:∀ k∈zaa L,epr k=k:=λk hk=>by
  obtain ⟨p,hp,rfl⟩:=zag.1 hk
  exact zg3 (hT.ok.big p hp).2
 have hout:∀ k,200<=k->k≠280->k≠281->(k∈280::281::zaa L)=False:=λk h1 h2 h3=>eq_false λhm=>by
  rcases List.mem_cons.1 hm with e|hm
  ·exact h2 e
  ·rcases List.mem_cons.1 hm with e|hm
   ·exact h3 e
   ·obtain ⟨p,hp,rfl⟩:=zag.1 hm
    have:=(hT.ok.big p hp).2
    omega
 have hasd:∀ C0:Ctx,(C0.hp0=λk=>if k∈280::281::zaa L then none else C.hp0 k)->C0.hp0=hpL G0 []:=λC0 h0=>by
  rw [h0,hC0]
  exact jo8 hT.ok
 refine zn5 (f:=119) (rs:=280::281::zaa L) (xs:=(zhl n).map λp=>epV fm fs p.1 p.2) (caps:=#[.pointer (some ⟨281,0,none⟩),.pointer (some ⟨280,0,none⟩)]) (280::281::zaa L) hY (by simp) ?_ ?_ (by simp [ntmps66]) (tsL zqw) (tsL zqw) (epI cq (λi k=>zea g (fm i) (fm k) (zfp fs i k)) (λi k=>zjc g (fm i) (fm k) (zfp fs i k)) (zhl n)) (hpS:=hpL G0 (epM cq 0 0)) 300 N (by simp;omega) (λk hk=>hk) ?_ ?_ ?_ ?_ ?_ (λ_=>.inl rfl) ?_ ?_
 ·rw [hC]
  refine zep (zoq L ks bm bs hT off n cap off2 cap2 fm fs hm hSb hcap2 hn4 g bx tp nr md st) G0F (zi4 hT off n cap off2 n cap2 g bx tp nr md st) epr (λk hk=>zg3 (by omega)) (by simp [zan,epr]) ?_ (by (intro k hk;first|exact hLow k hk|(simp (disch:=omega) only [hLow,zb3,List.mem_cons,List.not_mem_nil,or_false,zab,zaq,zaw,if_neg,zbi,List.cons_append,List.nil_append]<;>done))) ?_ ?_
  ·show epr 200::epr 208::(zaa L).map epr=_
   rw [List.map_congr_left hidL]
   simp [epr]
  ·intro p hp
   rcases List.mem_cons.1 hp with rfl|hp
   ·simp [epr,cfB,Blk.rn,zak,zan,upd]
   ·rcases List.mem_cons.1 hp with rfl|hp
    ·have h3:epr ks=ks:=zg3 hks2
     simp [zc0,Blk.rn,zak,zan,upd,h3]
     simp [epr,upd]
    ·have hpb:=hT.ok.big p hp
     rw [zg3 hpb.2,Blk.fx_rn (hT.fx p hp)]
     refine ⟨hpb.1,?_⟩
     (try dsimp only)
     simp (disch:=omega) only [zb3,zab,zaq,zaw,if_neg,zbi]
     exact hT.mem p hp
  ·have key:∀ k∈zaa (enM L ks off n cap off2 n cap2 g bx tp nr md st),(k=200/\epr k=280)\/(k=208/\epr k=281)\/(k<200/\epr k=k):=λk hk=>by
    rcases List.mem_cons.1 hk with rfl|hk
    ·exact .inl ⟨rfl,rfl⟩
    ·rcases List.mem_cons.1 hk with rfl|hk
     ·exact .inr (.inl ⟨rfl,rfl⟩)
     ·obtain ⟨p,hp,rfl⟩:=zag.1 hk
      have:=(hT.ok.big p hp).2
      exact .inr (.inr ⟨this,zg3 this⟩)
   intro k hk l hl e
   have:=key k hk
   have:=key l hl
   omega
 ·intro x hx
  simp only [List.mem_map] at hx
  obtain ⟨p,_,rfl⟩:=hx
  simp [epV]
 ·intro k hk
  rcases List.mem_cons.1 hk with rfl|hk
  ·simp [dom,upd]
  ·rcases List.mem_cons.1 hk with rfl|hk
   ·simp [dom,upd]
   ·obtain ⟨p,hp,rfl⟩:=zag.1 hk
    have hpb:=hT.ok.big p hp
    refine ⟨hpb.1,?_⟩
    unfold dom
    dsimp only
    simp (disch:=omega) only [zb3,zab,zaq,zaw,if_neg,zbi]
    rw [hT.mem p hp]
    simp
 ·intro k hk b hb1
  rcases List.mem_cons.1 hk with rfl|hk
  ·simp [upd] at hb1;subst hb1;simp [cfB,zad,zah,zaj,hT.ia]
  ·rcases List.mem_cons.1 hk with rfl|hk
   ·simp [upd] at hb1;subst hb1;simp [zc0,zad,zah,zaj,hT.ib]
   ·obtain ⟨p,hp,rfl⟩:=zag.1 hk
    have hpb:=hT.ok.big p hp
    dsimp only at hb1
    simp (disch:=omega) only [zb3,zab,zaq,zaw,if_neg,zbi] at hb1
    rw [hT.mem p hp] at hb1
    simp only [Option.some.injEq] at hb1
    subst hb1
    exact Blk.fx_ids (hT.fx p hp) _
 ·intro C0 h1 h2
  refine za3 _ 300 (h1.trans hC) G0F (m0:=[]) (hasd C0 h2) (by omega) ?_ ?_ ?_
  ·simp [zqw,epM,zap,zax,zah,zaj,dom]
  ·simp [epM,zm3,spB,zad,zah,zaj,dom,upd,zaf]
   rfl
  ·simp
 ·simp [epI,pS]
 ·intro k hk
  have h3:k=280\/k=281\/(100<=k/\k<200):=by
   rcases List.mem_cons.1 hk with rfl|hk
   ·exact .inl rfl
   ·rcases List.mem_cons.1 hk with rfl|hk
    ·exact .inr (.inl rfl)
    ·obtain ⟨p,hp,rfl⟩:=zag.1 hk
     exact .inr (.inr (hT.ok.big p hp))
  rw [je7 (λhm=>?_)]
  ·exact zfr k (by omega)
  ·simp [epM,zaa] at hm
   omega
 ·intro j x hq0 hj0 hx hI C1 lb hC1 hh1 hY1
  have hj:j<(zhl n).length:=by omega
  have hz1:=hbef j hj0 hj
  unfold epI at hI
  subst hI
  rw [List.getElem?_map,List.getElem?_eq_getElem hj] at hx
  simp only [Option.map_some,Option.some.injEq] at hx
  subst hx
  have t1:=zng (λi k=>zea g (fm i) (fm k) (zfp fs i k)) hj
  have t2:=zng (λi k=>zjc g (fm i) (fm k) (zfp fs i k)) hj
  have hmem:=List.getElem_mem hj
  unfold epI
  rw [t1,t2]
  clear t1 t2
  generalize (zhl n)[j]=p at *
  obtain ⟨hl1,hl2⟩:=zqv hmem
  have hsq:=zsr hrt (i:=p.1) (k:=p.2) hl2 (by omega)
  have hg:=zom hok
  have hm1:=zbu hok (i:=p.1) hl2
  have hm2:=zbu hok (i:=p.2) (by omega)
  have hEI:EIn g (fm p.1) (fm p.2) (zfp fs p.1 p.2):=⟨hg.1,hg.2,hm1.1,hm1.2,hm2.1,hm2.2,hsq.1,hsq.2⟩
  have P:=zsq hEI (by omega) rfl rfl
  have hlo:=hEI.lo (by omega)
  have hhi:=hEI.hi (by omega)
  have hld:=z9f hq4
  generalize pS (λi k=>zea g (fm i) (fm k) (zfp fs i k)) ((zhl n).take j)=A at *
  generalize pS (λi k=>zjc g (fm i) (fm k) (zfp fs i k)) ((zhl n).take j)=H at *
  generalize zea g (fm p.1) (fm p.2) (zfp fs p.1 p.2)=lo at *
  generalize zjc g (fm p.1) (fm p.2) (zfp fs p.1 p.2)=hi at *
  have il:i64 lo:=⟨by omega,by omega⟩
  have ih:i64 hi:=⟨by omega,by omega⟩
  have hCC:=hC
  have hC1':C1.G=G0:=hC1.trans hC
  unfold epV
  clear hC hY
  have hC:=hC1'
  have hY:=hY1
  unfold epM spB ezB
  repeat' first|refine gwZ ?_|(refine gwX ?_;intro Q hQ _;simp [hC,hY,zav,zqw];refine gwq hQ ?_)|fail
  intro C2 hC2 hh2 hY2
  clear hC hY
  have hC:C2.G=G0:=hC2.trans hCC
  have hY:=hY2
  repeat' first|refine gwZ ?_|(refine gwX ?_;intro Q hQ _;simp [hC,hY,P,hld,il,ih];refine gwq hQ ?_)|fail
  refine ⟨λk=>k,hpL G0 (epM cq (A+lo) (H+hi)),λC0 h1 h2=>zp4 _ _ 300 (h1.trans hCC) G0F (m0:=[]) (hasd C0 h2) (by omega) ?_ ?_ ?_ ?_ ?_,rfl⟩
  ·simp [zqw,epM,dom,zcm,ren,zay,zak,zan,zap,zax,zah,zaj]
  ·simp [epM,z6p,zm3,spB,Blk.rn,zak,zan,zad,zah,zaj,dom]
   rfl
  ·simp [epM]
  ·intro k hk;rfl
  ·simp
 ·refine .inr ⟨epV fm fs (zhl n)[N].1 (zhl n)[N].2,by rw [List.getElem?_map,List.getElem?_eq_getElem hN];rfl,?_⟩
  intro hq0 hI C1 lb hC1 hh1 hY1
  unfold epI at hI
  subst hI
  have hmem:=List.getElem_mem hN
  generalize (zhl n)[N]=p at *
  obtain ⟨hl1,hl2⟩:=zqv hmem
  have hsq:=zsr hrt (i:=p.1) (k:=p.2) hl2 (by omega)
  have hg:=zom hok
  have hm1:=zbu hok (i:=p.1) hl2
  have hm2:=zbu hok (i:=p.2) (by omega)
  have hEI:EIn g (fm p.1) (fm p.2) (zfp fs p.1 p.2):=⟨hg.1,hg.2,hm1.1,hm1.2,hm2.1,hm2.2,hsq.1,hsq.2⟩
  have P:=zxu hEI hzN
  have hld:=z9f hq4
  generalize pS (λi k=>zea g (fm i) (fm k) (zfp fs i k)) ((zhl n).take N)=A at *
  generalize pS (λi k=>zjc g (fm i) (fm k) (zfp fs i k)) ((zhl n).take N)=H at *
  have hCC:=hC
  have hC1':C1.G=G0:=hC1.trans hC
  unfold epV
  clear hC hY
  have hC:=hC1'
  have hY:=hY1
  unfold epM spB ezB
  repeat' first|refine gwZ ?_|(refine gwX ?_;intro Q hQ _;simp [hC,hY,zav,zqw];refine gwq hQ ?_)|fail
  intro C2 hC2 hh2 hY2
  clear hC hY
  have hC:C2.G=G0:=hC2.trans hCC
  have hY:=hY2
  repeat' first|refine gwZ ?_|(refine gwX ?_;intro Q hQ _;simp [hC,hY,P,hld,zaf];refine gwq hQ ?_)|fail
  have hm16:=hout 216 (by omega) (by omega) (by omega)
  have hm24:=hout 224 (by omega) (by omega) (by omega)
  refine ⟨rfl,λt=>?_,λk hk=>?_,?_⟩
  ·rcases zd7 (l:=[(2,.pointer (some ⟨200,0,none⟩)),(4,.pointer (some ⟨216,0,none⟩)),(5,.pointer (some ⟨224,0,none⟩))]) (t:=t) with h|h
   ·unfold zqw;rw [h];simp [zcm,zap,zax,zah,zaj]
   ·simp only [List.mem_cons,List.not_mem_nil,or_false,Prod.mk.injEq] at h
    unfold zqw
    rcases h with ⟨_,h⟩|⟨_,h⟩|⟨_,h⟩<;>rw [h]<;>simp [zap,zax,zah,zaj,dom]
  ·have h3:k=280\/k=281\/(100<=k/\k<200):=by
    rcases List.mem_cons.1 hk with rfl|hk
    ·exact .inl rfl
    ·rcases List.mem_cons.1 hk with rfl|hk
     ·exact .inr (.inl rfl)
     ·obtain ⟨p,hp,rfl⟩:=zag.1 hk
      exact .inr (.inr (hT.ok.big p hp))
   refine ⟨?_,by omega⟩
   simp (disch:=omega) only [zab,zaq,zaw,if_neg,zbi]
   exact zfr k (by omega)
  ·
   repeat' first|refine gwZ ?_|(refine gwX ?_;intro Q hQ _;simp [hC,hY,zb3,hm16,hm24];refine gwq hQ ?_)|fail
   refine ⟨.inr rfl,by simp [results66,spV,zb3,hm16,hm24,zqw,zaf],zb4 G0F (λp hp=>by
    have hpb:=hT.ok.big p hp
    have hm9:p.1∈280::281::zaa L:=List.mem_cons_of_mem _ (List.mem_cons_of_mem _ (zag.2 ⟨p,hp,rfl⟩))
    simp (disch:=omega) only [eIn hm9,zab,zaq,zaw,if_neg,zbi]) (λk hk=>by
    have hm9:k∉280::281::zaa L:=λhm9=>by
     rcases List.mem_cons.1 hm9 with rfl|hm9
     ·omega
     ·rcases List.mem_cons.1 hm9 with rfl|hm9
      ·omega
      ·obtain ⟨p,hp,rfl⟩:=zag.1 hm9
       have:=(hT.ok.big p hp).1
       omega
    simp (disch:=omega) only [eNi hm9,zab,zaq,zaw,if_neg,zbi,hLow])⟩
theorem zkb (E:Int) (hE:¬E=0) (L:List (Nat×Blk)) (ks:Nat) (bm bs:Blk) (hT:LTwo G0 L ks bm bs) (off n cap off2 n2 cap2:Nat) (g bx tp nr md st:Int)
  (hpo:Fun prog G0 66 #[cfV (.slice (some ⟨100,off,none⟩) n cap) g bx tp nr md,.agg #[.int .i64 st,.slice (some ⟨ks,off2,none⟩) n2 cap2]] (hpL G0 L) (zaa L) (.ret (.tuple #[spV 0 0,.int .i64 E]) [])) :
  Fun prog G0 36 #[cfV (.slice (some ⟨100,off,none⟩) n cap) g bx tp nr md,.agg #[.int .i64 st,.slice (some ⟨ks,off2,none⟩) n2 cap2]] (hpL G0 L) (zaa L) (.ret (.tuple #[spV 0 0,.int .i64 E]) []):=by
 refine zar (B:=200) G0F func36 rfl call36 hT.ok ?_ (zai (by simp [spV])) (by simp) (by simp) (by simp [ntmps36]) (by omega) ?_
 ·simp [zap,zax,zah,zaj,hT.ia,hT.ib,cfV]
 intro C hC hC0 hY
 have hA:=hT.a
 have hS:=hT.s
 have hne:=hT.ne
 have hLow:=hT.low
 have hks:=hT.k1
 have hks2:=hT.k2
 have hEb:(E != 0)=true:=by simpa using hE
 have hEq:(E==0)=false:=by simpa using hE
 unfold cfV spV at hpo
 unfold cfV
 repeat' first|refine gwZ ?_|((first|refine gwR [66] ?_|refine gwD [66] ?_);intro Q hQ _;(repeat first|simp [hC,hY,hA,hS,hne,zaf,hE,hEb,hEq]|refine za7 hpo hT.ok zdd ?_);refine gwq hQ ?_)|fail
 refine ⟨.inr rfl,by simp [results36,spV,zaf],kpT G0F⟩
def eLo (E:Int) (g:Int) (fm fs:Nat->Int) (n:Nat):Int:=if E=0 then z3x fm fs n - zlb g fm fs n else 0
def eHi (E:Int) (g:Int) (fm fs:Nat->Int) (n:Nat):Int:=if E=0 then z3x fm fs n - zlc g fm fs n else 0
def enE (n n2:Nat) (fm fs:Nat->Int) (g bx tp nr md st:Int):Int:=z4w n n2 (zdr n fm g bx tp nr md) (zbl st fs n2) fs
def enV (n n2:Nat) (fm fs:Nat->Int) (g bx tp nr md st:Int):Value:=.tuple #[spV (eLo (enE n n2 fm fs g bx tp nr md st) g fm fs n2) (eHi (enE n n2 fm fs g bx tp nr md st) g fm fs n2),.int .i64 (enE n n2 fm fs g bx tp nr md st)]
theorem zgg (n n2:Nat) (fm fs:Nat->Int) (g bx tp nr md st:Int):za0 (enV n n2 fm fs g bx tp nr md st)=true:=by simp [enV,spV]
theorem zka (L:List (Nat×Blk)) (ks:Nat) (bm bs:Blk) (hT:LTwo G0 L ks bm bs) (off n cap off2 n2 cap2:Nat) (fm fs:Nat->Int) (hm:MB bm off n fm) (hSb:SB bs off2 n2 fs) (hcap:n<=cap) (hcap2:n2<=cap2) (g bx tp nr md st:Int) (hs:i64 st) :
  Fun prog G0 36 #[cfV (.slice (some ⟨100,off,none⟩) n cap) g bx tp nr md,.agg #[.int .i64 st,.slice (some ⟨ks,off2,none⟩) n2 cap2]] (hpL G0 L) (zaa L) (.ret (enV n n2 fm fs g bx tp nr md st) []):=by
 unfold enV eLo eHi enE z4w
 cases hf:zqa n n2 (zdr n fm g bx tp nr md) (zbl st fs n2) with
 | false =>
  simp only [Bool.false_eq_true,if_false,if_neg (show ¬(2:Int)=0 by decide)]
  exact zkb 2 (by decide) L ks bm bs hT off n cap off2 n2 cap2 g bx tp nr md st (z22 L ks bm bs hT off n cap off2 n2 cap2 fm fs hm hSb g bx tp nr md st hs hf)
 | true =>
  obtain ⟨rfl,hok,hrt⟩:=zdk.1 hf
  by_cases hz:zzp fs n=0
  ·simp only [if_true,if_pos hz]
   exact zqt L ks bm bs hT off n cap off2 cap2 fm fs hm hSb hcap hcap2 g bx tp nr md st hs hok hrt hz
  ·simp only [if_true,if_neg hz,if_neg (show ¬(30:Int)=0 by decide)]
   exact zkb 30 (by decide) L ks bm bs hT off n cap off2 n cap2 g bx tp nr md st (zxw L ks bm bs hT off n cap off2 cap2 fm fs hm hSb hcap2 g bx tp nr md st hs hok hrt hz)
end Go.Gy
namespace Go.Gy
open Go Go.RowKit Go.Proofs
end Go.Gy
namespace Go.Gy
open Go Go.RowKit
section
variable {P:Program} {G G':Hp}
structure LOd (G:Hp) (m:List (Nat×Blk)) (B:Nat):Prop where
 big:∀ p∈m,100<=p.1/\p.1<B
 one:(zaa m).Nodup
 ids:∀ p∈m,p.2.ids (dom (hpL G m))
theorem LOk.sub' {m:List (Nat×Blk)} (h1:(zaa m).Nodup) (k:Nat) (hk:k∈zaa m):dom (hpL G m) k:=by
 obtain ⟨p,hp,rfl⟩:=zag.1 hk
 unfold dom;rw [LOk.at h1 p hp];simp
theorem LOd.low {m:List (Nat×Blk)} {B:Nat} (h:LOd G m B):∀ k,k<100->hpL G m k=G k:=λ_ hk=>zbc (λp hp=>(h.big p hp).1) hk
theorem LOd.sub {m:List (Nat×Blk)} {B:Nat} (h:LOd G m B) (k:Nat) (hk:k∈zaa m):dom (hpL G m) k:=LOk.sub' h.one k hk
theorem LOd.closed {m:List (Nat×Blk)} {B:Nat} (hGF:zbo G) (h:LOd G m B) (k:Nat) (b:Blk) (hk:hpL G m k=some b):b.ids (dom (hpL G m)):=by
 rcases za5 hk with h1|h1
 ·exact h.ids (k,b) h1
 ·exact Blk.flat_ids (hGF k b h1).2
theorem LOd.free {m:List (Nat×Blk)} {B:Nat} (hGF:zbo G) (hB:100<=B) (h:LOd G m B) (x:Nat) (hx:B<=x):hpL G m x=none:=by
 cases hb:hpL G m x with
 | none=>rfl
 | some b =>
  rcases za5 hb with h1|h1
  ·have:=(h.big _ h1).2;simp at this;omega
  ·have:=(hGF x b h1).1;omega
structure MvG (G G':Hp) (m m':List (Nat×Blk)) (ρ:Nat->Nat):Prop where
 gf:zbo G
 gf':zbo G'
 ok:∃ B,LOk m B
 ok':∃ B,LOk m' B
 sub:∀ k b,G k=some b->G' k=some b/\ρ k=k
 at':∀ p∈m,∃ c,hpL G' m' (ρ p.1)=some c/\∀ r,c.obj r=(p.2.rn ρ).obj r
 inj:∀ k∈zaa m,∀ l∈zaa m,ρ k=ρ l->k=l
 far:∀ k∈zaa m,∀ l b,G l=some b->ρ k≠l
theorem MvG.dom {m m':List (Nat×Blk)} {ρ:Nat->Nat} (h:MvG G G' m m' ρ) {k:Nat} (hk:Gy.dom (hpL G m) k):Gy.dom (hpL G' m') (ρ k):=by
 unfold Gy.dom at hk
 cases hb:hpL G m k with
 | none=>exact absurd hb hk
 | some b =>
  rcases za5 hb with h1|h1
  ·obtain ⟨c,h2,_⟩:=h.at' (k,b) h1
   unfold Gy.dom
   rw [show hpL G' m' (ρ k)=some c from h2]
   simp
  ·obtain ⟨h2,h3⟩:=h.sub k b h1
   obtain ⟨B,ok'⟩:=h.ok'
   unfold Gy.dom
   rw [h3,ok'.low k (h.gf k b h1).1,h2]
   simp
theorem MvG.run {m m':List (Nat×Blk)} {ρ:Nat->Nat} (h:MvG G G' m m' ρ) (hcl:∀ k b,hpL G m k=some b->b.ids (Gy.dom (hpL G m))) {r:Nat->Nat} {W:World} (hg:GOK G' W) (hs:Sat r (Gy.dom (hpL G' m')) (hpL G' m') W) (hi:Inj r (Gy.dom (hpL G' m'))) (hl:∀ k,k<100->Gy.dom (hpL G' m') k->r k=k) :
  GOK G W/\Sat (λk=>r (ρ k)) (Gy.dom (hpL G m)) (hpL G m) W/\Inj (λk=>r (ρ k)) (Gy.dom (hpL G m))/\(∀ k,k<100->Gy.dom (hpL G m) k->r (ρ k)=k):=by
 obtain ⟨B',ok'⟩:=h.ok'
 obtain ⟨B,ok⟩:=h.ok
 have hG:GOK G W:=λk b hk=>hg k b (h.sub k b hk).1
 have key:∀ k,Gy.dom (hpL G m) k->(k∈zaa m/\100<=k)\/(∃ b,G k=some b/\k<100/\ρ k=k):=λk hk=>by
  unfold Gy.dom at hk
  cases hb:hpL G m k with
  | none=>exact absurd hb hk
  | some b =>
   rcases za5 hb with h1|h1
   ·exact .inl ⟨zag.2 ⟨_,h1,rfl⟩,(ok.big _ h1).1⟩
   ·exact .inr ⟨b,h1,(h.gf k b h1).1,(h.sub k b h1).2⟩
 refine ⟨hG,λk b hk=>⟨?_,hcl k b hk⟩,λk l hk hl' e=>?_,λk hk hd=>?_⟩
 ·rcases za5 hk with h1|h1
  ·obtain ⟨c,h2,h3⟩:=h.at' (k,b) h1
   rw [(hs _ c h2).1,h3 r,Blk.rn_obj]
  ·obtain ⟨h2,h3⟩:=h.sub k b h1
   have h4:=(h.gf k b h1).1
   have h5:hpL G' m' k=some b:=by rw [ok'.low k h4,h2]
   have:=(hs k b h5).1
   show W.heap[r (ρ k)]? = _
   rw [h3,this]
   exact congrArg some (Blk.obj_congr (D:=λ_=>False) (λ_ hf=>hf.elim) (Blk.flat_ids (h.gf k b h1).2))
 ·have e2:ρ k=ρ l:=hi _ _ (h.dom hk) (h.dom hl') e
  rcases key k hk with ⟨k1,_⟩|⟨b,k1,_,k2⟩<;>rcases key l hl' with ⟨l1,_⟩|⟨c,l1,_,l2⟩
  ·exact h.inj k k1 l l1 e2
  ·exact absurd (e2.trans l2) (h.far k k1 l c l1)
  ·exact absurd (e2.symm.trans k2) (h.far l l1 k b k1)
  ·rw [<-k2,<-l2,e2]
 ·rcases key k hd with ⟨_,k1⟩|⟨b,k1,k3,k2⟩
  ·omega
  ·have:=hl k hk (by have:=h.dom hd;rwa [k2] at this)
   rw [k2,this]
theorem Fun.mvG {f:FuncId} {args args':Array Value} {m m' ws:List (Nat×Blk)} {v:Value} {ρ:Nat->Nat} (hi:Fun P G f args (hpL G m) (zaa m) (.ret v ws)) (h:MvG G G' m m' ρ) (hw:∀ k∈zaa ws,ρ k∈zaa m') (ea:args.map (ren ρ)=args') :
  Fun P G' f args' (hpL G' m') (zaa m') (.ret (ren ρ v) (rnL ρ ws)):=by
 subst ea
 have er:=LOk.rst (m:=m) h.gf
 have er':=LOk.rst (m:=m') h.gf'
 obtain ⟨B',ok'⟩:=h.ok'
 obtain ⟨en,ids,closed,fits,run⟩:=hi
 rw [er] at ids closed run
 obtain ⟨f1,f2,f3,f4⟩:=fits
 rw [er] at f1 f4
 refine ⟨en,λx hx=>?_,λk b hb=>?_,⟨?_,λk hk=>?_,λk b c h1 h2=>?_,λp hp1=>?_⟩,λr W hgok hsat hinj hlow=>?_⟩
 ·rw [er']
  obtain ⟨y,hy,rfl⟩:=Array.mem_map.1 hx
  exact zf6 (λk hk=>h.dom hk) (ids y hy)
 ·rw [er'] at hb |-
  exact ok'.closed h.gf' k b hb
 ·rw [er'];exact zf6 (λk hk=>h.dom hk) f1
 ·obtain ⟨q,hq,rfl⟩:=zjt hk
  have h1:=hw q hq
  refine ⟨h1,ok'.sub _ h1,?_⟩
  obtain ⟨p,hp,e⟩:=zag.1 h1
  rw [<-e];exact (ok'.big p hp).1
 ·simp only [rnL,List.mem_map,Prod.mk.injEq] at h1 h2
  obtain ⟨p,hp1,e1,rfl⟩:=h1
  obtain ⟨q,hq1,e2,rfl⟩:=h2
  have k1:=f2 p.1 (zag.2 ⟨p,hp1,rfl⟩)
  have k2:=f2 q.1 (zag.2 ⟨q,hq1,rfl⟩)
  have e3:=h.inj p.1 k1.1 q.1 k2.1 (e1.trans e2.symm)
  rw [f3 p.1 p.2 q.2 hp1 (by rw [e3];exact hq1)]
 ·simp only [rnL,List.mem_map] at hp1
  obtain ⟨p,hp1,rfl⟩:=hp1
  rw [er']
  exact Blk.ids_rn (λk hk=>h.dom hk) (f4 p hp1)
 ·rw [er'] at hsat hinj hlow
  obtain ⟨s0,s1,s2,s3⟩:=h.run closed hgok hsat hinj hlow
  have hrun:=run (λk=>r (ρ k)) W s0 s1 s2 s3
  have ha:(args.map (ren ρ)).map (ren r)=args.map (ren λk=>r (ρ k)):=by
   rw [Array.map_map]
   exact Array.map_congr_left λx _=>zcn r ρ x
  rw [ha]
  refine hrun.mono λe W' ⟨he,ht⟩=>⟨?_,ht.os,ht.tape,ht.output,ht.size,λk hk hnw=>ht.same k hk λp hp1=>?_,λp hp1=>?_,by simp,by simp⟩
  ·rw [he,zcn]
  ·exact hnw (ρ p.1,p.2.rn ρ) (by simp only [rnL,List.mem_map];exact ⟨p,hp1,rfl⟩)
  ·simp only [List.append_nil,rnL,List.mem_map] at hp1
   obtain ⟨p,hp1,rfl⟩:=hp1
   have hh:=ht.has p (by simpa using hp1)
   refine ⟨by rw [Blk.rn_obj];exact hh.1,?_⟩
   rw [er']
   exact Blk.ids_rn (λk hk=>hk.elim (λh1=>.inl (h.dom h1)) (λh1=>.inr (by simp [zaa] at h1))) hh.2
end
end Go.Gy
namespace Go.Gy
open Go Go.RowKit Go.Proofs Go.Proofs.Tryz
theorem zvb (N:Int) (v:Nat->Int) (w0:wr (v 0)) (w1:wr (v 1)) (h0:v 0<=v 1) (h1:i64 (v 1 - v 0)):Ret prog G0 12 #[zbg N v] (.tuple #[.int .i64 (v 1 - v 0),.bool true]):=by
 unfold zbg zbd
 refine zas G0F func12 rfl call12 (by simp) (by simp) (by simp [ntmps12]) ?_
 intro C hC hC0 hY
 have hw:=λ(K:Value->Prop)=>zac (K:=K) G0W (by kernel_rfl) (zos (v 0) (v 1) w0 w1 h0 h1)
 unfold spV at hw
 repeat' first|refine gwZ ?_|(refine gwX ?_;intro Q hQ _;simp [hC,hY,hw];refine gwq hQ ?_)|fail
 refine ⟨.inr trivial,?_⟩
 simp [results12]
theorem zj5 {n:Nat} {f:Nat->Int} {g bx tp nr md:Int} (h:zdr n f g bx tp nr md=true):1<=n/\n<=4:=by
 unfold zdr wiB at h
 simp only [Bool.and_eq_true,decide_eq_true_eq] at h
 omega
def prC (ok:Bool) (n:Nat):Int:=if ok then (n*(n - 1) / 2:Nat) else 0
theorem zzj (b:Blk) (off n cap:Nat) (f:Nat->Int) (h:MB b off n f) (g bx tp nr md:Int) :
  Fun prog G0 51 #[cfV (.slice (some ⟨100,off,none⟩) n cap) g bx tp nr md] (hpL G0 [(100,b)]) (zaa [(100,b)]) (.ret (.int .i64 (prC (zdr n f g bx tp nr md) n)) []):=by
 refine zar (B:=200) G0F func51 rfl call51 (zao h.fx) ?_ (by simp) (by simp) (by simp) (by simp [ntmps51]) (by omega) ?_
 ·simp [zap,zax,zah,zaj,zaa,cfV]
 intro C hC hC0 hY
 have hr:=λρ=>Blk.fx_rn h.fx ρ
 have hck:=zj6 b off n cap f h g bx tp nr md
 unfold prC
 cases hc:zdr n f g bx tp nr md with
 | true =>
  rw [hc] at hck
  have hn:=zj5 hc
  have:n=1\/n=2\/n=3\/n=4:=by omega
  clear hc
  unfold cfV at hck |-
  rcases this with rfl|rfl|rfl|rfl
  all_goals
   repeat' first|refine gwZ ?_|((first|refine gwR [83] ?_|refine gwD [83] ?_);intro Q hQ _;(repeat first|simp [hC,hY]|refine zae hck G0F (B:=200) (zao h.fx) (λk=>k) (λk hk=>rfl) (by simp [ren,zay,zak,zan,cfV]) (by simp) (by simp [hr]) (by simp [zaa]) (by simp [zaa];rfl) ?_);refine gwq hQ ?_)|fail
   refine ⟨.inr rfl,by simp [results51],kpS G0F⟩
 | false =>
  rw [hc] at hck
  unfold cfV at hck |-
  repeat' first|refine gwZ ?_|((first|refine gwR [83] ?_|refine gwD [83] ?_);intro Q hQ _;(repeat first|simp [hC,hY]|refine zae hck G0F (B:=200) (zao h.fx) (λk=>k) (λk hk=>rfl) (by simp [ren,zay,zak,zan,cfV]) (by simp) (by simp [hr]) (by simp [zaa]) (by simp [zaa];rfl) ?_);refine gwq hQ ?_)|fail
  refine ⟨.inr rfl,by simp [results51],kpS G0F⟩
theorem z7n (ok:Bool) {n:Nat} (h:ok=true->n<=4):0<=prC ok n/\prC ok n<=6:=by
 unfold prC
 cases ok with
 | false=>simp
 | true =>
  have hn:=h rfl
  have:n=0\/n=1\/n=2\/n=3\/n=4:=by omega
  rcases this with rfl|rfl|rfl|rfl|rfl<;>decide
theorem ztb (b:Blk) (off n cap:Nat) (f:Nat->Int) (h:MB b off n f) (g bx tp nr md:Int) :
  Fun prog G0 20 #[cfV (.slice (some ⟨100,off,none⟩) n cap) g bx tp nr md] (hpL G0 [(100,b)]) (zaa [(100,b)]) (.ret (.int .i64 (2*prC (zdr n f g bx tp nr md) n)) []):=by
 refine zar (B:=200) G0F func20 rfl call20 (zao h.fx) ?_ (by simp) (by simp) (by simp) (by simp [ntmps20]) (by omega) ?_
 ·simp [zap,zax,zah,zaj,zaa,cfV]
 intro C hC hC0 hY
 have hr:=λρ=>Blk.fx_rn h.fx ρ
 have hpr:=zzj b off n cap f h g bx tp nr md
 have hb:=z7n (zdr n f g bx tp nr md) (n:=n) λh=>(zj5 h).2
 generalize prC (zdr n f g bx tp nr md) n=z at *
 have hs:Int.bmod (2*z) 18446744073709551616=2*z:=bm (by omega) (by omega)
 unfold cfV at hpr |-
 repeat' first|refine gwZ ?_|((first|refine gwR [51] ?_|refine gwD [51] ?_);intro Q hQ _;(repeat first|simp [hC,hY,hs]|refine zae hpr G0F (B:=200) (zao h.fx) (λk=>k) (λk hk=>rfl) (by simp [ren,zay,zak,zan,cfV]) (by simp) (by simp [hr]) (by simp [zaa]) (by simp [zaa];rfl) ?_);refine gwq hQ ?_)|fail
 refine ⟨.inr rfl,by simp [results20],kpS G0F⟩
def mv2 (ka kb k:Nat):Nat:=if k=100 then ka else if k=108 then kb else k
section
variable {L:List (Nat×Blk)} {ka kb:Nat} {bm ba:Blk}
theorem zza {k:Nat} (h:k<100):mv2 ka kb k=k:=by unfold mv2;rw [if_neg (by omega),if_neg (by omega)]
theorem LAny.same (hT:LAny L) (ha:(ka,bm)∈L) (hb:(ka,ba)∈L):bm=ba:=by
 have h1:=hT.mem _ ha
 have h2:=hT.mem _ hb
 simp only at h1 h2
 rw [h1] at h2
 exact Option.some.inj h2
theorem LAny.mv1 (hT:LAny L) (ha:(ka,bm)∈L):MvG G0 G0 [(100,bm)] L (mv2 ka kb):=by
 have hka:=(hT.ok.big _ ha).1
 refine ⟨G0F,G0F,⟨200,zao (hT.fx _ ha)⟩,⟨200,hT.ok⟩,λk b hk=>⟨hk,zza (G0F k b hk).1⟩,?_,?_,?_⟩
 ·intro p hp
  simp only [List.mem_singleton] at hp
  subst hp
  exact ⟨bm,hT.mem _ ha,λr=>by rw [Blk.fx_rn (hT.fx _ ha)]⟩
 ·intro k hk l hl e
  simp [zaa] at hk hl
  omega
 ·intro k hk l b hl e
  simp [zaa] at hk
  subst hk
  have:=(G0F l b hl).1
  unfold mv2 at e
  rw [if_pos rfl] at e
  simp only at hka
  omega
theorem LAny.mv2 (hT:LAny L) (ha:(ka,bm)∈L) (hb:(kb,ba)∈L) (hne:ka≠kb):MvG G0 G0 [(100,bm),(108,ba)] L (mv2 ka kb):=by
 have hka:=(hT.ok.big _ ha).1
 have hkb:=(hT.ok.big _ hb).1
 refine ⟨G0F,G0F,⟨200,(LTwo.two (G:=G0) (hT.fx _ ha) (hT.fx _ hb)).ok⟩,⟨200,hT.ok⟩,λk b hk=>⟨hk,zza (G0F k b hk).1⟩,?_,?_,?_⟩
 ·intro p hp
  simp only [List.mem_cons,List.not_mem_nil,or_false] at hp
  rcases hp with rfl|rfl
  ·exact ⟨bm,hT.mem _ ha,λr=>by rw [Blk.fx_rn (hT.fx _ ha)]⟩
  ·exact ⟨ba,hT.mem _ hb,λr=>by rw [Blk.fx_rn (hT.fx _ hb)]⟩
 ·intro k hk l hl e
  simp [zaa] at hk hl
  unfold Gy.mv2 at e
  rcases hk with rfl|rfl<;>rcases hl with rfl|rfl<;>simp at e<;>first|rfl|omega
 ·intro k hk l b hl e
  simp [zaa] at hk
  have:=(G0F l b hl).1
  unfold Gy.mv2 at e
  simp only at hka hkb
  rcases hk with rfl|rfl<;>simp at e<;>omega
theorem zev {f:FuncId} {off n cap off2 n2 cap2:Nat} {g bx tp nr md st:Int} {v:Value} (hv:za0 v=true) (hT:LAny L) (ha:(ka,bm)∈L) (hb:(kb,ba)∈L)
  (h:∀ (L':List (Nat×Blk)) (ks:Nat),LTwo G0 L' ks bm ba->Fun prog G0 f #[cfV (.slice (some ⟨100,off,none⟩) n cap) g bx tp nr md,.agg #[.int .i64 st,.slice (some ⟨ks,off2,none⟩) n2 cap2]] (hpL G0 L') (zaa L') (.ret v [])) :
  Fun prog G0 f #[cfV (.slice (some ⟨ka,off,none⟩) n cap) g bx tp nr md,.agg #[.int .i64 st,.slice (some ⟨kb,off2,none⟩) n2 cap2]] (hpL G0 L) (zaa L) (.ret v []):=by
 by_cases hne:ka=kb
 ·subst hne
  have:=hT.same ha hb
  subst this
  have h1:=(h _ _ (LTwo.one (hT.fx _ ha))).mvG (args':=#[cfV (.slice (some ⟨ka,off,none⟩) n cap) g bx tp nr md,.agg #[.int .i64 st,.slice (some ⟨ka,off2,none⟩) n2 cap2]]) (hT.mv1 (kb:=ka) ha) (by simp [zaa]) (by simp [cfV,ren,zay,zak,zan,Gy.mv2])
  rw [zau hv] at h1
  exact h1
 ·have h1:=(h _ _ (LTwo.two (hT.fx _ ha) (hT.fx _ hb))).mvG (args':=#[cfV (.slice (some ⟨ka,off,none⟩) n cap) g bx tp nr md,.agg #[.int .i64 st,.slice (some ⟨kb,off2,none⟩) n2 cap2]]) (hT.mv2 ha hb hne) (by simp [zaa]) (by simp [cfV,ren,zay,zak,zan,Gy.mv2])
  rw [zau hv] at h1
  exact h1
end
theorem SlI.at {L:List (Nat×Blk)} {k off:Nat} {b:Blk} (h:(k,b)∈L):SlI L (some ⟨k,off,none⟩):=λn cap=>by
 simp [zah,zaj]
 exact zag.2 ⟨_,h,rfl⟩
theorem SlI.nil {L:List (Nat×Blk)}:SlI L none:=λn cap=>by simp [zah,zaj]
theorem LTwo.any {L:List (Nat×Blk)} {ks:Nat} {b b2:Blk} (h:LTwo G0 L ks b b2):LAny L:=⟨h.ok,h.fx⟩
def zP (fs:Nat->Int) (u i:Nat):Int:=if u=0 then fs (6*i+3) else if u=1 then fs (6*i+4) else fs (6*i+5)
def zL (fs:Nat->Int) (u i:Nat):Int :=
 if u=0 then fs (6*i+1)*fs (6*i+5) - fs (6*i+2)*fs (6*i+4)
 else if u=1 then fs (6*i+2)*fs (6*i+3) - fs (6*i)*fs (6*i+5)
 else fs (6*i)*fs (6*i+4) - fs (6*i+1)*fs (6*i+3)
def sP (fm fs:Nat->Int) (n u:Nat):Int:=zbv (mzF fm (zP fs) u) n
def sL (fm fs:Nat->Int) (n u:Nat):Int:=zbv (mzF fm (zL fs) u) n
theorem zio {x v:Int} (hx:inW 1048576 x) (hv:inW 65536 v):-68719476736<=x*v/\x*v<=68719476736:=by
 obtain ⟨_,a,b⟩:=hx
 obtain ⟨_,c,d⟩:=hv
 have k:x.natAbs*v.natAbs<=1048576*65536:=Nat.mul_le_mul (by omega) (by omega)
 rw [<-Int.natAbs_mul] at k
 omega
theorem zr9 {st:Int} {fs:Nat->Int} {n:Nat} (hr:zbl st fs n=true) (u i:Nat) (hi:i<n):-65536<=zP fs u i/\zP fs u i<=65536:=by
 obtain ⟨_,⟨_,a0,a1⟩,⟨_,b0,b1⟩,⟨_,c0,c1⟩⟩:=zem hr hi
 unfold zP
 split
 ·omega
 ·split<;>omega
theorem zr8 {st:Int} {fs:Nat->Int} {n:Nat} (hr:zbl st fs n=true) (u i:Nat) (hi:i<n):-274877906944<=zL fs u i/\zL fs u i<=274877906944:=by
 obtain ⟨⟨x0,x1,x2⟩,v0,v1,v2⟩:=zem hr hi
 have a:=zio x1 v2
 have b:=zio x2 v1
 have c:=zio x2 v0
 have d:=zio x0 v2
 have e:=zio x0 v1
 have f:=zio x1 v0
 unfold zL
 split
 ·omega
 ·split<;>omega
theorem zsw {st:Int} {fs:Nat->Int} {n i:Nat} (hr:zbl st fs n=true) (hi:i<n):(fnI (fs (6*i))/\fnI (fs (6*i+1))/\fnI (fs (6*i+2)))/\fnI (fs (6*i+3))/\fnI (fs (6*i+4))/\fnI (fs (6*i+5)):=by
 obtain ⟨⟨⟨_,a0,a1⟩,⟨_,b0,b1⟩,⟨_,c0,c1⟩⟩,⟨_,d0,d1⟩,⟨_,e0,e1⟩,⟨_,f0,f1⟩⟩:=zem hr hi
 unfold fnI
 omega
section
variable {L:List (Nat×Blk)} {ks:Nat} {bm bs:Blk} {off n cap off2 cap2:Nat} {fm fs:Nat->Int} {g bx tp nr md st:Int}
theorem jgv (hT:LTwo G0 L ks bm bs) (hm:MB bm off n fm) (hSb:SB bs off2 n fs) (hs:i64 st) (hok:zdr n fm g bx tp nr md=true) (hrt:zbl st fs n=true) :
  Fun prog G0 38 #[cfV (.slice (some ⟨100,off,none⟩) n cap) g bx tp nr md,.agg #[.int .i64 st,.slice (some ⟨ks,off2,none⟩) n cap2]] (hpL G0 L) (zaa L) (.ret (.tuple #[v3 (sP fm fs n 0) (sP fm fs n 1) (sP fm fs n 2),.int .i64 0]) []) :=
 jm9 hT.any (SlI.at hT.ka) (SlI.at hT.kb) (zy6 L ks bm bs hT off n cap off2 cap2 fm fs hm hSb g bx tp nr md st hs hok hrt 71 (zP fs) (λi hi K=>jm8 _ _ _ _ _ _ K) (λu i hi=>by have:=zr9 hrt u i hi;omega))
theorem jgu (hT:LTwo G0 L ks bm bs) (hm:MB bm off n fm) (hSb:SB bs off2 n fs) (hs:i64 st) (hok:zdr n fm g bx tp nr md=true) (hrt:zbl st fs n=true) :
  Fun prog G0 39 #[cfV (.slice (some ⟨100,off,none⟩) n cap) g bx tp nr md,.agg #[.int .i64 st,.slice (some ⟨ks,off2,none⟩) n cap2]] (hpL G0 L) (zaa L) (.ret (.tuple #[v3 (sL fm fs n 0) (sL fm fs n 1) (sL fm fs n 2),.int .i64 0]) []) :=
 jm7 hT.any (SlI.at hT.ka) (SlI.at hT.kb) (zy6 L ks bm bs hT off n cap off2 cap2 fm fs hm hSb g bx tp nr md st hs hok hrt 72 (zL fs) (λi hi K=>jm6 (zsw hrt hi) K) (λu i hi=>zr8 hrt u i hi))
end
theorem zpk {n:Nat} {fm:Nat->Int} {g bx tp nr md:Int} (hok:zdr n fm g bx tp nr md=true) {z:Nat->Nat->Int} (hz:∀ u i,i<n->-274877906944<=z u i/\z u i<=274877906944) (u:Nat):-1125899906842624<=zbv (mzF fm z u) n/\zbv (mzF fm z u) n<=1125899906842624:=by
 have h4:=(zj5 hok).2
 have:=zkn (f:=mzF fm z u) (n:=n) (λj hj=>by
  have hmm:=zbu hok hj
  have hzz:=hz u j hj
  exact zi7 hmm.1 hmm.2 hzz.1 hzz.2) n (Nat.le_refl _)
 omega
def lsE (ea eb:Int):Int:=if ea=0 then eb else ea
def lsW (ea eb:Int) (fm:Nat->Int) (n:Nat) (g:Int) (fa fb:Nat->Int):Nat->Int :=
 if ea=0/\eb=0 then lsN (eLo 0 g fm fb n - eHi 0 g fm fa n) (eHi 0 g fm fb n - eLo 0 g fm fa n) (sP fm fb n 0 - sP fm fa n 0) (sP fm fb n 1 - sP fm fa n 1) (sP fm fb n 2 - sP fm fa n 2) (sL fm fb n 0 - sL fm fa n 0) (sL fm fb n 1 - sL fm fa n 1) (sL fm fb n 2 - sL fm fa n 2)
 else λ_=>0
theorem z2x {n n2:Nat} {fm fs:Nat->Int} {g bx tp nr md st:Int} (h:enE n n2 fm fs g bx tp nr md st=0):n=n2/\zdr n fm g bx tp nr md=true/\zbl st fs n2=true/\zzp fs n2=0:=by
 unfold enE z4w at h
 split at h
 ·rename_i hf
  obtain ⟨a,b,c⟩:=zdk.1 hf
  split at h
  ·rename_i hz;exact ⟨a,b,c,hz⟩
  ·cases h
 ·cases h
theorem zyf {L:List (Nat×Blk)} (hT:LAny L) {ka kb kc:Nat} {bm ba bb:Blk} (h1:(ka,bm)∈L) (h2:(kb,ba)∈L) (h3:(kc,bb)∈L) {off n cap offa na capa offb nb capb:Nat} {fm fa fb:Nat->Int} (hm:MB bm off n fm) (hA:SB ba offa na fa) (hB:SB bb offb nb fb) (hcm:n<=cap) (hca:na<=capa) (hcb:nb<=capb) {g bx tp nr md sta stb:Int} (hsa:i64 sta) (hsb:i64 stb) :
  Fun prog G0 10 #[cfV (.slice (some ⟨ka,off,none⟩) n cap) g bx tp nr md,.agg #[.int .i64 sta,.slice (some ⟨kb,offa,none⟩) na capa],.agg #[.int .i64 stb,.slice (some ⟨kc,offb,none⟩) nb capb]] (hpL G0 L) (zaa L)
   (.ret (.tuple #[zbh (lsW (enE n na fm fa g bx tp nr md sta) (enE n nb fm fb g bx tp nr md stb) fm n g fa fb),.int .i64 (lsE (enE n na fm fa g bx tp nr md sta) (enE n nb fm fb g bx tp nr md stb))]) []):=by
 have eA:=zev (cap2:=capa) (zgg n na fm fa g bx tp nr md sta) hT h1 h2 λL' ks hL=>zka L' ks bm ba hL off n cap offa na capa fm fa hm hA hcm hca g bx tp nr md sta hsa
 have eB:=zev (cap2:=capb) (zgg n nb fm fb g bx tp nr md stb) hT h1 h3 λL' ks hL=>zka L' ks bm bb hL off n cap offb nb capb fm fb hm hB hcm hcb g bx tp nr md stb hsb
 unfold enV at eA eB
 by_cases ha:enE n na fm fa g bx tp nr md sta=0
 ·rw [ha] at eA |-
  obtain ⟨rfl,hok,hra,hza⟩:=z2x ha
  by_cases hb:enE n nb fm fb g bx tp nr md stb=0
  ·rw [hb] at eB |-
   obtain ⟨rfl,_,hrb,hzb⟩:=z2x hb
   have pA:=zev (cap2:=capa) (by simp [v3]) hT h1 h2 λL' ks hL=>jgv (cap:=cap) (cap2:=capa) hL hm hA hsa hok hra
   have pB:=zev (cap2:=capb) (by simp [v3]) hT h1 h3 λL' ks hL=>jgv (cap:=cap) (cap2:=capb) hL hm hB hsb hok hrb
   have lA:=zev (cap2:=capa) (by simp [v3]) hT h1 h2 λL' ks hL=>jgu (cap:=cap) (cap2:=capa) hL hm hA hsa hok hra
   have lB:=zev (cap2:=capb) (by simp [v3]) hT h1 h3 λL' ks hL=>jgu (cap:=cap) (cap2:=capb) hL hm hB hsb hok hrb
   have qa:=λu=>zpk hok (z:=zP fa) (λu i hi=>by have:=zr9 hra u i hi;omega) u
   have qb:=λu=>zpk hok (z:=zP fb) (λu i hi=>by have:=zr9 hrb u i hi;omega) u
   have ra:=λu=>zpk hok (z:=zL fa) (λu i hi=>zr8 hra u i hi) u
   have rb:=λu=>zpk hok (z:=zL fb) (λu i hi=>zr8 hrb u i hi) u
   have dP:∀ u,i64 (sP fm fb n u - sP fm fa n u):=λu=>by have:=qa u;have:=qb u;unfold sP;exact ⟨by omega,by omega⟩
   have dL:∀ u,i64 (sL fm fb n u - sL fm fa n u):=λu=>by have:=ra u;have:=rb u;unfold sL;exact ⟨by omega,by omega⟩
   have gP:=zo6 hT (SlI.at h1) (SlI.at h2) (SlI.at h3) (F:=38) (by decide) (dP 0) (dP 1) (dP 2) pA pB
   have gL:=zo6 hT (SlI.at h1) (SlI.at h2) (SlI.at h3) (F:=39) (by decide) (dL 0) (dL 1) (dL 2) lA lB
   have h:=z3h hT (SlI.at h1) (SlI.at h2) (SlI.at h3) eA eB gP gL
   unfold lsW lsE
   rw [if_pos ⟨rfl,rfl⟩,if_pos rfl]
   exact h
  ·have h:=zlw hT (SlI.at h1) (SlI.at h2) (SlI.at h3) hb eA eB
   unfold lsW lsE
   rw [if_neg (λh=>hb h.2),if_pos rfl]
   exact h
 ·have h:=zgj (stb:=stb) (pb:=some ⟨kc,offb,none⟩) (nb:=nb) (capb:=capb) hT (SlI.at h1) (SlI.at h2) (SlI.at h3) ha eA
  unfold lsW lsE
  rw [if_neg (λh=>ha h.1),if_neg ha]
  exact h
end Go.Gy
namespace Go.Gy
open Go Go.RowKit Go.Proofs
end Go.Gy
namespace Go.Gy
open Go Go.RowKit Go.Proofs Go.Proofs.Tryz
end Go.Gy
namespace Go.Gy
open Go Go.RowKit Go.Proofs
theorem z6n {st:Int} {fs:Nat->Int} {n:Nat} (hr:zbl st fs n=true) {i k:Nat} (hi:i<n) (hk:k<n):zfp fs i k=d2F fs i k:=zxy (zem hr hi).1 (zem hr hk).1
theorem ztm {st g:Int} {fm fs:Nat->Int} {n:Nat} (hr:zbl st fs n=true):zlc g fm fs n=zk6 (λi k=>zea g (fm i) (fm k) (d2F fs i k)) n/\zlb g fm fs n=zk6 (λi k=>zjc g (fm i) (fm k) (d2F fs i k)) n/\zzp fs n=zk6 (λi k=>if d2F fs i k=0 then 1 else 0) n:=by
 refine ⟨zgr λi k h1 h2=>?_,zgr λi k h1 h2=>?_,zgr λi k h1 h2=>?_⟩<;>rw [z6n hr h2 (by omega)]
end Go.Gy
namespace Go.Gy
open Go Go.RowKit Go.Proofs Go.Proofs.Tryz
def bt (z:Int):Nat->Int
 | 0=>0
 | i+1=>if wi z i=0 then bt z i else 64*i+za1 (wi z i)
theorem jo5 (z:Int):bt z 4=za1 (uz z):=by
 simp only [bt]
 by_cases h3:wi z 3=0
 ·by_cases h2:wi z 2=0
  ·by_cases h1:wi z 1=0
   ·rw [z0m z h3 h2 h1]
    by_cases h0:wi z 0=0
    ·simp [h0,h1,h2,h3];rfl
    ·simp [h0,h1,h2,h3]
   ·rw [z0n z h3 h2 h1];simp [h1,h2,h3]
  ·rw [z0o z h3 h2];simp [h2,h3]
 ·rw [z0p z h3];simp [h3]
theorem jq4 (i j:Nat) (hi:i<4) (hj:j<64):Int.bmod (64*(i:Int)+(1+j)) 18446744073709551616=64*(i:Int)+(1+j):=bm (by omega) (by omega)
def jly (z:Int) (i:Nat):GS :=
 ⟨tsL [(1,.pointer (some ⟨200,0,none⟩)),(3,.int .i64 (bt z i)),(4,.int .i64 i)],hpL G0 [(200,⟨fa 4 .u64 (wi z),.ty 30⟩)],300,0⟩
def z8r (z:Int) (i j:Nat):GS :=
 ⟨tsL [(1,.pointer (some ⟨200,0,none⟩)),(3,.int .i64 (if j=0 then bt z i else 64*i+j)),(4,.int .i64 i),(5,.int .u64 (wi z i / 2^j)),(6,.int .i64 (1+j))],hpL G0 [(200,⟨fa 4 .u64 (wi z),.ty 30⟩)],300,0⟩
theorem zzb:za1 0=0:=rfl
theorem jf2 (x:Int) (h0:0<=x):(∀ j:Nat,j<(za1 x).toNat->0<x / 2^j)/\x / 2^(za1 x).toNat=0:=by
 by_cases h:x=0
 ·subst h
  rw [zzb];simp
 ·obtain ⟨k,hk,k1,k2⟩:=zek (x:=x) (by omega)
  have e:(za1 x).toNat=k+1:=by omega
  rw [e]
  have hp:=Int.pow_pos (n:=2) (m:=k+1) (by decide)
  refine ⟨λj hj=>?_,Int.ediv_eq_zero_of_lt h0 k2⟩
  have h3:(2:Int)^j<=2^k:=by exact_mod_cast Nat.pow_le_pow_right (by omega) (by omega:j<=k)
  have hpj:=Int.pow_pos (n:=2) (m:=j) (by decide)
  have:1<=x / 2^j:=by
   rw [Int.le_ediv_iff_mul_le hpj];omega
  omega
theorem z2e (z:Int):Ret prog G0 155 #[wd z] (.int .i64 (za1 (uz z))):=by
 refine zas G0F func155 rfl call155 rfl (by simp) (by simp [ntmps155]) ?_
 intro C hC hC0 hY
 repeat' first|refine gwZ ?_|refine gwW ?_|fail
 refine zbt 4 (jly z) ?_ ?_ ?_
 ·refine za3 _ 300 hC G0F (m0:=[]) hC0 (by omega) ?_ ?_ ?_
  ·simp [zap,zax,zah,zaj,dom,bt]
  ·simp [Blk.ids,zah,zaj,zgh]
  ·simp
 ·intro i hi
  have hi':(i:Int)<4:=by omega
  have hz:(0:Int)<=i:=by omega
  have hs:Int.bmod ((i:Int)+1) 18446744073709551616=((i+1:Nat):Int):=by rw [bm (by omega) (by omega)];rfl
  unfold jly
  repeat' first|refine gwZ ?_|(refine gwX ?_;intro Q hQ _;simp [hC,hY,hi,hi',hz,hs,zdi];refine gwq hQ ?_)|fail
  have w0:=zbq z i
  have w1:=zbw z i
  have hN:=zfj z i
  obtain ⟨hh,hhN⟩:=jf2 (wi z i) w0
  have hn0:(za1 (wi z i)).toNat=0↔wi z i=0:=by
   refine ⟨λh=>?_,λh=>by rw [h,zzb];rfl⟩
   rw [h] at hhN;simpa using hhN
  have hbt:bt z (i+1)=if (za1 (wi z i)).toNat=0 then bt z i else 64*i+((za1 (wi z i)).toNat:Int):=by
   simp only [bt]
   by_cases h:wi z i=0
   ·rw [if_pos h,if_pos (hn0.2 h)]
   ·rw [if_neg h,if_neg (λh'=>h (hn0.1 h'))];omega
  generalize (za1 (wi z i)).toNat=N at *
  have hN64:N<=64:=by
   refine Classical.byContradiction λhc=>?_
   have:=hh 64 (by omega)
   rw [Int.ediv_eq_zero_of_lt w0 (by omega)] at this
   omega
  refine zbt N (z8r z i) ?_ ?_ ?_
  ·refine za3 _ 300 hC G0F (m0:=[]) hC0 (by omega) ?_ ?_ ?_
   ·simp [zap,zax,zah,zaj,dom]
   ·simp [zco]
   ·simp
  ·intro j hj
   have hpos:=hh j hj
   have hw:wi z i / 2^j<18446744073709551616:=Int.lt_of_le_of_lt (Int.ediv_le_self _ w0) w1
   have hs2:Int.bmod (1+(j:Int)+1) 18446744073709551616=1+((j+1:Nat):Int):=by rw [bm (by omega) (by omega)];omega
   have hs3:Int.bmod (64*(i:Int)) 18446744073709551616=64*(i:Int):=bm (by omega) (by omega)
   have hs4:Int.bmod (64*(i:Int)+(1+j)) 18446744073709551616=64*(i:Int)+(1+j):=jq4 i j hi (Nat.lt_of_lt_of_le hj hN64)
   have hd:(wi z i / 2^j).tdiv 2=wi z i / 2^(j+1):=by
    rw [Int.tdiv_eq_ediv_of_nonneg (by omega),Int.ediv_ediv_of_nonneg (Int.le_of_lt (Int.pow_pos (by decide))),Int.pow_succ]
   have hd1:wi z i / 2^(j+1)%18446744073709551616=wi z i / 2^(j+1):=by
    rw [<-hd,Int.tdiv_eq_ediv_of_nonneg (by omega)];omega
   unfold z8r
   repeat' first|refine gwZ ?_|(refine gwX ?_;intro Q hQ _;simp [hC,hY,hpos,hs2,hs3,hs4,hd,hd1];refine gwq hQ ?_)|fail
   refine za3 _ 300 hC G0F (m0:=[]) hC0 (by omega) ?_ ?_ ?_
   ·simp [zap,zax,zah,zaj,dom];omega
   ·simp [zco]
   ·simp
  ·unfold z8r
   repeat' first|refine gwZ ?_|(refine gwX ?_;intro Q hQ _;simp [hC,hY,hhN,hs];refine gwq hQ ?_)|fail
   refine za3 _ 300 hC G0F (m0:=[]) hC0 (by omega) ?_ ?_ ?_
   ·simp [zap,zax,zah,zaj,dom,hbt,hs]
   ·simp [zco]
   ·simp
 ·unfold jly
  repeat' first|refine gwZ ?_|(refine gwX ?_;intro Q hQ _;simp [hC,hY,jo5];refine gwq hQ ?_)|fail
  refine ⟨.inr trivial,?_⟩
  simp [results155,jo5]
@[simp] theorem jqj (z:Int) (K:Value->Prop):za2 prog G0 155 #[Value.agg #[.int .u64 (wi (z) 0),.int .u64 (wi (z) 1),.int .u64 (wi (z) 2),.int .u64 (wi (z) 3)]] K↔K (.int .i64 (za1 (uz z))):=zac G0W (by kernel_rfl) (z2e z)
theorem z7r (a:Int) (K:Nat):∀ i,i<=K->∃ c,rp a K i=c*2^(K - i)
 | 0,_=>⟨0,by simp [rp]⟩
 | i+1,h=>by
  obtain ⟨c,hc⟩:=z7r a K i (by omega)
  have e:K - i=(K - (i+1))+1:=by omega
  have e2:K - 1 - i=K - (i+1):=by omega
  rw [e,Int.pow_succ,Int.mul_comm _ 2,<-Int.mul_assoc] at hc
  unfold rp
  rw [e2]
  split
  ·exact ⟨c*2+1,by rw [hc,Int.add_mul,Int.one_mul]⟩
  ·exact ⟨c*2,hc⟩
theorem jhf (c:Int) (t r:Nat) (hr:r<64) (ht:t<4):fa 4 .u64 (upd (wi (c*2^(64*t+r+1))) t (zdy .or .u64 (wi (c*2^(64*t+r+1)) t) (2^r)))=fa 4 .u64 (wi (c*2^(64*t+r+1)+2^(64*t+r))):=by
 refine zca λj hj=>?_
 by_cases h:j=t
 ·subst h;rw [za9,z72 c j r hr]
 ·rw [zab _ _ h,znw c t r j hr h]
def jhu (a r:Int) (m:Int):GS :=
 ⟨tsL [(1,.pointer (some ⟨200,0,none⟩)),(2,.pointer (some ⟨208,0,none⟩)),(3,.int .i64 0),(4,.pointer (some ⟨248,0,none⟩)),(5,.int .i64 m)],
 hpL G0 [(200,wb a),(208,wb 0),(248,⟨fa 4 .u64 (wi r),.ty 30⟩)],400,0⟩
theorem zrs (a:Int) (ha:wr a) (h0:0<=a):Ret prog G0 135 #[wd a] (.tuple #[wd (isq a),.int .i64 0]):=by
 refine zas G0F func135 rfl call135 (by simp) (by simp) (by simp [ntmps135]) ?_
 intro C hC hC0 hY
 have s1:¬zb8 (sz a) 0<0:=by rw [zct ha];unfold zb8;split<;>(try split)<;>omega
 have hnb:=zer 255 ha.2
 have eu:uz a=a:=by unfold uz;have:=ha.2;omega
 have hinv:=ztp a (za1 a / 2+1).toNat h0 (zm7 a h0)
 have hdv:=z7r a (za1 a / 2+1).toNat
 have hisq:isq a=rp a (za1 a / 2+1).toNat (za1 a / 2+1).toNat:=rfl
 have hM:0<=za1 a / 2/\za1 a / 2<=127:=by omega
 have td:(za1 a).tdiv 2=za1 a / 2:=Int.tdiv_eq_ediv_of_nonneg (by omega)
 have tb:Int.bmod (za1 a / 2) 18446744073709551616=za1 a / 2:=bm (by omega) (by omega)
 repeat' first|refine gwZ ?_|(refine gwX ?_;intro Q hQ _;simp [hC,hY,s1,eu,td,tb];refine gwq hQ ?_)|fail
 clear td tb
 generalize za1 a / 2=M at *
 generalize hK:(M+1).toNat=K at *
 refine zbt K (λi=>jhu a (rp a K i) (M - i)) ?_ ?_ ?_
 ·refine za3 _ 400 hC G0F (m0:=[]) hC0 (by omega) ?_ ?_ ?_
  ·simp [zap,zax,zah,zaj,dom]
  ·simp [Blk.ids,zah,zaj,zgh,wb,rp,zaf]
  ·simp
 ·intro i hi
  obtain ⟨n,hn⟩:∃ n:Nat,M - (i:Int)=n:=⟨(M - i).toNat,by omega⟩
  obtain ⟨r0,r1,r2⟩:=hinv i (by omega)
  obtain ⟨c,hc⟩:=hdv i (by omega)
  have en:K - 1 - i=n:=by omega
  have en1:K - i=n+1:=by omega
  have hrs:rp a K (i+1)=if (rp a K i+2^n)*(rp a K i+2^n)<=a then rp a K i+2^n else rp a K i:=by
   rw [rp,en]
  rw [en1] at hc
  generalize rp a K i=r at *
  have hau:=ha.2
  have hr:r<340282366920938463463374607431768211456:=jii _ r0 (by decide) (by omega)
  have hn2:(2:Int)^n<=2^127:=by exact_mod_cast Nat.pow_le_pow_right (by omega) (by omega:n<=127)
  have hn0:=zbb n
  have t0:0<=r+2^n:=by omega
  have t1:r+2^n<680564733841876926926749214863536422912:=by omega
  have szt:sz (r+2^n)=r+2^n:=zg5 t0 (Int.lt_trans t1 (by decide))
  have tt0:0<=(r+2^n)*(r+2^n):=Int.mul_nonneg t0 t0
  have hmul:ziu (r+2^n) (r+2^n)=decide (¬((r+2^n)*(r+2^n)<57896044618658097711785492504343953926634992332820282019728792003956564819968)):=by
   unfold ziu;rw [szt];congr 1
   exact propext ⟨λh1 h2=>h1 ⟨Int.le_trans (by decide) tt0,h2⟩,λh1 h2=>h1 h2.2⟩
  have sza:sz a=a:=zct ha
  obtain ⟨t,q,hq,hn'⟩:∃ t q,q<64/\n=64*t+q:=⟨n / 64,n%64,by omega,by omega⟩
  have g1:(0:Int)<=n:=by omega
  have g4:Int.bmod ((n:Int) - 1) 18446744073709551616=M - ((i+1:Nat):Int):=by rw [bm (by omega) (by omega)];omega
  have tq:((n:Int)).tdiv 64=t:=by rw [Int.tdiv_eq_ediv_of_nonneg (by omega)];omega
  have tm:((n:Int)).tmod 64=q:=by rw [Int.tmod_eq_emod_of_nonneg (by omega)];omega
  have t4:t<4:=by omega
  have t4':(t:Int)<4:=by omega
  have t00:(0:Int)<=t:=by omega
  have tb:Int.bmod (t:Int) 18446744073709551616=t:=bm (by omega) (by omega)
  have t3:t<=3:=Nat.le_of_lt_succ t4
  have m1:min q 64=q:=by omega
  have m2:(2:Int)^q%18446744073709551616=2^q:=Int.emod_eq_of_lt (Int.le_of_lt (zbb _)) (by
   have:(2:Int)^q<2^64:=by exact_mod_cast Nat.pow_lt_pow_right (by omega) hq
   exact this)
  have hset:=jhf c t q hq t4
  rw [<-hn',<-hc] at hset
  rw [zgh .u64 (wi (r+2^n))] at hset
  simp only [hrs]
  generalize htt:(r+2^n)*(r+2^n)=T at *
  by_cases hov:T<57896044618658097711785492504343953926634992332820282019728792003956564819968
  ·have hm:ziu (r+2^n) (r+2^n)=false:=by rw [hmul];simp [hov]
   have szT:sz T=T:=zg5 tt0 hov
   by_cases hle:T<=a
   ·have hcmp:zb8 (sz T) (sz a)<=0:=by rw [szT,sza];unfold zb8;split<;>(try split)<;>omega
    rw [if_pos hle]
    unfold jhu
    repeat' first|refine gwZ ?_|(refine gwX ?_;intro Q hQ _;simp [hC,hY,hn,g1,g4,tq,tm,t4,t4',t00,tb,t3,m1,m2,zdi,zeh,hset,wb,szt,htt,hm,hcmp];refine gwq hQ ?_)|fail
    refine za3 _ 400 hC G0F (m0:=[]) hC0 (by omega) ?_ ?_ ?_
    ·simp [dom]
    ·simp [wb,zgh]
    ·simp [wb]
   ·have hcmp:¬zb8 (sz T) (sz a)<=0:=by rw [szT,sza];unfold zb8;split<;>(try split)<;>omega
    rw [if_neg hle]
    unfold jhu
    repeat' first|refine gwZ ?_|(refine gwX ?_;intro Q hQ _;simp [hC,hY,hn,g1,g4,tq,tm,t4,t4',t00,tb,t3,m1,m2,zdi,zeh,hset,wb,szt,htt,hm,hcmp];refine gwq hQ ?_)|fail
    refine za3 _ 400 hC G0F (m0:=[]) hC0 (by omega) ?_ ?_ ?_
    ·simp [dom]
    ·simp [wb,zgh]
    ·simp [wb]
  ·have hm:ziu (r+2^n) (r+2^n)=true:=by rw [hmul];simp only [hov,not_false_eq_true,decide_true]
   have hle:¬T<=a:=λh=>hov (Int.lt_of_le_of_lt h hau)
   rw [if_neg hle]
   unfold jhu
   repeat' first|refine gwZ ?_|(refine gwX ?_;intro Q hQ _;simp [hC,hY,hn,g1,g4,tq,tm,t4,t4',t00,tb,t3,m1,m2,zdi,zeh,hset,wb,szt,htt,hm];refine gwq hQ ?_)|fail
   refine za3 _ 400 hC G0F (m0:=[]) hC0 (by omega) ?_ ?_ ?_
   ·simp [dom]
   ·simp [wb,zgh]
   ·simp [wb]
 ·have g1:¬(K:Int)<=M:=by omega
  unfold jhu
  repeat' first|refine gwZ ?_|(refine gwX ?_;intro Q hQ _;simp [hC,hY,wb,g1,zgh];refine gwq hQ ?_)|fail
  refine ⟨.inr trivial,?_⟩
  simp [results135,hisq]
@[simp] theorem jn0 (a:Int) (ha:wr a) (h0:0<=a) (K:Value->Prop):za2 prog G0 135 #[Value.agg #[.int .u64 (wi (a) 0),.int .u64 (wi (a) 1),.int .u64 (wi (a) 2),.int .u64 (wi (a) 3)]] K↔K (.tuple #[wd (isq a),.int .i64 0]):=zac G0W (by kernel_rfl) (zrs a ha h0)
theorem zv1 (a b:Int) (ha:wr a) (hB:wr b) (h0:0<=a) (hb0:0<b):Ret prog G0 113 #[wd a,wd b] (.tuple #[wd (isq (a / b)),.int .i64 0]):=by
 refine zas G0F func113 rfl call113 (by simp) (by simp) (by simp [ntmps113]) ?_
 intro C hC hC0 hY
 have s1:¬zb8 (sz a) 0<0:=by rw [zct ha];unfold zb8;split<;>(try split)<;>omega
 have s2:¬zb8 (sz b) 0<0:=by rw [zct hB];unfold zb8;split<;>(try split)<;>omega
 have z1:=zms (z1d hB (by omega))
 have hd:=z6k ha h0 hb0
 have hd1:=hd.1
 have hd2:=hd.2
 repeat' first|refine gwZ ?_|(refine gwX ?_;intro Q hQ _;simp [hC,hY,s1,s2,z1,ha,h0,hB,hb0,hd1,hd2];refine gwq hQ ?_)|fail
 refine ⟨.inr trivial,?_⟩
 simp [results113]
theorem z9h {a0 a1 a2 b0 b1 b2:Int} (h:inV 536870912 a0 a1 a2=true) (k:inV 536870912 b0 b1 b2=true):Fun prog G0 107 #[.slice (some ⟨100,0,none⟩) 2 2] (hpL G0 [(100,⟨#[.int .i64 a0,.int .i64 a1,.int .i64 a2,.int .i64 b0,.int .i64 b1,.int .i64 b2],.ty 70⟩)]) (zaa [(100,(⟨#[.int .i64 a0,.int .i64 a1,.int .i64 a2,.int .i64 b0,.int .i64 b1,.int .i64 b2],.ty 70⟩:Blk))]) (.ret (.bool true) []):=by
 refine zar (B:=200) G0F func107 rfl call107 ⟨by simp,by simp [zaa],by simp [zad,zah,zaj]⟩ ?_ (by simp) (by simp) (by simp) (by simp [ntmps107]) (by omega) ?_
 ·simp [zap,zax,zah,zaj,zaa]
 intro C hC hC0 hY
 have im:i64 536870912:=by unfold i64;omega
 repeat' first|refine zal ?_|refine zat ?_|refine gwZ ?_|(refine gwX ?_;intro Q hQ _;simp [hC,hY,h,k,im];refine gwq hQ ?_)|fail
 refine ⟨.inr rfl,by simp [results107],kpS G0F⟩
theorem jik {m a b:Int} (h:inW m a) (k:inW m b):inW (2*m) (a - b):=by
 unfold inW at *
 omega
end Go.Gy
namespace Go.Gy
open Go Go.RowKit Go.Proofs
theorem znd {i n:Nat} (hi:i<n) (hn:n<=4):Int.bmod ((i:Int)+1) 18446744073709551616=((i+1:Nat):Int):=by
 rw [bm (by omega) (by omega)]
 rfl
end Go.Gy
namespace Go.Gy
open Go Go.RowKit Go.Proofs Go.Proofs.Tryz
theorem z8s (n lo hi:Int):Ret prog G0 112 #[.int .i64 n,.int .i64 lo,.int .i64 hi] (.bool (decide (lo<=n/\n<=hi))):=by
 refine zas G0F func112 rfl call112 rfl (by simp) (by simp [ntmps112]) ?_
 intro C hC hC0 hY
 by_cases h1:lo<=n
 ·by_cases h2:n<=hi
  ·rw [decide_eq_true (show lo<=n/\n<=hi from ⟨h1,h2⟩)]
   repeat' first|refine gwZ ?_|(refine gwX ?_;intro Q hQ _;simp [hC,hY,h1,h2];refine gwq hQ ?_)|fail
   refine ⟨.inr trivial,?_⟩
   simp [results112]
  ·rw [decide_eq_false (show ¬(lo<=n/\n<=hi) from λh=>h2 h.2)]
   repeat' first|refine gwZ ?_|(refine gwX ?_;intro Q hQ _;simp [hC,hY,h1,h2];refine gwq hQ ?_)|fail
   refine ⟨.inr trivial,?_⟩
   simp [results112]
 ·rw [decide_eq_false (show ¬(lo<=n/\n<=hi) from λh=>h1 h.1)]
  repeat' first|refine gwZ ?_|(refine gwX ?_;intro Q hQ _;simp [hC,hY,h1];refine gwq hQ ?_)|fail
  refine ⟨.inr trivial,?_⟩
  simp [results112]
theorem zog {n lo hi:Int} (h:lo<=n/\n<=hi) (K:Value->Prop):za2 prog G0 112 #[.int .i64 n,.int .i64 lo,.int .i64 hi] K↔K (.bool true):=zac G0W (by kernel_rfl) (by have:=z8s n lo hi;rwa [decide_eq_true h] at this)
theorem jbp {g m w q:Int} (h:EIn g m w q) (hq:q=0):Ret prog G0 86 #[.int .i64 g,.int .i64 m,.int .i64 w,.int .i64 q] (.tuple #[.int .i64 0,.int .i64 0,.int .i64 30]):=by
 refine zas G0F func86 rfl call86 (by simp) (by simp) (by simp [ntmps86]) ?_
 intro C hC hC0 hY
 subst hq
 have t1:=zog ⟨h.g0,h.g1⟩
 have t2:=zog ⟨h.m0,h.m1⟩
 have t3:=zog ⟨h.w0,h.w1⟩
 have t4:=zog (n:=0) (lo:=0) (hi:=13194139533312) ⟨by omega,by omega⟩
 repeat' first|refine gwZ ?_|(refine gwX ?_;intro Q hQ _;simp [hC,hY,t1,t2,t3,t4];refine gwq hQ ?_)|fail
 refine ⟨.inr trivial,?_⟩
 simp [results86]
theorem z47 {g m w q:Int} (h:EIn g m w q) (hq:0<q):Ret prog G0 86 #[.int .i64 g,.int .i64 m,.int .i64 w,.int .i64 q] (.tuple #[.int .i64 (zea g m w q),.int .i64 (zjc g m w q),.int .i64 0]):=by
 refine zas G0F func86 rfl call86 (by simp) (by simp) (by simp [ntmps86]) ?_
 intro C hC hC0 hY
 have t1:=zog ⟨h.g0,h.g1⟩
 have t2:=zog ⟨h.m0,h.m1⟩
 have t3:=zog ⟨h.w0,h.w1⟩
 have t4:=zog ⟨h.q0,h.q1⟩
 have hqz:¬q=0:=by omega
 have hqb:(q==0)=false:=by simpa using hqz
 have k1:=h.gm
 have k2:=h.gmw
 have k3:=h.a
 have k4:=h.aa
 have k5:=h.lo hq
 have k6:=h.hi hq
 have k7:=(h.holds hq).1
 have k8:=zyv k5.1 k5.2 h.q0 h.q1
 have k9:=zm2 g m w q
 have hw1:(1<=g/\g<=1048576):=⟨h.g0,h.g1⟩
 have hw2:(1<=m/\m<=1024)/\(1<=w/\w<=1024):=⟨⟨h.m0,h.m1⟩,h.w0,h.w1⟩
 have hq0:¬q<0:=by omega
 have hq1:¬13194139533312<q:=by have:=h.q1;omega
 have iq:i64 q:=⟨by omega,by omega⟩
 have eA:enA g m w=g*m*w*1048576:=rfl
 have eL:zea g m w q=isq (enA g m w*enA g m w / q):=rfl
 have iA:i64 (enA g m w):=⟨by omega,by omega⟩
 have iL:i64 (zea g m w q):=⟨by omega,by omega⟩
 have wA:=zdf iA
 have wL:=zdf iL
 have wq:=zdf iq
 have wAA:wr (enA g m w*enA g m w):=⟨Int.le_trans (by decide) k4.1,Int.lt_of_le_of_lt k4.2 (by decide)⟩
 have w2:wr (zea g m w q*zea g m w q):=⟨Int.le_trans (by decide) k8.1,Int.lt_of_le_of_lt k8.2.1 (by decide)⟩
 have w3:wr (zea g m w q*zea g m w q*q):=⟨Int.le_trans (by decide) k8.2.2.1,Int.lt_of_le_of_lt k8.2.2.2 (by decide)⟩
 have b1:Int.bmod (g*m) 18446744073709551616=g*m:=bm (by omega) (by omega)
 have b2:Int.bmod (g*m*w) 18446744073709551616=g*m*w:=bm (by omega) (by omega)
 have b3:Int.bmod (g*m*w*1048576) 18446744073709551616=g*m*w*1048576:=bm (by omega) (by omega)
 have b4:Int.bmod (zea g m w q+1) 18446744073709551616=zea g m w q+1:=bm (by omega) (by omega)
 have s1:=zct wA
 have s2:=zct wAA
 have s3:=zct wL
 rw [k9]
 generalize zea g m w q=R at *
 simp only [eA] at iA wA wAA k4 s1 s2 eL k7 k9 |-
 have hR:=eL.symm
 clear eL eA
 have r4:∀ K:Value->Prop,za2 prog G0 113 #[Value.agg #[.int .u64 (wi ((g*m*w*1048576*(g*m*w*1048576))) 0),.int .u64 (wi ((g*m*w*1048576*(g*m*w*1048576))) 1),.int .u64 (wi ((g*m*w*1048576*(g*m*w*1048576))) 2),.int .u64 (wi ((g*m*w*1048576*(g*m*w*1048576))) 3)],Value.agg #[.int .u64 (wi (q) 0),.int .u64 (wi (q) 1),.int .u64 (wi (q) 2),.int .u64 (wi (q) 3)]] K↔K (.tuple #[wd R,.int .i64 0]):=λK=>by
  have:=zv1 (g*m*w*1048576*(g*m*w*1048576)) q wAA wq k4.1 hq
  rw [hR] at this
  exact zac G0W (by kernel_rfl) this
 have s4:=zct w2
 have s5:=zct wq
 by_cases c:R*R*q=g*m*w*1048576*(g*m*w*1048576)
 ·rw [if_pos c]
  repeat' first|refine gwZ ?_|(refine gwX ?_;intro Q hQ _;simp [hC,hY,t1,t2,t3,t4,hqz,hqb,b1,b2,b3,b4,iq,iA,iL,wA,wL,wq,wAA,w2,w3,s1,s2,s3,s4,s5,r4,c];refine gwq hQ ?_)|fail
  refine ⟨.inr trivial,?_⟩
  simp [results86]
 ·rw [if_neg c]
  have hw9:=weq (R*R*q) (g*m*w*1048576*(g*m*w*1048576))
  rw [zct w3,s2,decide_eq_false c] at hw9
  repeat' first|refine gwZ ?_|(refine gwX ?_;intro Q hQ _;simp [hC,hY,t1,t2,t3,t4,hqz,hqb,b1,b2,b3,b4,iq,iA,iL,wA,wL,wq,wAA,w2,w3,s1,s2,s3,s4,s5,r4,c,hw9];refine gwq hQ ?_)|fail
  refine ⟨.inr trivial,?_⟩
  simp [results86,b4]
theorem zl7 (lo hi a:Int):Ret prog G0 27 #[spV lo hi,wd a] (.bool (zje lo hi a)):=by
 refine zas G0F func27 rfl call27 rfl (by simp) (by simp [ntmps27]) ?_
 intro C hC hC0 hY
 unfold spV zje
 by_cases h1:zb8 (sz lo) (sz a)<=0
 ·rw [decide_eq_true h1]
  repeat' first|refine gwZ ?_|(refine gwX ?_;intro Q hQ _;simp [hC,hY,h1];refine gwq hQ ?_)|fail
  refine ⟨.inr trivial,?_⟩
  simp [results27]
 ·rw [decide_eq_false h1]
  repeat' first|refine gwZ ?_|(refine gwX ?_;intro Q hQ _;simp [hC,hY,h1];refine gwq hQ ?_)|fail
  refine ⟨.inr trivial,?_⟩
  simp [results27]
theorem zu3 (lo hi:Int) (a b e:Bool) (ha:ng hi=a) (hb:ng lo=b) (he:ng (hi - lo)=e):Ret prog G0 44 #[spV lo hi] (.tuple #[.int .i64 (if i64 (sz (hi - lo))/\0<=sz (hi - lo)/\(a != b&&e != a)=false then sz (hi - lo) else 0),.bool (decide (i64 (sz (hi - lo))/\0<=sz (hi - lo)/\(a != b&&e != a)=false))]):=by
 refine zas G0F func44 rfl call44 (by simp) (by simp) (by simp [ntmps44]) ?_
 intro C hC hC0 hY
 unfold spV
 by_cases c:i64 (sz (hi - lo))
 ·by_cases c0:0<=sz (hi - lo)
  ·have c1:¬sz (hi - lo)<0:=by omega
   cases a<;>cases b<;>cases e<;>((repeat' (first|refine gwZ ?_|(refine gwX ?_;intro Q hQ _;simp [hC,hY,c,c0,c1,ha,hb,he];refine gwq hQ ?_)|refine gwC ?_ ?_<;>intro hb<;>try (cases hb;done)));refine ⟨.inr trivial,?_⟩;simp [results44,c,c0])
  ·have c1:sz (hi - lo)<0:=by omega
   cases a<;>cases b<;>cases e<;>((repeat' (first|refine gwZ ?_|(refine gwX ?_;intro Q hQ _;simp [hC,hY,c,c0,c1,ha,hb,he];refine gwq hQ ?_)|refine gwC ?_ ?_<;>intro hb<;>try (cases hb;done)));refine ⟨.inr trivial,?_⟩;simp [results44,c,c0])
 ·cases a<;>cases b<;>cases e<;>((repeat' (first|refine gwZ ?_|(refine gwX ?_;intro Q hQ _;simp [hC,hY,c,ha,hb,he];refine gwq hQ ?_)|refine gwC ?_ ?_<;>intro hb<;>try (cases hb;done)));refine ⟨.inr trivial,?_⟩;simp [results44,c])
theorem zv9 (lo hi:Int) (a b e:Bool) (ha:ng hi=a) (hb:ng lo=b) (he:ng (hi - lo)=e):Ret prog G0 25 #[spV lo hi] (.tuple #[.int .i64 (if i64 (sz (hi - lo))/\0<=sz (hi - lo)/\(a != b&&e != a)=false then sz (hi - lo) else 0),.bool (decide (i64 (sz (hi - lo))/\0<=sz (hi - lo)/\(a != b&&e != a)=false))]):=by
 refine zas G0F func25 rfl call25 (by simp) (by simp) (by simp [ntmps25]) ?_
 intro C hC hC0 hY
 unfold spV
 by_cases c:i64 (sz (hi - lo))
 ·by_cases c0:0<=sz (hi - lo)
  ·have c1:¬sz (hi - lo)<0:=by omega
   cases a<;>cases b<;>cases e<;>((repeat' (first|refine gwZ ?_|(refine gwX ?_;intro Q hQ _;simp [hC,hY,c,c0,c1,ha,hb,he];refine gwq hQ ?_)|refine gwC ?_ ?_<;>intro hb<;>try (cases hb;done)));refine ⟨.inr trivial,?_⟩;simp [results25,c,c0])
  ·have c1:sz (hi - lo)<0:=by omega
   cases a<;>cases b<;>cases e<;>((repeat' (first|refine gwZ ?_|(refine gwX ?_;intro Q hQ _;simp [hC,hY,c,c0,c1,ha,hb,he];refine gwq hQ ?_)|refine gwC ?_ ?_<;>intro hb<;>try (cases hb;done)));refine ⟨.inr trivial,?_⟩;simp [results25,c,c0])
 ·cases a<;>cases b<;>cases e<;>((repeat' (first|refine gwZ ?_|(refine gwX ?_;intro Q hQ _;simp [hC,hY,c,ha,hb,he];refine gwq hQ ?_)|refine gwC ?_ ?_<;>intro hb<;>try (cases hb;done)));refine ⟨.inr trivial,?_⟩;simp [results25,c])
theorem jcd (lo hi:Int):∃ (n:Int) (k:Bool),Ret prog G0 44 #[spV lo hi] (.tuple #[.int .i64 n,.bool k])/\Ret prog G0 25 #[spV lo hi] (.tuple #[.int .i64 n,.bool k]) :=
 ⟨_,_,zu3 lo hi _ _ _ rfl rfl rfl,zv9 lo hi _ _ _ rfl rfl rfl⟩
def jdx (c n cap:Nat) (g x:Nat->Int) (i:Nat):GS :=
 ⟨tsL [(0,.slice (some ⟨100,0,none⟩) n cap),(2,.pointer (some ⟨200,0,none⟩)),(3,.bool false),(4,.pointer (some ⟨216,0,none⟩)),(5,.bool false),(6,.int .i64 i)],
 hpL G0 [(100,zc2 c g),(200,⟨#[.int .u64 0,.int .u64 0,.int .u64 0,.int .u64 0],.ty 30⟩),(216,⟨#[.int .u64 (wi (zbv x i) 0),.int .u64 (wi (zbv x i) 1),.int .u64 (wi (zbv x i) 2),.int .u64 (wi (zbv x i) 3)],.ty 30⟩)],400,0⟩
theorem ztn (c n:Nat) (g x:Nat->Int) (hnc:n<=c) (hn:n<=1000) (hg:∀ j,j<4*n->g j=wF x j) (hx:∀ j,j<n->0<=x j/\x j<=1152921504606846976) :
  Fun prog G0 88 #[.slice (some ⟨100,0,none⟩) n c] (hpL G0 [(100,zc2 c g)]) (zaa [(100,zc2 c g)]) (.ret (.tuple #[wd (zbv x n),.bool false]) []):=by
 refine zar (B:=200) G0F func88 rfl call88 (zk1 c g) ?_ ?_ (by simp) (by simp) (by simp [ntmps88]) (by omega) ?_
 ·simp [zap,zax,zah,zaj,zaa]
 ·exact zai (by simp)
 intro C hC hC0 hY
 have hid:∀ D,Blk.ids D ⟨fa (4*c) .u64 g,.ty 30⟩:=λD=>Blk.fx_ids (zba c g) D
 have e0:zbv x 0=0:=rfl
 unfold zc2 at hC0 |-
 repeat' first|refine gwZ ?_|(refine gwX ?_;intro Q hQ _;simp [hC,hY,zaf];refine gwq hQ ?_)|fail
 refine zbt n (jdx c n c g x) ?_ ?_ ?_
 ·refine za3 _ 400 hC G0F (m0:=[(100,⟨fa (4*c) .u64 g,.ty 30⟩)]) hC0 (by omega) ?_ ?_ ?_
  ·simp [jdx,zc2,zap,zax,zah,zaj,dom]
  ·simp [jdx,zc2,zad,zah,zaj,hid,e0,zaf]
  ·simp [jdx,zc2,e0,zaf]
 ·intro i hi
  have hi':(i:Int)<n:=by omega
  have hz:(0:Int)<=i:=by omega
  have hs:Int.bmod ((i:Int)+1) 18446744073709551616=((i+1:Nat):Int):=by rw [bm (by omega) (by omega)];rfl
  have hrd:=z01 hg hi hnc
  have hle:i*4+4<=4*c:=by omega
  have hxi:=hx i hi
  have hb:=ziz (f:=x) (n:=i) (lo:=0) (hi:=1152921504606846976) λj hj=>hx j (by omega)
  have hb1:zbv x i<=1000*1152921504606846976:=Int.le_trans hb.2 (Int.mul_le_mul_of_nonneg_right (by omega) (by omega))
  have hb0:0<=zbv x i:=by omega
  have w1:wr (zbv x i):=by unfold wr;omega
  have w2:wr (x i):=by unfold wr;omega
  have w3:wr (zbv x i+x i):=by unfold wr;omega
  have g1:=zri w1 hb0
  have g2:=zri w2 hxi.1
  have g3:=zri w3 (by omega)
  have es:zbv x (i+1)=zbv x i+x i:=rfl
  clear hb hb1 hb0 w1 w2 w3 hxi
  unfold jdx zc2
  repeat' first|refine gwZ ?_|(refine gwX ?_;intro Q hQ _;simp [hC,hY,hi',hz,hrd,hle,g1,g2,g3];refine gwq hQ ?_)|fail
  refine za3 _ 400 hC G0F (m0:=[(100,⟨fa (4*c) .u64 g,.ty 30⟩)]) hC0 (by omega) ?_ ?_ ?_
  ·simp [zap,zax,zah,zaj,dom,hs,g1,g2,g3]
  ·simp [zad,zah,zaj,hid,es]
  ·simp [es]
 ·unfold jdx zc2
  repeat' first|refine gwZ ?_|refine gwW ?_|fail
  refine ⟨.inr rfl,by simp [results88],kpS G0F⟩
theorem z40:Ret prog G0 88 #[.slice none 0 0] (.tuple #[wd 0,.bool false]):=by
 refine zas G0F func88 rfl call88 (by simp) (by simp) (by simp [ntmps88]) ?_
 intro C hC hC0 hY
 repeat' first|refine zal ?_|refine zat ?_|refine gwZ ?_|(refine gwX ?_;intro Q hQ _;simp [hC,hY,zaf];refine gwq hQ ?_)|fail
 refine ⟨.inr trivial,?_⟩
 simp [results88,zaf]
theorem zh7 {b:Blk} {off n:Nat} {f:Nat->Int} (h:SB b off n f) {i u:Nat} (hi:i<n) (hu:u<6):zc6 prog 3 b (off+i*6+u)=some (.int .i64 (f (6*i+u))):=by
 have hbrd:=Blk.fx_rd h.fx
 have:=zkl (P:=prog) (T:=3) (j:=6*i+u) (za8 isAgg3) h.rd (by omega)
 rwa [show off+i*6+u=off+(6*i+u) by omega]
theorem zmz {st:Int} {f:Nat->Int} {n:Nat} (r:zbl st f n=true) {i k u:Nat} (hi:i<n) (hk:k<n) (hu:u<3):Int.bmod (f (6*i+u) - f (6*k+u)) 18446744073709551616=f (6*i+u) - f (6*k+u)/\0<=(f (6*i+u) - f (6*k+u))*(f (6*i+u) - f (6*k+u))/\(f (6*i+u) - f (6*k+u))*(f (6*i+u) - f (6*k+u))<=4398046511104:=by
 have key:∀ a b:Int,inW 1048576 a->inW 1048576 b->Int.bmod (a - b) 18446744073709551616=a - b/\0<=(a - b)*(a - b)/\(a - b)*(a - b)<=4398046511104:=λa b ha hb=>by
  have s:=zpv (a:=a - b) (m:=2097152) (jik ha hb)
  unfold inW at ha hb
  exact ⟨bm (by omega) (by omega),s.1,by omega⟩
 obtain ⟨⟨a0,a1,a2⟩,_⟩:=zem r hi
 obtain ⟨⟨b0,b1,b2⟩,_⟩:=zem r hk
 have:u=0\/u=1\/u=2:=by omega
 rcases this with rfl|rfl|rfl
 ·exact key _ _ a0 b0
 ·exact key _ _ a1 b1
 ·exact key _ _ a2 b2
theorem zwe (b:Blk) (off n cap:Nat) (f:Nat->Int) (h:SB b off n f) (st:Int) (r:zbl st f n=true) {i k:Nat} (hi:i<n) (hk:k<n) :
  Fun prog G0 87 #[.agg #[.int .i64 st,.slice (some ⟨100,off,none⟩) n cap],.int .i64 i,.int .i64 k] (hpL G0 [(100,b)]) (zaa [(100,b)]) (.ret (.int .i64 (d2F f i k)) []):=by
 refine zar (B:=200) G0F func87 rfl call87 (zao h.fx) ?_ (by simp) (by simp) (by simp) (by simp [ntmps87]) (by omega) ?_
 ·simp [zap,zax,zah,zaj,zaa]
 intro C hC hC0 hY
 have hi1:(i:Int)<n:=Int.ofNat_lt.2 hi
 have hk1:(k:Int)<n:=Int.ofNat_lt.2 hk
 have hiz:(0:Int)<=i:=Int.natCast_nonneg i
 have hkz:(0:Int)<=k:=Int.natCast_nonneg k
 have i0:=zh7 h (u:=0) hi (by omega)
 have i1:=zh7 h (u:=1) hi (by omega)
 have i2:=zh7 h (u:=2) hi (by omega)
 have j0:=zh7 h (u:=0) hk (by omega)
 have j1:=zh7 h (u:=1) hk (by omega)
 have j2:=zh7 h (u:=2) hk (by omega)
 obtain ⟨d0,e0,f0⟩:=zmz r (u:=0) hi hk (by omega)
 obtain ⟨d1,e1,f1⟩:=zmz r (u:=1) hi hk (by omega)
 obtain ⟨d2,e2,f2⟩:=zmz r (u:=2) hi hk (by omega)
 have hd:d2F f i k=(f (6*i) - f (6*k))*(f (6*i) - f (6*k))+(f (6*i+1) - f (6*k+1))*(f (6*i+1) - f (6*k+1))+(f (6*i+2) - f (6*k+2))*(f (6*i+2) - f (6*k+2)):=rfl
 simp only [Nat.add_zero] at i0 j0 d0 e0 f0
 have q0:Int.bmod ((f (6*i) - f (6*k))*(f (6*i) - f (6*k))) 18446744073709551616=(f (6*i) - f (6*k))*(f (6*i) - f (6*k)):=bm (by omega) (by omega)
 have q1:Int.bmod ((f (6*i+1) - f (6*k+1))*(f (6*i+1) - f (6*k+1))) 18446744073709551616=(f (6*i+1) - f (6*k+1))*(f (6*i+1) - f (6*k+1)):=bm (by omega) (by omega)
 have q2:Int.bmod ((f (6*i+2) - f (6*k+2))*(f (6*i+2) - f (6*k+2))) 18446744073709551616=(f (6*i+2) - f (6*k+2))*(f (6*i+2) - f (6*k+2)):=bm (by omega) (by omega)
 have p1:Int.bmod ((f (6*i) - f (6*k))*(f (6*i) - f (6*k))+(f (6*i+1) - f (6*k+1))*(f (6*i+1) - f (6*k+1))) 18446744073709551616=(f (6*i) - f (6*k))*(f (6*i) - f (6*k))+(f (6*i+1) - f (6*k+1))*(f (6*i+1) - f (6*k+1)):=bm (by omega) (by omega)
 have p2:Int.bmod ((f (6*i) - f (6*k))*(f (6*i) - f (6*k))+(f (6*i+1) - f (6*k+1))*(f (6*i+1) - f (6*k+1))+(f (6*i+2) - f (6*k+2))*(f (6*i+2) - f (6*k+2))) 18446744073709551616=(f (6*i) - f (6*k))*(f (6*i) - f (6*k))+(f (6*i+1) - f (6*k+1))*(f (6*i+1) - f (6*k+1))+(f (6*i+2) - f (6*k+2))*(f (6*i+2) - f (6*k+2)):=bm (by omega) (by omega)
 repeat' first|refine zal ?_|refine zat ?_|refine gwZ ?_|(refine gwX ?_;intro Q hQ _;simp [hC,hY,hi1,hk1,hiz,hkz,i0,i1,i2,j0,j1,j2,d0,d1,d2,q0,q1,q2,p1,p2];refine gwq hQ ?_)|fail
 refine ⟨.inr rfl,by simp [results87,hd],kpS G0F⟩
theorem zjq (L:List (Nat×Blk)) (ks:Nat) (bm bs:Blk) (hT:LTwo G0 L ks bm bs) (off n cap off2 n2 cap2:Nat) (fm fs:Nat->Int) (hm:MB bm off n fm) (hSb:SB bs off2 n2 fs) (g bx tp nr md st:Int) :
  Fun prog G0 22 #[cfV (.slice (some ⟨100,off,none⟩) n cap) g bx tp nr md,.agg #[.int .i64 st,.slice (some ⟨ks,off2,none⟩) n2 cap2]] (hpL G0 L) (zaa L) (.ret (.bool (zqa n n2 (zdr n fm g bx tp nr md) (zbl st fs n2))) []):=by
 refine zar (B:=200) G0F func22 rfl call22 hT.ok ?_ (by simp) (by simp) (by simp) (by simp [ntmps22]) (by omega) ?_
 ·simp [zap,zax,zah,zaj,hT.ia,hT.ib,cfV]
 intro C hC hC0 hY
 have hA:=hT.a
 have hS:=hT.s
 have hne:=hT.ne
 have hLow:=hT.low
 have hks:=hT.k1
 have hks2:=hT.k2
 have hrm:=λρ=>Blk.fx_rn hm.fx ρ
 have hrs:=λρ=>Blk.fx_rn hSb.fx ρ
 have hck:=zj7 bm off n cap fm hm g bx tp nr md
 have hri:=zz6 bs off2 n2 cap2 fs hSb st
 unfold zqa
 unfold cfV at hck |-
 cases hc:zdr n fm g bx tp nr md with
 | false =>
  rw [hc] at hck
  rw [show (decide (n=n2)&&(false&&zbl st fs n2))=false by simp]
  repeat' first|refine gwZ ?_|((first|refine gwR [53,54] ?_|refine gwD [53,54] ?_);intro Q hQ _;(repeat first|simp [hC,hY,hA,hS,hne]|refine zae hck G0F (B:=200) (zao hm.fx) (λk=>k) (λk hk=>rfl) (by simp [ren,zay,zak,zan,cfV]) (by simp) (by simp [hrm,hA]) (by simp [zaa]) (by simp [zaa];rfl) ?_);refine gwq hQ ?_)|fail
  refine ⟨.inr rfl,by simp [results22],kpT G0F⟩
 | true =>
  rw [hc] at hck
  cases hr:zbl st fs n2 with
  | false =>
   rw [hr] at hri
   rw [show (decide (n=n2)&&(true&&false))=false by simp]
   repeat' first|refine gwZ ?_|((first|refine gwR [53,54] ?_|refine gwD [53,54] ?_);intro Q hQ _;(repeat first|simp [hC,hY,hA,hS,hne]|refine zae hck G0F (B:=200) (zao hm.fx) (λk=>k) (λk hk=>rfl) (by simp [ren,zay,zak,zan,cfV]) (by simp) (by simp [hrm,hA]) (by simp [zaa]) (by simp [zaa];rfl) ?_|refine zae hri G0F (B:=200) (zao hSb.fx) (λk=>if k=100 then ks else k) (λk hk=>if_neg (by omega)) (by simp [ren,zay,zak,zan]) (by simp) (by simp [hrs,hS,hne,hks]) (by simp [zaa]) (by simp [zaa];rfl) ?_);refine gwq hQ ?_)|fail
   refine ⟨.inr rfl,by simp [results22],kpT G0F⟩
  | true =>
   rw [hr] at hri
   by_cases hn:n=n2
   ·have hn':(n:Int)=(n2:Int):=by omega
    have hnb:((n:Int)==(n2:Int))=true:=by simpa using hn'
    rw [decide_eq_true hn]
    repeat' first|refine gwZ ?_|((first|refine gwR [53,54] ?_|refine gwD [53,54] ?_);intro Q hQ _;(repeat first|simp [hC,hY,hA,hS,hne,hn',hnb]|refine zae hck G0F (B:=200) (zao hm.fx) (λk=>k) (λk hk=>rfl) (by simp [ren,zay,zak,zan,cfV]) (by simp) (by simp [hrm,hA]) (by simp [zaa]) (by simp [zaa];rfl) ?_|refine zae hri G0F (B:=200) (zao hSb.fx) (λk=>if k=100 then ks else k) (λk hk=>if_neg (by omega)) (by simp [ren,zay,zak,zan]) (by simp) (by simp [hrs,hS,hne,hks]) (by simp [zaa]) (by simp [zaa];rfl) ?_);refine gwq hQ ?_)|fail
    refine ⟨.inr rfl,by simp [results22],kpT G0F⟩
   ·have hn':¬(n:Int)=(n2:Int):=by omega
    have hnb:((n:Int)==(n2:Int))=false:=by simpa using hn'
    rw [decide_eq_false hn]
    repeat' first|refine gwZ ?_|((first|refine gwR [53,54] ?_|refine gwD [53,54] ?_);intro Q hQ _;(repeat first|simp [hC,hY,hA,hS,hne,hn',hnb]|refine zae hck G0F (B:=200) (zao hm.fx) (λk=>k) (λk hk=>rfl) (by simp [ren,zay,zak,zan,cfV]) (by simp) (by simp [hrm,hA]) (by simp [zaa]) (by simp [zaa];rfl) ?_|refine zae hri G0F (B:=200) (zao hSb.fx) (λk=>if k=100 then ks else k) (λk hk=>if_neg (by omega)) (by simp [ren,zay,zak,zan]) (by simp) (by simp [hrs,hS,hne,hks]) (by simp [zaa]) (by simp [zaa];rfl) ?_);refine gwq hQ ?_)|fail
    refine ⟨.inr rfl,by simp [results22],kpT G0F⟩
theorem jap {m v:Int} (h:1<=m/\m<=1024) (k:inW 65536 v):Int.bmod (m*v) 18446744073709551616=m*v/\Int.bmod (m*v*v) 18446744073709551616=m*v*v/\0<=m*v*v/\m*v*v<=4398046511104:=by
 obtain ⟨s0,s1⟩:=zpv k
 obtain ⟨_,k1,k2⟩:=k
 have b1:-67108864<=m*v/\m*v<=67108864:=by
  by_cases c:0<=v
  ·have h1:=Int.mul_le_mul (a:=m) (b:=v) (c:=1024) (d:=65536) h.2 k2 c (by omega)
   have h0:=Int.mul_nonneg (a:=m) (b:=v) (by omega) c
   omega
  ·have h1:=Int.mul_le_mul (a:=m) (b:=-v) (c:=1024) (d:=65536) h.2 (by omega) (by omega) (by omega)
   have h0:=Int.mul_nonneg (a:=m) (b:=-v) (by omega) (by omega)
   rw [Int.mul_neg] at h0 h1
   omega
 have b2:0<=m*v*v/\m*v*v<=4398046511104:=by
  rw [Int.mul_assoc]
  exact ⟨Int.mul_nonneg (by omega) s0,Int.le_trans (Int.mul_le_mul h.2 s1 s0 (by omega)) (by omega)⟩
 exact ⟨bm (by omega) (by omega),bm (by omega) (by omega),b2⟩
theorem jgg {m v0 v1 v2:Int} (h0:inW 65536 v0) (h1:inW 65536 v1) (h2:inW 65536 v2):m*v0*v0+m*v1*v1+m*v2*v2=m*dtV v0 v1 v2 v0 v1 v2:=by
 rw [(z6l h0 h1 h2).1,Int.mul_add,Int.mul_add,Int.mul_assoc,Int.mul_assoc,Int.mul_assoc]
def jn9 (L:List (Nat×Blk)) (ks off n cap off2 cap2:Nat) (g bx tp nr md st S:Int) (i:Nat):GS :=
 ⟨tsL [(2,.pointer (some ⟨200,0,none⟩)),(3,.pointer (some ⟨208,0,none⟩)),(4,.pointer (some ⟨216,0,none⟩)),(5,.int .i64 0),(6,.int .i64 S),(7,.int .i64 i)],
 hpL G0 ([(200,cfB (.slice (some ⟨100,off,none⟩) n cap) g bx tp nr md),(208,zc0 st ks off2 n cap2),(216,wb 0)]++L),300,0⟩
theorem jib (L:List (Nat×Blk)) (ks:Nat) (bm bs:Blk) (hT:LTwo G0 L ks bm bs) (off n cap off2 n2 cap2:Nat) (fm fs:Nat->Int) (hm:MB bm off n fm) (hSb:SB bs off2 n2 fs) (hcap:n<=cap) (hcap2:n2<=cap2) (g bx tp nr md st:Int) (hs:i64 st) :
  Fun prog G0 56 #[cfV (.slice (some ⟨100,off,none⟩) n cap) g bx tp nr md,.agg #[.int .i64 st,.slice (some ⟨ks,off2,none⟩) n2 cap2]] (hpL G0 L) (zaa L) (.ret (.tuple #[wd (jdb n n2 (zdr n fm g bx tp nr md) (zbl st fs n2) fm fs),.int .i64 (jda n n2 (zdr n fm g bx tp nr md) (zbl st fs n2))]) []):=by
 refine zar (B:=200) G0F func56 rfl call56 hT.ok ?_ (zai (by simp [spV])) (by simp) (by simp) (by simp [ntmps56]) (by omega) ?_
 ·simp [zap,zax,zah,zaj,hT.ia,hT.ib,cfV]
 intro C hC hC0 hY
 have hA:=hT.a
 have hS:=hT.s
 have hne:=hT.ne
 have hLow:=hT.low
 have hks:=hT.k1
 have hks2:=hT.k2
 have hrm:=λρ=>Blk.fx_rn hm.fx ρ
 have hrs:=λρ=>Blk.fx_rn hSb.fx ρ
 have hfit:=zjq L ks bm bs hT off n cap off2 n2 cap2 fm fs hm hSb g bx tp nr md st
 unfold jdb jda
 cases hf:zqa n n2 (zdr n fm g bx tp nr md) (zbl st fs n2) with
 | false =>
  rw [hf] at hfit
  unfold cfV at hfit |-
  repeat' first|refine gwZ ?_|((first|refine gwR [22] ?_|refine gwD [22] ?_);intro Q hQ _;(repeat first|simp [hC,hY,hA,hS,hne,zaf]|refine za7 hfit hT.ok zdd ?_);refine gwq hQ ?_)|fail
  refine ⟨.inr rfl,by simp [results56,zaf],kpT G0F⟩
 | true =>
  rw [hf] at hfit
  obtain ⟨hnn,hok,hrt⟩:=zdk.1 hf
  subst hnn
  have hn4:=(zez hrt).2.1
  have e0:zbv (zfi fm fs) 0=0:=rfl
  unfold cfV at hfit |-
  repeat' first|refine gwZ ?_|((first|refine gwR [22] ?_|refine gwD [22] ?_);intro Q hQ _;(repeat first|simp [hC,hY,hA,hS,hne,zaf]|refine za7 hfit hT.ok zdd ?_);refine gwq hQ ?_)|fail
  refine zbt n (λi=>jn9 L ks off n cap off2 cap2 g bx tp nr md st (zbv (zfi fm fs) i) i) ?_ ?_ ?_
  ·refine zg6 _ 300 hC G0F hT.ok hT.fx hC0 (by omega) ?_ ?_ zdd
   ·simp [zap,zax,zah,zaj,dom,hA,hS,hne,e0]
   ·simp [cfB,zc0,wb,zad,zah,zaj,dom,hA,hS,hne,zaf]
  ·intro i hi
   have hi':(i:Int)<n:=Int.ofNat_lt.2 hi
   have hz:(0:Int)<=i:=Int.natCast_nonneg i
   have hs':=znd hi hn4.2
   have hml:=hm.at hi
   have hbd:=ziz (f:=zfi fm fs) (n:=i) (lo:=0) (hi:=13194139533312) λj hj=>zkj hok hrt (by omega)
   have hbd1:zbv (zfi fm fs) i<=4*13194139533312:=Int.le_trans hbd.2 (Int.mul_le_mul_of_nonneg_right (by omega) (by omega))
   have hbd0:0<=zbv (zfi fm fs) i:=by omega
   have v0:=zh7 hSb (u:=3) hi (by omega)
   have v1:=zh7 hSb (u:=4) hi (by omega)
   have v2:=zh7 hSb (u:=5) hi (by omega)
   have y1:zc6 prog 3 bs (off2+i*6+3+1)=some (.int .i64 (fs (6*i+4))):=v1
   have y2:zc6 prog 3 bs (off2+i*6+3+2)=some (.int .i64 (fs (6*i+5))):=v2
   obtain ⟨w0,w1,w2⟩:=(zem hrt hi).2
   have hmi:=zbu hok hi
   obtain ⟨a0,b0,c0,d0⟩:=jap hmi w0
   obtain ⟨a1,b1,c1,d1⟩:=jap hmi w1
   obtain ⟨a2,b2,c2,d2⟩:=jap hmi w2
   have hk3:=jgg (m:=fm i) w0 w1 w2
   have es:zbv (zfi fm fs) (i+1)=zbv (zfi fm fs) i+zfi fm fs i:=rfl
   have ek:zfi fm fs i=fm i*dtV (fs (6*i+3)) (fs (6*i+4)) (fs (6*i+5)) (fs (6*i+3)) (fs (6*i+4)) (fs (6*i+5)):=rfl
   have es':zbv (zfi fm fs) i+fm i*fs (6*i+3)*fs (6*i+3)+fm i*fs (6*i+4)*fs (6*i+4)+fm i*fs (6*i+5)*fs (6*i+5)=zbv (zfi fm fs) (i+1):=by rw [es,ek,<-hk3];omega
   have p0:Int.bmod (zbv (zfi fm fs) i+fm i*fs (6*i+3)*fs (6*i+3)) 18446744073709551616=zbv (zfi fm fs) i+fm i*fs (6*i+3)*fs (6*i+3):=Go.Gy.bm (by omega) (by omega)
   have p1:Int.bmod (zbv (zfi fm fs) i+fm i*fs (6*i+3)*fs (6*i+3)+fm i*fs (6*i+4)*fs (6*i+4)) 18446744073709551616=zbv (zfi fm fs) i+fm i*fs (6*i+3)*fs (6*i+3)+fm i*fs (6*i+4)*fs (6*i+4):=Go.Gy.bm (by omega) (by omega)
   have p2:Int.bmod (zbv (zfi fm fs) i+fm i*fs (6*i+3)*fs (6*i+3)+fm i*fs (6*i+4)*fs (6*i+4)+fm i*fs (6*i+5)*fs (6*i+5)) 18446744073709551616=zbv (zfi fm fs) (i+1):=by rw [<-es'];exact Go.Gy.bm (by omega) (by omega)
   clear hbd hbd1 hbd0 es ek hk3 es' c0 c1 c2 d0 d1 d2 hmi w0 w1 w2
   (try dsimp only)
   unfold jn9 cfB zc0 wb
   repeat' first|refine zal ?_|refine zat ?_|refine gwZ ?_|(refine gwX ?_;intro Q hQ hP;simp [hC,hY,hA,hS,hne,hi',hz,hs',hml,v0,v1,v2,y1,y2,a0,b0,a1,b1,a2,b2,p0,p1,p2,zaf];(first|refine hQ _ _ _ _ (by rcases hT.k8 with h8|h8<;>subst h8<;>kernel_rfl) ?_|refine hP _ _ (by rcases hT.k8 with h8|h8<;>subst h8<;>kernel_rfl) λ_=>?_))|fail
   refine zg6 _ 300 hC G0F hT.ok hT.fx hC0 (by omega) ?_ ?_ zdd
   ·simp [zap,zax,zah,zaj,dom,hA,hS,hne,hs']
   ·simp [cfB,zc0,wb,zad,zah,zaj,dom,hA,hS,hne,zaf]
  ·have hb:=ziz (f:=zfi fm fs) (n:=n) (lo:=0) (hi:=13194139533312) λj hj=>zkj hok hrt hj
   have hb1:zbv (zfi fm fs) n<=4*13194139533312:=Int.le_trans hb.2 (Int.mul_le_mul_of_nonneg_right (by omega) (by omega))
   have hb0:0<=zbv (zfi fm fs) n:=by omega
   have w1:=zct (zk4 hb0 (by omega))
   have w2:sz 524288=524288:=by decide
   have i2:i64 524288:=by decide
   have i1:i64 (zbv (zfi fm fs) n):=⟨by omega,by omega⟩
   have ek:z3x fm fs n=zbv (zfi fm fs) n*524288:=rfl
   (try dsimp only)
   unfold jn9 cfB zc0 wb
   repeat' first|refine gwZ ?_|(refine gwX ?_;intro Q hQ _;simp [hC,hY,hA,hS,hne,w1,w2,i1,i2,zaf];refine gwq hQ ?_)|fail
   refine ⟨.inr rfl,by simp [results56,ek],kpT G0F⟩
def exF (F:Nat->Nat->Int) (j:Nat):Int:=match (zhl 4)[j]? with
 | some p=>F p.1 p.2
 | none=>0
def tri:Nat->Nat
 | 0=>0
 | i+1=>tri i+i
theorem z9e (F:Nat->Nat->Int) {i k:Nat} (hk:k<i) (hi:i<4):exF F (tri i+k)=F i k:=by
 have:(i=1/\k=0)\/(i=2/\k=0)\/(i=2/\k=1)\/(i=3/\k=0)\/(i=3/\k=1)\/(i=3/\k=2):=by omega
 rcases this with ⟨rfl,rfl⟩|⟨rfl,rfl⟩|⟨rfl,rfl⟩|⟨rfl,rfl⟩|⟨rfl,rfl⟩|⟨rfl,rfl⟩<;>rfl
theorem z6o (F:Nat->Nat->Int) {n:Nat} (hn:1<=n/\n<=4):zbv (exF F) (tri n)=zk6 F n:=by
 have e0:exF F 0=F 1 0:=rfl
 have e1:exF F 1=F 2 0:=rfl
 have e2:exF F 2=F 2 1:=rfl
 have e3:exF F 3=F 3 0:=rfl
 have e4:exF F 4=F 3 1:=rfl
 have e5:exF F 5=F 3 2:=rfl
 have:n=1\/n=2\/n=3\/n=4:=by omega
 rcases this with rfl|rfl|rfl|rfl
 ·show zbv (exF F) 0=_
  simp only [zbv,zk6];omega
 ·show zbv (exF F) 1=_
  simp only [zbv,zk6,e0];omega
 ·show zbv (exF F) 3=_
  simp only [zbv,zk6,e0,e1,e2];omega
 ·show zbv (exF F) 6=_
  simp only [zbv,zk6,e0,e1,e2,e3,e4,e5];omega
theorem z7z {i n:Nat} (h:i<=n) (hn:n<=4):tri i<=6:=by
 have:i=0\/i=1\/i=2\/i=3\/i=4:=by omega
 rcases this with rfl|rfl|rfl|rfl|rfl<;>decide
theorem z15 {t i k:Nat} (h:t<=6) (hk:k<i) (hi:i<4):t+k<=12:=by omega
theorem jhr {t:Nat} (h:t<=12):(t+1)*(8*4)<=140737488355328:=Nat.le_trans (Nat.mul_le_mul_right _ (Nat.succ_le_succ h)) (by decide)
def loF (g:Int) (fm fs:Nat->Int) (i k:Nat):Int:=zea g (fm i) (fm k) (d2F fs i k)
def hiF (g:Int) (fm fs:Nat->Int) (i k:Nat):Int:=zjc g (fm i) (fm k) (d2F fs i k)
def zcz (ks off n cap off2 cap2:Nat) (g bx tp nr md st:Int):List (Nat×Blk):=[(200,cfB (.slice (some ⟨100,off,none⟩) n cap) g bx tp nr md),(208,zc0 st ks off2 n cap2),(216,spB 0 0)]
def poO (L:List (Nat×Blk)) (ks off n cap off2 cap2:Nat) (g bx tp nr md st:Int) (i:Nat) (sl sh:Value) (nl nh:List (Nat×Blk)):GS :=
 ⟨tsL [(2,.pointer (some ⟨200,0,none⟩)),(3,.pointer (some ⟨208,0,none⟩)),(4,.pointer (some ⟨216,0,none⟩)),(5,.int .i64 0),(6,sl),(7,sh),(8,.int .i64 i)],hpL G0 ((zcz ks off n cap off2 cap2 g bx tp nr md st++(nl++nh))++L),400,0⟩
def poN (L:List (Nat×Blk)) (ks off n cap off2 cap2:Nat) (g bx tp nr md st:Int) (i k:Nat) (sl sh:Value) (nl nh:List (Nat×Blk)):GS :=
 ⟨tsL [(2,.pointer (some ⟨200,0,none⟩)),(3,.pointer (some ⟨208,0,none⟩)),(4,.pointer (some ⟨216,0,none⟩)),(5,.int .i64 0),(6,sl),(7,sh),(8,.int .i64 i),(9,.int .i64 k)],hpL G0 ((zcz ks off n cap off2 cap2 g bx tp nr md st++(nl++nh))++L),400,0⟩
def PoR (t:Nat) (x y:Nat->Int) (sl sh:Value) (nl nh:List (Nat×Blk)):Prop:=(t=0/\sl=.slice none 0 0/\nl=[]/\sh=.slice none 0 0/\nh=[]) \/
 ∃ (c d:Nat) (p q:Nat->Int),0<t/\t<=c/\t<=d/\(∀ j,j<4*t->p j=wF x j)/\(∀ j,j<4*t->q j=wF y j)/\sl=.slice (some ⟨224,0,none⟩) t c/\nl=[(224,zc2 c p)]/\sh=.slice (some ⟨232,0,none⟩) t d/\nh=[(232,zc2 d q)]
def poI (L:List (Nat×Blk)) (ks off n cap off2 cap2:Nat) (g bx tp nr md st:Int) (fm fs:Nat->Int) (m:Nat) (s:GS):Prop:=∃ i sl sh nl nh,i+m=n/\PoR (tri i) (exF (loF g fm fs)) (exF (hiF g fm fs)) sl sh nl nh/\(∀ a b,b<a->a<i->¬d2F fs a b=0)/\s=poO L ks off n cap off2 cap2 g bx tp nr md st i sl sh nl nh
def poJ (L:List (Nat×Blk)) (ks off n cap off2 cap2:Nat) (g bx tp nr md st:Int) (fm fs:Nat->Int) (i m:Nat) (s:GS):Prop:=∃ k sl sh nl nh,k+m=i/\PoR (tri i+k) (exF (loF g fm fs)) (exF (hiF g fm fs)) sl sh nl nh/\(∀ b,b<k->¬d2F fs i b=0)/\s=poN L ks off n cap off2 cap2 g bx tp nr md st i k sl sh nl nh
theorem z00 (F:Nat->Nat->Int) {i k u:Nat} (hk:k<i) (hi:i<4) (hu:u<4):wi (F i k) u=wF (exF F) (4*(tri i+k)+u):=by
 unfold wF
 rw [show (4*(tri i+k)+u) / 4=tri i+k by omega,show (4*(tri i+k)+u)%4=u by omega,z9e F hk hi]
theorem z46 {g m w q a b:Int} (h:EIn g m w q) (hq:0<q) (e1:zea g m w q=a) (e2:zjc g m w q=b) (K:Value->Prop):za2 prog G0 86 #[.int .i64 g,.int .i64 m,.int .i64 w,.int .i64 q] K↔K (.tuple #[.int .i64 a,.int .i64 b,.int .i64 0]):=by
 subst e1 e2
 exact zac G0W (by kernel_rfl) (z47 h hq)
theorem zz9 {g m w q:Int} (h:EIn g m w q) (hq:q=0) (K:Value->Prop):za2 prog G0 86 #[.int .i64 g,.int .i64 m,.int .i64 w,.int .i64 q] K↔K (.tuple #[.int .i64 0,.int .i64 0,.int .i64 30]):=zac G0W (by kernel_rfl) (jbp h hq)
theorem je2 {st:Int} {f:Nat->Int} {n:Nat} (r:zbl st f n=true) {i k:Nat} (hi:i<n) (hk:k<n):0<=d2F f i k/\d2F f i k<=13194139533312:=by
 rw [<-z6n r hi hk]
 exact zsr r hi hk
theorem jfg {n:Nat} {fm fs:Nat->Int} {g bx tp nr md st:Int} (c:zdr n fm g bx tp nr md=true) (r:zbl st fs n=true) (hnz:∀ a b,b<a->a<n->¬d2F fs a b=0) {j:Nat} (hj:j<tri n):(0<=exF (loF g fm fs) j/\exF (loF g fm fs) j<=1152921504606846976)/\(0<=exF (hiF g fm fs) j/\exF (hiF g fm fs) j<=1152921504606846976):=by
 have key:∀ i k,k<i->i<n->(0<=loF g fm fs i k/\loF g fm fs i k<=1152921504606846976)/\(0<=hiF g fm fs i k/\hiF g fm fs i k<=1152921504606846976):=λi k hk hi=>by
  have hg:=zom c
  have hm1:=zbu c (i:=i) hi
  have hm2:=zbu c (i:=k) (by omega)
  have hq:=je2 r hi (show k<n by omega)
  have hz:=hnz i k hk hi
  have hE:EIn g (fm i) (fm k) (d2F fs i k):=⟨hg.1,hg.2,hm1.1,hm1.2,hm2.1,hm2.2,hq.1,hq.2⟩
  have h1:=hE.lo (by omega)
  have h2:=hE.hi (by omega)
  exact ⟨h1,Int.le_trans h1.1 h2.1,h2.2.2⟩
 have hn:=(zez r).2.1
 have:n=1\/n=2\/n=3\/n=4:=by omega
 have e:∃ i k,k<i/\i<n/\j=tri i+k:=by
  rcases this with rfl|rfl|rfl|rfl
  ·exact absurd hj (by show ¬j<0;omega)
  ·have:j<1:=hj
   exact ⟨1,0,by omega,by omega,by show j=0+0;omega⟩
  ·have h3:j<3:=hj
   by_cases a:j=0
   ·exact ⟨1,0,by omega,by omega,a⟩
   ·exact ⟨2,j - 1,by omega,by omega,by show j=1+(j - 1);omega⟩
  ·have h6:j<6:=hj
   by_cases a:j=0
   ·exact ⟨1,0,by omega,by omega,a⟩
   ·by_cases b:j<3
    ·exact ⟨2,j - 1,by omega,by omega,by show j=1+(j - 1);omega⟩
    ·exact ⟨3,j - 3,by omega,by omega,by show j=3+(j - 3);omega⟩
 obtain ⟨i,k,hk,hi,rfl⟩:=e
 rw [z9e _ hk (by omega),z9e _ hk (by omega)]
 exact key i k hk hi
theorem jn2 (K:Value->Prop):za2 prog G0 88 #[.slice none 0 0] K↔K (.tuple #[wd 0,.bool false]):=zac G0W (by kernel_rfl) z40
theorem z69 {x:Int} (h:0<=x) (k:x<=1152921504606846976):i64 x:=⟨by omega,by omega⟩
theorem jic (L:List (Nat×Blk)) (ks:Nat) (bm bs:Blk) (hT:LTwo G0 L ks bm bs) (off n cap off2 n2 cap2:Nat) (fm fs:Nat->Int) (hm:MB bm off n fm) (hSb:SB bs off2 n2 fs) (hcap:n<=cap) (hcap2:n2<=cap2) (g bx tp nr md st:Int) (hs:i64 st) :
  Fun prog G0 55 #[cfV (.slice (some ⟨100,off,none⟩) n cap) g bx tp nr md,.agg #[.int .i64 st,.slice (some ⟨ks,off2,none⟩) n2 cap2]] (hpL G0 L) (zaa L) (.ret (.tuple #[spV (jns n n2 (zdr n fm g bx tp nr md) (zbl st fs n2) g fm fs) (jnr n n2 (zdr n fm g bx tp nr md) (zbl st fs n2) g fm fs),.int .i64 (z4w n n2 (zdr n fm g bx tp nr md) (zbl st fs n2) fs)]) []):=by
 refine zar (B:=200) G0F func55 rfl call55 hT.ok ?_ (zai (by simp [spV])) (by simp) (by simp) (by simp [ntmps55]) (by omega) ?_
 ·simp [zap,zax,zah,zaj,hT.ia,hT.ib,cfV]
 intro C hC hC0 hY
 have hA:=hT.a
 have hS:=hT.s
 have hne:=hT.ne
 have hLow:=hT.low
 have hks:=hT.k1
 have hks2:=hT.k2
 have hrm:=λρ=>Blk.fx_rn hm.fx ρ
 have hrs:=λρ=>Blk.fx_rn hSb.fx ρ
 have hfit:=zjq L ks bm bs hT off n cap off2 n2 cap2 fm fs hm hSb g bx tp nr md st
 unfold jns jnr z4w
 cases hf:zqa n n2 (zdr n fm g bx tp nr md) (zbl st fs n2) with
 | false =>
  rw [hf] at hfit
  simp only [Bool.false_eq_true,if_false,if_neg (show ¬(2:Int)=0 by decide)]
  unfold cfV at hfit |-
  repeat' first|refine gwZ ?_|((first|refine gwR [22] ?_|refine gwD [22] ?_);intro Q hQ _;(repeat first|simp [hC,hY,hA,hS,hne,zaf]|refine za7 hfit hT.ok zdd ?_);refine gwq hQ ?_)|fail
  refine ⟨.inr rfl,by simp [results55,spV,zaf],kpT G0F⟩
 | true =>
  rw [hf] at hfit
  obtain ⟨hnn,hok,hrt⟩:=zdk.1 hf
  subst hnn
  simp only [if_true]
  have hn4:=(zez hrt).2.1
  have hg9:=zom hok
  unfold cfV at hfit |-
  repeat' first|refine gwZ ?_|((first|refine gwR [22] ?_|refine gwD [22] ?_);intro Q hQ _;(repeat first|simp [hC,hY,hA,hS,hne,zaf]|refine za7 hfit hT.ok zdd ?_);refine gwq hQ ?_)|fail
  refine zjj (poI L ks off n cap off2 cap2 g bx tp nr md st fm fs) (m0:=n) (s0:=poO L ks off n cap off2 cap2 g bx tp nr md st 0 (.slice none 0 0) (.slice none 0 0) [] []) ?_ ⟨0,_,_,_,_,by omega,.inl ⟨rfl,rfl,rfl,rfl,rfl⟩,λa b h1 h2=>by omega,rfl⟩ ?_
  ·refine zg6 _ 400 hC G0F hT.ok hT.fx hC0 (by omega) ?_ ?_ zdd
   ·simp [zcz,zap,zax,zah,zaj,dom,hA,hS,hne]
   ·simp [zcz,cfB,zc0,spB,zad,zah,zaj,dom,hA,hS,hne,zaf]
  rintro m _ ⟨i,sl,sh,nl,nh,him,hV,hnz0,rfl⟩
  by_cases hm0:m=0
  ·obtain rfl:i=n:=by omega
   have hz:zzp fs i=0:=by
    rw [(ztm (g:=g) (fm:=fm) hrt).2.2]
    exact (zkz (λa b=>by by_cases c:d2F fs a b=0<;>simp [c]) i).2 λa b h1 h2=>if_neg (hnz0 a b h1 h2)
   have epl:zlc g fm fs i=zbv (exF (loF g fm fs)) (tri i):=by rw [(ztm hrt).1,z6o _ hn4];rfl
   have eph:zlb g fm fs i=zbv (exF (hiF g fm fs)) (tri i):=by rw [(ztm hrt).2.1,z6o _ hn4];rfl
   rw [if_pos hz,if_pos rfl,if_pos rfl,epl,eph]
   rcases hV with ⟨h0,rfl,rfl,rfl,rfl⟩|⟨c,d,p,q,h0,hc,hd,hp9,hq9,rfl,rfl,rfl,rfl⟩
   ·have z1:=jn2
    rw [h0]
    have e1:zbv (exF (loF g fm fs)) 0=0:=rfl
    have e2:zbv (exF (hiF g fm fs)) 0=0:=rfl
    rw [e1,e2]
    unfold poO zcz cfB zc0 spB
    repeat' first|refine gwZ ?_|(refine gwX ?_;intro Q hQ _;simp [hC,hY,hA,hS,hne,z1,zaf];refine gwq hQ ?_)|fail
    refine ⟨.inr rfl,by simp [results55,spV,zaf],kpT G0F⟩
   ·have t6:=z7z (Nat.le_refl i) hn4.2
    have hx:∀ j,j<tri i->0<=exF (loF g fm fs) j/\exF (loF g fm fs) j<=1152921504606846976:=λj hj=>(jfg hok hrt hnz0 hj).1
    have hy:∀ j,j<tri i->0<=exF (hiF g fm fs) j/\exF (hiF g fm fs) j<=1152921504606846976:=λj hj=>(jfg hok hrt hnz0 hj).2
    have hs1:=ztn c (tri i) p (exF (loF g fm fs)) hc (by omega) hp9 hx
    have hs2:=ztn d (tri i) q (exF (hiF g fm fs)) hd (by omega) hq9 hy
    have hr1:=λρ=>Blk.fx_rn (zba c p) ρ
    have hr2:=λρ=>Blk.fx_rn (zba d q) ρ
    generalize zbv (exF (loF g fm fs)) (tri i)=slo at *
    generalize zbv (exF (hiF g fm fs)) (tri i)=shi at *
    unfold zc2 at hr1 hr2 hs1 hs2
    unfold poO zcz cfB zc0 spB zc2
    repeat' first|refine gwZ ?_|((first|refine gwR [88] ?_|refine gwD [88] ?_);intro Q hQ _;(repeat first|simp [hC,hY,hA,hS,hne,zaf]|(refine zae hs1 G0F (B:=200) (zk1 c p) (λk=>if k=100 then 224 else k) (λk hk=>if_neg (by omega)) ?_ (by simp) ?_ (by simp [zaa]) (by simp [zaa];rfl) ?_;(focus (simp [ren,zay,zak,zan];done));focus (simp [hr1];done))|(refine zae hs2 G0F (B:=200) (zk1 d q) (λk=>if k=100 then 232 else k) (λk hk=>if_neg (by omega)) ?_ (by simp) ?_ (by simp [zaa]) (by simp [zaa];rfl) ?_;(focus (simp [ren,zay,zak,zan];done));focus (simp [hr2];done)));refine gwq hQ ?_)|fail
    refine ⟨.inr rfl,by simp [results55,spV,zaf],kpT G0F⟩
  ·have hi:i<n:=by omega
   have hi4:i<4:=by omega
   have hi':(i:Int)<n:=by omega
   have hz9:(0:Int)<=i:=Int.natCast_nonneg i
   have hs1:=znd hi hn4.2
   have hml:=hm.at hi
   have hmi:=zbu hok hi
   have t6:=z7z (Nat.le_of_lt hi) hn4.2
   unfold poO zcz cfB zc0 spB
   repeat' first|refine gwZ ?_|(refine gwX ?_;intro Q hQ _;simp [hC,hY,hi'];refine gwq hQ ?_)|fail
   refine zjj (poJ L ks off n cap off2 cap2 g bx tp nr md st fm fs i) (m0:=i) (s0:=poN L ks off n cap off2 cap2 g bx tp nr md st i 0 sl sh nl nh) ?_ ⟨0,_,_,_,_,by omega,hV,λb hb9=>by omega,rfl⟩ ?_
   ·rcases hV with ⟨h0,rfl,rfl,rfl,rfl⟩|⟨c,d,p,q,h0o,hc,hd,hp9,hq9,rfl,rfl,rfl,rfl⟩
    ·refine zg6 _ 400 hC G0F hT.ok hT.fx hC0 (by omega) ?_ ?_ zdd
     ·simp [zcz,zap,zax,zah,zaj,dom,hA,hS,hne]
     ·simp [zcz,cfB,zc0,spB,zad,zah,zaj,dom,hA,hS,hne,zaf]
    ·have hf1:=λD=>Blk.fx_ids (zba c p) D
     have hf2:=λD=>Blk.fx_ids (zba d q) D
     unfold zc2 at hf1 hf2
     refine zg6 _ 400 hC G0F hT.ok hT.fx hC0 (by omega) ?_ ?_ zdd
     ·simp [zcz,zc2,zap,zax,zah,zaj,dom,hA,hS,hne]
     ·simp [zcz,zc2,cfB,zc0,spB,zad,zah,zaj,dom,hA,hS,hne,zaf,hf1,hf2]
   clear hV
   rintro m2 _ ⟨k,sl,sh,nl,nh,hkm2,hV,hnz,rfl⟩
   have hall:∀ a b,b<a->a<i+1->k=i->¬d2F fs a b=0:=λa b h1 h2 e=>by
    by_cases ea:a=i
    ·rw [ea];exact hnz b (by omega)
    ·exact hnz0 a b h1 (by omega)
   by_cases hkm:m2=0
   ·obtain rfl:k=i:=by omega
    unfold poN zcz cfB zc0 spB
    repeat' first|refine gwZ ?_|(refine gwX ?_;intro Q hQ _;simp [hC,hY,hs1];refine gwq hQ ?_)|fail
    refine ⟨λx=>x,poO L ks off n cap off2 cap2 g bx tp nr md st (k+1) sl sh nl nh,n - (k+1),?_,⟨k+1,_,_,_,_,by omega,hV,λa b h1 h2=>hall a b h1 h2 rfl,rfl⟩,by omega⟩
    rcases hV with ⟨h0,rfl,rfl,rfl,rfl⟩|⟨c,d,p,q,h0,hc,hd,hp9,hq9,rfl,rfl,rfl,rfl⟩
    ·refine ze1 (s:=GS.mk _ _ _ 0) _ _ 400 hC G0F hT.ok hT.fx hC0 (by omega) ?_ ?_ ?_ ?_ zdd
     ·simp [zcz,dom,zcm,ren,zay,zak,zan,zap,zax,zah,zaj,hs1,hA,hS,hne]
     ·simp [zcz,cfB,zc0,spB,Blk.rn,zak,zan,zad,zah,zaj,dom,hA,hS,hne,zaf]
     ·simp [zcz]
     ·intro x hx;rfl
    ·have hf1:=λD=>Blk.fx_ids (zba c p) D
     have hf2:=λD=>Blk.fx_ids (zba d q) D
     have hm1:=λρ=>zeb (show Blk.fx ⟨fa (4*c) .u64 p,.ty 30⟩ from zba c p) ρ
     have hm2:=λρ=>zeb (show Blk.fx ⟨fa (4*d) .u64 q,.ty 30⟩ from zba d q) ρ
     unfold zc2 at hf1 hf2
     refine ze1 (s:=GS.mk _ _ _ 0) _ _ 400 hC G0F hT.ok hT.fx hC0 (by omega) ?_ ?_ ?_ ?_ zdd
     ·simp [zcz,zc2,dom,zcm,ren,zay,zak,zan,zap,zax,zah,zaj,hs1,hA,hS,hne]
     ·simp [zcz,zc2,cfB,zc0,spB,Blk.rn,zak,zan,zad,zah,zaj,dom,hf1,hf2,hm1,hm2,hA,hS,hne,zaf]
     ·simp [zcz]
     ·intro x hx;rfl
   ·have hki:k<i:=by omega
    have hk1:(k:Int)<i:=by omega
    have hk2:(k:Int)<n:=by omega
    have hkz:(0:Int)<=k:=Int.natCast_nonneg k
    have hs':=znd hki (show i<=4 by omega)
    have hml2:=hm.at (i:=k) (by omega)
    have hsq9:=zwe bs off2 n cap2 fs hSb st hrt hi (show k<n by omega)
    have hdq:=je2 hrt hi (show k<n by omega)
    have hm2:=zbu hok (i:=k) (by omega)
    have hEI:EIn g (fm i) (fm k) (d2F fs i k):=⟨hg9.1,hg9.2,hmi.1,hmi.2,hm2.1,hm2.2,hdq.1,hdq.2⟩
    by_cases hd0:d2F fs i k=0
    ·have P:=zz9 hEI hd0
     have hz:¬zzp fs n=0:=λe=>by
      rw [(ztm (g:=g) (fm:=fm) hrt).2.2] at e
      have:=(zkz (Z:=λi k=>if d2F fs i k=0 then 1 else 0) (λi k=>by by_cases c:d2F fs i k=0<;>simp [c]) n).1 e i k hki hi
      simp [hd0] at this
     rw [if_neg hz,if_neg (show ¬(30:Int)=0 by decide),if_neg (show ¬(30:Int)=0 by decide)]
     rcases hV with ⟨h0,rfl,rfl,rfl,rfl⟩|⟨c,d,p,q,h0,hc,hd,hp9,hq9,rfl,rfl,rfl,rfl⟩
     ·unfold poN zcz cfB zc0 spB
      repeat' first|refine gwZ ?_|((first|refine gwR [87] ?_|refine gwD [87] ?_);intro Q hQ hP;(repeat first|simp [hC,hY,hA,hS,hne,hi',hz9,hk1,hk2,hkz,hml,hml2,P,zaf]|refine zae hsq9 G0F (B:=200) (zao hSb.fx) (λk=>if k=100 then ks else k) (λk hk=>if_neg (by omega)) (by simp [ren,zay,zak,zan]) (by simp) (by simp [hrs,hS,hne,hks]) (by simp [zaa]) (by simp [zaa];rfl) ?_);(first|refine hQ _ _ _ _ (by rcases hT.k8 with h8|h8<;>subst h8<;>kernel_rfl) ?_|refine hP _ _ (by rcases hT.k8 with h8|h8<;>subst h8<;>kernel_rfl) λ_=>?_))|fail
      refine ⟨.inr rfl,by simp [results55,spV,zaf],kpT G0F⟩
     ·unfold poN zcz cfB zc0 spB zc2
      repeat' first|refine gwZ ?_|((first|refine gwR [87] ?_|refine gwD [87] ?_);intro Q hQ hP;(repeat first|simp [hC,hY,hA,hS,hne,hi',hz9,hk1,hk2,hkz,hml,hml2,P,zaf]|refine zae hsq9 G0F (B:=200) (zao hSb.fx) (λk=>if k=100 then ks else k) (λk hk=>if_neg (by omega)) (by simp [ren,zay,zak,zan]) (by simp) (by simp [hrs,hS,hne,hks]) (by simp [zaa]) (by simp [zaa];rfl) ?_);(first|refine hQ _ _ _ _ (by rcases hT.k8 with h8|h8<;>subst h8<;>kernel_rfl) ?_|refine hP _ _ (by rcases hT.k8 with h8|h8<;>subst h8<;>kernel_rfl) λ_=>?_))|fail
      refine ⟨.inr rfl,by simp [results55,spV,zaf],kpT G0F⟩
    ·have P:=z46 hEI (by omega) (show zea g (fm i) (fm k) (d2F fs i k)=loF g fm fs i k from rfl) (show zjc g (fm i) (fm k) (d2F fs i k)=hiF g fm fs i k from rfl)
     have hlo:=hEI.lo (by omega)
     have hhi:=hEI.hi (by omega)
     have il:i64 (loF g fm fs i k):=z69 hlo.1 hlo.2
     have ih:i64 (hiF g fm fs i k):=z69 (Int.le_trans hlo.1 hhi.1) hhi.2.2
     clear hlo hhi hdq
     have ht12:=z15 t6 hki hi4
     have hb20:=jhr ht12
     have hend:k+1+(i - (k+1))=i:=by omega
     have hdec:i - (k+1)<m2:=by omega
     have hpos:0<tri i+k+1:=Nat.succ_pos _
     rcases hV with ⟨h0,rfl,rfl,rfl,rfl⟩|⟨c,d,p,q,h0,hc,hd,hp9,hq9,rfl,rfl,rfl,rfl⟩
     ·unfold poN zcz cfB zc0 spB
      repeat' first|refine gwZ ?_|((first|refine gwR [87] ?_|refine gwD [87] ?_);intro Q hQ hP;(repeat first|simp [hC,hY,hA,hS,hne,hi',hz9,hk1,hk2,hkz,hml,hml2,P,zaf]|refine zae hsq9 G0F (B:=200) (zao hSb.fx) (λk=>if k=100 then ks else k) (λk hk=>if_neg (by omega)) (by simp [ren,zay,zak,zan]) (by simp) (by simp [hrs,hS,hne,hks]) (by simp [zaa]) (by simp [zaa];rfl) ?_);(first|refine hQ _ _ _ _ (by rcases hT.k8 with h8|h8<;>subst h8<;>kernel_rfl) ?_|refine hP _ _ (by rcases hT.k8 with h8|h8<;>subst h8<;>kernel_rfl) λ_=>?_))|fail
      refine zc3 ?_
      simp only [Array.toList]
      refine gwl 4 ?_;intro Q hQ;simp [hC,hY,hA,hS,hne,il,ih,zaf];apply hQ
      simp only [wT,wM,Nat.reduceAdd]
      refine zfe .u64 (m:=4) (i:=tri i+k) (j:=656) (by':=32) (z:=.agg #[.int .u64 0,.int .u64 0,.int .u64 0,.int .u64 0]) (T2:=.ty 30) (G:=wF (exF (loF g fm fs))) (ev:=λu=>wi (loF g fm fs i k) u) rfl (by simp) rfl underlying118 (zam sizeOf30) (by kernel_rfl) (by kernel_rfl) (by omega) (by simp [Value.cells]) (by simp [Value.cells]) (by omega) (by omega) (.inl ⟨h0,by simp⟩) (by simp) (by simp [zgh]) (λu hu=>?_) hb20 ?_
      ·exact z00 (loF g fm fs) hki hi4 hu
      rintro k1 c1 g1 hk1 hk11 hc1 hg1
      obtain rfl:k1=664:=by
       rcases hk1 with h9|⟨c,h9⟩
       ·exact h9
       ·simp at h9
      refine gwl 1 ?_;intro Q hQ;simp [hC,hY,zcx];apply hQ
      simp only [wT,wM,Nat.reduceAdd]
      refine zdc ?_
      repeat' first|refine gwZ ?_|(refine gwX ?_;intro Q hQ _;simp [hC,hY,hs'];refine gwq hQ ?_)|fail
      refine zc3 ?_
      simp only [Array.toList]
      refine gwl 4 ?_;intro Q hQ;simp [hC,hY,hA,hS,hne,il,ih,zaf];apply hQ
      simp only [wT,wM,Nat.reduceAdd]
      refine zfe .u64 (m:=4) (i:=tri i+k) (j:=704) (by':=32) (z:=.agg #[.int .u64 0,.int .u64 0,.int .u64 0,.int .u64 0]) (T2:=.ty 30) (G:=wF (exF (hiF g fm fs))) (ev:=λu=>wi (hiF g fm fs i k) u) rfl (by simp) rfl underlying118 (zam sizeOf30) (by kernel_rfl) (by kernel_rfl) (by omega) (by simp [Value.cells]) (by simp [Value.cells]) (by omega) (by omega) (.inl ⟨h0,by simp⟩) (by simp) (by simp [zgh]) (λu hu=>?_) hb20 ?_
      ·exact z00 (hiF g fm fs) hki hi4 hu
      rintro k2 c2 g2 hk2 hk21 hc2 hg2
      obtain rfl:k2=712:=by
       rcases hk2 with h9|⟨c,h9⟩
       ·exact h9
       ·simp at h9
      refine gwl 1 ?_;intro Q hQ;simp [hC,hY,zcx];apply hQ
      simp only [wT,wM,Nat.reduceAdd]
      refine zdc ?_
      repeat' first|refine gwZ ?_|(refine gwX ?_;intro Q hQ _;simp [hC,hY,hs'];refine gwq hQ ?_)|fail
      refine ⟨λx=>if x=224 then 664 else if x=232 then 712 else x,poN L ks off n cap off2 cap2 g bx tp nr md st i (k+1) (.slice (some ⟨224,0,none⟩) (tri i+k+1) c1) (.slice (some ⟨232,0,none⟩) (tri i+k+1) c2) [(224,zc2 c1 g1)] [(232,zc2 c2 g2)],i - (k+1),?_,⟨k+1,_,_,_,_,hend,.inr ⟨c1,c2,g1,g2,hpos,hc1,hc2,hg1,hg2,rfl,rfl,rfl,rfl⟩,λb hb9=>by
       by_cases e:b=k
       ·rw [e];exact hd0
       ·exact hnz b (Nat.lt_of_le_of_ne (Nat.le_of_lt_succ hb9) e),rfl⟩,hdec⟩
      have hf1:=λD=>Blk.fx_ids (zba c1 g1) D
      have hf2:=λD=>Blk.fx_ids (zba c2 g2) D
      have hm1:=λρ=>zeb (show Blk.fx ⟨fa (4*c1) .u64 g1,.ty 30⟩ from zba c1 g1) ρ
      have hm2:=λρ=>zeb (show Blk.fx ⟨fa (4*c2) .u64 g2,.ty 30⟩ from zba c2 g2) ρ
      unfold zc2 at hf1 hf2
      refine ze1 (s:=GS.mk _ _ _ 0) _ _ 400 hC G0F hT.ok hT.fx hC0 (by decide) ?_ ?_ ?_ ?_ zdd
      ·simp [zcz,zc2,dom,zcm,ren,zay,zak,zan,zap,zax,zah,zaj,hs',hA,hS,hne]
      ·simp [zcz,zc2,cfB,zc0,spB,Blk.rn,zak,zan,zad,zah,zaj,dom,hf1,hf2,hm1,hm2,hA,hS,hne,zaf]
      ·simp [zcz]
      ·intro x hx;(try dsimp only);rw [if_neg (Nat.ne_of_lt (Nat.lt_trans hx (by decide))),if_neg (Nat.ne_of_lt (Nat.lt_trans hx (by decide)))]
     ·unfold poN zcz cfB zc0 spB zc2
      repeat' first|refine gwZ ?_|((first|refine gwR [87] ?_|refine gwD [87] ?_);intro Q hQ hP;(repeat first|simp [hC,hY,hA,hS,hne,hi',hz9,hk1,hk2,hkz,hml,hml2,P,zaf]|refine zae hsq9 G0F (B:=200) (zao hSb.fx) (λk=>if k=100 then ks else k) (λk hk=>if_neg (by omega)) (by simp [ren,zay,zak,zan]) (by simp) (by simp [hrs,hS,hne,hks]) (by simp [zaa]) (by simp [zaa];rfl) ?_);(first|refine hQ _ _ _ _ (by rcases hT.k8 with h8|h8<;>subst h8<;>kernel_rfl) ?_|refine hP _ _ (by rcases hT.k8 with h8|h8<;>subst h8<;>kernel_rfl) λ_=>?_))|fail
      refine zc3 ?_
      simp only [Array.toList]
      refine gwl 4 ?_;intro Q hQ;simp [hC,hY,hA,hS,hne,il,ih,zaf];apply hQ
      simp only [wT,wM,Nat.reduceAdd]
      refine zfe .u64 (m:=4) (i:=tri i+k) (j:=656) (by':=32) (z:=.agg #[.int .u64 0,.int .u64 0,.int .u64 0,.int .u64 0]) (T2:=.ty 30) (G:=wF (exF (loF g fm fs))) (ev:=λu=>wi (loF g fm fs i k) u) rfl (by simp) rfl underlying118 (zam sizeOf30) (by kernel_rfl) (by kernel_rfl) (by omega) (by simp [Value.cells]) (by simp [Value.cells]) (by omega) (by omega) (.inr ⟨224,c,p,by decide,by simp,by simp,hc,hp9⟩) (by simp) (by simp [zgh]) (λu hu=>?_) hb20 ?_
      ·exact z00 (loF g fm fs) hki hi4 hu
      rintro k1 c1 g1 hk1 hk11 hc1 hg1
      have hk1':k1=664\/k1=224:=by
       rcases hk1 with h9|⟨c,h9⟩
       ·exact .inl h9
       ·simp at h9;exact .inr h9.1.symm
      rcases hk1' with rfl|rfl
      ·
       refine gwl 1 ?_;intro Q hQ;simp [hC,hY,zcx];apply hQ
       simp only [wT,wM,Nat.reduceAdd]
       refine zdc ?_
       repeat' first|refine gwZ ?_|(refine gwX ?_;intro Q hQ _;simp [hC,hY,hs'];refine gwq hQ ?_)|fail
       refine zc3 ?_
       simp only [Array.toList]
       refine gwl 4 ?_;intro Q hQ;simp [hC,hY,hA,hS,hne,il,ih,zaf];apply hQ
       simp only [wT,wM,Nat.reduceAdd]
       refine zfe .u64 (m:=4) (i:=tri i+k) (j:=704) (by':=32) (z:=.agg #[.int .u64 0,.int .u64 0,.int .u64 0,.int .u64 0]) (T2:=.ty 30) (G:=wF (exF (hiF g fm fs))) (ev:=λu=>wi (hiF g fm fs i k) u) rfl (by simp) rfl underlying118 (zam sizeOf30) (by kernel_rfl) (by kernel_rfl) (by omega) (by simp [Value.cells]) (by simp [Value.cells]) (by omega) (by omega) (.inr ⟨232,d,q,by decide,by simp,by simp,hd,hq9⟩) (by simp) (by simp [zgh]) (λu hu=>?_) hb20 ?_
       ·exact z00 (hiF g fm fs) hki hi4 hu
       rintro k2 c2 g2 hk2 hk21 hc2 hg2
       have hk2':k2=712\/k2=232:=by
        rcases hk2 with h9|⟨c,h9⟩
        ·exact .inl h9
        ·simp at h9;exact .inr h9.1.symm
       rcases hk2' with rfl|rfl
       ·
        refine gwl 1 ?_;intro Q hQ;simp [hC,hY,zcx];apply hQ
        simp only [wT,wM,Nat.reduceAdd]
        refine zdc ?_
        repeat' first|refine gwZ ?_|(refine gwX ?_;intro Q hQ _;simp [hC,hY,hs'];refine gwq hQ ?_)|fail
        refine ⟨λx=>if x=224 then 664 else if x=232 then 712 else x,poN L ks off n cap off2 cap2 g bx tp nr md st i (k+1) (.slice (some ⟨224,0,none⟩) (tri i+k+1) c1) (.slice (some ⟨232,0,none⟩) (tri i+k+1) c2) [(224,zc2 c1 g1)] [(232,zc2 c2 g2)],i - (k+1),?_,⟨k+1,_,_,_,_,hend,.inr ⟨c1,c2,g1,g2,hpos,hc1,hc2,hg1,hg2,rfl,rfl,rfl,rfl⟩,λb hb9=>by
         by_cases e:b=k
         ·rw [e];exact hd0
         ·exact hnz b (Nat.lt_of_le_of_ne (Nat.le_of_lt_succ hb9) e),rfl⟩,hdec⟩
        have hf1:=λD=>Blk.fx_ids (zba c1 g1) D
        have hf2:=λD=>Blk.fx_ids (zba c2 g2) D
        have hm1:=λρ=>zeb (show Blk.fx ⟨fa (4*c1) .u64 g1,.ty 30⟩ from zba c1 g1) ρ
        have hm2:=λρ=>zeb (show Blk.fx ⟨fa (4*c2) .u64 g2,.ty 30⟩ from zba c2 g2) ρ
        unfold zc2 at hf1 hf2
        refine ze1 (s:=GS.mk _ _ _ 0) _ _ 400 hC G0F hT.ok hT.fx hC0 (by decide) ?_ ?_ ?_ ?_ zdd
        ·simp [zcz,zc2,dom,zcm,ren,zay,zak,zan,zap,zax,zah,zaj,hs',hA,hS,hne]
        ·simp [zcz,zc2,cfB,zc0,spB,Blk.rn,zak,zan,zad,zah,zaj,dom,hf1,hf2,hm1,hm2,hA,hS,hne,zaf]
        ·simp [zcz]
        ·intro x hx;(try dsimp only);rw [if_neg (Nat.ne_of_lt (Nat.lt_trans hx (by decide))),if_neg (Nat.ne_of_lt (Nat.lt_trans hx (by decide)))]
       ·
        refine gwl 1 ?_;intro Q hQ;simp [hC,hY,zcx];apply hQ
        simp only [wT,wM,Nat.reduceAdd]
        refine zdc ?_
        repeat' first|refine gwZ ?_|(refine gwX ?_;intro Q hQ _;simp [hC,hY,hs'];refine gwq hQ ?_)|fail
        refine ⟨λx=>if x=224 then 664 else if x=232 then 232 else x,poN L ks off n cap off2 cap2 g bx tp nr md st i (k+1) (.slice (some ⟨224,0,none⟩) (tri i+k+1) c1) (.slice (some ⟨232,0,none⟩) (tri i+k+1) c2) [(224,zc2 c1 g1)] [(232,zc2 c2 g2)],i - (k+1),?_,⟨k+1,_,_,_,_,hend,.inr ⟨c1,c2,g1,g2,hpos,hc1,hc2,hg1,hg2,rfl,rfl,rfl,rfl⟩,λb hb9=>by
         by_cases e:b=k
         ·rw [e];exact hd0
         ·exact hnz b (Nat.lt_of_le_of_ne (Nat.le_of_lt_succ hb9) e),rfl⟩,hdec⟩
        have hf1:=λD=>Blk.fx_ids (zba c1 g1) D
        have hf2:=λD=>Blk.fx_ids (zba c2 g2) D
        have hm1:=λρ=>zeb (show Blk.fx ⟨fa (4*c1) .u64 g1,.ty 30⟩ from zba c1 g1) ρ
        have hm2:=λρ=>zeb (show Blk.fx ⟨fa (4*c2) .u64 g2,.ty 30⟩ from zba c2 g2) ρ
        unfold zc2 at hf1 hf2
        refine ze1 (s:=GS.mk _ _ _ 0) _ _ 400 hC G0F hT.ok hT.fx hC0 (by decide) ?_ ?_ ?_ ?_ zdd
        ·simp [zcz,zc2,dom,zcm,ren,zay,zak,zan,zap,zax,zah,zaj,hs',hA,hS,hne]
        ·simp [zcz,zc2,cfB,zc0,spB,Blk.rn,zak,zan,zad,zah,zaj,dom,hf1,hf2,hm1,hm2,hA,hS,hne,zaf]
        ·simp [zcz]
        ·intro x hx;(try dsimp only);rw [if_neg (Nat.ne_of_lt (Nat.lt_trans hx (by decide))),if_neg (Nat.ne_of_lt (Nat.lt_trans hx (by decide)))]
      ·
       refine gwl 1 ?_;intro Q hQ;simp [hC,hY,zcx];apply hQ
       simp only [wT,wM,Nat.reduceAdd]
       refine zdc ?_
       repeat' first|refine gwZ ?_|(refine gwX ?_;intro Q hQ _;simp [hC,hY,hs'];refine gwq hQ ?_)|fail
       refine zc3 ?_
       simp only [Array.toList]
       refine gwl 4 ?_;intro Q hQ;simp [hC,hY,hA,hS,hne,il,ih,zaf];apply hQ
       simp only [wT,wM,Nat.reduceAdd]
       refine zfe .u64 (m:=4) (i:=tri i+k) (j:=704) (by':=32) (z:=.agg #[.int .u64 0,.int .u64 0,.int .u64 0,.int .u64 0]) (T2:=.ty 30) (G:=wF (exF (hiF g fm fs))) (ev:=λu=>wi (hiF g fm fs i k) u) rfl (by simp) rfl underlying118 (zam sizeOf30) (by kernel_rfl) (by kernel_rfl) (by omega) (by simp [Value.cells]) (by simp [Value.cells]) (by omega) (by omega) (.inr ⟨232,d,q,by decide,by simp,by simp,hd,hq9⟩) (by simp) (by simp [zgh]) (λu hu=>?_) hb20 ?_
       ·exact z00 (hiF g fm fs) hki hi4 hu
       rintro k2 c2 g2 hk2 hk21 hc2 hg2
       have hk2':k2=712\/k2=232:=by
        rcases hk2 with h9|⟨c,h9⟩
        ·exact .inl h9
        ·simp at h9;exact .inr h9.1.symm
       rcases hk2' with rfl|rfl
       ·
        refine gwl 1 ?_;intro Q hQ;simp [hC,hY,zcx];apply hQ
        simp only [wT,wM,Nat.reduceAdd]
        refine zdc ?_
        repeat' first|refine gwZ ?_|(refine gwX ?_;intro Q hQ _;simp [hC,hY,hs'];refine gwq hQ ?_)|fail
        refine ⟨λx=>if x=224 then 224 else if x=232 then 712 else x,poN L ks off n cap off2 cap2 g bx tp nr md st i (k+1) (.slice (some ⟨224,0,none⟩) (tri i+k+1) c1) (.slice (some ⟨232,0,none⟩) (tri i+k+1) c2) [(224,zc2 c1 g1)] [(232,zc2 c2 g2)],i - (k+1),?_,⟨k+1,_,_,_,_,hend,.inr ⟨c1,c2,g1,g2,hpos,hc1,hc2,hg1,hg2,rfl,rfl,rfl,rfl⟩,λb hb9=>by
         by_cases e:b=k
         ·rw [e];exact hd0
         ·exact hnz b (Nat.lt_of_le_of_ne (Nat.le_of_lt_succ hb9) e),rfl⟩,hdec⟩
        have hf1:=λD=>Blk.fx_ids (zba c1 g1) D
        have hf2:=λD=>Blk.fx_ids (zba c2 g2) D
        have hm1:=λρ=>zeb (show Blk.fx ⟨fa (4*c1) .u64 g1,.ty 30⟩ from zba c1 g1) ρ
        have hm2:=λρ=>zeb (show Blk.fx ⟨fa (4*c2) .u64 g2,.ty 30⟩ from zba c2 g2) ρ
        unfold zc2 at hf1 hf2
        refine ze1 (s:=GS.mk _ _ _ 0) _ _ 400 hC G0F hT.ok hT.fx hC0 (by decide) ?_ ?_ ?_ ?_ zdd
        ·simp [zcz,zc2,dom,zcm,ren,zay,zak,zan,zap,zax,zah,zaj,hs',hA,hS,hne]
        ·simp [zcz,zc2,cfB,zc0,spB,Blk.rn,zak,zan,zad,zah,zaj,dom,hf1,hf2,hm1,hm2,hA,hS,hne,zaf]
        ·simp [zcz]
        ·intro x hx;(try dsimp only);rw [if_neg (Nat.ne_of_lt (Nat.lt_trans hx (by decide))),if_neg (Nat.ne_of_lt (Nat.lt_trans hx (by decide)))]
       ·
        refine gwl 1 ?_;intro Q hQ;simp [hC,hY,zcx];apply hQ
        simp only [wT,wM,Nat.reduceAdd]
        refine zdc ?_
        repeat' first|refine gwZ ?_|(refine gwX ?_;intro Q hQ _;simp [hC,hY,hs'];refine gwq hQ ?_)|fail
        refine ⟨λx=>if x=224 then 224 else if x=232 then 232 else x,poN L ks off n cap off2 cap2 g bx tp nr md st i (k+1) (.slice (some ⟨224,0,none⟩) (tri i+k+1) c1) (.slice (some ⟨232,0,none⟩) (tri i+k+1) c2) [(224,zc2 c1 g1)] [(232,zc2 c2 g2)],i - (k+1),?_,⟨k+1,_,_,_,_,hend,.inr ⟨c1,c2,g1,g2,hpos,hc1,hc2,hg1,hg2,rfl,rfl,rfl,rfl⟩,λb hb9=>by
         by_cases e:b=k
         ·rw [e];exact hd0
         ·exact hnz b (Nat.lt_of_le_of_ne (Nat.le_of_lt_succ hb9) e),rfl⟩,hdec⟩
        have hf1:=λD=>Blk.fx_ids (zba c1 g1) D
        have hf2:=λD=>Blk.fx_ids (zba c2 g2) D
        have hm1:=λρ=>zeb (show Blk.fx ⟨fa (4*c1) .u64 g1,.ty 30⟩ from zba c1 g1) ρ
        have hm2:=λρ=>zeb (show Blk.fx ⟨fa (4*c2) .u64 g2,.ty 30⟩ from zba c2 g2) ρ
        unfold zc2 at hf1 hf2
        refine ze1 (s:=GS.mk _ _ _ 0) _ _ 400 hC G0F hT.ok hT.fx hC0 (by decide) ?_ ?_ ?_ ?_ zdd
        ·simp [zcz,zc2,dom,zcm,ren,zay,zak,zan,zap,zax,zah,zaj,hs',hA,hS,hne]
        ·simp [zcz,zc2,cfB,zc0,spB,Blk.rn,zak,zan,zad,zah,zaj,dom,hf1,hf2,hm1,hm2,hA,hS,hne,zaf]
        ·simp [zcz]
        ·intro x hx;(try dsimp only);rw [if_neg (Nat.ne_of_lt (Nat.lt_trans hx (by decide))),if_neg (Nat.ne_of_lt (Nat.lt_trans hx (by decide)))]
theorem z9k (g bx tp nr md st:Int):Ret prog G0 22 #[.agg #[.slice none 0 0,.int .i64 g,.int .i64 bx,.int .i64 tp,.int .i64 nr,.int .i64 md],.agg #[.int .i64 st,.slice none 0 0]] (.bool false):=by
 refine zas G0F func22 rfl call22 (by simp) (by simp) (by simp [ntmps22]) ?_
 intro C hC hC0 hY
 repeat' first|refine gwZ ?_|refine gwW ?_|fail
 refine ⟨.inr trivial,?_⟩
 simp [results22]
theorem z9j (g bx tp nr md st:Int) (K:Value->Prop):za2 prog G0 22 #[.agg #[.slice none 0 0,.int .i64 g,.int .i64 bx,.int .i64 tp,.int .i64 nr,.int .i64 md],.agg #[.int .i64 st,.slice none 0 0]] K↔K (.bool false):=zac G0W (by kernel_rfl) (z9k g bx tp nr md st)
theorem z9l (b:Blk) (off n cap:Nat) (f:Nat->Int) (h:SB b off n f) (g bx tp nr md st:Int):Fun prog G0 22 #[.agg #[.slice none 0 0,.int .i64 g,.int .i64 bx,.int .i64 tp,.int .i64 nr,.int .i64 md],.agg #[.int .i64 st,.slice (some ⟨100,off,none⟩) n cap]] (hpL G0 [(100,b)]) (zaa [(100,b)]) (.ret (.bool false) []):=by
 refine zar (B:=200) G0F func22 rfl call22 (zao h.fx) ?_ (by simp) (by simp) (by simp) (by simp [ntmps22]) (by omega) ?_
 ·simp [zap,zax,zah,zaj,zaa]
 intro C hC hC0 hY
 have hr:=λρ=>Blk.fx_rn h.fx ρ
 repeat' first|refine gwZ ?_|refine gwW ?_|fail
 refine ⟨.inr rfl,by simp [results22],kpS G0F⟩
theorem z9m (b:Blk) (off n cap:Nat) (f:Nat->Int) (h:MB b off n f) (g bx tp nr md st:Int):Fun prog G0 22 #[.agg #[.slice (some ⟨100,off,none⟩) n cap,.int .i64 g,.int .i64 bx,.int .i64 tp,.int .i64 nr,.int .i64 md],.agg #[.int .i64 st,.slice none 0 0]] (hpL G0 [(100,b)]) (zaa [(100,b)]) (.ret (.bool false) []):=by
 refine zar (B:=200) G0F func22 rfl call22 (zao h.fx) ?_ (by simp) (by simp) (by simp) (by simp [ntmps22]) (by omega) ?_
 ·simp [zap,zax,zah,zaj,zaa]
 intro C hC hC0 hY
 have hr:=λρ=>Blk.fx_rn h.fx ρ
 have hck:=zj7 b off n cap f h g bx tp nr md
 unfold cfV at hck
 cases ok:zdr n f g bx tp nr md with
 | false =>
  rw [ok] at hck
  simp only [Bool.false_eq_true,if_false] at hck
  repeat' first|refine gwZ ?_|((first|refine gwR [53] ?_|refine gwD [53] ?_);intro Q hQ _;(repeat first|simp [hC,hY]|refine zae hck G0F (B:=200) (zao h.fx) (λk=>k) (λk hk=>rfl) (by simp [ren,zay,zak,zan,cfV]) (by simp) (by simp [hr]) (by simp [zaa]) (by simp [zaa];rfl) ?_);refine gwq hQ ?_)|fail
  refine ⟨.inr rfl,by simp [results22],kpS G0F⟩
 | true =>
  rw [ok] at hck
  simp only [if_true] at hck
  repeat' first|refine gwZ ?_|((first|refine gwR [53] ?_|refine gwD [53] ?_);intro Q hQ _;(repeat first|simp [hC,hY]|refine zae hck G0F (B:=200) (zao h.fx) (λk=>k) (λk hk=>rfl) (by simp [ren,zay,zak,zan,cfV]) (by simp) (by simp [hr]) (by simp [zaa]) (by simp [zaa];rfl) ?_);refine gwq hQ ?_)|fail
  refine ⟨.inr rfl,by simp [results22],kpS G0F⟩
theorem zrt (E:Int) (hE:¬E=0) (L:List (Nat×Blk)) (ks:Nat) (bm bs:Blk) (hT:LTwo G0 L ks bm bs) (off n cap off2 n2 cap2:Nat) (g bx tp nr md st:Int)
  (hpo:Fun prog G0 55 #[cfV (.slice (some ⟨100,off,none⟩) n cap) g bx tp nr md,.agg #[.int .i64 st,.slice (some ⟨ks,off2,none⟩) n2 cap2]] (hpL G0 L) (zaa L) (.ret (.tuple #[spV 0 0,.int .i64 E]) [])) :
  Fun prog G0 23 #[cfV (.slice (some ⟨100,off,none⟩) n cap) g bx tp nr md,.agg #[.int .i64 st,.slice (some ⟨ks,off2,none⟩) n2 cap2]] (hpL G0 L) (zaa L) (.ret (.tuple #[spV 0 0,.int .i64 E]) []):=by
 refine zar (B:=200) G0F func23 rfl call23 hT.ok ?_ (zai (by simp [spV])) (by simp) (by simp) (by simp [ntmps23]) (by omega) ?_
 ·simp [zap,zax,zah,zaj,hT.ia,hT.ib,cfV]
 intro C hC hC0 hY
 have hA:=hT.a
 have hS:=hT.s
 have hne:=hT.ne
 have hLow:=hT.low
 have hEb:(E != 0)=true:=by simpa using hE
 have hEq:(E==0)=false:=by simpa using hE
 unfold cfV spV at hpo
 unfold cfV
 repeat' first|refine gwZ ?_|((first|refine gwR [55] ?_|refine gwD [55] ?_);intro Q hQ _;(repeat first|simp [hC,hY,hA,hS,hne,zaf,hE,hEb,hEq]|refine za7 hpo hT.ok zdd ?_);refine gwq hQ ?_)|fail
 refine ⟨.inr rfl,by simp [results23,spV,zaf],kpT G0F⟩
theorem zkq (L:List (Nat×Blk)) (ks:Nat) (bm bs:Blk) (hT:LTwo G0 L ks bm bs) (off n cap off2 n2 cap2:Nat) (fm fs:Nat->Int) (hm:MB bm off n fm) (hSb:SB bs off2 n2 fs) (hcap:n<=cap) (hcap2:n2<=cap2) (g bx tp nr md st:Int) (hs:i64 st) :
  Fun prog G0 23 #[cfV (.slice (some ⟨100,off,none⟩) n cap) g bx tp nr md,.agg #[.int .i64 st,.slice (some ⟨ks,off2,none⟩) n2 cap2]] (hpL G0 L) (zaa L) (.ret (enV n n2 fm fs g bx tp nr md st) []):=by
 have hpo:=jic L ks bm bs hT off n cap off2 n2 cap2 fm fs hm hSb hcap hcap2 g bx tp nr md st hs
 have hki:=jib L ks bm bs hT off n cap off2 n2 cap2 fm fs hm hSb hcap hcap2 g bx tp nr md st hs
 unfold jns jnr at hpo
 unfold enV eLo eHi enE
 unfold jdb jda at hki
 by_cases hE:z4w n n2 (zdr n fm g bx tp nr md) (zbl st fs n2) fs=0
 ·have hf:zqa n n2 (zdr n fm g bx tp nr md) (zbl st fs n2)=true:=by
   unfold z4w at hE
   cases hf:zqa n n2 (zdr n fm g bx tp nr md) (zbl st fs n2) with
   | true=>rfl
   | false=>rw [hf] at hE;simp at hE
  rw [if_pos hf,if_pos hf] at hki
  rw [hE,if_pos rfl,if_pos rfl] at hpo |-
  generalize z3x fm fs n2=T at *
  generalize zlc g fm fs n2=lo at *
  generalize zlb g fm fs n2=hi at *
  clear hE hf
  refine zar (B:=200) G0F func23 rfl call23 hT.ok ?_ (zai (by simp [spV])) (by simp) (by simp) (by simp [ntmps23]) (by omega) ?_
  ·simp [zap,zax,zah,zaj,hT.ia,hT.ib,cfV]
  intro C hC hC0 hY
  have hA:=hT.a
  have hS:=hT.s
  have hne:=hT.ne
  have hLow:=hT.low
  unfold cfV spV at hpo
  unfold cfV at hki |-
  repeat' first|refine gwZ ?_|((first|refine gwR [55,56] ?_|refine gwD [55,56] ?_);intro Q hQ _;(repeat first|simp [hC,hY,hA,hS,hne,zaf]|refine za7 hpo hT.ok zdd ?_|refine za7 hki hT.ok zdd ?_);refine gwq hQ ?_)|fail
  refine ⟨.inr rfl,by simp [results23,spV,zaf],kpT G0F⟩
 ·rw [if_neg hE,if_neg hE] at hpo |-
  exact zrt _ hE L ks bm bs hT off n cap off2 n2 cap2 g bx tp nr md st hpo
theorem z3u (g bx tp nr md st:Int):Fun prog G0 94 #[.agg #[.slice none 0 0,.int .i64 g,.int .i64 bx,.int .i64 tp,.int .i64 nr,.int .i64 md],.agg #[.int .i64 st,.slice none 0 0]] (hpL G0 []) (zaa []) (.ret (.bool false) []):=by
 refine zar (B:=200) G0F func94 rfl call94 zcd ?_ (zai (by simp [spV])) (by simp) (by simp) (by simp [ntmps94]) (by omega) ?_
 ·simp [zap,zax,zah,zaj,zaa]
 intro C hC hC0 hY
 have hfx:Blk.fx (⟨#[.slice none 0 0,.int .i64 g,.int .i64 bx,.int .i64 tp,.int .i64 nr,.int .i64 md],.ty 24⟩:Blk):=λx hx=>by
  simp at hx
  rcases hx with rfl|rfl|rfl|rfl|rfl|rfl<;>rfl
 have hck:=zig (⟨#[.slice none 0 0,.int .i64 g,.int .i64 bx,.int .i64 tp,.int .i64 nr,.int .i64 md],.ty 24⟩:Blk) hfx g bx tp nr md
 have hbr:=λρ=>Blk.fx_rn hfx ρ
 unfold cfV at hck
 repeat' first|refine gwZ ?_|((first|refine gwR [83] ?_|refine gwD [83] ?_);intro Q hQ _;(repeat first|simp [hC,hY]|refine zae hck G0F (B:=200) (zao hfx) (λk=>if k=100 then 200 else k) (λk hk=>if_neg (by omega)) (by simp [ren,zay,zak,zan,cfV]) (by simp) (by simp [hbr]) (by simp [zaa]) (by simp [zaa];try rfl) ?_);refine gwq hQ ?_)|fail
 refine ⟨.inr rfl,by simp [results94,spV,zaf],kpS G0F⟩
theorem z3v (b:Blk) (off n cap:Nat) (f:Nat->Int) (h:SB b off n f) (g bx tp nr md st:Int):Fun prog G0 94 #[.agg #[.slice none 0 0,.int .i64 g,.int .i64 bx,.int .i64 tp,.int .i64 nr,.int .i64 md],.agg #[.int .i64 st,.slice (some ⟨100,off,none⟩) n cap]] (hpL G0 [(100,b)]) (zaa [(100,b)]) (.ret (.bool false) []):=by
 refine zar (B:=200) G0F func94 rfl call94 (zao h.fx) ?_ (zai (by simp [spV])) (by simp) (by simp) (by simp [ntmps94]) (by omega) ?_
 ·simp [zap,zax,zah,zaj,zaa]
 intro C hC hC0 hY
 have hr:=λρ=>Blk.fx_rn h.fx ρ
 have hck:=zig b h.fx g bx tp nr md
 unfold cfV at hck
 by_cases h0:n=0
 ·subst h0
  repeat' first|refine gwZ ?_|((first|refine gwR [83] ?_|refine gwD [83] ?_);intro Q hQ _;(repeat first|simp [hC,hY]|refine zae hck G0F (B:=200) (zao h.fx) (λk=>k) (λk hk=>rfl) (by simp [ren,zay,zak,zan,cfV]) (by simp) (by simp [hr]) (by simp [zaa]) (by simp [zaa];try rfl) ?_);refine gwq hQ ?_)|fail
  refine ⟨.inr rfl,by simp [results94,spV,zaf],kpS G0F⟩
 ·have h1:¬(n:Int)=0:=by omega
  have h2:((n:Int)==0)=false:=by simpa using h1
  have h3:((0:Int)==(n:Int))=false:=by simp;omega
  have h4:¬(0:Int)=(n:Int):=by omega
  have h5:¬0=n:=by omega
  repeat' first|refine gwZ ?_|(refine gwX ?_;intro Q hQ _;simp [hC,hY,h0,h1,h2,h3,h4,h5];refine gwq hQ ?_)|fail
  refine ⟨.inr rfl,by simp [results94,spV,zaf],kpS G0F⟩
theorem z3w (b:Blk) (off n cap:Nat) (f:Nat->Int) (h:MB b off n f) (g bx tp nr md st:Int):Fun prog G0 94 #[.agg #[.slice (some ⟨100,off,none⟩) n cap,.int .i64 g,.int .i64 bx,.int .i64 tp,.int .i64 nr,.int .i64 md],.agg #[.int .i64 st,.slice none 0 0]] (hpL G0 [(100,b)]) (zaa [(100,b)]) (.ret (.bool false) []):=by
 refine zar (B:=200) G0F func94 rfl call94 (zao h.fx) ?_ (zai (by simp [spV])) (by simp) (by simp) (by simp [ntmps94]) (by omega) ?_
 ·simp [zap,zax,zah,zaj,zaa]
 intro C hC hC0 hY
 have hr:=λρ=>Blk.fx_rn h.fx ρ
 have hck:=zj6 b off n cap f h g bx tp nr md
 unfold cfV at hck
 by_cases h0:n=0
 ·subst h0
  rw [show zdr 0 f g bx tp nr md=false from rfl] at hck
  repeat' first|refine gwZ ?_|((first|refine gwR [83] ?_|refine gwD [83] ?_);intro Q hQ _;(repeat first|simp [hC,hY]|refine zae hck G0F (B:=200) (zao h.fx) (λk=>k) (λk hk=>rfl) (by simp [ren,zay,zak,zan,cfV]) (by simp) (by simp [hr]) (by simp [zaa]) (by simp [zaa];try rfl) ?_);refine gwq hQ ?_)|fail
  refine ⟨.inr rfl,by simp [results94,spV,zaf],kpS G0F⟩
 ·have h1:¬(n:Int)=0:=by omega
  have h2:((n:Int)==0)=false:=by simpa using h1
  have h3:((0:Int)==(n:Int))=false:=by simp;omega
  have h4:¬(0:Int)=(n:Int):=by omega
  have h5:¬0=n:=by omega
  repeat' first|refine gwZ ?_|(refine gwX ?_;intro Q hQ _;simp [hC,hY,h0,h1,h2,h3,h4,h5];refine gwq hQ ?_)|fail
  refine ⟨.inr rfl,by simp [results94,spV,zaf],kpS G0F⟩
theorem z9b (g bx tp nr md st:Int):Fun prog G0 66 #[.agg #[.slice none 0 0,.int .i64 g,.int .i64 bx,.int .i64 tp,.int .i64 nr,.int .i64 md],.agg #[.int .i64 st,.slice none 0 0]] (hpL G0 []) (zaa []) (.ret (.tuple #[spV 0 0,.int .i64 2]) []):=by
 refine zar (B:=200) G0F func66 rfl call66 zcd ?_ (zai (by simp [spV])) (by simp) (by simp) (by simp [ntmps66]) (by omega) ?_
 ·simp [zap,zax,zah,zaj,zaa]
 intro C hC hC0 hY
 have hf:=z3u g bx tp nr md st
 repeat' first|refine gwZ ?_|((first|refine gwR [94] ?_|refine gwD [94] ?_);intro Q hQ _;(repeat first|simp [hC,hY,zaf]|refine zae hf G0F (B:=200) zcd (λk=>k) (λk hk=>rfl) (by simp [ren,zay,zak,zan,cfV]) (by simp) (by simp) (by simp [zaa]) (by simp [zaa];try rfl) ?_);refine gwq hQ ?_)|fail
 refine ⟨.inr rfl,by simp [results66,spV,zaf],kpS G0F⟩
theorem jbq (g bx tp nr md st:Int):Fun prog G0 55 #[.agg #[.slice none 0 0,.int .i64 g,.int .i64 bx,.int .i64 tp,.int .i64 nr,.int .i64 md],.agg #[.int .i64 st,.slice none 0 0]] (hpL G0 []) (zaa []) (.ret (.tuple #[spV 0 0,.int .i64 2]) []):=by
 refine zar (B:=200) G0F func55 rfl call55 zcd ?_ (zai (by simp [spV])) (by simp) (by simp) (by simp [ntmps55]) (by omega) ?_
 ·simp [zap,zax,zah,zaj,zaa]
 intro C hC hC0 hY
 repeat' first|refine gwZ ?_|(refine gwX ?_;intro Q hQ _;simp [hC,hY,z9j,zaf];refine gwq hQ ?_)|fail
 refine ⟨.inr rfl,by simp [results55,spV,zaf],kpS G0F⟩
theorem je8 (g bx tp nr md st:Int):Fun prog G0 36 #[.agg #[.slice none 0 0,.int .i64 g,.int .i64 bx,.int .i64 tp,.int .i64 nr,.int .i64 md],.agg #[.int .i64 st,.slice none 0 0]] (hpL G0 []) (zaa []) (.ret (.tuple #[spV 0 0,.int .i64 2]) []):=by
 refine zar (B:=200) G0F func36 rfl call36 zcd ?_ (zai (by simp [spV])) (by simp) (by simp) (by simp [ntmps36]) (by omega) ?_
 ·simp [zap,zax,zah,zaj,zaa]
 intro C hC hC0 hY
 have hf:=z9b g bx tp nr md st
 unfold spV at hf
 repeat' first|refine gwZ ?_|((first|refine gwR [66] ?_|refine gwD [66] ?_);intro Q hQ _;(repeat first|simp [hC,hY,zaf]|refine zae hf G0F (B:=200) zcd (λk=>k) (λk hk=>rfl) (by simp [ren,zay,zak,zan,cfV]) (by simp) (by simp) (by simp [zaa]) (by simp [zaa];try rfl) ?_);refine gwq hQ ?_)|fail
 refine ⟨.inr rfl,by simp [results36,spV,zaf],kpS G0F⟩
theorem jhz (g bx tp nr md st:Int):Fun prog G0 23 #[.agg #[.slice none 0 0,.int .i64 g,.int .i64 bx,.int .i64 tp,.int .i64 nr,.int .i64 md],.agg #[.int .i64 st,.slice none 0 0]] (hpL G0 []) (zaa []) (.ret (.tuple #[spV 0 0,.int .i64 2]) []):=by
 refine zar (B:=200) G0F func23 rfl call23 zcd ?_ (zai (by simp [spV])) (by simp) (by simp) (by simp [ntmps23]) (by omega) ?_
 ·simp [zap,zax,zah,zaj,zaa]
 intro C hC hC0 hY
 have hf:=jbq g bx tp nr md st
 unfold spV at hf
 repeat' first|refine gwZ ?_|((first|refine gwR [55] ?_|refine gwD [55] ?_);intro Q hQ _;(repeat first|simp [hC,hY,zaf]|refine zae hf G0F (B:=200) zcd (λk=>k) (λk hk=>rfl) (by simp [ren,zay,zak,zan,cfV]) (by simp) (by simp) (by simp [zaa]) (by simp [zaa];try rfl) ?_);refine gwq hQ ?_)|fail
 refine ⟨.inr rfl,by simp [results23,spV,zaf],kpS G0F⟩
theorem z9c (b:Blk) (off n cap:Nat) (f:Nat->Int) (h:SB b off n f) (g bx tp nr md st:Int):Fun prog G0 66 #[.agg #[.slice none 0 0,.int .i64 g,.int .i64 bx,.int .i64 tp,.int .i64 nr,.int .i64 md],.agg #[.int .i64 st,.slice (some ⟨100,off,none⟩) n cap]] (hpL G0 [(100,b)]) (zaa [(100,b)]) (.ret (.tuple #[spV 0 0,.int .i64 2]) []):=by
 refine zar (B:=200) G0F func66 rfl call66 (zao h.fx) ?_ (zai (by simp [spV])) (by simp) (by simp) (by simp [ntmps66]) (by omega) ?_
 ·simp [zap,zax,zah,zaj,zaa]
 intro C hC hC0 hY
 have hr:=λρ=>Blk.fx_rn h.fx ρ
 have hf:=z3v b off n cap f h g bx tp nr md st
 repeat' first|refine gwZ ?_|((first|refine gwR [94] ?_|refine gwD [94] ?_);intro Q hQ _;(repeat first|simp [hC,hY,zaf]|refine zae hf G0F (B:=200) (zao h.fx) (λk=>k) (λk hk=>rfl) (by simp [ren,zay,zak,zan,cfV]) (by simp) (by simp [hr]) (by simp [zaa]) (by simp [zaa];try rfl) ?_);refine gwq hQ ?_)|fail
 refine ⟨.inr rfl,by simp [results66,spV,zaf],kpS G0F⟩
theorem jbr (b:Blk) (off n cap:Nat) (f:Nat->Int) (h:SB b off n f) (g bx tp nr md st:Int):Fun prog G0 55 #[.agg #[.slice none 0 0,.int .i64 g,.int .i64 bx,.int .i64 tp,.int .i64 nr,.int .i64 md],.agg #[.int .i64 st,.slice (some ⟨100,off,none⟩) n cap]] (hpL G0 [(100,b)]) (zaa [(100,b)]) (.ret (.tuple #[spV 0 0,.int .i64 2]) []):=by
 refine zar (B:=200) G0F func55 rfl call55 (zao h.fx) ?_ (zai (by simp [spV])) (by simp) (by simp) (by simp [ntmps55]) (by omega) ?_
 ·simp [zap,zax,zah,zaj,zaa]
 intro C hC hC0 hY
 have hr:=λρ=>Blk.fx_rn h.fx ρ
 have hf:=z9l b off n cap f h g bx tp nr md st
 repeat' first|refine gwZ ?_|((first|refine gwR [22] ?_|refine gwD [22] ?_);intro Q hQ _;(repeat first|simp [hC,hY,zaf]|refine zae hf G0F (B:=200) (zao h.fx) (λk=>k) (λk hk=>rfl) (by simp [ren,zay,zak,zan,cfV]) (by simp) (by simp [hr]) (by simp [zaa]) (by simp [zaa];try rfl) ?_);refine gwq hQ ?_)|fail
 refine ⟨.inr rfl,by simp [results55,spV,zaf],kpS G0F⟩
theorem je9 (b:Blk) (off n cap:Nat) (f:Nat->Int) (h:SB b off n f) (g bx tp nr md st:Int):Fun prog G0 36 #[.agg #[.slice none 0 0,.int .i64 g,.int .i64 bx,.int .i64 tp,.int .i64 nr,.int .i64 md],.agg #[.int .i64 st,.slice (some ⟨100,off,none⟩) n cap]] (hpL G0 [(100,b)]) (zaa [(100,b)]) (.ret (.tuple #[spV 0 0,.int .i64 2]) []):=by
 refine zar (B:=200) G0F func36 rfl call36 (zao h.fx) ?_ (zai (by simp [spV])) (by simp) (by simp) (by simp [ntmps36]) (by omega) ?_
 ·simp [zap,zax,zah,zaj,zaa]
 intro C hC hC0 hY
 have hr:=λρ=>Blk.fx_rn h.fx ρ
 have hf:=z9c b off n cap f h g bx tp nr md st
 unfold spV at hf
 repeat' first|refine gwZ ?_|((first|refine gwR [66] ?_|refine gwD [66] ?_);intro Q hQ _;(repeat first|simp [hC,hY,zaf]|refine zae hf G0F (B:=200) (zao h.fx) (λk=>k) (λk hk=>rfl) (by simp [ren,zay,zak,zan,cfV]) (by simp) (by simp [hr]) (by simp [zaa]) (by simp [zaa];try rfl) ?_);refine gwq hQ ?_)|fail
 refine ⟨.inr rfl,by simp [results36,spV,zaf],kpS G0F⟩
theorem jh0 (b:Blk) (off n cap:Nat) (f:Nat->Int) (h:SB b off n f) (g bx tp nr md st:Int):Fun prog G0 23 #[.agg #[.slice none 0 0,.int .i64 g,.int .i64 bx,.int .i64 tp,.int .i64 nr,.int .i64 md],.agg #[.int .i64 st,.slice (some ⟨100,off,none⟩) n cap]] (hpL G0 [(100,b)]) (zaa [(100,b)]) (.ret (.tuple #[spV 0 0,.int .i64 2]) []):=by
 refine zar (B:=200) G0F func23 rfl call23 (zao h.fx) ?_ (zai (by simp [spV])) (by simp) (by simp) (by simp [ntmps23]) (by omega) ?_
 ·simp [zap,zax,zah,zaj,zaa]
 intro C hC hC0 hY
 have hr:=λρ=>Blk.fx_rn h.fx ρ
 have hf:=jbr b off n cap f h g bx tp nr md st
 unfold spV at hf
 repeat' first|refine gwZ ?_|((first|refine gwR [55] ?_|refine gwD [55] ?_);intro Q hQ _;(repeat first|simp [hC,hY,zaf]|refine zae hf G0F (B:=200) (zao h.fx) (λk=>k) (λk hk=>rfl) (by simp [ren,zay,zak,zan,cfV]) (by simp) (by simp [hr]) (by simp [zaa]) (by simp [zaa];try rfl) ?_);refine gwq hQ ?_)|fail
 refine ⟨.inr rfl,by simp [results23,spV,zaf],kpS G0F⟩
theorem z9d (b:Blk) (off n cap:Nat) (f:Nat->Int) (h:MB b off n f) (g bx tp nr md st:Int):Fun prog G0 66 #[.agg #[.slice (some ⟨100,off,none⟩) n cap,.int .i64 g,.int .i64 bx,.int .i64 tp,.int .i64 nr,.int .i64 md],.agg #[.int .i64 st,.slice none 0 0]] (hpL G0 [(100,b)]) (zaa [(100,b)]) (.ret (.tuple #[spV 0 0,.int .i64 2]) []):=by
 refine zar (B:=200) G0F func66 rfl call66 (zao h.fx) ?_ (zai (by simp [spV])) (by simp) (by simp) (by simp [ntmps66]) (by omega) ?_
 ·simp [zap,zax,zah,zaj,zaa]
 intro C hC hC0 hY
 have hr:=λρ=>Blk.fx_rn h.fx ρ
 have hf:=z3w b off n cap f h g bx tp nr md st
 repeat' first|refine gwZ ?_|((first|refine gwR [94] ?_|refine gwD [94] ?_);intro Q hQ _;(repeat first|simp [hC,hY,zaf]|refine zae hf G0F (B:=200) (zao h.fx) (λk=>k) (λk hk=>rfl) (by simp [ren,zay,zak,zan,cfV]) (by simp) (by simp [hr]) (by simp [zaa]) (by simp [zaa];try rfl) ?_);refine gwq hQ ?_)|fail
 refine ⟨.inr rfl,by simp [results66,spV,zaf],kpS G0F⟩
theorem jbs (b:Blk) (off n cap:Nat) (f:Nat->Int) (h:MB b off n f) (g bx tp nr md st:Int):Fun prog G0 55 #[.agg #[.slice (some ⟨100,off,none⟩) n cap,.int .i64 g,.int .i64 bx,.int .i64 tp,.int .i64 nr,.int .i64 md],.agg #[.int .i64 st,.slice none 0 0]] (hpL G0 [(100,b)]) (zaa [(100,b)]) (.ret (.tuple #[spV 0 0,.int .i64 2]) []):=by
 refine zar (B:=200) G0F func55 rfl call55 (zao h.fx) ?_ (zai (by simp [spV])) (by simp) (by simp) (by simp [ntmps55]) (by omega) ?_
 ·simp [zap,zax,zah,zaj,zaa]
 intro C hC hC0 hY
 have hr:=λρ=>Blk.fx_rn h.fx ρ
 have hf:=z9m b off n cap f h g bx tp nr md st
 repeat' first|refine gwZ ?_|((first|refine gwR [22] ?_|refine gwD [22] ?_);intro Q hQ _;(repeat first|simp [hC,hY,zaf]|refine zae hf G0F (B:=200) (zao h.fx) (λk=>k) (λk hk=>rfl) (by simp [ren,zay,zak,zan,cfV]) (by simp) (by simp [hr]) (by simp [zaa]) (by simp [zaa];try rfl) ?_);refine gwq hQ ?_)|fail
 refine ⟨.inr rfl,by simp [results55,spV,zaf],kpS G0F⟩
theorem z6m (b:Blk) (off n cap:Nat) (f:Nat->Int) (h:MB b off n f) (g bx tp nr md st:Int):Fun prog G0 36 #[.agg #[.slice (some ⟨100,off,none⟩) n cap,.int .i64 g,.int .i64 bx,.int .i64 tp,.int .i64 nr,.int .i64 md],.agg #[.int .i64 st,.slice none 0 0]] (hpL G0 [(100,b)]) (zaa [(100,b)]) (.ret (.tuple #[spV 0 0,.int .i64 2]) []):=by
 refine zar (B:=200) G0F func36 rfl call36 (zao h.fx) ?_ (zai (by simp [spV])) (by simp) (by simp) (by simp [ntmps36]) (by omega) ?_
 ·simp [zap,zax,zah,zaj,zaa]
 intro C hC hC0 hY
 have hr:=λρ=>Blk.fx_rn h.fx ρ
 have hf:=z9d b off n cap f h g bx tp nr md st
 unfold spV at hf
 repeat' first|refine gwZ ?_|((first|refine gwR [66] ?_|refine gwD [66] ?_);intro Q hQ _;(repeat first|simp [hC,hY,zaf]|refine zae hf G0F (B:=200) (zao h.fx) (λk=>k) (λk hk=>rfl) (by simp [ren,zay,zak,zan,cfV]) (by simp) (by simp [hr]) (by simp [zaa]) (by simp [zaa];try rfl) ?_);refine gwq hQ ?_)|fail
 refine ⟨.inr rfl,by simp [results36,spV,zaf],kpS G0F⟩
theorem jh2 (b:Blk) (off n cap:Nat) (f:Nat->Int) (h:MB b off n f) (g bx tp nr md st:Int):Fun prog G0 23 #[.agg #[.slice (some ⟨100,off,none⟩) n cap,.int .i64 g,.int .i64 bx,.int .i64 tp,.int .i64 nr,.int .i64 md],.agg #[.int .i64 st,.slice none 0 0]] (hpL G0 [(100,b)]) (zaa [(100,b)]) (.ret (.tuple #[spV 0 0,.int .i64 2]) []):=by
 refine zar (B:=200) G0F func23 rfl call23 (zao h.fx) ?_ (zai (by simp [spV])) (by simp) (by simp) (by simp [ntmps23]) (by omega) ?_
 ·simp [zap,zax,zah,zaj,zaa]
 intro C hC hC0 hY
 have hr:=λρ=>Blk.fx_rn h.fx ρ
 have hf:=jbs b off n cap f h g bx tp nr md st
 unfold spV at hf
 repeat' first|refine gwZ ?_|((first|refine gwR [55] ?_|refine gwD [55] ?_);intro Q hQ _;(repeat first|simp [hC,hY,zaf]|refine zae hf G0F (B:=200) (zao h.fx) (λk=>k) (λk hk=>rfl) (by simp [ren,zay,zak,zan,cfV]) (by simp) (by simp [hr]) (by simp [zaa]) (by simp [zaa];try rfl) ?_);refine gwq hQ ?_)|fail
 refine ⟨.inr rfl,by simp [results23,spV,zaf],kpS G0F⟩
theorem zo1 {l:List Value} {T:TypeId} (h:l.all zbf=true):Blk.fx ⟨l.toArray,.ty T⟩:=λx hx=>List.all_eq_true.1 h x (by simpa using hx)
def hkM:Blk:=⟨#[.int .i64 2],.ty 3⟩
def hkA:Blk:=⟨#[.int .i64 0,.int .i64 0,.int .i64 0,.int .i64 1,.int .i64 0,.int .i64 0],.ty 72⟩
def hkB:Blk:=⟨#[.int .i64 0,.int .i64 5,.int .i64 0,.int .i64 0,.int .i64 3,.int .i64 0],.ty 72⟩
def hkm (j:Nat):Int:=2
def hka (j:Nat):Int:=if j=3 then 1 else 0
def hkb (j:Nat):Int:=if j=1 then 5 else if j=4 then 3 else 0
theorem zsy:MB hkM 0 1 hkm:=⟨λj hj=>by
 have:j=0:=by omega
 subst this;rfl,zo1 rfl,λj hj=>(show i64 2 by decide),by omega⟩
theorem six {P:Nat->Prop} (h0:P 0) (h1:P 1) (h2:P 2) (h3:P 3) (h4:P 4) (h5:P 5):∀ j,j<6*1->P j:=λj hj=>by
 have:j=0\/j=1\/j=2\/j=3\/j=4\/j=5:=by omega
 rcases this with rfl|rfl|rfl|rfl|rfl|rfl<;>assumption
theorem zya:SB hkA 0 1 hka:=⟨six (P:=λj=>hkA.c[0+j]? = some (.int .i64 (hka j))) rfl rfl rfl rfl rfl rfl,zo1 rfl,six (P:=λj=>i64 (hka j)) (by decide) (by decide) (by decide) (by decide) (by decide) (by decide),by omega⟩
theorem zyb:SB hkB 0 1 hkb:=⟨six (P:=λj=>hkB.c[0+j]? = some (.int .i64 (hkb j))) rfl rfl rfl rfl rfl rfl,zo1 rfl,six (P:=λj=>i64 (hkb j)) (by decide) (by decide) (by decide) (by decide) (by decide) (by decide),by omega⟩
def hkL:List (Nat×Blk):=[(100,hkM),(108,hkA),(116,hkB)]
theorem zkf:LAny hkL:=by
 have f1:=zsy.fx
 have f2:=zya.fx
 have f3:=zyb.fx
 refine ⟨⟨by simp [hkL],by simp [hkL,zaa],?_⟩,?_⟩
 ·simp only [hkL,List.mem_cons,List.not_mem_nil,or_false,forall_eq_or_imp,forall_eq]
  exact ⟨Blk.fx_ids f1 _,Blk.fx_ids f2 _,Blk.fx_ids f3 _⟩
 ·simp only [hkL,List.mem_cons,List.not_mem_nil,or_false,forall_eq_or_imp,forall_eq]
  exact ⟨f1,f2,f3⟩
theorem jmt:enE 1 1 hkm hka 1 100 10 1 0 0=0:=by decide
theorem jmu:enE 1 1 hkm hkb 1 100 10 1 0 0=0:=by decide
def hkl:Nat->Int:=lsN 8388608 8388608 (-2) 6 0 0 0 0
theorem jrg:lsW 0 0 hkm 1 1 hka hkb=hkl:=by
 unfold lsW
 rw [if_pos ⟨rfl,rfl⟩]
 unfold hkl
 rw [show eLo 0 1 hkm hkb 1 - eHi 0 1 hkm hka 1=8388608 by decide,show eHi 0 1 hkm hkb 1 - eLo 0 1 hkm hka 1=8388608 by decide,show sP hkm hkb 1 0 - sP hkm hka 1 0=-2 by decide,show sP hkm hkb 1 1 - sP hkm hka 1 1=6 by decide,show sP hkm hkb 1 2 - sP hkm hka 1 2=0 by decide,show sL hkm hkb 1 0 - sL hkm hka 1 0=0 by decide,show sL hkm hkb 1 1 - sL hkm hka 1 1=0 by decide,show sL hkm hkb 1 2 - sL hkm hka 1 2=0 by decide]
theorem z9t:Fun prog G0 10 #[cfV (.slice (some ⟨100,0,none⟩) 1 1) 1 100 10 1 0,.agg #[.int .i64 0,.slice (some ⟨108,0,none⟩) 1 1],.agg #[.int .i64 0,.slice (some ⟨116,0,none⟩) 1 1]] (hpL G0 hkL) (zaa hkL) (.ret (.tuple #[zbh hkl,.int .i64 0]) []):=by
 have h:=zyf zkf (ka:=100) (kb:=108) (kc:=116) (by simp [hkL]) (by simp [hkL]) (by simp [hkL]) zsy zya zyb (cap:=1) (capa:=1) (capb:=1) (by omega) (by omega) (by omega) (g:=1) (bx:=100) (tp:=10) (nr:=1) (md:=0) (sta:=0) (stb:=0) (by decide) (by decide)
 rw [jmt,jmu,jrg] at h
 exact h
theorem z9v:Fun prog G0 10 #[cfV (.slice (some ⟨100,0,none⟩) 1 1) 1 100 10 1 0,.agg #[.int .i64 0,.slice none 0 0],.agg #[.int .i64 0,.slice (some ⟨116,0,none⟩) 1 1]] (hpL G0 hkL) (zaa hkL) (.ret (.tuple #[zbh λ_=>0,.int .i64 2]) []):=by
 have h:=(z6m hkM 0 1 1 hkm zsy 1 100 10 1 0 0).mvG (args':=#[cfV (.slice (some ⟨100,0,none⟩) 1 1) 1 100 10 1 0,.agg #[.int .i64 0,.slice none 0 0]]) (zkf.mv1 (ka:=100) (kb:=108) (by simp [hkL])) (by simp [zaa]) (by simp [cfV,ren,zay,zak,zan,Gy.mv2])
 rw [zau (by simp [spV])] at h
 exact zgj zkf (SlI.at (b:=hkM) (by simp [hkL])) SlI.nil (SlI.at (b:=hkB) (by simp [hkL])) (by decide) h
def hkw (i:Nat):Nat->Int:=if i=0 then hkl else λ_=>0
def hkv:Nat->Int
 | 1=>8388608
 | 2=>-2
 | 6=>6
 | _=>0
theorem z60:(zwt ⟨0,λ_=>0⟩ hkw 2).N=2/\∀ c,c<14->(zwt ⟨0,λ_=>0⟩ hkw 2).v c=hkv c:=by decide
theorem z9s:zc8 (zwt ⟨0,λ_=>0⟩ hkw 2)=zbg 2 hkv:=by
 unfold zc8 zbg
 rw [z60.1,zkg z60.2]
theorem zvc:LsOk hkl:=⟨zdf (by decide),zdf (by decide),λc h1 h2=>by
 have:c=2\/c=3\/c=4\/c=5\/c=6\/c=7\/c=8\/c=9\/c=10\/c=11\/c=12\/c=13:=by omega
 rcases this with rfl|rfl|rfl|rfl|rfl|rfl|rfl|rfl|rfl|rfl|rfl|rfl<;>decide,λq hq=>by
 have:q=0\/q=1\/q=2:=by omega
 rcases this with rfl|rfl|rfl<;>decide⟩
theorem z3i:LsOk λ_=>0:=⟨zdf (by decide),zdf (by decide),λc h1 h2=>by decide,λq hq=>⟨rfl,rfl⟩⟩
theorem z6z:HOk 2 hkv:=⟨by decide,λc h1 h2=>by
 have:c=2\/c=3\/c=4\/c=5\/c=6\/c=7\/c=8\/c=9\/c=10\/c=11\/c=12\/c=13:=by omega
 rcases this with rfl|rfl|rfl|rfl|rfl|rfl|rfl|rfl|rfl|rfl|rfl|rfl<;>decide,zdf (by decide),zdf (by decide)⟩
theorem zsz (N:Int) (h:i64 N):HOk N λ_=>0:=⟨h,λc h1 h2=>by decide,zdf (by decide),zdf (by decide)⟩
theorem jmo:zjd ⟨2,hkv⟩ hkl=true:=by decide
theorem jmp:zjd ⟨0,λ_=>0⟩ hkl=false:=by decide
theorem jmq:zhm ⟨2,hkv⟩=true:=by decide
theorem jmr:zhm ⟨0,λ_=>0⟩=true:=by decide
theorem jms:zhm ⟨-1,λ_=>0⟩=false:=by decide
end Go.Gy
