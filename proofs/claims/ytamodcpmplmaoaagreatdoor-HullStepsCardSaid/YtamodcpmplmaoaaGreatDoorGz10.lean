/-
  Lemmas of this claim, in their order (Gy1F, Gy1D, Gy1H, Gy1I, Gy1G, Gy1J, Gy1K, Gy1L, Gy1M, Gy1N, Gy1O, Gy1P).
  Conditions: those of each theorem.
-/
import Derived.Test.YtamodcpmplmaoaaGreatDoorGz09
set_option linter.unusedSimpArgs false
set_option linter.unusedVariables false
set_option maxRecDepth 8000
set_option maxHeartbeats 16000000
namespace Go.Gy
open Go Go.RowKit Go.Proofs Go.Proofs.Tryz
theorem nA {p:Prop} (h:p:=by simp [results117,ren,aW,aw,aF,bH]):p:=h
theorem xa {p:Prop} (h:p:=by simp [results139,ren,aW,aw,aF,bH]):p:=h
theorem sg {p:Prop} (h:p:=by rw [zf h k hk];omega):p:=h
theorem ny {p:Prop} (h:p:=by simp [gp]):p:=h
theorem tt {p:Prop} (h:p:=by
 intro v ns hV k hk;rw [zf hV k hk];omega):p:=h
theorem aa5 {p:Prop} (h:p:=by
 unfold cfV at dD;refine gj ?_;refine On (Gy.k4 hA hS cW gu) ?_;refine cv (f:=.func 139) (cap:=#[]) hC dD rfl zS rfl rfl aS aq zS aZ aq jB cF ?_ ?_
 ·intro v ns hV k hk;rw [zf hV k hk];omega
 rintro v ns ⟨F,E,⟨w,⟨c9,M9,g9,x9,y9,z9,rfl,rfl⟩,rfl⟩,Tl,hE⟩;refine Rl trivial ?_;refine cu ?_;have Qw:=λρ=>Blk.fx_rn hm.fx ρ;by_cases e0:E=0
 ·have Xq:SB ⟨fa M9 .i64 g9,.ty 72⟩ 0 n F:=A6 y9 z9 Tl zO;have Q2:=λρ=>Blk.fx_rn Xq.fx ρ;have abp:=OT (L:=[(100,bm),(108,⟨fa M9 .i64 g9,.ty 72⟩)]) (ka:=100) (ks:=108) ⟨(LTwo.two (G:=G0) hm.fx Xq.fx).any,zS,zS⟩ off n cap 0 c9 fm F hm Xq g bx tp nr md st eM;have hFE:=hE e0;subst e0;unfold cfV at abp
  cases oL:(aY st F n&&BK bx tp F n) with
  | true =>
   rw [oL] at abp
   repeat' first|refine cT ?_|((first|refine gwR [137] ?_|refine gwD [137] ?_);intro Q hQ _;(repeat first|simp [hC,hY,cJ,bH,hA,hS,cW,gu]|refine aE abp G0F (B:=200) (LTwo.two (G:=G0) hm.fx Xq.fx).ok (λk=>if k=100 then ka else if k=108 then 464 else k) (λk hk=>by rw [ae zO,ae zO]) aN zS (by simp [Qw,Q2,hA,gu,hka,bH]) sH ax ?_);refine dq hQ ?_)|fail
   refine ⟨.inr trivial,Aj G0F,_,_,λk=>if k=1000 then 464 else k,⟨F,0,⟨_,⟨c9,M9,g9,x9,y9,z9,rfl,rfl⟩,rfl⟩,Tl,λ_=>⟨(Bool.and_eq_true_iff.1 oL).1,⟨k1,k4,q0⟩,hFE⟩⟩,λk hk=>ae zO,zS,zS,nA,?_⟩;simp [jH,bH]
  | false =>
   rw [oL] at abp
   repeat' first|refine cT ?_|((first|refine gwR [137] ?_|refine gwD [137] ?_);intro Q hQ _;(repeat first|simp [hC,hY,cJ,bH,hA,hS,cW,gu]|refine aE abp G0F (B:=200) (LTwo.two (G:=G0) hm.fx Xq.fx).ok (λk=>if k=100 then ka else if k=108 then 464 else k) (λk hk=>by rw [ae zO,ae zO]) aN zS (by simp [Qw,Q2,hA,gu,hka,bH]) sH ax ?_);refine dq hQ ?_)|fail
   have aac:=kG ks 592 zO zO zO bs au n av fs fO fL st;refine gj ?_;refine qM (Gy.k4 hA hS cW gu) ?_;refine cv (f:=.func 92) (cap:=#[]) hC aac rfl zS rfl rfl aS aq zS aZ aq gQ cF ?_ ?_
   ·exact EX
   rintro v ns ⟨c9,M9,g9,x9,y9,z9,rfl,rfl⟩;refine By trivial ?_;refine cu ?_
   repeat' first|refine cT ?_|refine Bz ?_|fail
   refine ⟨.inr trivial,Aj G0F,_,_,λk=>if k=1000 then 592 else k,⟨fs,180,⟨_,⟨c9,M9,g9,x9,y9,z9,rfl,rfl⟩,rfl⟩,fO.i6,λe=>ir⟩,λk hk=>ae zO,zS,zS,nA,?_⟩;simp [jH,bH]
 ·have pO:(E != 0)=true:=by simpa using e0
  repeat' first|refine cT ?_|(refine iy ?_;intro Q hQ _;simp [hC,hY,cJ,bH,e0,pO,hA,hS,cW,gu];refine dq hQ ?_)|fail
  have aac:=kG ks 592 zO zO zO bs au n av fs fO fL st;refine gj ?_;refine qM (Gy.k4 hA hS cW gu) ?_;refine cv (f:=.func 92) (cap:=#[]) hC aac rfl zS rfl rfl aS aq zS aZ aq gQ cF ?_ ?_
  ·exact EX
  rintro v ns ⟨c9,M9,g9,x9,y9,z9,rfl,rfl⟩;refine By trivial ?_;refine cu ?_
  repeat' first|refine cT ?_|refine Bz ?_|fail
  refine ⟨.inr trivial,Aj G0F,_,_,λk=>if k=1000 then 592 else k,⟨fs,180,⟨_,⟨c9,M9,g9,x9,y9,z9,rfl,rfl⟩,rfl⟩,fO.i6,λe=>ir⟩,λk hk=>ae zO,zS,zS,nA,?_⟩;simp [jH,bH]):p:=h
def opB (k p q:Int):Bool:=decide (1<=k/\k<4/\-2097152<=p/\p<=2097152/\1<=q/\q<=2097152)
theorem PK (k p q:Int):Ret prog G0 136 #[.agg #[.int .u8 k,.int .i64 p,.int .i64 q]] (.bool (opB k p q)):=by
 refine aU G0F func136 rfl call136 zS zS (by simp [ntmps136]) ?_;intro C hC bA hY;by_cases a0:1<=k;rotate_left
 ·rw [show opB k p q=false from aR zO];refine cA a0 ?_;exact eR results136
 by_cases a1:k<4;rotate_left
 ·rw [show opB k p q=false from aR zO];refine cA (k2 a0 a1) ?_;exact eR results136
 by_cases a2:-2097152<=p;rotate_left
 ·rw [show opB k p q=false from aR zO];refine cA (k3 a0 a1 a2) ?_;exact eR results136
 by_cases a3:p<=2097152;rotate_left
 ·rw [show opB k p q=false from aR zO];refine cA (Gy.k4 a0 a1 a2 a3) ?_;exact eR results136
 by_cases a4:1<=q;rotate_left
 ·rw [show opB k p q=false from aR zO];refine cA (k5 a0 a1 a2 a3 a4) ?_;exact eR results136
 rw [show opB k p q=decide (q<=2097152) by unfold opB;congr 1;simp only [jv];omega];refine cA (k5 a0 a1 a2 a3 a4) ?_;exact eR results136
theorem ads (k p q:Int) (K:fQ):bl prog G0 136 #[.agg #[.int .u8 k,.int .i64 p,.int .i64 q]] K↔K (.bool (opB k p q)):=ar G0W ah (PK k p q)
theorem OT {L:cf} {ka ks:Nat} {bm bs:Blk} (hT:L3 L ka ks bm bs) (off n cap au av:Nat) (fm fs:aJ) (hm:MB bm off n fm) (fO:SB bs au n fs) (g bx tp nr md st:Int) (eM:fk n fm g bx tp nr md=true) :
  Fun prog G0 137 #[cfV (.slice (some ⟨ka,off,none⟩) n cap) g bx tp nr md,.agg #[.int .i64 st,.slice (some ⟨ks,au,none⟩) n av]] (hpL G0 L) (ak L) (.ret (.bool (aY st fs n&&BK bx tp fs n)) []):=by
 refine cg (B:=200) G0F func137 rfl call137 hT.ok ?_ zS zS zS (by simp [ntmps137]) zO ?_
 ·exact Si
 intro C hC bA hY;have hA:=hT.a;have hS:=hT.s;have cW:=hT.ne;have gu:=hT.na;have jj:=hT.low;have pV:=hT.k1;have n6:=hT.k2;have hka:=hT.a1;have Je:=hT.a2;have Su:=λρ=>Blk.fx_rn fO.fx ρ;obtain ⟨QP,ht9,_⟩:=tK eM;have eI:=AJ hT (cap:=cap) (av:=av) hm fO g bx tp nr md st;rw [eM] at eI;have hw:=Qa bs au n av fs fO st bx tp zO zO
 cases hr:aY st fs n with
 | false =>
  have e:oB n n true false=false:=by unfold oB;simp
  rw [hr,e] at eI;unfold cfV at eI |-
  repeat' first|refine cT ?_|((first|refine gwR [22] ?_|refine gwD [22] ?_);intro Q hQ _;(repeat first|simp [hC,hY,hA,hS,cW,gu]|refine cV eI hT.ok fS ?_);refine dq hQ ?_)|fail
  exact eT results137
 | true =>
  have e:oB n n true true=true:=by unfold oB;simp
  rw [hr,e] at eI;unfold cfV at eI |-
  repeat' first|refine cT ?_|((first|refine gwR [22,85] ?_|refine gwD [22,85] ?_);intro Q hQ _;(repeat first|simp [hC,hY,hA,hS,cW,gu]|refine cV eI hT.ok fS ?_|refine aE hw G0F (B:=200) (aT fO.fx) (λk=>if k=100 then ks else k) (λk hk=>ae zO) aN zS nF ai ax ?_);refine dq hQ ?_)|fail
  exact eT results137
theorem afv {st:Int} {f:aJ} {n:Nat} {p q:Int} (hf:∀ j,j<6*n->i64 (f j)) {j:Nat} (hj:j<6*n):i64 (drF st f n p q j):=by
 by_cases hE:drE st f n p q=0
 ·rw [aam hE]
  have eM:okB f p q (j / 6)=true:=by
   unfold drE at hE;split at hE
   ·split at hE
    ·rename_i h;exact IV.1 h _ zO
    ·cases hE
   ·cases hE
  unfold okB at eM;obtain ⟨a0,a1,a2⟩:=AX.1 eM;unfold inW at a0 a1 a2;unfold mvF;split
  ·rename_i hm;have hc:j%6=0\/j%6=1\/j%6=2:=zO;have hd:6*(j / 6)+j%6=j:=zO;rcases hc with e|e|e
   ·rw [e] at hd |-;rw [du] at hd;rw [hd] at a0;exact QM
   ·rw [e] at hd |-;rw [hd] at a1;exact QM
   ·rw [e] at hd |-;rw [hd] at a2;exact QM
  ·exact hf j hj
 ·unfold drF;rw [ae hE];exact hf j hj
theorem afw {b:Blk} {off n cap:Nat} {f:aJ} (h:SB b off n f) (eK:n<=cap) {st p q:Int} (g:Int) (fm:aJ) (hs:i64 st) (c0:aY st f n=true) (c1:iC p q=true) :
  FunS prog G0 157 #[.agg #[.int .i64 st,.slice (some ⟨100,off,none⟩) n cap],.int .i64 p,.int .i64 q] (hpL G0 [(100,b)]) (ak [(100,b)]) (OpR 1000 st n λF=>Eq6 n F (opF 1 p q g fm n f)):=by
 obtain ⟨p0,p1,q0,q1⟩:=Ih c1;refine (N7 b off n cap f h eK st p q hs ⟨zO,zO⟩ ⟨zO,zO⟩).impL (aT h.fx) uL λv ns hV=>⟨_,_,hV,λj hj=>afv h.i6 hj,λe j hj=>?_⟩
 rw [aam e];unfold mvF opF;rw [ag rfl];by_cases c:j%6<3
 ·rw [ag c,ag c,LH c0 c1 zO c,(zO:6*(j / 6)+3+j%6=j+3)]
 ·rw [ae c,ae c]
theorem aml {b:Blk} {off n cap:Nat} {f:aJ} (h:SB b off n f) (eK:n<=cap) {st p q:Int} (g:Int) (fm:aJ) (hs:i64 st) (c0:aY st f n=true) (c1:iC p q=true) :
  FunS prog G0 159 #[.agg #[.int .i64 st,.slice (some ⟨100,off,none⟩) n cap],.int .i64 p,.int .i64 q] (hpL G0 [(100,b)]) (ak [(100,b)]) (OpR 1000 st n λF=>Eq6 n F (opF 3 p q g fm n f)):=by
 obtain ⟨p0,p1,q0,q1⟩:=Ih c1;refine (TP b off n cap f h eK st p q hs ⟨zO,zO⟩ ⟨zO,zO⟩ c0 c1).impL (aT h.fx) uL ?_;rintro v ns ⟨F,E,h1,h2,h3⟩;refine ⟨F,E,h1,h2,λe j hj=>(h3 e j hj).trans ?_⟩;simp [opF,lfF]
theorem acU {fn:FuncId} {b:Blk} {off n cap:Nat} {st p q:Int} {T:(Nat->Int)->Prop} (hb:b.fx) (ks nk:Nat) (pV:100<=ks) (rY:ks<nk)
  (h:FunS prog G0 fn #[.agg #[.int .i64 st,.slice (some ⟨100,off,none⟩) n cap],.int .i64 p,.int .i64 q] (hpL G0 [(100,b)]) (ak [(100,b)]) (OpR 1000 st n T)) :
  FunS prog G0 fn #[.agg #[.int .i64 st,.slice (some ⟨ks,off,none⟩) n cap],.int .i64 p,.int .i64 q] (hpL G0 [(ks,b)]) [ks] (OpR nk st n T) :=
 h.own2 hb ks nk pV zO zO (λv ns=>zf) sD (wK JT st n T)
theorem IU {L:cf} {ka ks:Nat} {bm bs:Blk} (hT:L3 L ka ks bm bs) (off n cap au av:Nat) (fm fs:aJ) (hm:MB bm off n fm) (fO:SB bs au n fs) (fL:n<=av) (g bx tp nr md st:Int) (hs:i64 st) (k p q:Int) (eM:fk n fm g bx tp nr md=true) (jh:aY st fs n=true) (hk:k=1\/k=2\/k=3) (hp:iC p q=true) (Ac:k=2->HW fs n=false) :
  FunS prog G0 139 #[cfV (.slice (some ⟨ka,off,none⟩) n cap) g bx tp nr md,.agg #[.int .i64 st,.slice (some ⟨ks,au,none⟩) n av],.agg #[.int .u8 k,.int .i64 p,.int .i64 q]] (hpL G0 L) (ak L) (OpR 1000 st n λF=>Eq6 n F (opF k p q g fm n fs)):=by
 refine eW (B:=200) G0F func139 rfl call139 hT.ok ?_ uL (by simp [ntmps139]) zO ?_
 ·exact Si
 intro C hC bA hY;have hA:=hT.a;have hS:=hT.s;have cW:=hT.ne;have gu:=hT.na;have jj:=hT.low;have pV:=hT.k1;have n6:=hT.k2;have hka:=hT.a1;have Je:=hT.a2;unfold cfV;rcases hk with rfl|rfl|rfl
 ·have dK:=acU fO.fx ks 312 pV zO (afw fO fL g fm hs jh hp)
  repeat' first|refine cT ?_|refine Bz ?_|fail
  refine gj ?_;refine Y6 (Gy.k4 hA hS cW gu) ?_;refine cv (f:=.func 157) (cap:=#[]) hC dK rfl zS rfl rfl aS aq zS aZ aq gQ cF ?_ ?_
  ·exact tt
  rintro v ns ⟨F,E,⟨w,⟨c9,M9,g9,x9,y9,z9,rfl,rfl⟩,rfl⟩,Tl,hE⟩;refine Sf trivial ?_;refine cu ?_
  repeat' first|refine cT ?_|refine Bz ?_|fail
  refine ⟨.inr trivial,Aj G0F,_,_,λk=>if k=1000 then 312 else k,⟨F,E,⟨_,⟨c9,M9,g9,x9,y9,z9,rfl,rfl⟩,rfl⟩,Tl,hE⟩,λk hk=>ae zO,zS,zS,xa,?_⟩;exact Ra
 ·have dK:=(agz hT (cap:=cap) hm fO fL hs (p:=p) (q:=q) eM jh hp (Ac rfl)).sh hT.any 336 zO (λv ns h k hk=>sg) sU (wK (show shK 336 1000=336 from rfl) st n _);unfold cfV at dK
  repeat' first|refine cT ?_|refine Bz ?_|fail
  refine gj ?_;refine Rl (Gy.k4 hA hS cW gu) ?_;refine cv (f:=.func 158) (cap:=#[]) hC dK rfl zS rfl rfl aS aq zS aZ aq jB cF ?_ ?_
  ·exact tt
  rintro v ns ⟨F,E,⟨w,⟨c9,M9,g9,x9,y9,z9,rfl,rfl⟩,rfl⟩,Tl,hE⟩;refine Sf trivial ?_;refine cu ?_
  repeat' first|refine cT ?_|refine Bz ?_|fail
  refine ⟨.inr trivial,Aj G0F,_,_,λk=>if k=1000 then 336 else k,⟨F,E,⟨_,⟨c9,M9,g9,x9,y9,z9,rfl,rfl⟩,rfl⟩,Tl,hE⟩,λk hk=>ae zO,zS,zS,xa,?_⟩;exact Ra
 ·have dK:=acU fO.fx ks 328 pV zO (aml fO fL g fm hs jh hp)
  repeat' first|refine cT ?_|refine Bz ?_|fail
  refine gj ?_;refine Y6 (Gy.k4 hA hS cW gu) ?_;refine cv (f:=.func 159) (cap:=#[]) hC dK rfl zS rfl rfl aS aq zS aZ aq gQ cF ?_ ?_
  ·exact tt
  rintro v ns ⟨F,E,⟨w,⟨c9,M9,g9,x9,y9,z9,rfl,rfl⟩,rfl⟩,Tl,hE⟩;refine Sf trivial ?_;refine cu ?_
  repeat' first|refine cT ?_|refine Bz ?_|fail
  refine ⟨.inr trivial,Aj G0F,_,_,λk=>if k=1000 then 328 else k,⟨F,E,⟨_,⟨c9,M9,g9,x9,y9,z9,rfl,rfl⟩,rfl⟩,Tl,hE⟩,λk hk=>ae zO,zS,zS,xa,?_⟩;exact Ra
def OpT (bx tp g:Int) (fm:aJ) (st:Int) (n:Nat) (k p q:Int) (fs F:aJ):Prop:=aY st F n=true/\(1<=k/\k<4/\1<=q)/\Eq6 n F (opF k p q g fm n fs)
theorem acR {L:cf} {ka ks:Nat} {bm bs:Blk} (hT:L3 L ka ks bm bs) (off n cap au av:Nat) (fm fs:aJ) (hm:MB bm off n fm) (fO:SB bs au n fs) (eK:n<=cap) (fL:n<=av) (g bx tp nr md st:Int) (hs:i64 st) (k p q:Int) (eM:fk n fm g bx tp nr md=true) (jh:aY st fs n=true) :
  FunS prog G0 117 #[cfV (.slice (some ⟨ka,off,none⟩) n cap) g bx tp nr md,.agg #[.int .i64 st,.slice (some ⟨ks,au,none⟩) n av],.agg #[.int .u8 k,.int .i64 p,.int .i64 q]] (hpL G0 L) (ak L) (OpR 1000 st n (OpT bx tp g fm st n k p q fs)):=by
 refine eW (B:=200) G0F func117 rfl call117 hT.ok ?_ uL (by simp [ntmps117]) zO ?_
 ·exact Si
 intro C hC bA hY;have hA:=hT.a;have hS:=hT.s;have cW:=hT.ne;have gu:=hT.na;have jj:=hT.low;have pV:=hT.k1;have n6:=hT.k2;have hka:=hT.a1;have Je:=hT.a2;have Lj:=(ji jh).2.1;have eI:=AJ hT (cap:=cap) (av:=av) hm fO g bx tp nr md st;rw [eM,jh,show oB n n true true=true by unfold oB;simp] at eI;have ew:=OT hT off n cap au av fm fs hm fO g bx tp nr md st eM;rw [jh,jq] at ew;have hR:=ads k p q;unfold cfV at eI ew |-
 cases iT:opB k p q with
 | false =>
  repeat' first|refine cT ?_|((first|refine gwR [22] ?_|refine gwD [22] ?_);intro Q hQ _;(repeat first|simp [hC,hY,hR,iT,hA,hS,cW,gu]|refine cV eI hT.ok fS ?_);refine dq hQ ?_)|fail
  have apY:=kG ks 328 zO zO zO bs au n av fs fO fL st;refine gj ?_;refine qM (Gy.k4 hA hS cW gu) ?_;refine cv (f:=.func 92) (cap:=#[]) hC apY rfl zS rfl rfl aS aq zS aZ aq gQ cF ?_ ?_
  ·exact EX
  rintro v ns ⟨c9,M9,g9,x9,y9,z9,rfl,rfl⟩;refine By trivial ?_;refine cu ?_
  repeat' first|refine cT ?_|refine Bz ?_|fail
  refine ⟨.inr trivial,Aj G0F,_,_,λk=>if k=1000 then 328 else k,⟨fs,2,⟨_,⟨c9,M9,g9,x9,y9,z9,rfl,rfl⟩,rfl⟩,fO.i6,λe=>ir⟩,λk hk=>ae zO,zS,zS,nA,?_⟩;exact Ra
 | true =>
  obtain ⟨k1,k4,p0,p1,q0,q1⟩:=gF (show decide _=true from iT);have Zi:iC p q=true:=bg ⟨p0,p1,q0,q1⟩
  cases hbt:BK bx tp fs n with
  | false =>
   rw [hbt] at ew
   repeat' first|refine cT ?_|((first|refine gwR [22,137] ?_|refine gwD [22,137] ?_);intro Q hQ _;(repeat first|simp [hC,hY,hR,iT,hA,hS,cW,gu]|refine cV eI hT.ok fS ?_|refine cV ew hT.ok fS ?_);refine dq hQ ?_)|fail
   have aab:=kG ks 368 zO zO zO bs au n av fs fO fL st;refine gj ?_;refine qM (Gy.k4 hA hS cW gu) ?_;refine cv (f:=.func 92) (cap:=#[]) hC aab rfl zS rfl rfl aS aq zS aZ aq gQ cF ?_ ?_
   ·exact EX
   rintro v ns ⟨c9,M9,g9,x9,y9,z9,rfl,rfl⟩;refine By trivial ?_;refine cu ?_
   repeat' first|refine cT ?_|refine Bz ?_|fail
   refine ⟨.inr trivial,Aj G0F,_,_,λk=>if k=1000 then 368 else k,⟨fs,180,⟨_,⟨c9,M9,g9,x9,y9,z9,rfl,rfl⟩,rfl⟩,fO.i6,λe=>ir⟩,λk hk=>ae zO,zS,zS,nA,?_⟩;exact Ra
  | true =>
   rw [hbt] at ew;have key:(k=2->HW fs n=false)->∀ (b3:Bool),True:=λ_ _=>trivial;by_cases qx:k=2
   ·subst qx;have dC:=N3 hT off n cap au av fm fs hm fO g bx tp nr md st eM jh;unfold cfV at dC
    repeat' first|refine cT ?_|((first|refine gwR [22,137] ?_|refine gwD [22,137] ?_);intro Q hQ _;(repeat first|simp [hC,hY,hR,iT,hA,hS,cW,gu]|refine cV eI hT.ok fS ?_|refine cV ew hT.ok fS ?_);refine dq hQ ?_)|fail
    refine gj ?_;refine Rl (Gy.k4 hA hS cW gu) ?_;refine apv ny ?_;refine cv (f:=.func 138) (cap:=#[]) hC dC rfl zS rfl rfl aS aq zS aZ aq jB cF ?_ ?_
    ·rintro v ns ⟨e,_,rfl,_⟩ k hk;cases hk
    rintro v ns ⟨e,rfl,rfl,he⟩;by_cases e0:e=0
    ·subst e0;have Ac:(2:Int)=2->HW fs n=false:=λ_=>he rfl;refine On trivial ?_;refine cu ?_
     repeat' first|refine cT ?_|(refine iy ?_;intro Q hQ _;simp [hC,hY,cJ,bH,hA,hS,cW,gu];refine dq hQ ?_)|fail
     have dD:=(IU hT off n cap au av fm fs hm fO fL g bx tp nr md st hs 2 p q eM jh zO Zi Ac).sh hT.any 464 zO (λv ns h k hk=>sg) sU (wK (show shK 464 1000=464 from rfl) st n _);exact aa5
    ·have pO:(e != 0)=true:=by simpa using e0
     refine On (k2 e0 pO) ?_;refine cu ?_
     repeat' first|refine cT ?_|(refine iy ?_;intro Q hQ _;simp [hC,hY,cJ,bH,e0,pO,hA,hS,cW,gu];refine dq hQ ?_)|fail
     have ap0:=kG ks 448 zO zO zO bs au n av fs fO fL st;refine gj ?_;refine qM (Gy.k4 hA hS cW gu) ?_;refine cv (f:=.func 92) (cap:=#[]) hC ap0 rfl zS rfl rfl aS aq zS aZ aq gQ cF ?_ ?_
     ·exact EX
     rintro v ns ⟨c9,M9,g9,x9,y9,z9,rfl,rfl⟩;refine By trivial ?_;refine cu ?_
     repeat' first|refine cT ?_|refine Bz ?_|fail
     refine ⟨.inr trivial,Aj G0F,_,_,λk=>if k=1000 then 448 else k,⟨fs,130,⟨_,⟨c9,M9,g9,x9,y9,z9,rfl,rfl⟩,rfl⟩,fO.i6,λe=>ir⟩,λk hk=>ae zO,zS,zS,nA,?_⟩;exact Ra
   ·have Ac:k=2->HW fs n=false:=λe=>absurd e qx;have Tt:(k==2)=false:=by simpa using qx
    repeat' first|refine cT ?_|((first|refine gwR [22,137] ?_|refine gwD [22,137] ?_);intro Q hQ _;(repeat first|simp [hC,hY,hR,iT,qx,Tt,hA,hS,cW,gu]|refine cV eI hT.ok fS ?_|refine cV ew hT.ok fS ?_);refine dq hQ ?_)|fail
    have dD:=(IU hT off n cap au av fm fs hm fO fL g bx tp nr md st hs k p q eM jh zO Zi Ac).sh hT.any 464 zO (λv ns h k hk=>sg) sU (wK (show shK 464 1000=464 from rfl) st n _);exact aa5
theorem GN {p:Prop} (h:p:=by
 rw [hi] at h;simp only at h
 cases hz:i.zero with
 | none=>rw [hz] at h;cases h
 | some z =>
  rw [hz] at h;simp only [bn,db,dt] at h;exact ⟨i,z,rfl,hz,h.1.1,h.1.2.1,h.1.2.2,h.2⟩):p:=h
abbrev vO := @Go.Obj.cells.injEq
section
variable {P:Program} {C:Ctx} {n:Nat} {d:List Deferred} {ro:Option Nat} {yc:Nat}
theorem acj {r:dR} {l:List Value} (h:∀ x∈l,bU x=true):l.map (aw r)=l:=by
 have:l.map (aw r)=l.map id:=gK λx hx=>fY (h x hx);rw [this,List.map_id]
theorem LN {r:dR} {ts:fp} {hp:Hp} {a:Act} {W:World} {mn:Nat} {o:Oper} {tx ty:Tmp} {t e e2:TypeId} {i:TypeInfo} {z:Value} {q:qE} {j au sl cap m m' nk:Nat} {bc c2:ca} {nw:List Value} {next:Act->World->Prop} {Q:Exit->Act->World->Prop}
  (h:RI C n d r ts hp yc a W) (hd:∀ dd,o.dst=some dd->dd<n)
  (ho:o.op=.call { callee:=.builtin .append,args:=#[.tmp tx,.tmp ty],argTypes:=#[t,t] }) (ht:P.underlying t=some (.slice e)) (hi:P.info? e=some i) (hz:i.zero=some z)
  (hx:ts tx=.slice q sl cap) (hq:(q=none/\sl=0/\cap=0/\bc=#[])\/∃ k,q=some ⟨k,0,none⟩/\100<=k/\hp k=some ⟨bc,.ty e⟩)
  (hy:ts ty=.slice (some ⟨j,au,none⟩) m m') (oL:hp j=some ⟨c2,.ty e2⟩) (Ei:nw.length=m*i.size) (H6:∀ q u,nw[q]? = some u->c2[au+q]? = some u) (h1:∀ u∈nw,∀ r,(aw r u).oneCell'=true) (vr:∀ c,∀ x∈Builtin.zeroCells z.cells c,bU x=true)
  (hm:0<m) (hc:cap*i.size=bc.size) (MQ:sl<=cap) (HU:sl+m<=maxLen) (nU:(sl+m)*i.bytes<=140737488355328) (rY:hp nk=none/\100<=nk) (Fv:z.cells.size=i.size)
  (post:∀ (k' cM:Nat) (rest:List Value),(q=some ⟨k',0,none⟩\/k'=nk)->100<=k'->(∀ x∈rest,x∈bc\/bU x=true)->sl+m<=cM->sl*i.size+m*i.size+rest.length=cM*i.size->∀ r' a' W',RI C n d r' (cJ ts o.dst (.slice (some ⟨k',0,none⟩) (sl+m) cM)) (upd hp k' (some ⟨(bc.toList.take (sl*i.size)++nw++rest).toArray,.ty e⟩)) yc a' W'->next a' W') :
  o.wpIn (Fw P ro) mn P a W next Q:=by
 have arG:∀ x∈nw,aI (dom hp) x:=λx hx=>by
  obtain ⟨q,hq⟩:=List.mem_iff_getElem?.1 hx;exact (h.sat j _ oL).2 x (kW (H6 q x hq))
 have hn:∀ q u,(nw.map (aw r))[q]? = some u->W.cell? ((⟨r j,au,none⟩:Addr).add q)=some u:=λq u hq=>by
  rw [gG] at hq
  cases hv:nw[q]? with
  | none=>rw [hv] at hq;cases hq
  | some v =>
   rw [hv] at hq;simp only [g5,bf] at hq;subst hq;rw [mL];have hs:=(h.sat j _ oL).1;simp [World.cell?,hs,Blk.obj,j0,H6 q v hv]
 have ey:a.eval (.tmp ty)=.slice (some ⟨r j,au,none⟩) m m':=by
  exact Fj
 have ho1:∀ u∈nw.map (aw r),u.oneCell'=true:=λu hu=>by
  obtain ⟨v,hv,rfl⟩:=aK.1 hu;exact h1 v hv r
 have KI:(nw.map (aw r)).length=m*i.size:=by rw [mW];exact Ei
 have B4:¬dom hp nk:=by unfold dom;simp [rY.1]
 have Ku:∀ q,dom hp q->upd r nk W.heap.size q=r q:=λq hq=>ao _ _ (λe=>B4 (e▸hq))
 have hbi:∀ x∈bc,aI (dom hp) x:=by
  rcases hq with ⟨_,_,_,rfl⟩|⟨k,_,_,hb⟩
  ·exact λx hx=>absurd hx zS
  ·exact (h.sat k _ hb).2
 -- a new row
 have grow:∀ cM:Nat,sl+m<=cM->next (a.put o.dst (.slice (some ⟨W.heap.size,0,none⟩) (sl+m) cM)) (W.drew.alloc (.cells ((((bc.toList.take (sl*i.size)).map (aw r)).toArray++(nw.map (aw r)).toArray)++Builtin.zeroCells z.cells (cM - (sl+m))) e)):=λcM eK=>by
  have hv:(Value.slice (some ⟨W.heap.size,0,none⟩) (sl+m) cM)=ren (upd r nk W.heap.size) (.slice (some ⟨nk,0,none⟩) (sl+m) cM):=xA;rw [hv]
  have iJ:∀ x∈bc.toList.take (sl*i.size)++nw++(Builtin.zeroCells z.cells (cM - (sl+m))).toList,aI (dom hp) x:=λx hx=>by
   simp only [bh] at hx;rcases hx with (hx|hx)|hx
   ·exact hbi x (by simpa using mH hx)
   ·exact arG x hx
   ·exact jm (vr _ x (by simpa using hx))
  refine post nk cM (Builtin.zeroCells z.cells (cM - (sl+m))).toList (.inr rfl) rY.2 (λx hx=>.inr (vr _ x cG)) eK ?_ (upd r nk W.heap.size) _ _
   (h.drew.after (e:=⟨.slice (some ⟨nk,0,none⟩) (sl+m) cM,[],[],[(nk,⟨_,.ty e⟩)],none,false⟩) hd Ku gb ⟨rfl,rfl,rfl,sF,λq hq _=>?_,λp hp1=>?_,λp hp1=>?_,by simp⟩ ai (by simp [ak,rY]))
  ·rw [Array.length_toList,Io,Fv,<-rK,<-rK];congr 1;omega
  ·exact rG _ _ _ hq
  ·simp only [bq,br] at hp1;subst hp1;refine ⟨?_,λx hx=>iz (λk hk=>.inl hk) (iJ x cG)⟩;show (W.drew.alloc _).heap[upd r nk W.heap.size nk]? = _;rw [cY];refine (heap_alloc_new W.drew _).trans ?_;unfold Blk.obj;simp only [bf,vO,and_true];rw [gH]
   have e1:(bc.toList.take (sl*i.size)++nw++(Builtin.zeroCells z.cells (cM - (sl+m))).toList).map (aw (upd r nk W.heap.size))=(bc.toList.take (sl*i.size)).map (aw r)++nw.map (aw r)++(Builtin.zeroCells z.cells (cM - (sl+m))).toList:=by
    rw [gK λx hx=>qQ Ku (iJ x hx),kO,kO,acj (l:=(Builtin.zeroCells z.cells (cM - (sl+m))).toList) λx hx=>vr _ x cG]
   rw [e1];simp
  ·exact Ht
 rcases hq with ⟨rfl,rfl,rfl,rfl⟩|⟨k,rfl,hk,hb⟩
 ·have ex:a.eval (.tmp tx)=.slice none 0 0:=by
   exact yu
  refine lz lC (LU (R:=λu W'=>next (a.put o.dst u) W') (Rp:=λ_ _=>False) ho ht hi hz ex ey KI hn hm zO (by simpa using nU) (λcM eK=>?_)) (λu W' h=>h) (λpv W' h=>h.elim);have:=grow cM zO;exact Rh
 ·have ex:a.eval (.tmp tx)=.slice (some ⟨r k,0,none⟩) sl cap:=by
   exact yu
  have hg:W.heap[r k]? = some (.cells (bc.map (aw r)) e (0,0)):=(h.sat k _ hb).1;have Zd:dom hp k:=iv;refine lz lC (CY (R:=λu W'=>next (a.put o.dst u) W') (Rp:=λ_ _=>False) ho ht hi hz ex hg ey KI hn (by rw [vZ];omega) MQ HU nU ho1 (λhr=>?_) (λhr cM eK=>?_)) (λu W' h=>h) (λpv W' h=>h.elim)
  ·have iJ:∀ x∈bc.toList.take (sl*i.size)++nw++bc.toList.drop (sl*i.size+nw.length),aI (dom hp) x:=λx hx=>by
    simp only [bh] at hx;rcases hx with (hx|hx)|hx
    ·exact hbi x (by simpa using mH hx)
    ·exact arG x hx
    ·exact hbi x (by simpa using mJ hx)
   refine post k cap (bc.toList.drop (sl*i.size+nw.length)) (.inl rfl) hk (λx hx=>.inl (by simpa using mJ hx)) hr ?_ r _ _ (h.after (e:=⟨.slice (some ⟨k,0,none⟩) (sl+m) cap,[],[(k,⟨_,.ty e⟩)],[],none,false⟩) hd (λ_ _=>rfl) (by simp [aL,cQ,aI,aP,eo,Zd]) ⟨rfl,rfl,rfl,zS,λq hq hnq=>?_,λp hp1=>?_,zS,zS⟩ (by simp [ak,Zd,hk]) ai)
   ·have h2:=vG i.size hr;rw [rK] at h2;rw [List.length_drop,Array.length_toList,Ei,<-hc];omega
   ·exact aaV
   ·simp only [eP,br] at hp1;subst hp1;refine ⟨?_,λx hx=>iz (λk hk=>.inl hk) (iJ x cG)⟩;rw [setRow_heap W (r k) _ _ e (0,0) hg];unfold Blk.obj;simp only [bf,vO,and_true];rw [gH];simp [List.map_take,List.map_drop]
  ·have:=grow cM eK;rw [j9,<-List.map_take];exact this
end
def opC (k p q:aJ) (j:Nat):Value:=if j%3=0 then .int .u8 (k (j / 3)) else if j%3=1 then .int .i64 (p (j / 3)) else .int .i64 (q (j / 3))
structure OA (A:ca) (c m:Nat) (k p q:aJ):Prop where
 sz:A.size=3*c
 fl:∀ x∈A,bU x=true
 rd:∀ j,j<3*m->A[j]? = some (opC k p q j)
 le:m<=c
theorem OA.zero:OA #[] 0 0 (λ_=>0) (λ_=>0) (λ_=>0):=⟨rfl,zS,λj hj=>zO,aA _⟩
theorem OA.fx {A:ca} {c m:Nat} {k p q:aJ} (h:OA A c m k p q) {T:TypeId}:Blk.fx ⟨A,.ty T⟩:=h.fl
def qf (m:Nat) (f h:aJ) (j:Nat):Int:=if j<m then f j else h (j - m)
theorem ahb {m:Nat} {k p q k2 p2 q2:aJ} (j:Nat):opC (qf m k k2) (qf m p p2) (qf m q q2) j=if j<3*m then opC k p q j else opC k2 p2 q2 (j - 3*m):=by
 unfold opC qf;by_cases c:j<3*m
 ·rw [ag c];simp only [ag (zO:j / 3<m)]
 ·rw [ae c];simp only [ae (zO:¬j / 3<m),(zO:(j - 3*m) / 3=j / 3 - m),(zO:(j - 3*m)%3=j%3)]
theorem OA.app {A:ca} {c c' m m2:Nat} {k p q k2 p2 q2:aJ} (h:OA A c m k p q) {nw rest:List Value} (hn:nw=(fv (3*m2) (opC k2 p2 q2)).toList) (hr:∀ x∈rest,x∈A\/bU x=true) (hle:m+m2<=c') (hs:m*3+m2*3+rest.length=c'*3) :
  OA (A.toList.take (m*3)++nw++rest).toArray c' (m+m2) (qf m k k2) (qf m p p2) (qf m q q2):=by
 have hl:A.toList.length=3*c:=by simp [h.sz]
 have h1:=h.le;have dp:(A.toList.take (m*3)).length=3*m:=by rw [Cs,hl];omega
 have hln:nw.length=3*m2:=by rw [hn];simp
 refine ⟨by simp only [rR,rf,dp,hln];omega,λx hx=>?_,λj hj=>?_,hle⟩
 ·simp only [eZ,bh] at hx;rcases hx with (hx|hx)|hx
  ·exact h.fl x (by simpa using mH hx)
  ·rw [hn] at hx;obtain ⟨q,_,rfl⟩:=BV cG;unfold opC;split<;>(try split)<;>rfl
  ·exact (hr x hx).elim (h.fl x) id
 ·rw [js,ahb];by_cases c1:j<3*m
  ·rw [ag c1,gE,ig zO,fI,ag zO,iP];exact h.rd j c1
  ·rw [ae c1,gE,g8 zO,dp,ig zO,hn,iP,z8 _ _ zO]
theorem anL:∃ i z,prog.info? 128=some i/\i.zero=some z/\i.size=3/\i.bytes=24/\z.cells.size=3/\∀ x∈z.cells,bU x=true:=by
 have h:(match prog.info? 128 with
  | some i=>(match i.zero with
   | some z=>decide (i.size=3/\i.bytes=24/\z.cells.size=3)&&z.cells.all bU
   | none=>false)
  | none=>false)=true:=ah
 cases hi:prog.info? 128 with
 | none=>rw [hi] at h;cases h
 | some i =>
  exact GN
def OD (hp:Hp) (v:Value) (A:ca) (c m:Nat):Prop:=(v=.slice none 0 0/\m=0/\c=0/\A=#[])\/∃ k,v=.slice (some ⟨k,0,none⟩) m c/\100<=k/\hp k=some ⟨A,.ty 128⟩
section
variable {C:Ctx} {n:Nat} {d:List Deferred} {ro:Option Nat} {K:l6}
theorem LO {r:dR} {ts:fp} {hp:Hp} {yc:Nat} {a:Act} {W:World} {mn:Nat} {o:Oper} {tx ty:Tmp} {nk m c m2 j c2:Nat} {A B:ca} {k p q k2 p2 q2:aJ} {next:Act->World->Prop} {Q:Exit->Act->World->Prop}
  (h:RI C n d r ts hp yc a W) (hd:∀ dd,o.dst=some dd->dd<n) (ho:o.op=.call { callee:=.builtin .append,args:=#[.tmp tx,.tmp ty],argTypes:=#[102,102] })
  (hx:OD hp (ts tx) A c m) (hA:OA A c m k p q) (hy:ts ty=.slice (some ⟨j,0,none⟩) m2 c2) (oL:hp j=some ⟨B,.ty 128⟩) (hB:OA B c2 m2 k2 p2 q2) (hm:0<m2) (hs:m+m2<=1000) (rY:hp nk=none/\100<=nk)
  (post:∀ k' c' A',(k'=nk\/∃ c,ts tx=.slice (some ⟨k',0,none⟩) m c)->100<=k'->OA A' c' (m+m2) (qf m k k2) (qf m p p2) (qf m q q2)->∀ r' a' W',RI C n d r' (cJ ts o.dst (.slice (some ⟨k',0,none⟩) (m+m2) c')) (upd hp k' (some ⟨A',.ty 128⟩)) yc a' W'->next a' W') :
  o.wpIn (Fw prog ro) mn prog a W next Q:=by
 obtain ⟨i,z,hi,hz,VA,aw0,Fv,vr⟩:=anL
 obtain ⟨sl,R6,hq⟩:∃ sl,ts tx=.slice sl m c/\((sl=none/\m=0/\c=0/\A=#[])\/∃ k,sl=some ⟨k,0,none⟩/\100<=k/\hp k=some ⟨A,.ty 128⟩):=by
  rcases hx with ⟨h1,rfl,rfl,rfl⟩|⟨k,h1,h2,h3⟩
  ·exact ⟨_,h1,.inl ⟨rfl,rfl,rfl,rfl⟩⟩
  ·exact ⟨_,h1,.inr ⟨k,rfl,h2,h3⟩⟩
 have H6:((fv (3*m2) (opC k2 p2 q2)).toList).length=m2*i.size:=by rw [VA];simp;omega
 refine LN (z:=z) (nw:=(fv (3*m2) (opC k2 p2 q2)).toList) h hd ho underlying102 hi hz R6 hq hy oL H6 (λq u hq=>by
  have:(fv (3*m2) (opC k2 p2 q2)).toList[q]? = some u:=hq;rw [iP] at this;by_cases hN:q<3*m2
  ·rw [z8 _ _ hN] at this;rw [cD,hB.rd q hN];exact this
  ·rw [Vo _ _ zO] at this;cases this) (λu hu r=>by
  obtain ⟨q,_,rfl⟩:=BV (by simpa using hu);unfold opC;split<;>(try split)<;>rfl) (λc x hx=>vr x (yW hx)) hm (by rw [VA,hA.sz];omega) hA.le (by simp only [maxLen];omega) (by rw [aw0];omega) rY (by rw [VA,Fv]) (λk' cM rest jR nZ AT eK ago r' a' W' cS=>?_)
 rw [VA] at ago cS;refine post k' cM _ ?_ nZ (hA.app rfl AT eK ago) r' a' W' cS;rcases jR with e|e
 ·exact .inr ⟨c,by rw [R6,e]⟩
 ·exact .inl e
theorem UW {ops:Array Oper} {o:Oper} {post:og} {base i:Nat} {ts:fp} {hp:Hp} {yc:Nat} {tx ty:Tmp} {m c m2 j c2:Nat} {A B:ca} {k p q k2 p2 q2:aJ} (hg:o.guard=none) (hd:∀ dd,o.dst=some dd->dd<n)
  (ho:o.op=.call { callee:=.builtin .append,args:=#[.tmp tx,.tmp ty],argTypes:=#[102,102] })
  (hx:OD hp (ts tx) A c m) (hA:OA A c m k p q) (hy:ts ty=.slice (some ⟨j,0,none⟩) m2 c2) (oL:hp j=some ⟨B,.ty 128⟩) (hB:OA B c2 m2 k2 p2 q2) (hm:0<m2) (hs:m+m2<=1000)
  (h:∀ k' c' A',(k'=base+8*i\/∃ c,ts tx=.slice (some ⟨k',0,none⟩) m c)->100<=k'->OA A' c' (m+m2) (qf m k k2) (qf m p p2) (qf m q q2)->GL prog C n d ro ops base (i+1) post (cJ ts o.dst (.slice (some ⟨k',0,none⟩) (m+m2) c')) (upd hp k' (some ⟨A',.ty 128⟩)) yc K):GL prog C n d ro ops base i (o::post) ts hp yc K:=by
 intro r a W Sm hf hbb hG hR;refine wpListIn_plain hg λK' MG=>?_;refine LO Sm hd ho hx hA hy oL hB hm hs (nk:=base+8*i) ⟨hf _ (aA _),zO⟩ (λk' c' A' jR nZ hA' r' a' W' cS=>MG _ _ (h k' c' A' jR nZ hA' r' a' W' cS (λx Jl=>?_) hbb hG hR));unfold upd;split
 ·rename_i e;rcases jR with e2|⟨c0,e2⟩
  ·omega
  ·rcases hx with ⟨h1,_⟩|⟨k0,h1,h2,h3⟩
   ·rw [h1] at e2;cases e2
   ·rw [h1] at e2;simp only [Value.slice.injEq,bf,Addr.mk.injEq,and_true] at e2;have:=hf x zO;rw [e,<-e2.1,h3] at this;cases this
 ·exact hf x zO
theorem UY {ops:Array Oper} {o:Oper} {base i fuel:Nat} {listed:Array Bool} {ts:fp} {hp:Hp} {yc:Nat} {tx ty:Tmp} {m c m2 j c2:Nat} {A B:ca} {k p q k2 p2 q2:aJ} (RE:ops[i]? = some o) (hi:listed[i]? = some false) (hg:gp ops o ts=some true) (hd:∀ dd,o.dst=some dd->dd<n)
  (ho:o.op=.call { callee:=.builtin .append,args:=#[.tmp tx,.tmp ty],argTypes:=#[102,102] })
  (hx:OD hp (ts tx) A c m) (hA:OA A c m k p q) (hy:ts ty=.slice (some ⟨j,0,none⟩) m2 c2) (oL:hp j=some ⟨B,.ty 128⟩) (hB:OA B c2 m2 k2 p2 q2) (hm:0<m2) (hs:m+m2<=1000)
  (h:∀ k' c' A',(k'=base+8*i\/∃ c,ts tx=.slice (some ⟨k',0,none⟩) m c)->100<=k'->OA A' c' (m+m2) (qf m k k2) (qf m p p2) (qf m q q2)->GA prog C n d ro ops base fuel (listed.setIfInBounds i true) (cJ ts o.dst (.slice (some ⟨k',0,none⟩) (m+m2) c')) (upd hp k' (some ⟨A',.ty 128⟩)) yc K):GO prog C n d ro ops base fuel listed i ts hp yc K:=by
 intro r a W Sm CP hbb hG hR;unfold wpOpIn;rw [RE];simp only;rw [mB Sm.rel hg];simp only [aV];refine LO Sm hd ho hx hA hy oL hB hm hs (nk:=base+8*i) ⟨CP.at' i hi _ (aA _) zO,zO⟩ (λk' c' A' jR nZ hA' r' a' W' cS=>h k' c' A' jR nZ hA' r' a' W' cS (CP.after (aO.1 RE).1 λx Jl kp=>?_) hbb hG hR);unfold upd;split
 ·rename_i e;rcases jR with e2|⟨c0,e2⟩
  ·exact absurd ⟨zO,zO⟩ kp
  ·rcases hx with ⟨h1,_⟩|⟨k0,h1,h2,h3⟩
   ·rw [h1] at e2;cases e2
   ·rw [h1] at e2;simp only [Value.slice.injEq,bf,Addr.mk.injEq,and_true] at e2;rw [e,<-e2.1,h3] at Jl;cases Jl
 ·exact Jl
end
theorem anM:∃ i z,prog.info? 27=some i/\i.zero=some z/\i.size=2/\i.bytes=32/\z.cells.size=2/\∀ x∈z.cells,bU x=true:=by
 have h:(match prog.info? 27 with
  | some i=>(match i.zero with
   | some z=>decide (i.size=2/\i.bytes=32/\z.cells.size=2)&&z.cells.all bU
   | none=>false)
  | none=>false)=true:=ah
 cases hi:prog.info? 27 with
 | none=>rw [hi] at h;cases h
 | some i =>
  exact GN
section
variable {C:Ctx} {n:Nat} {d:List Deferred} {ro:Option Nat} {K:l6}
theorem aeK {ops:Array Oper} {o:Oper} {post:og} {base i:Nat} {ts:fp} {hp:Hp} {yc:Nat} {tx ty:Tmp} {m c j k0:Nat} {A:ca} {x0 x1:Value} (hg:o.guard=none) (hd:∀ dd,o.dst=some dd->dd<n)
  (ho:o.op=.call { callee:=.builtin .append,args:=#[.tmp tx,.tmp ty],argTypes:=#[69,69] })
  (hx:ts tx=.slice (some ⟨k0,0,none⟩) m c) (Vu:100<=k0) (hb:hp k0=some ⟨A,.ty 27⟩) (Ag:A.size=2*c) (hle:m<=c) (hs:m+1<=1000) (hy:ts ty=.slice (some ⟨j,0,none⟩) 1 1) (oL:hp j=some ⟨#[x0,x1],.ty 27⟩) (h1:∀ r,(aw r x0).oneCell'=true/\(aw r x1).oneCell'=true)
  (h:∀ (k' c':Nat) (A':ca),(k'=k0\/k'=base+8*i)->A'.size=2*c'->m+1<=c'->A'[2*m]? = some x0->A'[2*m+1]? = some x1->(∀ x∈A',x∈A\/x=x0\/x=x1\/bU x=true)->GL prog C n d ro ops base (i+1) post (cJ ts o.dst (.slice (some ⟨k',0,none⟩) (m+1) c')) (upd hp k' (some ⟨A',.ty 27⟩)) yc K):GL prog C n d ro ops base i (o::post) ts hp yc K:=by
 intro r a W Sm hf hbb hG hR;obtain ⟨ti,z,hi,hz,nU,aw1,Fv,vr⟩:=anM;refine wpListIn_plain hg λK' MG=>?_
 refine LN (z:=z) (nw:=[x0,x1]) (nk:=base+8*i) Sm hd ho underlying69 hi hz hx (.inr ⟨k0,rfl,Vu,hb⟩) hy oL (by rw [nU];rfl) (λq u hq=>by rw [cD];simpa using hq) (λu hu r=>by
  simp only [aj,az,ay] at hu;rcases hu with rfl|rfl
  ·exact (h1 r).1
  ·exact (h1 r).2) (λc x hx=>vr x (yW hx)) zO (by rw [nU,Ag];omega) hle (by simp only [maxLen];omega) (by rw [aw1];omega) ⟨hf _ (aA _),zO⟩ (by rw [nU,Fv]) (λk' cM rest jR nZ AT eK ago r' a' W' cS=>?_)
 rw [nU] at ago cS;have hl:A.toList.length=2*c:=by simp [Ag]
 have dp:(A.toList.take (m*2)).length=2*m:=by rw [Cs,hl];omega
 have DR:k'=k0\/k'=base+8*i:=by
  rcases jR with e|e
  ·simp only [bf,Addr.mk.injEq,and_true] at e;exact .inl e.symm
  ·exact .inr e
 refine MG _ _ (h k' cM _ DR ?_ eK ?_ ?_ (λx hx=>?_) r' a' W' cS (λx Jl=>?_) hbb hG hR)
 ·simp only [rR,rf,dp,fH,j6];omega
 ·rw [js,gE,g8 zO,dp];simp
 ·rw [js,gE,g8 zO,dp,(zO:2*m+1 - 2*m=1)];simp
 ·simp only [eZ,bh,aj,az,ay] at hx;rcases hx with (hx|hx|hx)|hx
  ·exact .inl (by simpa using mH hx)
  ·exact .inr (.inl hx)
  ·exact .inr (.inr (.inl hx))
  ·exact (AT x hx).imp id λe=>.inr (.inr e)
 ·unfold upd;split
  ·rename_i e;rcases DR with e2|e2
   ·have:=hf x zO;rw [e,e2,hb] at this;cases this
   ·omega
  ·exact hf x zO
end
theorem xE {p:Prop} (h:p:=by simp only [jv,iff_false];omega):p:=h
theorem pH {p:Prop} (h:p:=by rw [hρ];rfl):p:=h
theorem ik {p:Prop} (h:p:=by simp [hA,hS,cW,gu,axA,R1]):p:=h
theorem GZ {p:Prop} (h:p:=by
 refine ⟨⟨λx hx=>?_,?_,λx hx=>Blk.fx_ids (vq x hx) _⟩,vq⟩
 ·rcases bh.1 hx with h|h
  ·have:=ll x h;omega
  ·exact h0.ok.big x h
 ·have e:ak (LL++L0)=ak LL++ak L0:=by simp [ak]
  rw [e];refine CA.2 ⟨nd,h0.ok.one,λa ha b hb=>?_⟩;obtain ⟨x,hx,rfl⟩:=aC.1 ha;obtain ⟨y,hy,rfl⟩:=aC.1 hb;have:=ll x hx;have:=h1 y hy;omega):p:=h
theorem DW {p:Prop} (h:p:=by
 intro k hk;simp (disch:=omega) only [ao,bH,bV,eH,ae,hT.low]):p:=h
theorem FB {p:Prop} (h:p:=by
 intro p hp;have hb:=hT.ok.big p hp;simp (disch:=omega) only [ao,bH,bV,eH,ae];exact hT.mem p hp):p:=h
theorem G6 {p:Prop} (h:p:=by
 obtain ⟨x,hx,rfl⟩:=aC.1 hk;exact ⟨(hJ.ll x hx).1,(hJ.ll x hx).2.1⟩):p:=h
theorem sY {p:Prop} (h:p:=by
 have:=(aO.1 hi).1;rw [UE] at this;simpa using this):p:=h
abbrev rI := @List.append_eq
def pzN:List (Nat×Nat):=[(0,22),(1,23),(2,24),(3,25),(4,26),(5,27),(6,28),(7,21),(8,29),(9,30),(10,10),(12,11)]
def pzX:List (Nat×Nat):=[(6,480),(10,512),(11,512)]
def pzD:List (Nat×Nat):=[(11,10),(7,6),(8,6),(9,6),(11,6),(12,6)]
def pzV (L:cf) (ka off n cap:Nat) (g bx tp nr md st:Int) (Ak nT nQ ko m cO i c:Nat) (AO A:ca) (k0 p0 q0:Int) (fm F:aJ) (c9:Nat) (M9:Nat) (g9:aJ) (E9:Int):Nat->Value
 | 0=>.agg #[.slice (some ⟨ka,off,none⟩) n cap,.int .i64 g,.int .i64 bx,.int .i64 tp,.int .i64 nr,.int .i64 md]
 | 1=>.agg #[.int .i64 st,.slice (some ⟨Ak,nT,none⟩) n nQ]
 | 2=>.slice (some ⟨ko,0,none⟩) m cO
 | 3=>.int .i64 i
 | 4=>.pointer (some ⟨ko,i*3,none⟩)
 | 5=>.agg #[.int .u8 k0,.int .i64 p0,.int .i64 q0]
 | 6=>.tuple #[.agg #[.int .i64 st,.slice (some ⟨480,0,none⟩) n c9],.int .i64 E9]
 | 7=>.tuple #[.agg #[.int .i64 st,.slice (some ⟨480,0,none⟩) n c9],.int .i64 E9]
 | 8=>.agg #[.int .i64 st,.slice (some ⟨480,0,none⟩) n c9]
 | 9=>.int .i64 E9
 | 10=>.pointer (some ⟨512,0,none⟩)
 | 12=>.int .i64 E9
 | _=>.bool true
def amV (L:cf) (ka off n cap:Nat) (g bx tp nr md st:Int) (Ak nT nQ ko m cO i c:Nat) (AO A:ca) (k0 p0 q0:Int) (fm F:aJ) (c9:Nat) (M9:Nat) (g9:aJ) (E9:Int):Nat->Blk
 | 6=>⟨fa M9 .i64 g9,.ty 72⟩
 | 10=>⟨#[.int .i64 0,.slice none 0 0],.ty 27⟩
 | 11=>⟨#[.int .i64 st,.slice (some ⟨480,0,none⟩) n c9],.ty 27⟩
 | _=>⟨#[],.mp⟩
structure pzF (L:cf) (ka off n cap:Nat) (g bx tp nr md st:Int) (Ak nT nQ ko m cO i c:Nat) (AO A:ca) (k0 p0 q0:Int) (fm F:aJ) (jK:fp) (hp0:Hp):Prop where
 e2:jK 2=.slice (some ⟨ko,0,none⟩) m cO
 e3:jK 3=.pointer (some ⟨200,0,none⟩)
 e4:jK 4=.pointer (some ⟨208,0,none⟩)
 e6:jK 6=.slice none 0 0
 e7:jK 7=.int .i64 0
 e8:jK 8=.slice (some ⟨216,0,none⟩) (i+1) c
 e9:jK 9=.int .i64 i
 b200:hp0 200=some (⟨#[.slice (some ⟨ka,off,none⟩) n cap,.int .i64 g,.int .i64 bx,.int .i64 tp,.int .i64 nr,.int .i64 md],.ty 24⟩)
 b208:hp0 208=some (⟨#[.int .i64 st,.slice (some ⟨Ak,nT,none⟩) n nQ],.ty 27⟩)
 b216:hp0 216=some (⟨A,.ty 27⟩)
 bko:hp0 ko=some (⟨AO,.ty 128⟩)
 low:∀ k,k<100->hp0 k=G0 k
 bL:∀ p∈L,hp0 p.1=some p.2
theorem Uc:(pzN.map Prod.fst).Nodup:=dZ
theorem Ud:(pzN.map Prod.snd).Nodup:=dZ
theorem amW:(pzX.map Prod.fst).Nodup:=dZ
theorem JS:∀ k,k<200->k∉pzX.map Prod.snd:=λk hk=>by simp [pzX];try omega

theorem rn_id (b:Blk):b.rn (λk=>k)=b:=by
 obtain ⟨c,T⟩:=b
 have:c.map (aw λk=>k)=c:=by
  have e:(aw λk=>k)=id:=funext λv=>uR v;rw [e,Array.map_id]
 cases T<;>simp [Blk.rn,this]
theorem adp {ρ:dR} {D:iH} (h:∀ k,D k->ρ k=k) {x:Value} (hx:aI D x):aw ρ x=x:=(qQ (r:=λk=>k) (r':=ρ) h hx).trans (uR x)
theorem WeakR.refl {C:Ctx} {ρ:dR} {s s':GS} (h:WeakR C ρ s s'):Weak C s' s' :=
 ⟨λt=>(h.ts t).imp (λx=>x) λx=>⟨rfl,x.2.2⟩,λ_ _=>.inr rfl,h.ids,λ_ _ _=>rfl,h.glob,rfl,h.free,h.low⟩
theorem SA {P:Program} {C:Ctx} {n:Nat} {d:List Deferred} {ro:Option Nat} {s s':GS} {K:l6} {ρ:dR} {c:Code} (hw:WeakR C ρ s s') (h:Weak C s' s'->GW P C n d ro c s' K):GW P C n d ro c s K:=KU hw (h hw.refl)
structure PtI (L0:cf) (n:Nat) (st g:Int) (fm:aJ) (k p q:aJ) (fs:aJ) (i c:Nat) (A:ca) (LL:cf) (Ak nT nQ:Nat) (bi:Blk) (kl cl Ml:Nat) (gl F:aJ):Prop where
 ll:∀ x∈LL,150<=x.1/\x.1<=150+i/\x.2.fx
 nd:(ak LL).Nodup
 sb:(Ak,bi)∈LL++L0
 hS:SB bi nT n F
 cp:n<=nQ
 rt:aY st F n=true
 sz:A.size=2*c
 le:i+1<=c
 id:∀ x∈A,aI (λk=>k∈ak LL) x
 a0:A[2*i]? = some (.int .i64 st)
 a1:A[2*i+1]? = some (.slice (some ⟨kl,0,none⟩) n cl)
 kl:(kl,⟨fa Ml .i64 gl,.ty 72⟩)∈LL
 c1:n<=cl
 c2:6*n<=Ml
 c3:∀ j,j<6*n->gl j=F j
 eq:Eq6 n F (paF k p q g fm n fs i)
 qs:∀ j,j<i->0<q j
def ZE (L0:cf) (n:Nat) (st g:Int) (fm:aJ) (m:Nat) (k p q:aJ) (fs:aJ) (v:Value) (ns:cf):Prop :=
 ∃ i c A LL Ak nT nQ bi kl cl Ml gl F E,PtI L0 n st g fm k p q fs i c A LL Ak nT nQ bi kl cl Ml gl F/\i<=m/\(E=0->i=m)/\v=.tuple #[.slice (some ⟨216,0,none⟩) (i+1) c,.int .i64 E]/\ns=(216,⟨A,.ty 27⟩)::LL
theorem T0 {ns:cf} (h:(ak ns).Nodup):∀ k b c,(k,b)∈ns->(k,c)∈ns->b=c:=λk b c h1 h2=>by
 have e1:=LOk.at (G:=λ_=>none) h _ h1;have e2:=LOk.at (G:=λ_=>none) h _ h2;simp only at e1 e2;rw [e1] at e2;exact lj e2
theorem Ce {D:iH} {L0:cf} {n m:Nat} {st g:Int} {fm k p q fs:aJ} (hm:m<=45) (v:Value) (ns:cf) (h:ZE L0 n st g fm m k p q fs v ns):aL (eo D ns) v/\(∀ p∈ns,150<=p.1/\p.2.ids (eo D ns))/\(∀ k b c,(k,b)∈ns->(k,c)∈ns->b=c):=by
 obtain ⟨i,c,A,LL,Ak,nT,nQ,bi,kl,cl,Ml,gl,F,E,hI,zM,_,rfl,rfl⟩:=h;refine ⟨gb,λx hx=>?_,T0 ?_⟩
 ·rcases aj.1 hx with rfl|hx
  ·exact ⟨zO,λy hy=>iz (λk hk=>.inr (by simp only [ak,bI,aj];exact .inr hk)) (hI.id y hy)⟩
  ·have:=hI.ll x hx;exact ⟨this.1,Blk.fx_ids this.2.2 _⟩
 ·simp only [ak,bI,fu];refine ⟨λhm=>?_,hI.nd⟩;obtain ⟨x,hx,e⟩:=aK.1 hm;have:=hI.ll x hx;omega
theorem adN {i t:Nat} (h:i<t) (ht:t<=45):Int.bmod ((i:Int)+1) 18446744073709551616=((i+1:Nat):Int):=by
 rw [bm zO zO]
 rfl
def Ua (L:cf) (ka off n cap:Nat) (g bx tp nr md st:Int) (Ak nT nQ ko m cO i c:Nat) (A:ca):GS :=
 ⟨tsL [(2,.slice (some ⟨ko,0,none⟩) m cO),(3,.pointer (some ⟨200,0,none⟩)),(4,.pointer (some ⟨208,0,none⟩)),(6,.slice none 0 0),(7,.int .i64 0),(8,.slice (some ⟨216,0,none⟩) (i+1) c),(9,.int .i64 i)],
 hpL G0 ([(200,cfB (.slice (some ⟨ka,off,none⟩) n cap) g bx tp nr md),(208,cE st Ak nT n nQ),(216,⟨A,.ty 27⟩)]++L),400,0⟩
theorem asD {AO:ca} {cO m i:Nat} {k p q:aJ} (h:OA AO cO m k p q) (hi:i<m):fB prog 128 ⟨AO,.ty 128⟩ (i*3)=some (.agg #[.int .u8 (k i),.int .i64 (p i),.int .i64 (q i)]):=by
 have hr:rdV ⟨AO,.ty 128⟩ 0 (3*m) (opC k p q):=λj hj=>by rw [cD];exact h.rd j hj
 have:=ajf (P:=prog) (T:=128) (m:=3) (j:=i*3) (cr isAgg128) (aG sizeOf128) zO hr zO (λq _=>by unfold opC;split<;>(try split)<;>rfl);rw [cD] at this;rw [this];refine congrArg (λa=>some (Value.agg a)) (I2 (A:=#[.int .u8 (k i),.int .i64 (p i),.int .i64 (q i)]) rfl λj hj=>?_).symm;have hj:j<3:=hj;obtain rfl|rfl|rfl:j=0\/j=1\/j=2:=zO
 ·simp [opC]
 ·unfold opC;rw [ae zO,ag zO,(zO:(i*3+1) / 3=i)]
  rfl
 ·unfold opC;rw [ae zO,ae zO,(zO:(i*3+2) / 3=i)]
  rfl
theorem asQ {L0 LL:cf} {i:Nat} (h0:LAny L0) (h1:∀ x∈L0,x.1<150) (ll:∀ x∈LL,150<=x.1/\x.1<=150+i/\x.2.fx) (nd:(ak LL).Nodup) (hi:i<=45):LAny (LL++L0):=by
 have vq:∀ x∈LL++L0,x.2.fx:=λx hx=>(bh.1 hx).elim (λh=>(ll x h).2.2) (h0.fx x);exact GZ
theorem T7 {L0:cf} {ka ks:Nat} {bm bs:Blk} (jI:L3 L0 ka ks bm bs) (wx:∀ x∈L0,x.1<150) (off n cap au av:Nat) (fm fs:aJ) (hm:MB bm off n fm) (fO:SB bs au n fs) (eK:n<=cap) (fL:n<=av) (g bx tp nr md st:Int) (hs:i64 st) (eM:fk n fm g bx tp nr md=true) (jh:aY st fs n=true)
  (ko m cO:Nat) (AO:ca) (k p q:aJ) (Qt:(ko,⟨AO,.ty 128⟩)∈L0) (hO:OA AO cO m k p q) (KK:m<=45) :
  FunS prog G0 93 #[cfV (.slice (some ⟨ka,off,none⟩) n cap) g bx tp nr md,.agg #[.int .i64 st,.slice (some ⟨ks,au,none⟩) n av],.slice (some ⟨ko,0,none⟩) m cO] (hpL G0 L0) (ak L0) (ZE L0 n st g fm m k p q fs):=by
 have axP:LOk L0 150:=⟨λx hx=>⟨(jI.ok.big x hx).1,wx x hx⟩,jI.ok.one,jI.ok.ids⟩
 have af8:ko∈ak L0:=aC.2 ⟨_,Qt,rfl⟩;refine eW (B:=150) G0F func93 rfl call93 axP ?_ (Ce KK) (by simp [ntmps93]) zO ?_
 ·simp [aL,cQ,aI,aP,jI.ia,jI.ib,cfV,af8]
 intro C hC bA hY;have alu:ko<150:=wx _ Qt;have axB:100<=ko:=(jI.ok.big _ Qt).1
 have fin:∀ {ts:fp} {hp:Hp} {i c:Nat} {A:ca} {LL:cf} {Ak nT nQ:Nat} {bi:Blk} {kl cl Ml:Nat} {gl F:aJ} {E:Int},PtI L0 n st g fm k p q fs i c A LL Ak nT nQ bi kl cl Ml gl F->i<=m->(E=0->i=m)->hp 216=some ⟨A,.ty 27⟩->(∀ x∈LL++L0,hp x.1=some x.2)->(∀ k,k<100->hp k=G0 k) ->
   tB prog f93.results.toList ts hp=some (.tuple #[.slice (some ⟨216,0,none⟩) (i+1) c,.int .i64 E])->(Exit.ret=Exit.normal\/True)/\(∀ k,dom (hpL G0 L0) k->hp k=hpL G0 L0 k) /\
    ∃ v ns ρ,ZE L0 n st g fm m k p q fs v ns/\(∀ k,k<150->ρ k=k)/\(∀ p∈ns,150<=ρ p.1)/\(∀ p∈ns,∀ q∈ns,ρ p.1=ρ q.1->p.1=q.1)/\tB prog f93.results.toList ts hp=some (ren ρ v)/\∀ p∈ns,hp (ρ p.1)=some (p.2.rn ρ):=λ{ts hp i c A LL Ak nT nQ bi kl cl Ml gl F E} hI zM hE awJ hL bC Ae=>by
  refine ⟨.inr trivial,fU G0F (λx hx=>(hL x (fh _ hx)).trans (jI.mem x hx).symm) (λk hk=>(bC k hk).trans (jI.low k hk).symm),_,_,λk=>k,⟨i,c,A,LL,Ak,nT,nQ,bi,kl,cl,Ml,gl,F,E,hI,zM,hE,rfl,rfl⟩,λ_ _=>rfl,λx hx=>?_,λ_ _ _ _ e=>e,?_,λx hx=>?_⟩
  ·rcases aj.1 hx with rfl|hx
   ·exact Nat.le_of_ble_eq_true rfl
   ·exact (hI.ll x hx).1
  ·rw [Ae];simp [ren,aW,aw,aF]
  ·rw [rn_id];rcases aj.1 hx with rfl|hx
   ·exact awJ
   ·exact hL x (eE _ hx)
 have hA:=jI.a;have hS:=jI.s;have pV:=jI.k1;have n6:ks<150:=wx _ jI.kb;have hka:=jI.a1;have Je:ka<150:=wx _ jI.am;have jj:=jI.low;have cW:∀ k,150<=k->(ks=k)=False:=λk hk=>xE;have gu:∀ k,150<=k->(ka=k)=False:=λk hk=>xE;unfold cfV
 repeat' first|refine cT ?_|refine Bz ?_|fail
 have dO:=kG ks 190 zO zO zO bs au n av fs fO fL st;refine gj ?_;refine qM (Gy.k4 hA hS cW gu) ?_;refine cv (f:=.func 92) (cap:=#[]) hC dO rfl zS rfl rfl aS aq zS aZ aq gQ cF ?_ ?_
 ·exact EX
 rintro v ns ⟨c9,M9,g9,x9,y9,z9,rfl,rfl⟩;refine By trivial ?_;refine cu ?_
 repeat' first|refine cT ?_|(refine iy ?_;intro Q hQ _;simp [hC,hY,cJ,bH,hA,hS,cW,gu];refine dq hQ ?_)|fail
 have hI0:PtI L0 n st g fm k p q fs 0 1 #[.int .i64 st,.slice (some ⟨150,0,none⟩) n c9] [(150,⟨fa M9 .i64 g9,.ty 72⟩)] ks au av bs 150 c9 M9 g9 fs :=
  {ll:=by simp only [br,bN];exact ⟨zO,zO,fy _ _ _⟩
   nd:=ai
   sb:=fh _ jI.kb
   hS:=fO
   cp:=fL
   rt:=jh
   sz:=rfl
   le:=zO
   id:=by simp [aI,aP,ak]
   a0:=rfl
   a1:=rfl
   kl:=zS
   c1:=x9
   c2:=y9
   c3:=z9
   eq:=Eq6.rfl'
   qs:=λj hj=>by omega }
 have AL:∀ x∈L0,x.1<150/\100<=x.1:=λx hx=>⟨wx x hx,(jI.ok.big x hx).1⟩
 refine SA (ρ:=λk=>if k=200 then 150 else if k=208 then 158 else if k=216 then 198 else if k=150 then 190 else k) (s':=Ua ([(150,⟨fa M9 .i64 g9,.ty 72⟩)]++L0) ka off n cap g bx tp nr md st ks au av ko m cO 0 1 #[.int .i64 st,.slice (some ⟨150,0,none⟩) n c9]) ?_ λhW0=>?_
 ·have BB:=λD=>Blk.fx_ids (fy M9 g9 72) D;have CP:=λρ=>Blk.fx_rn (show Blk.fx ⟨fa M9 .i64 g9,.ty 72⟩ from fy _ _ _) ρ;obtain ⟨ρ,hρ⟩:∃ ρ:Nat->Nat,ρ=λk=>if k=200 then 150 else if k=208 then 158 else if k=216 then 198 else if k=150 then 190 else k:=⟨_,rfl⟩
  have e1:ρ 200=150:=pH;have e2:ρ 208=158:=pH;have e3:ρ 216=198:=pH;have e4:ρ 150=190:=pH;have e5:∀ k,k<150->ρ k=k:=λk hk=>by rw [hρ];simp only [ae (zO:¬k=200),ae (zO:¬k=208),ae (zO:¬k=216),ae (zO:¬k=150)]
  rw [<-hρ];clear hρ;have e6:=e5 ka Je;have e7:=e5 ks n6;have e8:=e5 ko alu;unfold Ua cfB cE;refine mC (s:=GS.mk _ _ _ 0) _ _ 400 hC G0F (m0:=L0) bA zO ?_ ?_ ?_ (λk hk=>e5 k zO) (λx hx=>⟨(AL x hx).2,?_,e5 _ (AL x hx).1⟩)
  ·have hkd:dom (hpL G0 ([(200,(⟨#[.slice (some ⟨ka,off,none⟩) n cap,.int .i64 g,.int .i64 bx,.int .i64 tp,.int .i64 nr,.int .i64 md],.ty 24⟩:Blk)),(208,⟨#[.int .i64 st,.slice (some ⟨ks,au,none⟩) n av],.ty 27⟩),(216,⟨#[.int .i64 st,.slice (some ⟨150,0,none⟩) n c9],.ty 27⟩)]++([(150,⟨fa M9 .i64 g9,.ty 72⟩)]++L0))) ko:=jx (by simp only [ak,kO,bh];exact .inr af8);simp only [aj,az,ay,dc,bN];refine ⟨⟨?_,?_,hkd⟩,?_⟩
   ·simp [ren,aW,aw,aF,e8,cJ]
   ·simp [fP,cJ]
   ·simp [dom,fP,ren,aW,aw,aF,aL,cQ,aI,aP,e1,e2,e3,cJ]
  ·intro x hx;simp only [bj,bq,aj] at hx;rcases hx with rfl|rfl|rfl|rfl|hx
   ·simp [Blk.rn,aw,aF,aM,aI,aP,dom,e1,e6,gu,hA,cJ,bH]
   ·simp [Blk.rn,aw,aF,aM,aI,aP,dom,e2,e7,cW,hS,cJ,bH]
   ·simp [Blk.rn,aw,aF,aM,aI,aP,dom,e3,e4,cJ,bH]
   ·simp [CP,BB,e4,cJ,bH]
   ·have hb:=AL x hx;refine ⟨?_,Blk.fx_ids (jI.fx x hx) _,hb.2,zO,by rw [e5 _ hb.1];exact hb.2⟩;rw [e5 _ hb.1,Blk.fx_rn (jI.fx x hx)];simp (disch:=omega) only [ao,cJ,bH];exact jI.mem x hx
  ·intro x hx y hy e
   have key:∀ z∈[(200,(⟨#[.slice (some ⟨ka,off,none⟩) n cap,.int .i64 g,.int .i64 bx,.int .i64 tp,.int .i64 nr,.int .i64 md],.ty 24⟩:Blk)),(208,⟨#[.int .i64 st,.slice (some ⟨ks,au,none⟩) n av],.ty 27⟩),(216,⟨#[.int .i64 st,.slice (some ⟨150,0,none⟩) n c9],.ty 27⟩)]++([(150,⟨fa M9 .i64 g9,.ty 72⟩)]++L0),(z.1=200/\ρ z.1=150)\/(z.1=208/\ρ z.1=158)\/(z.1=216/\ρ z.1=198)\/(z.1=150/\ρ z.1=190)\/(z.1<150/\ρ z.1=z.1):=λz hz=>by
    simp only [bj,bq,aj] at hz;rcases hz with rfl|rfl|rfl|rfl|hz
    ·exact .inl ⟨rfl,e1⟩
    ·exact .inr (.inl ⟨rfl,e2⟩)
    ·exact .inr (.inr (.inl ⟨rfl,e3⟩))
    ·exact .inr (.inr (.inr (.inl ⟨rfl,e4⟩)))
    ·exact .inr (.inr (.inr (.inr ⟨(AL z hz).1,e5 _ (AL z hz).1⟩)))
   have:=key x hx;have:=key y hy;omega
  ·exact jx (by simp only [ak,kO,bh];exact .inr (aK.2 ⟨x,hx,rfl⟩))
 refine jL (λmm s=>∃ i c A LL Ak nT nQ bi kl cl Ml gl F,PtI L0 n st g fm k p q fs i c A LL Ak nT nQ bi kl cl Ml gl F/\i+mm=m/\s=Ua (LL++L0) ka off n cap g bx tp nr md st Ak nT nQ ko m cO i c A) (m0:=m) hW0 ⟨0,1,_,_,_,_,_,_,_,_,_,_,_,hI0,zO,rfl⟩ ?_;clear hI0 hW0 x9 y9 z9 dO
 try clear c9 M9 g9
 rintro mm _ ⟨i,c,A,LL,Ak,nT,nQ,bi,kl,cl,Ml,gl,F,hJ,aqU,rfl⟩;obtain ⟨L,Y7⟩:∃ L,L=LL++L0:=⟨_,rfl⟩
 have hT:L3 L ka Ak bm bi:=by
  rw [Y7];exact ⟨asQ jI.any wx hJ.ll hJ.nd zO,fh _ jI.am,hJ.sb⟩
 have axA:hpL G0 L ko=some ⟨AO,.ty 128⟩:=hT.mem (ko,_) (by rw [Y7];exact fh _ Qt);rw [<-Y7];have hLI:∀ {hp:Hp},(∀ x∈L,hp x.1=some x.2)->∀ x∈LL++L0,hp x.1=some x.2:=λh x hx=>h x (by rw [Y7];exact hx);clear hA hS cW gu jj pV n6;have hA:=hT.a;have hS:=hT.s;have cW:=hT.ne;have gu:=hT.na;have jj:=hT.low;have pV:=hT.k1;have n6:=hT.k2;have alv:ko<200:=zO;have R1:∀ k,200<=k->(ko=k)=False:=λk hk=>xE;by_cases Ty:mm=0
 ·obtain rfl:i=m:=zO;unfold Ua cfB cE
  repeat' first|refine cT ?_|refine Bz ?_|fail
  exact fin (E:=0) hJ (aA _) (λ_=>rfl) zS (hLI fS) cF (by simp [results93])
 have ew:i<m:=zO;have zM:(i:Int)<m:=zO;have hz:(0:Int)<=i:=zO;have lo:=asD hO ew;have dOp:=(acR hT off n cap nT nQ fm F hm hJ.hS eK hJ.cp g bx tp nr md st hs (k i) (p i) (q i) eM hJ.rt).sh hT.any 480 zO (λv ns h k hk=>sg) (by simp [cfV,ren,aW,aw,aF,qp (zO:ka<1000),qp (zO:Ak<1000)]) (wK (show shK 480 1000=480 from rfl) st n _);unfold cfV at dOp;have Lj:=(ji jh).2.1;have eki:paF k p q g fm n fs (i+1)=opF (k i) (p i) (q i) g fm n (paF k p q g fm n fs i):=rfl;generalize Vu:k i=k0 at *
 generalize hp0:p i=p0 at *
 generalize Vy:q i=q0 at *
 unfold Ua cfB cE;refine cA (k5 zM hA hS cW gu) ?_;refine Ir follows ?_;simp only [Array.toList,rI,bj,bq,fH,j6,Nat.reduceAdd];refine L7 (pzF L ka off n cap g bx tp nr md st Ak nT nQ ko m cO i c AO A k0 p0 q0 fm F) ?_ ?_
 ·refine ⟨ik,ik,ik,ik,ik,ik,ik,ik,ik,ik,ik,?_,?_⟩
  ·exact DW
  ·exact FB
 intro jK hp0 hF;refine BH (λlisted ts hp=>∃ c9 M9 g9 E9,(∃ F2:Nat->Int,n<=c9/\6*n<=M9/\(∀ j,j<6*n->g9 j=F2 j)/\(∀ j,j<6*n->i64 (F2 j))/\(E9=0->OpT bx tp g fm st n k0 p0 q0 F F2))/\TJ pzN pzX pzD (pzV L ka off n cap g bx tp nr md st Ak nT nQ ko m cO i c AO A k0 p0 q0 fm F c9 M9 g9 E9) (amV L ka off n cap g bx tp nr md st Ak nT nQ ko m cO i c AO A k0 p0 q0 fm F c9 M9 g9 E9) jK hp0 listed ts hp) (λlisted ts hp UE RM hI=>?_) (λfuel listed ts hp i UE hi nR h hk=>?_) _ _ _ _ zS dZ ?_
 ·have I9:=uP UE ah RM;have iJ:∀ i,i<13->listed[i]? = some true:=λi hi=>I9 i nN;obtain ⟨c9,M9,g9,E9,hinv,hI⟩:=hI;have k2:ts 2=.slice (some ⟨ko,0,none⟩) m cO:=(hI.t0 2 zD).trans hF.e2;have k3:ts 3=.pointer (some ⟨200,0,none⟩):=(hI.t0 3 zD).trans hF.e3;have k4:ts 4=.pointer (some ⟨208,0,none⟩):=(hI.t0 4 zD).trans hF.e4;have k6:ts 6=.slice none 0 0:=(hI.t0 6 zD).trans hF.e6;have k7:ts 7=.int .i64 0:=(hI.t0 7 zD).trans hF.e7;have k8:ts 8=.slice (some ⟨216,0,none⟩) (i+1) c:=(hI.t0 8 zD).trans hF.e8;have k9:ts 9=.int .i64 i:=(hI.t0 9 zD).trans hF.e9;have CT:ts 10=.pointer (some ⟨512,0,none⟩):=hI.tm (10,10) zD (iJ 10 zO);have Kx:ts 11=.int .i64 E9:=hI.tm (12,11) zD (iJ 12 zO);have II:hp 200=some (⟨#[.slice (some ⟨ka,off,none⟩) n cap,.int .i64 g,.int .i64 bx,.int .i64 tp,.int .i64 nr,.int .i64 md],.ty 24⟩):=(hI.ext zD).trans hF.b200;have IJ:hp 208=some (⟨#[.int .i64 st,.slice (some ⟨Ak,nT,none⟩) n nQ],.ty 27⟩):=(hI.ext zD).trans hF.b208;have zr:hp 216=some (⟨A,.ty 27⟩):=(hI.ext zD).trans hF.b216;have IK:hp 480=some (⟨fa M9 .i64 g9,.ty 72⟩):=hI.bx (6,480) zD (iJ 6 zO) (by simp [pzX]);have IL:hp 512=some (⟨#[.int .i64 st,.slice (some ⟨480,0,none⟩) n c9],.ty 27⟩):=hI.bx (11,512) zD (iJ 11 zO) (by simp [pzX]);have cL:∀ p∈L,hp p.1=some p.2:=λp hp=>(hI.ext (JS _ (hT.ok.big p hp).2)).trans (hF.bL p hp);have akh:∀ k,k<100->hp k=G0 k:=λk hk=>(hI.ext (JS _ zO)).trans (hF.low k hk);obtain ⟨F2,u1,u2,u3,u4,u5⟩:=hinv;by_cases e0:E9=0;rotate_left
  ·have pO:(E9 != 0)=true:=by simpa using e0
   refine cA (k16 k2 k3 k4 k6 k7 k8 k9 CT Kx II IJ zr IK IL e0 pO) ?_;exact fin hJ zO (λe=>absurd e e0) (by simp [zr]) (hLI cL) akh (by simp [results93,k2,k3,k4,k6,k7,k8,k9,CT,Kx,II,IJ,zr,IK,IL])
  ·subst e0;have hOT:=u5 rfl;refine cA (k14 k2 k3 k4 k6 k7 k8 k9 CT Kx II IJ zr IK IL) ?_;refine gj ?_;refine On (k14 k2 k3 k4 k6 k7 k8 k9 CT Kx II IJ zr IK IL) ?_;refine aeK (m:=i+1) (c:=c) (k0:=216) (j:=584) (A:=A) (x0:=.int .i64 st) (x1:=.slice (some ⟨480,0,none⟩) n c9) rfl zS rfl (by simp [k8]) zO (by simp [zr]) hJ.sz hJ.le zO zS zS (λr=>⟨rfl,rfl⟩) ?_;rintro k' c' A' jR s1 s2 s3 s4 s5;refine qM trivial ?_;refine cu ?_;have pZ:=adN ew KK;refine cA (RK k2 k3 k4 k6 k7 k8 k9 CT Kx II IJ zr IK IL pZ) ?_;clear pZ;have DR:k'=216\/k'=592:=jR;refine ⟨λx=>if x=216 then k' else if x=151+i then 480 else x,Ua (((151+i,⟨fa M9 .i64 g9,.ty 72⟩)::LL)++L0) ka off n cap g bx tp nr md st (151+i) 0 c9 ko m cO (i+1) c' (A'.map (aw λx=>if x=480 then 151+i else x)),m - (i+1),?_,⟨i+1,c',A'.map (aw λx=>if x=480 then 151+i else x),(151+i,⟨fa M9 .i64 g9,.ty 72⟩)::LL,151+i,0,c9,⟨fa M9 .i64 g9,.ty 72⟩,151+i,c9,M9,g9,F2,?_,zO,rfl⟩,zO⟩
   ·have hll:∀ k,k∈ak LL->150<=k/\k<=150+i:=λk hk=>by
     exact G6
    have BX:∀ x∈LL++L0,100<=x.1/\x.1<=150+i:=λx hx=>by
     rcases bh.1 hx with h|h
     ·have:=hJ.ll x h;omega
     ·have:=AL x h;omega
    have hlx:∀ x∈LL++L0,x.2.fx:=λx hx=>by rw [<-Y7] at hx;exact hT.fx x hx
    obtain ⟨ρ,hρ⟩:∃ ρ:Nat->Nat,ρ=λx=>if x=216 then k' else if x=151+i then 480 else x:=⟨_,rfl⟩
    obtain ⟨σ,hσ⟩:∃ σ:Nat->Nat,σ=λx=>if x=480 then 151+i else x:=⟨_,rfl⟩
    have e1:ρ 216=k':=pH;have e2:ρ (151+i)=480:=by rw [hρ];simp only [ae (zO:¬151+i=216),ag]
    have e3:∀ x,x≠216->x≠151+i->ρ x=x:=λx h1 h2=>by rw [hρ];simp only [ae h1,ae h2]
    have f1:σ 480=151+i:=by rw [hσ];rfl
    have f2:∀ x,x≠480->σ x=x:=λx h1=>by rw [hσ];exact ae h1
    rw [<-hρ,<-hσ];clear hρ hσ;have afx:=e3 200 zO zO;have afy:=e3 208 zO zO;have amt:¬200=k':=zO;have amu:¬208=k':=zO;have amv:¬480=k':=zO;have eka:=e3 ka zO zO;have eko:=e3 ko zO zO
    have idA:∀ x∈A',aI (λk=>k∈ak LL\/k=480) x:=λx hx=>by
     rcases s5 x hx with h|rfl|rfl|h
     ·exact iz (λk hk=>.inl hk) (hJ.id x h)
     ·simp
     ·simp
     ·exact jm h
    have hAm:(A'.map (aw σ)).map (aw ρ)=A':=by
     rw [gD]
     have:A'.map (aw ρ∘aw σ)=A'.map λx=>x:=bY λx hx=>by
      show aw ρ (aw σ x)=x;rw [uf];refine adp (λk hk=>?_) (idA x hx);rcases hk with hk|rfl
      ·have:=hll k hk;rw [f2 k zO,e3 k zO zO]
      ·rw [f1,e2]
     rw [this];simp
    have hAi:∀ x∈A'.map (aw σ),aI (λk=>k∈ak (((151+i,(⟨fa M9 .i64 g9,.ty 72⟩:Blk)))::LL)) x:=λx hx=>by
     obtain ⟨y,hy,rfl⟩:=eQ.1 hx;refine za (λk hk=>?_) (idA y hy);simp only [ak,bI,aj];rcases hk with hk|rfl
     ·have:=hll k hk;rw [f2 k zO];exact .inr hk
     ·exact .inl f1
    have BB:=λD=>Blk.fx_ids (fy M9 g9 72) D;have CP:=λρ=>Blk.fx_rn (show Blk.fx ⟨fa M9 .i64 g9,.ty 72⟩ from fy _ _ _) ρ;have abo:∀ z∈((151+i,(⟨fa M9 .i64 g9,.ty 72⟩:Blk))::LL++L0),∀ m,dom (hpL G0 (m++((151+i,(⟨fa M9 .i64 g9,.ty 72⟩:Blk))::LL++L0))) z.1:=λz hz m=>jx (aK.2 ⟨z,hz,rfl⟩);have axy:=λm=>abo (ka,bm) (by simp only [bj,aj,bh];exact .inr (.inr jI.am)) m;have axC:=λm=>abo (ko,_) (by simp only [bj,aj,bh];exact .inr (.inr Qt)) m;have axN:=λm=>abo (151+i,⟨fa M9 .i64 g9,.ty 72⟩) zS m;unfold Ua cfB cE;refine mC (s:=GS.mk _ _ _ 0) _ _ 400 hC G0F (m0:=L0) bA zO ?_ ?_ ?_ (λk hk=>e3 k zO zO) (λx hx=>⟨(AL x hx).2,abo x (by simp only [bj,aj,bh];exact .inr (.inr hx)) _,e3 _ (by have:=AL x hx;omega) (by have:=AL x hx;omega)⟩)
    ·simp only [aj,az,ay,dc,bN];refine ⟨⟨?_,?_,axC _⟩,?_⟩
     ·simp [ren,aW,aw,aF,eko,cJ,k2,k3,k4,k6,k7,k8,k9,CT,Kx,II,IJ,zr,IK,IL]
     ·simp [fP,cJ,k2,k3,k4,k6,k7,k8,k9,CT,Kx,II,IJ,zr,IK,IL]
     ·simp [dom,fP,ren,aW,aw,aF,aL,cQ,aI,aP,e1,afx,afy,cJ,adN ew KK,k2,k3,k4,k6,k7,k8,k9,CT,Kx,II,IJ,zr,IK,IL]
    ·intro x hx;simp only [bj,bq,aj] at hx;rcases hx with rfl|rfl|rfl|rfl|hx
     ·refine ⟨?_,?_,zO,zO,by rw [afx];omega⟩
      ·rw [afx];simp (disch:=omega) [Blk.rn,aw,aF,eka,ao,cJ,bH,amt,amu,amv,k2,k3,k4,k6,k7,k8,k9,CT,Kx,II,IJ,zr,IK,IL]
      ·simp only [NV,aj,az,ay,dc,bN];exact ⟨axy _,eX,eX,eX,eX,eX⟩
     ·refine ⟨?_,?_,zO,zO,by rw [afy];omega⟩
      ·rw [afy];simp (disch:=omega) [Blk.rn,aw,aF,e2,ao,cJ,bH,amt,amu,amv,k2,k3,k4,k6,k7,k8,k9,CT,Kx,II,IJ,zr,IK,IL]
      ·simp only [NV,aj,az,ay,dc,bN];exact ⟨eX,axN _⟩
     ·refine ⟨?_,?_,zO,zO,by rw [e1];omega⟩
      ·show _=some (Blk.mk ((A'.map (aw σ)).map (aw ρ)) _);rw [hAm,e1];simp [cY,cJ,bH]
      ·exact λy hy=>iz (λk hk=>by
        obtain ⟨z,hz,rfl⟩:=aC.1 hk;exact abo z (eE _ hz) _) (hAi y hy)
     ·refine ⟨?_,BB _,ki,ki,by rw [e2];omega⟩;rw [CP,e2];simp (disch:=omega) [ao,cJ,bH,amt,amu,amv,k2,k3,k4,k6,k7,k8,k9,CT,Kx,II,IJ,zr,IK,IL]
     ·have hb:=BX x hx;refine ⟨?_,Blk.fx_ids (hlx x hx) _,hb.1,zO,by rw [e3 _ zO zO];exact hb.1⟩;rw [e3 _ zO zO,Blk.fx_rn (hlx x hx)];simp (disch:=omega) only [ao,cJ,bH];exact hLI cL x hx
    ·intro x hx y hy e
     have key:∀ z∈[(200,(⟨#[.slice (some ⟨ka,off,none⟩) n cap,.int .i64 g,.int .i64 bx,.int .i64 tp,.int .i64 nr,.int .i64 md],.ty 24⟩:Blk)),(208,⟨#[.int .i64 st,.slice (some ⟨151+i,0,none⟩) n c9],.ty 27⟩),(216,⟨A'.map (aw σ),.ty 27⟩)]++((151+i,(⟨fa M9 .i64 g9,.ty 72⟩:Blk))::LL++L0),(z.1=200/\ρ z.1=200)\/(z.1=208/\ρ z.1=208)\/(z.1=216/\ρ z.1=k')\/(z.1=151+i/\ρ z.1=480)\/(z.1<=150+i/\ρ z.1=z.1):=λz hz=>by
      simp only [bj,bq,aj] at hz;rcases hz with rfl|rfl|rfl|rfl|hz
      ·exact .inl ⟨rfl,afx⟩
      ·exact .inr (.inl ⟨rfl,afy⟩)
      ·exact .inr (.inr (.inl ⟨rfl,e1⟩))
      ·exact .inr (.inr (.inr (.inl ⟨rfl,e2⟩)))
      ·have:=BX z hz;exact .inr (.inr (.inr (.inr ⟨this.2,e3 _ zO zO⟩)))
     have:=key x hx;have:=key y hy;omega
   ·have hll:∀ k,k∈ak LL->150<=k/\k<=150+i:=λk hk=>by
     exact G6
    have Xq:SB ⟨fa M9 .i64 g9,.ty 72⟩ 0 n F2:=A6 u2 u3 u4 zO;exact
    {ll:=λx hx=>by
      rcases aj.1 hx with rfl|hx
      ·exact ⟨by simp only;omega,by simp only;omega,fy _ _ _⟩
      ·have:=hJ.ll x hx;exact ⟨this.1,zO,this.2.2⟩
     nd:=by
      simp only [ak,bI,fu];refine ⟨λh=>?_,hJ.nd⟩;have:=hll _ h;omega
     sb:=zS
     hS:=Xq
     cp:=u1
     rt:=hOT.1
     sz:=by rw [vZ];exact s1
     le:=s2
     id:=λx hx=>by
      obtain ⟨y,hy,rfl⟩:=eQ.1 hx
      have hy2:aI (λk=>k∈ak LL\/k=480) y:=by
       rcases s5 y hy with h|rfl|rfl|h
       ·exact iz (λk hk=>.inl hk) (hJ.id y h)
       ·simp
       ·simp
       ·exact jm h
      refine za (λk hk=>?_) hy2;simp only [ak,bI,aj];rcases hk with hk|rfl
      ·have:=hll k hk;rw [ae zO];exact .inr hk
      ·exact .inl rfl
     a0:=by rw [j0,s3];rfl
     a1:=by rw [j0,s4];simp [aw,aF]
     kl:=zS
     c1:=u1
     c2:=u2
     c3:=u3
     eq:=by rw [eki];exact hOT.2.2.trans (Lw hJ.eq)
     qs:=λj hj=>by
      by_cases e:j=i
      ·rw [e,Vy];have:=hOT.2.1;omega
      ·exact hJ.qs j zO }
 ·have dp:i<13:=by
   exact sY
  obtain ⟨c9,M9,g9,E9,hinv,h⟩:=h;obtain rfl|rfl|rfl|rfl|rfl|rfl|rfl|rfl|rfl|rfl|rfl|rfl|rfl:i=5\/i=6\/i=8\/i=9\/i=10\/i=11\/i=12\/i=0\/i=1\/i=2\/i=3\/i=4\/i=7:=zO
  ·-- 5
   have lT:=nR _ rfl;simp [Region.binds] at lT;have d4:listed[4]? = some true:=cy;have vf4:ts 26=.pointer (some ⟨ko,i*3,none⟩):=h.tm (4,26) zD d4;have yko:hp ko=some (⟨AO,.ty 128⟩):=(h.ext (JS _ alv)).trans hF.bko;refine NC (k5 vf4 yko zM hz lo) ?_;exact hk _ _ ⟨c9,M9,g9,E9,hinv,(h.tmp Uc Ud hi (by simp [pzD,d4]) (i:=5) (t:=27) zD rfl zD)⟩
  ·-- 6
   have lT:=nR _ rfl;simp [Region.binds] at lT;have d0:listed[0]? = some true:=cy;have d1:listed[1]? = some true:=cy;have d5:listed[5]? = some true:=cy;have vf0:ts 22=.agg #[.slice (some ⟨ka,off,none⟩) n cap,.int .i64 g,.int .i64 bx,.int .i64 tp,.int .i64 nr,.int .i64 md]:=h.tm (0,22) zD d0;have RO:ts 23=.agg #[.int .i64 st,.slice (some ⟨Ak,nT,none⟩) n nQ]:=h.tm (1,23) zD d1;have vf5:ts 27=.agg #[.int .u8 k0,.int .i64 p0,.int .i64 q0]:=h.tm (5,27) zD d5;have low:∀ k,k<100->hp k=G0 k:=λk hk=>(h.ext (JS _ zO)).trans (hF.low k hk);have cL:∀ p∈L,hp p.1=some p.2:=λp hp=>(h.ext (JS _ (hT.ok.big p hp).2)).trans (hF.bL p hp);refine Iq (f:=.func 117) (cap:=#[]) hC dOp rfl hi ny (by simp [ntmps93]) rfl rfl aS aq zS (by simp [okX,fP,vf0,RO,vf5,zM,hz,lo]) (by simp [gev,vf0,RO,vf5,zM,hz,lo]) (λq hq=>by obtain ⟨p,hp1,rfl⟩:=aC.1 hq;rw [cL p hp1];exact hT.mem p hp1) (λq hq=>(hT.low q hq).trans (low q hq).symm) ?_ ?_
   ·exact tt
   rintro v ns ⟨F',Rg,⟨w,⟨Rj,Ri,Rk,u1,u2,u3,rfl,rfl⟩,rfl⟩,u4,u5⟩;have h:=h.chg (V':=pzV L ka off n cap g bx tp nr md st Ak nT nQ ko m cO i c AO A k0 p0 q0 fm F Rj Ri Rk Rg) (QE:=amV L ka off n cap g bx tp nr md st Ak nT nQ ko m cO i c AO A k0 p0 q0 fm F Rj Ri Rk Rg) hi (λj hj hD=>by unfold pzV;split<;>first|rfl|exact absurd rfl hj|exact (hD zD).elim) (λj hj hD=>by unfold amV;split<;>first|rfl|exact absurd rfl hj|exact (hD zD).elim);exact hk _ _ ⟨Rj,Ri,Rk,Rg,⟨F',u1,u2,u3,u4,u5⟩,h.new Uc Ud amW hi (by simp [pzD]) (i:=6) (t:=28) (k:=480) zD rfl zD rfl zD⟩
  ·-- 8
   have lT:=nR _ rfl;simp [Region.binds] at lT;have d7:listed[7]? = some true:=cy;have vf7:ts 21=.tuple #[.agg #[.int .i64 st,.slice (some ⟨480,0,none⟩) n c9],.int .i64 E9]:=h.tm (7,21) zD d7;have d6:listed[6]? = some true:=h.cl (7,6) zD d7;refine NC (Gy.k4 vf7 zM hz lo) ?_;exact hk _ _ ⟨c9,M9,g9,E9,hinv,(h.tmp Uc Ud hi (by simp [pzD,d6,d7]) (i:=8) (t:=29) zD rfl zD)⟩
  ·-- 9
   have lT:=nR _ rfl;simp [Region.binds] at lT;have d7:listed[7]? = some true:=cy;have vf7:ts 21=.tuple #[.agg #[.int .i64 st,.slice (some ⟨480,0,none⟩) n c9],.int .i64 E9]:=h.tm (7,21) zD d7;have d6:listed[6]? = some true:=h.cl (7,6) zD d7;refine NC (Gy.k4 vf7 zM hz lo) ?_;exact hk _ _ ⟨c9,M9,g9,E9,hinv,(h.tmp Uc Ud hi (by simp [pzD,d6,d7]) (i:=9) (t:=30) zD rfl zD)⟩
  ·-- 10
   refine NC (Gy.k3 zM hz lo) ?_;exact hk _ _ ⟨c9,M9,g9,E9,hinv,(h.new Uc Ud amW hi (by simp [pzD]) (i:=10) (t:=10) (k:=512) zD rfl zD rfl zD)⟩
  ·-- 11
   have lT:=nR _ rfl;simp [Region.binds] at lT;have d6:listed[6]? = some true:=cy;have d8:listed[8]? = some true:=cy;have d10:listed[10]? = some true:=cy;have vf6:ts 28=.tuple #[.agg #[.int .i64 st,.slice (some ⟨480,0,none⟩) n c9],.int .i64 E9]:=h.tm (6,28) zD d6;have vf8:ts 29=.agg #[.int .i64 st,.slice (some ⟨480,0,none⟩) n c9]:=h.tm (8,29) zD d8;have azc:ts 10=.pointer (some ⟨512,0,none⟩):=h.tm (10,10) zD d10;have azp:hp 512=some (⟨#[.int .i64 0,.slice none 0 0],.ty 27⟩):=h.bxi hi (w:=10) zD d10 zD;refine NC (Gy.k7 vf6 vf8 azc azp zM hz lo) ?_;exact hk _ _ ⟨c9,M9,g9,E9,hinv,(h.st amW hi (by simp [pzD,d6,d8,d10]) (i:=11) (k:=512) zD zD rfl zD)⟩
  ·-- 12
   have lT:=nR _ rfl;simp [Region.binds] at lT;have d9:listed[9]? = some true:=cy;have vf9:ts 30=.int .i64 E9:=h.tm (9,30) zD d9;have d6:listed[6]? = some true:=h.cl (9,6) zD d9;refine NC (Gy.k4 vf9 zM hz lo) ?_;exact hk _ _ ⟨c9,M9,g9,E9,hinv,(h.tmp Uc Ud hi (by simp [pzD,d6,d9]) (i:=12) (t:=11) zD rfl zD)⟩
  all_goals
   have lT:=And.intro hi (nR _ rfl);simp [Region.binds] at lT;have jI:=h.tm;simp [pzN,pzV] at jI;have vx3:=(h.t0 3 zD).trans hF.e3;have RP:=(h.t0 4 zD).trans hF.e4;have vx2:=(h.t0 2 zD).trans hF.e2;have vx9:=(h.t0 9 zD).trans hF.e9;have anF:=(h.ext zD).trans hF.b200;have anG:=(h.ext zD).trans hF.b208;refine NC (Gy.Kx lT jI vx3 RP vx2 vx9 anF anG zM hz lo) ?_;exact hk _ _ ⟨c9,M9,g9,E9,hinv,(h.tmp Uc Ud hi (by simp [pzD,lT]) zD rfl zD)⟩
 ·have Ek:∀ j:Nat,(Array.replicate 13 false)[j]?≠some true:=λj=>by
   rw [mN];split<;>simp
  exact ⟨n,6*n,F,1,⟨F,aA _,aA _,λ_ _=>rfl,hJ.hS.i6,λe=>ir⟩,TJ.start Ek⟩
theorem Dw {p:Prop} (h:p:=by have hb:=hT.ok.big x hx;simp (disch:=omega) only [ao,bH];exact (dL x hx).trans (hT.mem x hx).symm):p:=h
theorem C5 {p:Prop} (h:p:=by simp (disch:=omega) only [ao,bH];exact (ap2 k hk).trans (hT.low k hk).symm):p:=h
theorem Ho {p:Prop} (h:p:=by
 clear GD;have aab:=kG ks 368 zO zO zO bs au n av fs fO fL st;refine gj ?_;refine qM (k4 hA hS cW gu) ?_;refine cv (f:=.func 92) (cap:=#[]) hC aab rfl zS rfl rfl aS aq zS aZ aq gQ cF ?_ ?_
 ·exact EX
 rintro v ns ⟨c9,M9,g9,x9,y9,z9,rfl,rfl⟩;refine By trivial ?_;refine cu ?_
 repeat' first|refine cT ?_|refine Bz ?_|fail
 refine ⟨.inr trivial,Aj G0F,_,_,λk=>if k=1000 then 368 else k,⟨st,hs,fs,180,⟨_,⟨c9,M9,g9,x9,y9,z9,rfl,rfl⟩,rfl⟩,fO.i6,λe=>ir⟩,λk hk=>ae zO,zS,zS,by simp [results64,ren,aW,aw,aF,bH],?_⟩;simp [jH,bH]):p:=h
def StR (nk n:Nat) (T:Int->(Nat->Int)->Prop) (v:Value) (ns:cf):Prop:=∃ st,i64 st/\OpR nk st n (T st) v ns
theorem zl {nk n:Nat} {T:Int->(Nat->Int)->Prop} {v:Value} {ns:cf} (h:StR nk n T v ns):∀ k∈ak ns,k=nk:=by
 obtain ⟨st,_,h⟩:=h;exact zf h
theorem Nq {D:iH} {n:Nat} {T:Int->(Nat->Int)->Prop} (v:Value) (ns:cf) (h:StR 1000 n T v ns):aL (eo D ns) v/\(∀ p∈ns,200<=p.1/\p.2.ids (eo D ns))/\(∀ k b c,(k,b)∈ns->(k,c)∈ns->b=c):=by
 obtain ⟨st,_,h⟩:=h;exact uL v ns h
theorem UC {nk:Nat} {ρ:dR} (h:ρ 1000=nk) (n:Nat) (T:Int->(Nat->Int)->Prop):RR ρ (StR 1000 n T)=StR nk n T:=by
 funext v ns;apply propext;constructor
 ·rintro ⟨v0,JF,⟨st,h1,h2⟩,rfl,rfl⟩;exact ⟨st,h1,(wK h st n (T st))▸⟨_,_,h2,rfl,rfl⟩⟩
 ·rintro ⟨st,h1,h2⟩;rw [<-wK h st n (T st)] at h2;obtain ⟨v0,JF,h3,e1,e2⟩:=h2;exact ⟨v0,JF,⟨st,h1,h3⟩,e1,e2⟩
def Mh (n m:Nat) (g:Int) (fm:aJ) (k p q:aJ) (st o9:Int) (fs:aJ) (n9:Int) (F:aJ):Prop:=n9=st+o9/\aY n9 F n=true/\Eq6 n F (paF k p q g fm n fs m)/\∀ j,j<m->0<q j
theorem adt {st n9:Int} {F:aJ} {n:Nat} (h:aY st F n=true) (h1:-1073741824<=n9) (h2:n9<=1073741824):aY n9 F n=true:=by
 unfold aY at h |-;have e:stB n9=true:=bg ⟨h1,h2⟩;simp only [bn] at h |-;exact ⟨⟨e,h.1.2⟩,h.2⟩
def s15 (nk k:Nat):Nat:=if 150<=k then k - 150+nk else k
theorem Cj {nk k:Nat} (h:k<150):s15 nk k=k:=ae zO
theorem uS {nk k:Nat} (h:150<=k):s15 nk k=k - 150+nk:=ag h
theorem FunS.sh15 {fn:FuncId} {args:ca} {L:cf} {R:Ij} (h:FunS prog G0 fn args (hpL G0 L) (ak L) R) (hL:LAny L) (wx:∀ x∈L,x.1<150) (nk:Nat) (rY:200<=nk) (hR:∀ v ns,R v ns->∀ k∈ak ns,150<=k) (ea:args.map (ren (s15 nk))=args) :
  FunS prog G0 fn args (hpL G0 L) (ak L) (RR (s15 nk) R):=by
 have kL:∀ k∈ak L,s15 nk k=k:=λk hk=>by
  obtain ⟨p,hp,rfl⟩:=aC.1 hk;exact Cj (wx p hp)
 refine h.mvL (eG:=hpL G0 L) (PN:=ak L) G0F hL.ok (s15 nk) (λk hk=>Cj zO) ea ?_ rfl hL.ok.low ?_ ?_ (λv ns hV k hk=>?_) (λv ns hV k hk l hl e=>?_)
 ·rw [gK kL];simp
 ·intro p hp;have hb:=hL.ok.big p hp;rw [Cj (wx p hp),Blk.fx_rn (hL.fx p hp)];exact ⟨hb.1,LOk.at hL.ok.one p hp⟩
 ·exact pN
 ·rw [uS (hR v ns hV k hk)];refine ⟨zO,λh=>?_⟩;obtain ⟨p,hp,e⟩:=aC.1 h;have:=wx p hp;omega
 ·have:=hR v ns hV k hk;have:=hR v ns hV l hl;rw [uS zO,uS zO] at e;omega
theorem as9 {B:ca} {j:Nat} {x y:Value} (h0:B[2*j]? = some x) (h1:B[2*j+1]? = some y):fB prog 27 ⟨B,.ty 27⟩ (j*2)=some (.agg #[x,y]):=by
 have Ag:2*j+2<=B.size:=by have:=(aO.1 h1).1;omega
 rw [A9,iB (cr isAgg27) (aG sizeOf27),ag zO];refine congrArg (λa=>some (Value.agg a)) ?_;apply gI;intro i;rw [rB];by_cases c0:i=0
 ·subst c0;rw [ag zO,(zO:j*2+0=2*j),h0]
  rfl
 ·by_cases c1:i=1
  ·subst c1;rw [ag zO,(zO:j*2+1=2*j+1),h1]
   rfl
  ·rw [ae zO,fG (by show 2<=i;omega)]
theorem ar6 (i:Nat) (h:i<=45):Int.bmod (i:Int) 18446744073709551616=i:=bm zO zO
theorem Wo {st o9:Int} (h:-1073741824<=st/\st<=1073741824) (hb:o9=1\/o9=-1):Int.bmod (st+o9) 18446744073709551616=st+o9:=bm zO zO
theorem UD {L0:cf} {ka ks:Nat} {bm bs:Blk} (hT:L3 L0 ka ks bm bs) (wx:∀ x∈L0,x.1<150) (off n cap au av:Nat) (fm fs:aJ) (hm:MB bm off n fm) (fO:SB bs au n fs) (eK:n<=cap) (fL:n<=av) (g bx tp nr md st:Int) (hs:i64 st) (eM:fk n fm g bx tp nr md=true) (jh:aY st fs n=true)
  (ko m cO:Nat) (AO:ca) (k p q:aJ) (Qt:(ko,⟨AO,.ty 128⟩)∈L0) (hO:OA AO cO m k p q) (KK:m<=45) (o9:Int) (Jb:o9=1\/o9=-1) :
  FunS prog G0 64 #[cfV (.slice (some ⟨ka,off,none⟩) n cap) g bx tp nr md,.agg #[.int .i64 st,.slice (some ⟨ks,au,none⟩) n av],.slice (some ⟨ko,0,none⟩) m cO,.int .i64 o9] (hpL G0 L0) (ak L0) (StR 1000 n (Mh n m g fm k p q st o9 fs)):=by
 have af8:ko∈ak L0:=aC.2 ⟨_,Qt,rfl⟩;refine eW (B:=200) G0F func64 rfl call64 hT.ok ?_ Nq (by simp [ntmps64]) zO ?_
 ·simp [aL,cQ,aI,aP,hT.ia,hT.ib,cfV,af8]
 intro C hC bA hY;have hA:=hT.a;have hS:=hT.s;have cW:=hT.ne;have gu:=hT.na;have jj:=hT.low;have pV:=hT.k1;have n6:ks<150:=wx _ hT.kb;have hka:=hT.a1;have Je:ka<150:=wx _ hT.am;have alv:ko<150:=wx _ Qt;have Af:=(ji jh).1;have eI:=AJ hT (cap:=cap) (av:=av) hm fO g bx tp nr md st;rw [eM,jh,show oB n n true true=true by unfold oB;simp] at eI
 have hPa:=(T7 hT wx off n cap au av fm fs hm fO eK fL g bx tp nr md st hs eM jh ko m cO AO k p q Qt hO KK).sh15 hT.any wx 384 zO (λv ns hV k hk=>by
  obtain ⟨x,hx,rfl⟩:=aC.1 hk;exact ((Ce (D:=λ_=>True) KK v ns hV).2.1 x hx).1) (by simp [cfV,ren,aW,aw,aF,Cj Je,Cj n6,Cj alv])
 unfold cfV at eI hPa |-;by_cases cO1:1073741824<st+o9
 ·have GD:=Wo Af Jb
  repeat' first|refine cT ?_|((first|refine gwR [22] ?_|refine gwD [22] ?_);intro Q hQ _;(repeat first|simp [hC,hY,GD,cO1,hA,hS,cW,gu]|refine cV eI hT.ok fS ?_);refine dq hQ ?_)|fail
  exact Ho
 by_cases cO2:st+o9 < -1073741824
 ·have GD:=Wo Af Jb
  repeat' first|refine cT ?_|((first|refine gwR [22] ?_|refine gwD [22] ?_);intro Q hQ _;(repeat first|simp [hC,hY,GD,cO1,cO2,hA,hS,cW,gu]|refine cV eI hT.ok fS ?_);refine dq hQ ?_)|fail
  exact Ho
 have GD:=Wo Af Jb
 repeat' first|refine cT ?_|((first|refine gwR [22] ?_|refine gwD [22] ?_);intro Q hQ _;(repeat first|simp [hC,hY,GD,cO1,cO2,hA,hS,cW,gu]|refine cV eI hT.ok fS ?_);refine dq hQ ?_)|fail
 clear GD;refine gj ?_;refine On (k4 hA hS cW gu) ?_;refine NJ (sh:=72) (f:=.func 93) (cap:=#[]) hC hPa rfl zS rfl rfl aS aq zS aZ aq jB cF ?_ ?_
 ·rintro v ns ⟨v0,JF,⟨i,c,A,LL,Ak,nT,nQ,bi,kl,cl,Ml,gl,F,E,hPQ,zM,hE,rfl,rfl⟩,rfl,rfl⟩ x hx;obtain ⟨y,hy,rfl⟩:=wJ hx;obtain ⟨z,hz,rfl⟩:=aC.1 hy;rcases aj.1 hz with rfl|hz
  ·rw [uS zS];simp
  ·have:=hPQ.ll z hz;rw [uS this.1];omega
 rintro v ns ⟨v0,JF,⟨i,c,A,LL,Ak,nT,nQ,bi,kl,cl,Ml,gl,F,E,hPQ,zM,hE,rfl,rfl⟩,rfl,rfl⟩;have hkl:=hPQ.ll _ hPQ.kl;simp only at hkl;have ekl:s15 384 kl=kl+234:=by rw [uS hkl.1];omega
 have Mw:s15 384 216=450:=rfl
 have rY:∀ k,k<384->k∉ak (rnL (s15 384) ((216,(⟨A,.ty 27⟩:Blk))::LL)):=λk hk hm=>by
  obtain ⟨y,hy,rfl⟩:=wJ hm;obtain ⟨z,hz,rfl⟩:=aC.1 hy;rcases aj.1 hz with rfl|hz
  ·rw [Mw] at hk;omega
  ·have:=hPQ.ll z hz;rw [uS this.1] at hk;omega
 have Zl:∀ k b c,(k,b)∈rnL (s15 384) ((216,(⟨A,.ty 27⟩:Blk))::LL)->(k,c)∈rnL (s15 384) ((216,(⟨A,.ty 27⟩:Blk))::LL)->b=c:=λk' b' c' h1 h2=>by
  simp only [rnL,aK,ij] at h1 h2;obtain ⟨x,hx,e1,e2⟩:=h1;obtain ⟨y,hy,e3,e4⟩:=h2
  have hb:∀ z∈((216,(⟨A,.ty 27⟩:Blk))::LL),150<=z.1:=λz hz=>by
   rcases aj.1 hz with rfl|hz
   ·simp
   ·exact (hPQ.ll z hz).1
  have exy:x.1=y.1:=by
   have a:=hb x hx;have b:=hb y hy;rw [uS a] at e1;rw [uS b] at e3;omega
  have:=(Ce (D:=λ_=>True) KK _ _ ⟨i,c,A,LL,Ak,nT,nQ,bi,kl,cl,Ml,gl,F,E,hPQ,zM,hE,rfl,rfl⟩).2.2 x.1 x.2 y.2 hx (by rw [exy];exact hy);rw [<-e2,<-e4,this]
 have ayk:(450,(⟨A,.ty 27⟩:Blk).rn (s15 384))∈rnL (s15 384) ((216,(⟨A,.ty 27⟩:Blk))::LL):=aK.2 ⟨_,jW ..,rfl⟩;have mkl:(s15 384 kl,(⟨fa Ml .i64 gl,.ty 72⟩:Blk))∈rnL (s15 384) ((216,(⟨A,.ty 27⟩:Blk))::LL):=aK.2 ⟨_,aD _ hPQ.kl,iu⟩;generalize hNS:rnL (s15 384) ((216,(⟨A,.ty 27⟩:Blk))::LL)=NS at *
 generalize Q1:bH _ NS=hq;have N6:hq 450=some ⟨A.map (aw (s15 384)),.ty 27⟩:=by rw [<-Q1];exact zm ayk Zl
 have GF:hq (kl+234)=some ⟨fa Ml .i64 gl,.ty 72⟩:=by rw [<-Q1,<-ekl];exact zm mkl Zl
 have d200:hq 200=some ⟨#[.slice (some ⟨ka,off,none⟩) n cap,.int .i64 g,.int .i64 bx,.int .i64 tp,.int .i64 nr,.int .i64 md],.ty 24⟩:=by rw [<-Q1,da (rY 200 zO)];simp
 have d208:hq 208=some ⟨#[.int .i64 st,.slice (some ⟨ks,au,none⟩) n av],.ty 27⟩:=by rw [<-Q1,da (rY 208 zO)];simp
 have d216:hq 216=some ⟨#[.int .i64 0,.slice none 0 0],.ty 27⟩:=by rw [<-Q1,da (rY 216 zO)];simp
 have dL:∀ x∈L0,hq x.1=some x.2:=λx hx=>by
  have:=wx x hx;have hb:=hT.ok.big x hx;rw [<-Q1,da (rY x.1 zO)];simp (disch:=omega) only [ao];exact hT.mem x hx
 have ap2:∀ k,k<100->hq k=G0 k:=λk hk=>by
  rw [<-Q1,da (rY k zO)];simp (disch:=omega) only [ao];exact hT.low k hk
 have dz:hq ks=some bs:=dL _ hT.kb
 have lA:fB prog 27 ⟨A.map (aw (s15 384)),.ty 27⟩ (i*2)=some (.agg #[.int .i64 st,.slice (some ⟨kl+234,0,none⟩) n cl]) :=
  as9 (by rw [j0,hPQ.a0];rfl) (by rw [j0,hPQ.a1];simp [aw,aF,ekl])
 clear Q1 hNS;rw [show ren (s15 384) (.tuple #[.slice (some ⟨216,0,none⟩) (i+1) c,.int .i64 E])=.tuple #[.slice (some ⟨450,0,none⟩) (i+1) c,.int .i64 E] by simp [ren,aW,aw,aF,Mw]];refine Y6 trivial ?_;refine cu ?_;by_cases e0:E=0;rotate_left
 ·have pO:(E != 0)=true:=by simpa using e0
  refine cA (k12 Mw e0 pO d200 d208 d216 N6 GF hA hS cW gu) ?_;have ap1:=kG ks 528 zO zO zO bs au n av fs fO fL st;refine gj ?_;refine qM (Kx Mw dz d200 d208 d216 N6 GF hA hS cW gu) ?_;refine cv (f:=.func 92) (cap:=#[]) hC ap1 rfl zS rfl rfl aS aq zS aZ aq (by simp [Mw,dz,d200,d208,d216,N6,GF,hS,cW,bH]) (λk hk=>by simp (disch:=omega) only [ao,bV,eH,ae,ap2]) ?_ ?_
  ·exact EX
  rintro v ns ⟨c9,M9,g9,x9,y9,z9,rfl,rfl⟩;refine On (k7 Mw dz d200 d208 d216 N6 GF) ?_;refine cu ?_;refine cA (Kx Mw dz d200 d208 d216 N6 GF hA hS cW gu) ?_;refine ⟨.inr trivial,fU G0F (λx hx=>Dw) (λk hk=>C5),_,_,λk=>if k=1000 then 528 else k,⟨st,hs,fs,E,⟨_,⟨c9,M9,g9,x9,y9,z9,rfl,rfl⟩,rfl⟩,fO.i6,λe=>absurd e e0⟩,λk hk=>ae zO,zS,zS,by simp [Mw,dz,d200,d208,d216,N6,GF,results64,ren,aW,aw,aF,bH],?_⟩;exact Ra
 ·subst e0;have Zf:=hE rfl;subst Zf;have hz:(0:Int)<=i:=zO;have dp:(i:Int)<(i:Int)+1:=zO;have ayh:¬kl=334:=zO;have q1:=ar6 i zO;have GD:=Wo Af Jb;refine cA (RK Mw q1 GD hz dp lA d200 d208 d216 N6 GF hA hS cW gu) ?_;clear q1 GD;have RG:aY (st+o9) F n=true:=adt hPQ.rt zO zO;refine ⟨.inr trivial,fU G0F (λx hx=>Dw) (λk hk=>C5),_,_,λk=>if k=1000 then kl+234 else k,⟨st+o9,⟨zO,zO⟩,F,0,⟨_,⟨cl,Ml,gl,hPQ.c1,hPQ.c2,hPQ.c3,rfl,rfl⟩,rfl⟩,hPQ.hS.i6,λ_=>⟨rfl,RG,hPQ.eq,hPQ.qs⟩⟩,λk hk=>ae zO,zS,zS,by simp [d200,d208,d216,N6,GF,results64,ren,aW,aw,aF,bH],?_⟩;simp [jH,bH,ayh,GF]
theorem sj {p:Prop} (h:p:=by simp [results116,ren,aW,aw,aF,fiN,fiL]):p:=h
theorem ET {p:Prop} (h:p:=by
 obtain rfl|rfl|rfl|rfl:md=0\/md=1\/md=2\/md=3:=zO
 all_goals decide):p:=h
theorem F7 {p:Prop} (h:p:=by
 have q1:=J9 (a:=k1) zO;have em:m+(s+1)=m+s+1:=rfl;have afY:=λρ=>nY (show Blk.fx ⟨fa c2 .i64 g2,.ty 3⟩ from fy _ _ _) ρ;unfold T4;refine mC (s:=GS.mk _ _ _ 0) _ _ 600 hC G0F (m0:=[]) bA zO ?_ ?_ ?_ ?_ zS
 ·simp [dom,fP,ren,aW,aw,aF,aL,cQ,aI,aP,q1,em]
 ·simp [jH,BB,abe,dom]
 ·simp
 ·intro k hk;simp;omega):p:=h
theorem FT {p:Prop} (h:p:=by
 refine ⟨rfl,zS,λj hj=>?_,aA _⟩;have:j=0\/j=1\/j=2\/j=3\/j=4\/j=5\/j=6\/j=7\/j=8:=zO;rcases this with rfl|rfl|rfl|rfl|rfl|rfl|rfl|rfl|rfl<;>rfl):p:=h
def fiL (md:Int):List Int:=if md=0 then [1000000] else if md=1 then [1351207,-1702414] else if md=2 then [784514,235573,-1177680,1315186] else if md=3 then [741670,-409101,190755,-573862,299064,334625,315293,-796888] else []
def fiN (md:Int):Nat:=(fiL md).length
def fiF (md:Int) (j:Nat):Int:=(fiL md).getD j 0
def ptN (md:Int):Nat:=2*fiN md - 1
def ptF (md:Int) (j:Nat):Int:=fiF md (if j<fiN md then j else 2*fiN md - 2 - j)
def oN (md:Int):Nat:=if md=4 then 7 else 3*ptN md
def oK (md:Int) (j:Nat):Int:=if md=4 then [1,3,1,2,1,3,1].getD j 0 else if j%3=1 then 2 else 1
def oP (md:Int) (j:Nat):Int:=if md=4 then [1,-8,1,1,1,-8,1].getD j 0 else ptF md (j / 3)
def oD (md:Int) (j:Nat):Int:=if md=4 then [4,17,4,1,4,17,4].getD j 0 else if j%3=1 then 1000000 else 2000000
theorem aaJ {md:Int} (h:0<=md/\md<4):1<=fiN md/\fiN md<=8:=by
 exact ET
theorem Vp {l:List Int} {B:Int} (h0:0<=B) (h:∀ x∈l,-B<=x/\x<=B) (j:Nat):-B<=l.getD j 0/\l.getD j 0<=B:=by
 rw [j4]
 cases hj:l[j]? with
 | none=>simp;omega
 | some x=>exact h x (mD hj)
theorem asv {md:Int} (h:0<=md/\md<=4) (j:Nat):-2000000<=oP md j/\oP md j<=2000000:=by
 unfold oP;by_cases c:md=4
 ·rw [ag c];exact Vp zO zD j
 ·rw [ae c];unfold ptF fiF;refine Vp zO ?_ _;exact ET
theorem acL {md:Int} (h:0<=md/\md<=4):1<=oN md/\oN md<=45:=by
 obtain rfl|rfl|rfl|rfl|rfl:md=0\/md=1\/md=2\/md=3\/md=4:=zO
 all_goals decide
theorem asu {md:Int} (h:¬md=4) (j:Nat):oK md j=1\/oK md j=2:=by
 unfold oK;rw [ae h];split<;>simp
def WG (nk m:Nat) (F:aJ) (v:Value) (ns:cf):Prop:=(m=0/\v=.slice none 0 0/\ns=[])\/∃ (c:Nat) (g:aJ),0<m/\m<=c/\(∀ j,j<m->g j=F j)/\v=.slice (some ⟨nk,0,none⟩) m c/\ns=[(nk,⟨fa c .i64 g,.ty 3⟩)]
theorem AY {nk m:Nat} {F:aJ} {v:Value} {ns:cf} (h:WG nk m F v ns):∀ k∈ak ns,k=nk:=by
 rcases h with ⟨_,_,rfl⟩|⟨c,g,_,_,_,_,rfl⟩<;>simp [ak]
theorem OX {D:iH} {m:Nat} {F:aJ} (v:Value) (ns:cf) (h:WG 1000 m F v ns):aL (eo D ns) v/\(∀ p∈ns,200<=p.1/\p.2.ids (eo D ns))/\(∀ k b c,(k,b)∈ns->(k,c)∈ns->b=c):=by
 rcases h with ⟨_,rfl,rfl⟩|⟨c,g,_,_,_,rfl,rfl⟩
 ·simp
 ·refine ⟨sn,?_,?_⟩
  ·simp only [br,bN];exact ⟨zO,Blk.fx_ids (fy _ _ _) _⟩
  ·exact ta
theorem VG {nk m:Nat} {F:aJ} {ρ:dR} (h:ρ 1000=nk):RR ρ (WG 1000 m F)=WG nk m F:=by
 funext v ns;apply propext;constructor
 ·rintro ⟨v0,JF,⟨h0,rfl,rfl⟩|⟨c,g,h9,h1,h2,rfl,rfl⟩,rfl,rfl⟩
  ·exact DB
  ·exact .inr ⟨c,g,h9,h1,h2,by simp [ren,aW,aw,aF,h],by simp [rnL,jH,h]⟩
 ·rintro (⟨h0,rfl,rfl⟩|⟨c,g,h9,h1,h2,rfl,rfl⟩)
  ·exact ⟨_,_,.inl ⟨h0,rfl,rfl⟩,by simp [ren,aW,aw,aF],by simp [rnL]⟩
  ·exact ⟨_,_,.inr ⟨c,g,h9,h1,h2,rfl,rfl⟩,by simp [ren,aW,aw,aF,h],by simp [rnL,jH,h]⟩
theorem MC (l:List Int):(l.map λx=>Value.int .i64 x).toArray=fa l.length .i64 λj=>l.getD j 0:=by
 apply gI;intro j;by_cases hj:j<l.length
 ·simp [fa,hj]
 ·rw [fG (by simp;omega),fG (by simp [fa];omega)]
theorem Oh (md:Int) (h:0<=md/\md<=4):FunS prog G0 116 #[.int .i64 md] (hpL G0 []) (ak []) (WG 1000 (fiN md) (fiF md)):=by
 refine eW (B:=200) G0F func116 rfl call116 n7 ?_ OX (by simp [ntmps116]) zO ?_
 ·simp
 intro C hC bA hY;obtain rfl|rfl|rfl|rfl|rfl:md=0\/md=1\/md=2\/md=3\/md=4:=zO
 ·(repeat' (first|refine cT ?_|refine cH ?_|refine gwC ?_ ?_<;>intro hb))
  exact ⟨.inr trivial,zR G0F,_,_,λk=>if k=1000 then 232 else k,.inr ⟨1,fiF 0,zD,aA _,λ_ _=>rfl,rfl,rfl⟩,λk hk=>ae zO,zS,zS,sj,by simp [jH];exact MC [1000000]⟩
 ·(repeat' (first|refine cT ?_|refine cH ?_|refine gwC ?_ ?_<;>intro hb))
  exact ⟨.inr trivial,zR G0F,_,_,λk=>if k=1000 then 248 else k,.inr ⟨2,fiF 1,zD,aA _,λ_ _=>rfl,rfl,rfl⟩,λk hk=>ae zO,zS,zS,sj,by simp [jH];exact MC [1351207,-1702414]⟩
 ·(repeat' (first|refine cT ?_|refine cH ?_|refine gwC ?_ ?_<;>intro hb))
  exact ⟨.inr trivial,zR G0F,_,_,λk=>if k=1000 then 264 else k,.inr ⟨4,fiF 2,zD,aA _,λ_ _=>rfl,rfl,rfl⟩,λk hk=>ae zO,zS,zS,sj,by simp [jH];exact MC [784514,235573,-1177680,1315186]⟩
 ·(repeat' (first|refine cT ?_|refine cH ?_|refine gwC ?_ ?_<;>intro hb))
  exact ⟨.inr trivial,zR G0F,_,_,λk=>if k=1000 then 280 else k,.inr ⟨8,fiF 3,zD,aA _,λ_ _=>rfl,rfl,rfl⟩,λk hk=>ae zO,zS,zS,sj,by simp [jH];exact Eq.trans (b:=(List.map (λx=>Value.int .i64 x) [741670,-409101,190755,-573862,299064,334625,315293,-796888]).toArray) (by kernel_rfl) (MC _)⟩
 ·(repeat' (first|refine cT ?_|refine cH ?_|refine gwC ?_ ?_<;>intro hb))
  exact ⟨.inr trivial,zR G0F,_,_,λk=>k,.inl ⟨rfl,rfl,rfl⟩,λ_ _=>rfl,zS,zS,by simp [results116,ren,aW,aw,aF],zS⟩
def Mg (nk m:Nat) (k p q:aJ) (v:Value) (ns:cf):Prop:=∃ c A,OA A c m k p q/\v=.slice (some ⟨nk,0,none⟩) m c/\ns=[(nk,⟨A,.ty 128⟩)]
theorem uc {nk m:Nat} {k p q:aJ} {v:Value} {ns:cf} (h:Mg nk m k p q v ns):∀ x∈ak ns,x=nk:=by
 obtain ⟨c,A,_,_,rfl⟩:=h;simp [ak]
theorem JJ {D:iH} {m:Nat} {k p q:aJ} (v:Value) (ns:cf) (h:Mg 1000 m k p q v ns):aL (eo D ns) v/\(∀ p∈ns,200<=p.1/\p.2.ids (eo D ns))/\(∀ k b c,(k,b)∈ns->(k,c)∈ns->b=c):=by
 obtain ⟨c,A,h,rfl,rfl⟩:=h;refine ⟨sn,?_,?_⟩
 ·simp only [br,bN];exact ⟨zO,Blk.fx_ids h.fx _⟩
 ·exact ta
theorem V3 {nk m:Nat} {k p q:aJ} {ρ:dR} (h:ρ 1000=nk):RR ρ (Mg 1000 m k p q)=Mg nk m k p q:=by
 funext v ns;apply propext;constructor
 ·rintro ⟨v0,JF,⟨c,A,h1,rfl,rfl⟩,rfl,rfl⟩;exact ⟨c,A,h1,kj,by simp [rnL,h,Blk.fx_rn h1.fx]⟩
 ·rintro ⟨c,A,h1,rfl,rfl⟩;exact ⟨_,_,⟨c,A,h1,rfl,rfl⟩,kj,by simp [rnL,h,Blk.fx_rn h1.fx]⟩
theorem FunS.nk0 {fn:FuncId} {args:ca} {R R':Ij} (h:FunS prog G0 fn args (hpL G0 []) (ak []) R) (nk:Nat) (rY:100<=nk) (hR:∀ v ns,R v ns->∀ k∈ak ns,k=1000) (ea:args.map (ren λk=>if k=1000 then nk else k)=args) (eR:RR (λk=>if k=1000 then nk else k) R=R') :
  FunS prog G0 fn args (hpL G0 []) [] R':=by
 refine h.mvL (eG:=hpL G0 []) (PN:=[]) G0F n7 (λk=>if k=1000 then nk else k) (λk hk=>ae zO) ea rfl eR (λk hk=>rfl) zS ai (λv ns hV k hk=>?_) (λv ns hV k hk l hl e=>xf);rw [hR v ns hV k hk,ag rfl];exact ⟨rY,zS⟩
def aj0 (nk:Nat) (md:Int) (v:Value) (ns:cf):Prop:=∃ w,(WG nk (ptN md) (ptF md) w ns\/(md=4/\w=.slice (some ⟨nk,0,none⟩) 0 0/\ns=[(nk,⟨#[],.ty 3⟩)]))/\v=.tuple #[w,.int .i64 0]
theorem adh {D:iH} {md:Int} (v:Value) (ns:cf) (h:aj0 1000 md v ns):aL (eo D ns) v/\(∀ p∈ns,200<=p.1/\p.2.ids (eo D ns))/\(∀ k b c,(k,b)∈ns->(k,c)∈ns->b=c):=by
 obtain ⟨w,hV,rfl⟩:=h;rcases hV with hV|⟨_,rfl,rfl⟩
 ·have h0:=OX (D:=D) w ns hV;refine ⟨?_,h0.2⟩;rcases hV with ⟨_,rfl,rfl⟩|⟨c,g,_,_,_,rfl,rfl⟩
  ·exact ga
  ·exact tj
 ·refine ⟨gb,zS,?_⟩;exact ta
def T4 (m c s c':Nat) (z:Int) (g g':aJ):GS :=
 ⟨tsL [(2,.slice none 0 0),(3,.int .i64 0),(4,.slice (some ⟨272,0,none⟩) m c),(5,.slice (some ⟨304,0,none⟩) (m+s) c'),(6,.int .i64 z)],hpL G0 [(272,⟨fa c .i64 g,.ty 3⟩),(304,⟨fa c' .i64 g',.ty 3⟩)],600,0⟩
def paR (md:Int) (m c:Nat) (g:aJ) (kk:Nat) (x:GS):Prop:=∃ (s c':Nat) (z:Int) (g':aJ),s+kk+1=m/\z=(kk:Int) - 1/\m+s<=c'/\(∀ j,j<m+s->g' j=ptF md j)/\x=T4 m c s c' z g g'
theorem J9 {a:Nat} (h:a<=100):Int.bmod ((a:Int) - 1) 18446744073709551616=(a:Int) - 1:=bm zO zO
theorem ajK {a:Nat} (h:a<=100):Int.bmod ((a:Int) - 2) 18446744073709551616=(a:Int) - 2:=bm zO zO
theorem Pz (md:Int) (h:0<=md/\md<=4):FunS prog G0 90 #[.int .i64 md] (hpL G0 []) (ak []) (aj0 1000 md):=by
 refine eW (B:=200) G0F func90 rfl call90 n7 ?_ adh (by simp [ntmps90]) zO ?_
 ·simp
 intro C hC bA hY;have a0:¬md<0:=zO;have a1:¬5<=md:=zO;have dF:=(Oh md h).nk0 272 zO (λv ns=>AY) aN (VG (nk:=272) rfl);refine cA (Gy.k2 a0 a1) ?_;refine gj ?_;refine qM trivial ?_;refine cv (f:=.func 116) (cap:=#[]) hC dF rfl zS rfl rfl aS aq zS aZ aq zS bO ?_ ?_
 ·intro v ns hV k hk;rw [AY hV k hk];omega
 by_cases h4:md=4
 ·subst h4;rintro v ns (⟨_,rfl,rfl⟩|⟨c,g,h0,_⟩);rotate_left
  ·exact absurd h0 zD
  refine qM trivial ?_;refine cu ?_;refine iI ?_;refine uv ?_;simp only [Array.toList];refine Sy rfl zS rfl underlying22 (aG sizeOf3) ?_;refine qM trivial ?_;refine UX (p:=some (288,0)) (q:=none) (sl:=0) (cap:=0) (c:=0) rfl zS rfl underlying22 (aG sizeOf3) zS zS (aA _) ?_;refine qM trivial ?_;refine cu ?_;refine iI ?_;refine fD 0 (λ_=>⟨tsL [(2,.slice none 0 0),(3,.int .i64 0),(5,.slice (some ⟨288,0,none⟩) 0 0),(6,.int .i64 (-2))],hpL G0 [(288,⟨#[],.ty 3⟩)],600,0⟩) ?_ (λi hi=>zO) ?_
  ·refine cB _ 600 hC G0F (m0:=[]) bA zO ?_ ?_ zS
   ·simp [aL,cQ,aI,aP,dom,cJ]
   ·simp [aM,cJ]
  ·
   refine iI ?_;exact ⟨.inr trivial,zR G0F,_,_,λk=>if k=1000 then 288 else k,⟨_,.inr ⟨rfl,rfl,rfl⟩,rfl⟩,λk hk=>ae zO,zS,zS,by simp [results90,ren,aW,aw,aF],by simp [Blk.rn]⟩
 ·have hm:=aaJ (md:=md) zO;have hpN:ptN md=2*fiN md - 1:=rfl;have hpF:∀ j,ptF md j=fiF md (if j<fiN md then j else 2*fiN md - 2 - j):=λj=>rfl;generalize fiN md=m at *
  rintro v ns (⟨h0,rfl,rfl⟩|⟨c,g,_,hc,hg,rfl,rfl⟩)
  ·omega
  refine qM trivial ?_;refine cu ?_;refine iI ?_;refine uv ?_;simp only [Array.toList];refine Sy rfl zS rfl underlying22 (aG sizeOf3) ?_;refine qM trivial ?_;refine L8 (p:=some ⟨288,0,none⟩) (j:=272) (au:=0) (m:=m) (m':=c) (b2:=⟨fa c .i64 g,.ty 3⟩) (nw:=(fa m .i64 g).toList) (sz:=1) (o9:=8) (z:=.int .i64 0) rfl zS rfl underlying22 (aG sizeOf3) ah ah zS zS zS (λq u hq=>?_) nX (λq x hx=>by rw [show x=.int .i64 0 by simpa [Value.cells] using yW hx];rfl) zO zS sd zO (λcM eK=>?_)
  ·simp only [iP] at hq;rw [cD];by_cases om:q<m
   ·have e1:=uO m g (.ty 3) q om;have e2:=uO c g (.ty 3) q zO;rw [cD] at e1 e2;rw [e1] at hq;exact e2.trans hq
   ·rw [fG aB] at hq;cases hq
  have ez:((fa m .i64 g).toList++(Builtin.zeroCells (Value.int .i64 0).cells (cM - m)).toList).toArray=fa cM .i64 (HL g m 0 g):=by
   rw [Bx (k:=.i64) cZ,Mn];congr 1;simp [Value.cells];omega
  rw [ez]
  have hc0:∀ j,j<m+0->HL g m 0 g j=ptF md j:=λj hj=>by
   unfold HL;rw [ag zO,hg j zO,hpF,ag zO]
  generalize HL g m 0 g=g0 at *
  have BB:=λD=>Blk.fx_ids (fy c g 3) D;have axi:=λD=>Blk.fx_ids (fy cM g0 3) D;have hfm:=λρ=>nY (show Blk.fx ⟨fa c .i64 g,.ty 3⟩ from fy _ _ _) ρ;refine qM trivial ?_;refine cu ?_;have q2:=ajK (a:=m) zO;refine cA q2 ?_;clear q2;refine jL (paR md m c g) (m0:=m - 1) (s0:=T4 m c 0 cM ((m:Int) - 2) g g0) ?_ ⟨0,cM,_,g0,zO,zO,zO,hc0,rfl⟩ ?_
  ·have q2:=ajK (a:=m) zO;refine cB _ 600 hC G0F (m0:=[]) bA zO ?_ ?_ zS
   ·simp [aL,cQ,aI,aP,dom,cJ,q2]
   ·simp [aM,cJ,BB,axi]
  rintro kk _ ⟨s,c',z,g',hs,rfl,qX,Oy,rfl⟩;have aDb:=λD=>Blk.fx_ids (fy c' g' 3) D;by_cases hk:kk=0
  ·subst hk;have es:m+s=ptN md:=zO;unfold T4;refine iI ?_;refine ⟨.inr trivial,zR G0F,_,_,λk=>if k=1000 then 304 else k,⟨_,.inl (.inr ⟨c',g',zO,zO,λj hj=>Oy j zO,rfl,rfl⟩),rfl⟩,λk hk=>ae zO,zS,zS,by simp [results90,ren,aW,aw,aF,es],iu⟩
  ·obtain ⟨k1,rfl⟩:∃ k1,kk=k1+1:=⟨kk - 1,zO⟩
   have ek:((k1+1:Nat):Int) - 1=(k1:Int):=zO;have R7:(0:Int)<=k1:=zO;have hkq:k1<m:=zO;have Zg:(k1:Int)<m:=zO;have hkc:k1<c:=zO;have lg:=qh (T:=3) (M:=c) (g:=g) (q:=k1) hkc;have lg':fB prog 3 ⟨fa c .i64 g,.ty 3⟩ k1=some (.int .i64 (g k1)):=lg;have Sq:g k1=ptF md (m+s):=by rw [hg k1 hkq,hpF,ae zO,(zO:2*m - 2 - (m+s)=k1)]
   rw [ek];unfold T4;refine cA (k4 R7 hkq Zg hkc) ?_;refine gj ?_;refine Rl (k5 lg' R7 hkq Zg hkc) ?_;refine uu (m:=1) (i:=m+s) (j:=656) (o9:=8) (z:=.int .i64 0) (T2:=.ty 3) (G:=ptF md) (ev:=λ_=>g k1) rfl zS rfl underlying22 (aG sizeOf3) ah ah zO cZ cZ zO zO (.inr ⟨304,c',g',zO,zS,zS,qX,λj hj=>Oy j zO⟩) zS px (λu hu=>by have e:u=0:=zO;subst e;simpa using Sq) zO ?_;rintro k' c2 g2 Xv zN RB hg2
   have Tt:k'=664\/k'=304:=by
    rcases Xv with e|⟨c,e⟩
    ·exact .inl e
    ·simp at e;exact .inr e.1.symm
   have abe:=λD=>Blk.fx_ids (fy c2 g2 3) D;rcases Tt with rfl|rfl
   ·
    refine qM trivial ?_;refine cu ?_;have q1:=J9 (a:=k1) zO;refine cA q1 ?_;clear q1;refine ⟨λx=>if x=304 then 664 else x,T4 m c (s+1) c2 ((k1:Int) - 1) g g2,k1,?_,⟨s+1,c2,_,g2,zO,rfl,zO,λj hj=>hg2 j zO,rfl⟩,zO⟩;exact F7
   ·
    refine qM trivial ?_;refine cu ?_;have q1:=J9 (a:=k1) zO;refine cA q1 ?_;clear q1;refine ⟨λx=>if x=304 then 304 else x,T4 m c (s+1) c2 ((k1:Int) - 1) g g2,k1,?_,⟨s+1,c2,_,g2,zO,rfl,zO,λj hj=>hg2 j zO,rfl⟩,zO⟩;exact F7
theorem OA.congr {A:ca} {c m:Nat} {k p q k2 p2 q2:aJ} (h:OA A c m k p q) (e:∀ j,j<m->k j=k2 j/\p j=p2 j/\q j=q2 j):OA A c m k2 p2 q2:=by
 refine ⟨h.sz,h.fl,λj hj=>?_,h.le⟩;obtain ⟨e1,e2,e3⟩:=e (j / 3) zO;rw [h.rd j hj];unfold opC;rw [e1,e2,e3]
theorem ahV:OA #[.int .u8 1,.int .i64 1,.int .i64 4,.int .u8 3,.int .i64 (-8),.int .i64 17,.int .u8 1,.int .i64 1,.int .i64 4] 3 3 (oK 4) (oP 4) (oD 4):=by
 exact FT
theorem UM:FunS prog G0 91 #[] (hpL G0 []) (ak []) (Mg 1000 3 (oK 4) (oP 4) (oD 4)):=by
 refine eW (B:=200) G0F func91 rfl call91 n7 zS JJ (by simp [ntmps91]) zO ?_;intro C hC bA hY;refine iI ?_;refine ⟨.inr trivial,zR G0F,_,_,λk=>if k=1000 then 232 else k,⟨3,_,ahV,rfl,rfl⟩,λk hk=>ae zO,zS,zS,by simp [results91,ren,aW,aw,aF],?_⟩;simp [Blk.rn,aw,aF]
 kernel_rfl
theorem gh {p:Prop} (h:p:=by simp [cW]):p:=h
theorem aaB {p:Prop} (h:p:=by
 exact ⟨rfl,rfl,rfl⟩):p:=h
theorem FR {p:Prop} (h:p:=by
 rintro v ns ⟨w,hV|⟨_,_,rfl⟩,rfl⟩ k hk
 ·rw [AY hV k hk];omega
 ·simp [ak] at hk;omega):p:=h
theorem Hl {p:Prop} (h:p:=by
 intro k hk;simp (disch:=omega) only [ao,bH,bV,eH,ae,bj,bq];exact hLl k hk):p:=h
theorem Ee {p:Prop} (h:p:=by
 intro x hx;have e:=hns x hx;simp (disch:=omega) only [ao,bH,bV,eH,ae,bj,bq];exact hLm x hx):p:=h
theorem Gs {p:Prop} (h:p:=by
 obtain ⟨k2,c2,A2,w1,w2,w3,w4,w5,w6,w7⟩:=h;refine NC w4 ?_;refine hk _ _ (.inr ⟨λx hx=>(jG hi).2 (.inr (iJ x hx)),k2,c2,A2,w1,w2,λ_=>cY _ _ _,?_,λt ht=>?_,w6,w7⟩)
 ·rw [ao _ _ zD];exact w4
 ·rw [ao _ _ (λe=>by subst e;simp at ht)];exact w5 t ht):p:=h
theorem GX {p:Prop} (h:p:=by
 rw [f1];rcases hV with ⟨e1,e2,e3,e4,_⟩|⟨e1,e2⟩
 ·exact .inl ⟨e1,e2,e3,e4⟩
 ·exact .inr ⟨208,e1,zO,(h.ext zD).trans (hF.bL (208,_) (by rw [e2];simp))⟩):p:=h
theorem Fe {p:Prop} (h:p:=by
 rcases qx with e|⟨c9,e⟩
 ·exact .inl e
 ·rw [f1] at e;rcases hV with ⟨e1,_⟩|⟨e1,_⟩
  ·rw [e1] at e;simp at e
  ·rw [e1] at e;simp at e;exact .inr e.1.symm):p:=h
theorem ES {p:Prop} (h:p:=by
 have lT:=nR _ rfl;simp [Region.binds] at lT;exact absurd cy gu):p:=h
theorem Fh {p:Prop} (h:p:=by
 refine .inl ⟨?_,?_,TJ.start λj=>?_⟩
 ·rw [mN];split<;>simp
 ·rw [mN];split<;>simp
 ·rw [mN];split<;>simp):p:=h
theorem yM {p:Prop} (h:p:=by
 intro v ns hV k hk;rw [uc hV k hk];omega):p:=h
def oqN:List (Nat×Nat):=[(0,36),(1,37),(2,38),(3,39),(4,40),(5,41),(6,42),(7,43),(8,44)]
def oqX:List (Nat×Nat):=[(8,552)]
def oqD:List (Nat×Nat):=[(4,2),(4,3),(5,4),(6,5),(8,1),(8,6),(8,7)]
def oqV (L:cf) (sl:Value) (i np cP:Nat) (g:aJ)  : Nat->Value
 | 0=>sl
 | 1=>.agg #[.int .u8 1,.int .i64 (g i),.int .i64 2000000]
 | 2=>.slice (some ⟨224,0,none⟩) np cP
 | 3=>.int .i64 i
 | 4=>.pointer (some ⟨224,i,none⟩)
 | 5=>.int .i64 (g i)
 | 6=>.agg #[.int .u8 2,.int .i64 (g i),.int .i64 1000000]
 | 7=>.agg #[.int .u8 1,.int .i64 (g i),.int .i64 2000000]
 | 8=>.slice (some ⟨552,0,none⟩) 3 3
 | _=>.bool true
def ays (L:cf) (sl:Value) (i np cP:Nat) (g:aJ)  : Nat->Blk
 | 8=>⟨#[.int .u8 1,.int .i64 (g i),.int .i64 2000000,.int .u8 2,.int .i64 (g i),.int .i64 1000000,.int .u8 1,.int .i64 (g i),.int .i64 2000000],.ty 128⟩
 | _=>⟨#[],.mp⟩
structure oqF (L:cf) (sl:Value) (i np cP:Nat) (g:aJ) (jK:fp) (hp0:Hp):Prop where
 e2:jK 2=.slice none 0 0
 e3:jK 3=.int .i64 0
 e4:jK 4=.slice (some ⟨224,0,none⟩) np cP
 e6:jK 6=sl
 e7:jK 7=.int .i64 i
 e8:jK 8=.pointer (some ⟨472,0,none⟩)
 b224:hp0 224=some (⟨fa cP .i64 g,.ty 3⟩)
 b472:hp0 472=some (⟨#[.int .u8 1,.int .i64 (g i),.int .i64 2000000],.ty 128⟩)
 low:∀ k,k<100->hp0 k=G0 k
 bL:∀ p∈L,hp0 p.1=some p.2
theorem asE:(oqN.map Prod.fst).Nodup:=dZ
theorem asF:(oqN.map Prod.snd).Nodup:=dZ
theorem ayt:(oqX.map Prod.fst).Nodup:=dZ
def bqN:List (Nat×Nat):=[(0,12),(1,13),(2,14),(3,15),(4,16),(5,17),(6,18),(7,19),(8,20),(9,21),(10,22),(11,23),(12,24),(13,25),(14,26),(15,27),(16,28),(17,29),(18,30)]
def bqX:List (Nat×Nat):=[(18,560)]
def bqD:List (Nat×Nat):=[(3,1),(3,2),(4,3),(5,4),(8,6),(8,7),(9,8),(10,9),(11,10),(14,12),(14,13),(15,14),(16,15),(17,5),(17,11),(17,16),(18,17)]
def bqV (L:cf) (sl:Value) (j m cO:Nat) (AO:ca) (k p q:aJ)  : Nat->Value
 | 0=>sl
 | 1=>.slice (some ⟨100,0,none⟩) m cO
 | 2=>.int .i64 j
 | 3=>.pointer (some ⟨100,j*3,none⟩)
 | 4=>.pointer (some ⟨100,j*3,none⟩)
 | 5=>.int .u8 (k j)
 | 6=>.slice (some ⟨100,0,none⟩) m cO
 | 7=>.int .i64 j
 | 8=>.pointer (some ⟨100,j*3,none⟩)
 | 9=>.pointer (some ⟨100,j*3+1,none⟩)
 | 10=>.int .i64 (p j)
 | 11=>.int .i64 (-p j)
 | 12=>.slice (some ⟨100,0,none⟩) m cO
 | 13=>.int .i64 j
 | 14=>.pointer (some ⟨100,j*3,none⟩)
 | 15=>.pointer (some ⟨100,j*3+2,none⟩)
 | 16=>.int .i64 (q j)
 | 17=>.agg #[.int .u8 (k j),.int .i64 (-p j),.int .i64 (q j)]
 | 18=>.slice (some ⟨560,0,none⟩) 1 1
 | _=>.bool true
def avU (L:cf) (sl:Value) (j m cO:Nat) (AO:ca) (k p q:aJ)  : Nat->Blk
 | 18=>⟨#[.int .u8 (k j),.int .i64 (-p j),.int .i64 (q j)],.ty 128⟩
 | _=>⟨#[],.mp⟩
structure bqF (L:cf) (sl:Value) (j m cO:Nat) (AO:ca) (k p q:aJ) (jK:fp) (hp0:Hp):Prop where
 e0:jK 0=.slice (some ⟨100,0,none⟩) m cO
 e2:jK 2=.slice none 0 0
 e3:jK 3=sl
 e4:jK 4=.int .i64 j
 b100:hp0 100=some (⟨AO,.ty 128⟩)
 low:∀ k,k<100->hp0 k=G0 k
 bL:∀ p∈L,hp0 p.1=some p.2
theorem apL:(bqN.map Prod.fst).Nodup:=dZ
theorem apM:(bqN.map Prod.snd).Nodup:=dZ
theorem avV:(bqX.map Prod.fst).Nodup:=dZ
theorem bs9 (a0 a1 a2 a3 a4 a5 a6 a7 a8:Value) (x0 x1 x2:Value):((((((((((Array.range 9).map λx=>[x0,x1,x2][x%3]?.getD default).setIfInBounds 0 a0).setIfInBounds 1 a1).setIfInBounds 2 a2).setIfInBounds 3 a3).setIfInBounds 4 a4).setIfInBounds 5 a5).setIfInBounds 6 a6).setIfInBounds 7 a7).setIfInBounds 8 a8=#[a0,a1,a2,a3,a4,a5,a6,a7,a8]:=by
 generalize hw:((Array.range 9).map λx=>[x0,x1,x2][x%3]?.getD default)=w;have h:w.size=9:=by rw [<-hw];simp
 apply gI;intro j;by_cases hj:j<9
 ·have:j=0\/j=1\/j=2\/j=3\/j=4\/j=5\/j=6\/j=7\/j=8:=zO;rcases this with rfl|rfl|rfl|rfl|rfl|rfl|rfl|rfl|rfl<;>simp [gJ,h]
 ·rw [fG (by simp [h];omega),fG (by simp;omega)]
def OV (sl:Value) (mm c:Nat) (A:ca) (L:cf):Prop:=(sl=.slice none 0 0/\mm=0/\c=0/\A=#[]/\L=[])\/(sl=.slice (some ⟨208,0,none⟩) mm c/\L=[(208,⟨A,.ty 128⟩)])
theorem OV.ns {sl:Value} {mm c:Nat} {A:ca} {L:cf} (h:OV sl mm c A L):∀ x∈L,x.1=208:=by
 rcases h with ⟨_,_,_,_,rfl⟩|⟨_,rfl⟩
 ·simp
 ·simp
theorem OV.lm {sl:Value} {mm c:Nat} {A:ca} {L:cf} (h:OV sl mm c A L):∀ x∈L,hpL G0 L x.1=some x.2:=by
 rcases h with ⟨_,_,_,_,rfl⟩|⟨_,rfl⟩
 ·simp
 ·simp
theorem OV.ll {sl:Value} {mm c:Nat} {A:ca} {L:cf} (h:OV sl mm c A L):∀ k,k<100->hpL G0 L k=G0 k:=λk hk=>dA (λp hp=>by rw [h.ns p hp];omega) hk
theorem Xd (x:Int):OA #[.int .u8 1,.int .i64 x,.int .i64 2000000,.int .u8 2,.int .i64 x,.int .i64 1000000,.int .u8 1,.int .i64 x,.int .i64 2000000] 3 3 (λj=>if j=1 then 2 else 1) (λ_=>x) (λj=>if j=1 then 1000000 else 2000000):=by
 exact FT
theorem acP (k p q:Int):OA #[.int .u8 k,.int .i64 p,.int .i64 q] 1 1 (λ_=>k) (λ_=>p) (λ_=>q):=by
 refine ⟨rfl,zS,λj hj=>?_,aA _⟩;have:j=0\/j=1\/j=2:=zO;rcases this with rfl|rfl|rfl<;>rfl
def XY (L:cf) (np cP i:Nat) (g:aJ) (sl:Value):GS :=
 ⟨tsL [(2,.slice none 0 0),(3,.int .i64 0),(4,.slice (some ⟨224,0,none⟩) np cP),(6,sl),(7,.int .i64 i)],hpL G0 ([(224,⟨fa cP .i64 g,.ty 3⟩)]++L),400,0⟩
def oqI (md:Int) (np cP:Nat) (g:aJ) (m:Nat) (s:GS):Prop:=∃ i sl c A L,i+m=np/\OA A c (3*i) (oK md) (oP md) (oD md)/\OV sl (3*i) c A L/\s=XY L np cP i g sl
theorem adM {i t:Nat} (h:i<t) (ht:t<=15):Int.bmod ((i:Int)+1) 18446744073709551616=((i+1:Nat):Int):=by
 rw [bm zO zO]
 rfl
def OsR (nk:Nat) (md:Int) (v:Value) (ns:cf):Prop:=∃ w,Mg nk (oN md) (oK md) (oP md) (oD md) w ns/\v=.tuple #[w,.int .i64 0]
theorem V4 {D:iH} {md:Int} (v:Value) (ns:cf) (h:OsR 1000 md v ns):aL (eo D ns) v/\(∀ p∈ns,200<=p.1/\p.2.ids (eo D ns))/\(∀ k b c,(k,b)∈ns->(k,c)∈ns->b=c):=by
 obtain ⟨w,hV,rfl⟩:=h;refine ⟨?_,(JJ (D:=D) w ns hV).2⟩;obtain ⟨c,A,h,rfl,rfl⟩:=hV;exact tj
theorem adi (md:Int) (h:0<=md/\md<=4):FunS prog G0 90 #[.int .i64 md] (hpL G0 []) [] (aj0 224 md):=by
 refine (Pz md h).nk0 224 zO (λv ns=>?_) aN ?_
 ·rintro ⟨w,hV|⟨_,_,rfl⟩,rfl⟩
  ·exact AY hV
  ·exact ai
 ·funext v ns;apply propext;constructor
  ·rintro ⟨v0,JF,⟨w,hV,rfl⟩,rfl,rfl⟩;refine ⟨ren (λk=>if k=1000 then 224 else k) w,?_,?_⟩
   ·rcases hV with hV|⟨h4,rfl,rfl⟩
    ·exact .inl ((VG (ρ:=λk=>if k=1000 then 224 else k) (nk:=224) rfl)▸⟨_,_,hV,rfl,rfl⟩)
    ·exact .inr ⟨h4,by simp [ren,aW,aw,aF],by simp [rnL,Blk.rn]⟩
   ·rcases hV with (⟨_,rfl,rfl⟩|⟨c,g,_,_,_,rfl,rfl⟩)|⟨h4,rfl,rfl⟩<;>simp [ren,aW,aw,aF]
  ·rintro ⟨w,hV,rfl⟩;rcases hV with (⟨h0,rfl,rfl⟩|⟨c,g,h0,h1,h2,rfl,rfl⟩)|⟨h4,rfl,rfl⟩
   ·exact ⟨_,_,⟨_,.inl (.inl ⟨h0,rfl,rfl⟩),rfl⟩,by simp [ren,aW,aw,aF],by simp [rnL]⟩
   ·exact ⟨_,_,⟨_,.inl (.inr ⟨c,g,h0,h1,h2,rfl,rfl⟩),rfl⟩,by simp [ren,aW,aw,aF],by simp [rnL,jH]⟩
   ·exact ⟨_,_,⟨_,.inr ⟨h4,rfl,rfl⟩,rfl⟩,by simp [ren,aW,aw,aF],by simp [rnL,Blk.rn]⟩
theorem Wt (nk:Nat) (h:100<=nk):FunS prog G0 91 #[] (hpL G0 []) [] (Mg nk 3 (oK 4) (oP 4) (oD 4)) :=
 UM.nk0 nk h (λv ns=>uc) zS (V3 (ag rfl))
theorem XW (md:Int) (h:0<=md/\md<4):FunS prog G0 63 #[.int .i64 md] (hpL G0 []) (ak []) (OsR 1000 md):=by
 refine eW (B:=200) G0F func63 rfl call63 n7 zS V4 (by simp [ntmps63]) zO ?_;intro C hC bA hY;have n4:¬md=4:=zO;have n4b:(md==4)=false:=by simpa using n4
 have NF:=aaJ h;have eN:oN md=3*ptN md:=by unfold oN;rw [ae n4]
 have hnp:1<=ptN md/\ptN md<=15:=by unfold ptN;omega
 have eO:∀ i j,j<3->oK md (3*i+j)=(if j=1 then 2 else 1)/\oP md (3*i+j)=ptF md i/\oD md (3*i+j)=(if j=1 then 1000000 else 2000000):=λi j hj=>by
  unfold oK oP oD;rw [ae n4,ae n4,ae n4,(zO:(3*i+j) / 3=i),(zO:(3*i+j)%3=j)];exact aaB
 refine iI ?_;refine gj ?_;refine qM trivial ?_;refine cv (f:=.func 90) (cap:=#[]) hC (adi md zO) rfl zS rfl rfl aS aq zS aZ aq zS bO ?_ ?_
 ·exact FR
 rintro v ns ⟨w,(⟨e0,_⟩|⟨cP,g,h0,hcP,hg,rfl,rfl⟩)|⟨e4,_⟩,rfl⟩
 ·omega
 rotate_left
 ·exact absurd e4 n4
 generalize ptN md=np at *
 have hfp:=λD=>Blk.fx_ids (fy cP g 3) D;have axl:=λρ=>nY (show Blk.fx ⟨fa cP .i64 g,.ty 3⟩ from fy _ _ _) ρ;refine Y6 trivial ?_;refine cu ?_;refine cA (Gy.k2 n4 n4b) ?_;refine jL (oqI md np cP g) (m0:=np) (s0:=XY [] np cP 0 g (.slice none 0 0)) ?_ ⟨0,_,0,#[],[],zO,⟨rfl,zS,λj hj=>zO,aA _⟩,.inl ⟨rfl,rfl,rfl,rfl,rfl⟩,rfl⟩ ?_
 ·refine cB _ 400 hC G0F (m0:=[]) bA zO ?_ ?_ zS
  ·simp [aL,cQ,aI,aP,dom,cJ,bH]
  ·simp [aM,cJ,bH,hfp]
 rintro mm0 _ ⟨i,sl,c,A,L,aqU,hA,hV,rfl⟩;have hns:=hV.ns;have hLm:=hV.lm;have hLl:=hV.ll;by_cases vw:mm0=0
 ·obtain rfl:i=np:=zO;rcases hV with ⟨_,e3,_⟩|⟨rfl,rfl⟩
  ·omega
  unfold XY;refine iI ?_;refine ⟨.inr trivial,zR G0F,_,_,λk=>if k=1000 then 208 else k,⟨_,⟨c,A,by rw [eN];exact hA,rfl,rfl⟩,rfl⟩,λk hk=>ae zO,zS,zS,by simp [results63,ren,aW,aw,aF,eN],?_⟩;simp [Blk.fx_rn hA.fx]
 ·have ew:i<np:=zO;have H5:i<cP:=zO;have zM:(i:Int)<np:=zO;have hz:(0:Int)<=i:=zO;have lg0:=qh (T:=3) (M:=cP) (g:=g) (q:=i) H5;have lg:fB prog 3 ⟨fa cP .i64 g,.ty 3⟩ i=some (.int .i64 (g i)):=lg0;clear lg0
  have cW:∀ k,k≠208->hpL G0 L k=G0 k:=λk hk=>by
   rcases hV with ⟨_,_,_,_,rfl⟩|⟨_,rfl⟩
   ·rfl
   ·simp [hk]
  have TC:nj sl:=by
   rcases hV with ⟨rfl,_⟩|⟨rfl,_⟩<;>simp
  generalize Ty:3*i=mm at *
  unfold XY;refine cA (k6 ew zM hz H5 lg TC) ?_;refine Ir follows ?_;simp only [Array.toList,rI,bj,bq,fH,j6,Nat.reduceAdd];refine L7 (oqF L sl i np cP g) ?_ ?_
  ·refine ⟨gh,gh,gh,gh,gh,gh,gh,gh,?_,?_⟩
   ·exact Hl
   ·exact Ee
  intro jK hp0 hF;refine BH (λlisted ts hp=>(listed[9]?≠some true/\listed[10]?≠some true/\TJ oqN oqX oqD (oqV L sl i np cP g ) (ays L sl i np cP g ) jK hp0 listed ts hp)\/((∀ j,j<10->listed[j]? = some true)/\∃ (k2 c2:Nat) (A2:ca),(k2=560\/k2=208)/\OA A2 c2 (mm+3) (qf mm (oK md) (λj=>if j=1 then 2 else 1)) (qf mm (oP md) (λ_=>g i)) (qf mm (oD md) (λj=>if j=1 then 1000000 else 2000000))/\(listed[10]? = some true->ts 6=.slice (some ⟨k2,0,none⟩) (mm+3) c2)/\ts 45=.slice (some ⟨k2,0,none⟩) (mm+3) c2/\(∀ t∈[2,3,4,7],ts t=jK t)/\hp k2=some ⟨A2,.ty 128⟩/\(∀ x,x≠k2->x≠552->hp x=hp0 x))) (λlisted ts hp UE RM hI=>?_) (λfuel listed ts hp i UE hi nR h hk=>?_) _ _ _ _ zS dZ ?_
  ·have I9:=uP UE ah RM;have iJ:∀ i,i<11->listed[i]? = some true:=λi hi=>I9 i nN;rcases hI with ⟨gu,_⟩|⟨_,hI⟩
   ·exact absurd (iJ 9 zO) gu
   obtain ⟨k2,c2,A2,w1,w2,w3,w4,w5,w6,w7⟩:=hI;have x6:=w3 (iJ 10 zO);have x2:=(w5 2 zS).trans hF.e2;have x3:=(w5 3 zS).trans hF.e3;have x4:=(w5 4 zS).trans hF.e4;have x7:=(w5 7 zS).trans hF.e7;have ayg:¬224=k2:=zO;have avZ:=(w7 224 ayg zO).trans hF.b224;clear w3 w4 w5 w7
   have Qq:OA A2 c2 (3*(i+1)) (oK md) (oP md) (oD md):=by
    rw [(zO:3*(i+1)=mm+3)];refine w2.congr λj hj=>?_;unfold qf;by_cases cj:j<mm
    ·rw [ag cj,ag cj,ag cj];exact aaB
    ·rw [ae cj,ae cj,ae cj];have:=eO i (j - mm) zO;rw [(zO:3*i+(j - mm)=j)] at this;rw [this.1,this.2.1,this.2.2,hg i ew];exact aaB
   have pZ:=adM ew zO;refine cA (k6 x2 x3 x4 x6 x7 pZ) ?_;clear pZ;refine ⟨λx=>if x=208 then k2 else x,XY [(208,⟨A2,.ty 128⟩)] np cP (i+1) g (.slice (some ⟨208,0,none⟩) (mm+3) c2),np - (i+1),?_,⟨i+1,_,c2,A2,_,zO,Qq,.inr ⟨by rw [(zO:3*(i+1)=mm+3)],rfl⟩,rfl⟩,zO⟩;have abe:=λD=>Blk.fx_ids (Qq.fx (T:=128)) D;have afY:=λρ=>nY (show Blk.fx ⟨A2,.ty 128⟩ from Qq.fx) ρ;have al5:100<=k2:=zO;have pZ:=adM ew zO;unfold XY;refine mC (s:=GS.mk _ _ _ 0) _ _ 400 hC G0F (m0:=[]) bA zO ?_ ?_ ?_ ?_ zS
   ·simp [dom,fP,ren,aW,aw,aF,aL,cQ,aI,aP,x2,x3,x4,x6,x7,pZ,cJ]
   ·simp [Blk.rn,hfp,axl,abe,afY,dom,avZ,w6,al5,cJ]
   ·simp;omega
   ·exact QX
  ·have dp:i<11:=by
    exact sY
   rcases h with ⟨gu,OC,h⟩|⟨iJ,h⟩
   rotate_left
   ·obtain rfl:i=10:=by
     refine bu λe=>?_;rw [iJ i zO] at hi;cases hi
    exact Gs
   have hnx:i≠9->(listed.setIfInBounds i true)[9]?≠some true:=λe h9=>((jG hi).1 h9).elim (λe2=>e e2.symm) gu;have hny:i≠10->(listed.setIfInBounds i true)[10]?≠some true:=λe h9=>((jG hi).1 h9).elim (λe2=>e e2.symm) OC;obtain rfl|rfl|rfl|rfl|rfl|rfl|rfl|rfl|rfl|rfl|rfl:i=8\/i=9\/i=10\/i=0\/i=1\/i=2\/i=3\/i=4\/i=5\/i=6\/i=7:=zO
   ·-- 8
    have lT:=nR _ rfl;simp [Region.binds] at lT;have d1:listed[1]? = some true:=cy;have d6:listed[6]? = some true:=cy;have d7:listed[7]? = some true:=cy;have RO:ts 37=.agg #[.int .u8 1,.int .i64 (g i),.int .i64 2000000]:=h.tm (1,37) zD d1;have vf6:ts 42=.agg #[.int .u8 2,.int .i64 (g i),.int .i64 1000000]:=h.tm (6,42) zD d6;have vf7:ts 43=.agg #[.int .u8 1,.int .i64 (g i),.int .i64 2000000]:=h.tm (7,43) zD d7;refine NC (CT RO vf6 vf7 hz zM ew H5 lg @bs9 TC) ?_;exact hk _ _ (.inl ⟨hnx zO,hny zO,h.new asE asF ayt hi (by simp [oqD,d1,d6,d7]) (i:=8) (t:=44) (k:=552) zD rfl zD rfl zD⟩)
   ·-- 9
    have lT:=nR _ rfl;simp [Region.binds] at lT;have d0:listed[0]? = some true:=cy;have d8:listed[8]? = some true:=cy;have d1:=h.cl (8,1) zD d8;have d6:=h.cl (8,6) zD d8;have d7:=h.cl (8,7) zD d8;have d5:=h.cl (6,5) zD d6;have d4:=h.cl (5,4) zD d5;have d2:=h.cl (4,2) zD d4;have d3:=h.cl (4,3) zD d4;have abd:(10=9\/listed[10]? = some true)->False:=λh9=>h9.elim (λe=>zO) (λh9=>OC h9)
    have aa6:∀ x,x<9->listed[x]? = some true:=λx hx=>by
     have:x=0\/x=1\/x=2\/x=3\/x=4\/x=5\/x=6\/x=7\/x=8:=zO;rcases this with rfl|rfl|rfl|rfl|rfl|rfl|rfl|rfl|rfl<;>assumption
    have f1:ts 36=sl:=h.tm (0,36) zD d0;have f2:ts 44=.slice (some ⟨552,0,none⟩) 3 3:=h.tm (8,44) zD d8;have g1:hp 552=some (⟨#[.int .u8 1,.int .i64 (g i),.int .i64 2000000,.int .u8 2,.int .i64 (g i),.int .i64 1000000,.int .u8 1,.int .i64 (g i),.int .i64 2000000],.ty 128⟩):=h.bxi hi (w:=8) zD d8 zD
    have hod:OD hp (ts 36) A c mm:=by
     exact GX
    refine UY rfl hi ny (by simp [ntmps63]) rfl hod hA f2 g1 (Xd (g i)) zO zO ?_;rintro k2 c2 A2 qx nZ Qo
    have Ks:k2=560\/k2=208:=by
     exact Fe
    refine hk _ _ (.inr ⟨λx hx=>(jG hi).2 ?_,k2,c2,A2,Ks,Qo,λh9=>?_,cY _ _ _,λt ht=>?_,cY _ _ _,λx h1 h2=>?_⟩)
    ·by_cases e:x=9
     ·exact .inl e
     ·exact .inr (aa6 x zO)
    ·have:=abd ((jG hi).1 h9);exact this.elim
    ·show upd ts 45 _ t=jK t;rw [ao _ _ (λe=>by subst e;simp at ht)];exact h.t0 t (by simp only [aj,az,ay] at ht;rcases ht with rfl|rfl|rfl|rfl<;>decide)
    ·rw [ao _ _ h1];refine h.ext ?_;simp [oqX];omega
   ·exact ES
   all_goals
    have lT:=And.intro hi (nR _ rfl);simp [Region.binds] at lT;have jI:=h.tm;simp [oqN,oqV] at jI;have vx6:=(h.t0 6 zD).trans hF.e6;have vx8:=(h.t0 8 zD).trans hF.e8;have RP:=(h.t0 4 zD).trans hF.e4;have vx7:=(h.t0 7 zD).trans hF.e7;have azo:=(h.ext zD).trans hF.b472;have azn:=(h.ext zD).trans hF.b224;refine NC (RK lT jI vx6 vx8 RP vx7 azo azn hz zM ew H5 lg @bs9 TC) ?_;exact hk _ _ (.inl ⟨hnx zO,hny zO,h.tmp asE asF hi (by simp [oqD,lT]) zD rfl zD⟩)
  ·exact Fh
theorem ahg:FunS prog G0 63 #[.int .i64 4] (hpL G0 []) (ak []) (OsR 1000 4):=by
 refine eW (B:=200) G0F func63 rfl call63 n7 zS V4 (by simp [ntmps63]) zO ?_;intro C hC bA hY;refine iI ?_;refine gj ?_;refine qM trivial ?_;refine cv (f:=.func 90) (cap:=#[]) hC (adi 4 zO) rfl zS rfl rfl aS aq zS aZ aq zS bO ?_ ?_
 ·exact FR
 rintro v ns ⟨w,(⟨_,rfl,rfl⟩|⟨c,g,h0,_⟩)|⟨_,rfl,rfl⟩,rfl⟩;rotate_left
 ·exact absurd h0 zD
 all_goals
  refine Y6 trivial ?_;refine cu ?_;refine iI ?_;refine uv ?_;simp only [Array.toList];refine cv (f:=.func 91) (cap:=#[]) hC (Wt 304 zO) rfl zS rfl rfl aS aq zS zS zS zS bO ?_ ?_
  ·exact yM
  rintro v ns ⟨c,A,hA,rfl,rfl⟩;refine By trivial ?_;refine UW (m:=3) (c:=c) (m2:=1) (j:=320) (c2:=1) (A:=A) (B:=#[.int .u8 2,.int .i64 1,.int .i64 1]) rfl zS rfl (.inr ⟨304,zS,zO,zS⟩) hA zS zS (acP 2 1 1) zO zO ?_;rintro k' c' A' jR nZ hA'
  have qx:k'=328\/k'=304:=by
   rcases jR with e|⟨c9,e⟩
   ·exact .inl e
   ·simp at e;exact .inr e.1.symm
  clear jR;refine cv (f:=.func 91) (cap:=#[]) hC (Wt 336 zO) rfl zS rfl rfl aS aq zS zS zS zS (λk hk=>by simp (disch:=omega) only [ao,eH,cJ]) ?_ ?_
  ·exact yM
  rintro v ns ⟨c3,A3,Qq,rfl,rfl⟩;have aym:¬k'=336:=zO;refine UW (m:=4) (c:=c') (m2:=3) (j:=336) (c2:=c3) (A:=A') (B:=A3) rfl zS rfl (.inr ⟨k',kr,nZ,by simp [bH,aym]⟩) hA' kr (by simp [bH]) Qq zO zO ?_;rintro k2 c2 A2 Ks azK Qo
  have hk4:k2=344\/k2=k':=by
   rcases Ks with e|⟨c9,e⟩
   ·exact .inl e
   ·simp [cJ] at e;exact .inr e.1.symm
  clear Ks;refine By trivial ?_;refine cu ?_;refine iI ?_
  have hO:OA A2 c2 7 (oK 4) (oP 4) (oD 4):=Qo.congr λj hj=>by
   have:j=0\/j=1\/j=2\/j=3\/j=4\/j=5\/j=6:=zO;rcases this with rfl|rfl|rfl|rfl|rfl|rfl|rfl<;>exact ⟨rfl,rfl,rfl⟩
  refine ⟨.inr trivial,fU G0F zS (λk hk=>by simp (disch:=omega) only [ao,eH,bH,cJ]),_,_,λk=>if k=1000 then k2 else k,⟨_,⟨c2,A2,hO,rfl,rfl⟩,rfl⟩,λk hk=>ae zO,aB,zS,by simp [results63,ren,aW,aw,aF,oN],?_⟩;simp [Blk.fx_rn hO.fx]
def W2 (L:cf) (AO:ca) (m cO:Nat) (z:Int) (sl:Value):GS :=
 ⟨tsL [(0,.slice (some ⟨100,0,none⟩) m cO),(2,.slice none 0 0),(3,sl),(4,.int .i64 z)],hpL G0 ([(100,⟨AO,.ty 128⟩)]++L),400,0⟩
def bqI (AO:ca) (m cO:Nat) (k p q:aJ) (kk:Nat) (s:GS):Prop:=∃ mm sl c A L z,mm+kk=m/\z=(kk:Int) - 1/\OA A c mm (λi=>k (m - 1 - i)) (λi=>-p (m - 1 - i)) (λi=>q (m - 1 - i))/\OV sl mm c A L/\s=W2 L AO m cO z sl
theorem amH {AO:ca} {cO m i:Nat} {k p q:aJ} (h:OA AO cO m k p q) (hi:i<m):fB prog 5 ⟨AO,.ty 128⟩ (i*3)=some (.int .u8 (k i))/\fB prog 3 ⟨AO,.ty 128⟩ (i*3+1)=some (.int .i64 (p i))/\fB prog 3 ⟨AO,.ty 128⟩ (i*3+2)=some (.int .i64 (q i)):=by
 have r0:=h.rd (i*3) zO;have r1:=h.rd (i*3+1) zO;have r2:=h.rd (i*3+2) zO;unfold opC at r0 r1 r2;rw [ag zO,(zO:i*3 / 3=i)] at r0;rw [ae zO,ag zO,(zO:(i*3+1) / 3=i)] at r1;rw [ae zO,ae zO,(zO:(i*3+2) / 3=i)] at r2;rw [A9,A9,A9,fZ (cr isAgg5),fZ (cr isAgg3),fZ (cr isAgg3),r0,r1,r2];exact aaB
theorem aso {x:Int} (h:-2000000<=x/\x<=2000000):Int.bmod (-x) 18446744073709551616=-x:=bm zO zO
theorem SL (AO:ca) (m cO:Nat) (k p q:aJ) (hO:OA AO cO m k p q) (KK:1<=m/\m<=45) (HR:∀ j,j<m->-2000000<=p j/\p j<=2000000) :
  FunS prog G0 65 #[.slice (some ⟨100,0,none⟩) m cO] (hpL G0 [(100,⟨AO,.ty 128⟩)]) (ak [(100,⟨AO,.ty 128⟩)]) (Mg 1000 m (λi=>k (m - 1 - i)) (λi=>-p (m - 1 - i)) (λi=>q (m - 1 - i))):=by
 refine eW (B:=200) G0F func65 rfl call65 (aT hO.fx) ?_ JJ (by simp [ntmps65]) zO ?_
 ·exact RU
 intro C hC bA hY;have hfO:=λD=>Blk.fx_ids (hO.fx (T:=128)) D;have axk:=λρ=>nY (show Blk.fx ⟨AO,.ty 128⟩ from hO.fx) ρ;have q1:=J9 (a:=m) zO;refine cA q1 ?_;clear q1;refine jL (bqI AO m cO k p q) (m0:=m) (s0:=W2 [] AO m cO ((m:Int) - 1) (.slice none 0 0)) ?_ ⟨0,_,0,#[],[],_,zO,rfl,⟨rfl,zS,λj hj=>zO,aA _⟩,.inl ⟨rfl,rfl,rfl,rfl,rfl⟩,rfl⟩ ?_
 ·have q1:=J9 (a:=m) zO;refine cB _ 400 hC G0F (m0:=[(100,⟨AO,.ty 128⟩)]) bA zO ?_ ?_ zS
  ·simp [aL,cQ,aI,aP,dom,cJ,q1]
  ·simp [hfO]
 rintro kk _ ⟨mm,sl,c,A,L,z,hmk,rfl,hA,hV,rfl⟩;have hns:=hV.ns;have hLm:=hV.lm;have hLl:=hV.ll
 have TC:nj sl:=by
  rcases hV with ⟨rfl,_⟩|⟨rfl,_⟩<;>simp
 by_cases Vu:kk=0
 ·subst Vu;obtain rfl:mm=m:=zO;rcases hV with ⟨_,e3,_⟩|⟨rfl,rfl⟩
  ·omega
  unfold W2;refine iI ?_;refine ⟨.inr trivial,zR G0F,_,_,λk=>if k=1000 then 208 else k,⟨c,A,hA,rfl,rfl⟩,λk hk=>ae zO,zS,zS,by simp [results65,ren,aW,aw,aF],?_⟩;simp [Blk.fx_rn hA.fx]
 ·obtain ⟨j,rfl⟩:∃ j,kk=j+1:=⟨kk - 1,zO⟩
  have ek:((j+1:Nat):Int) - 1=(j:Int):=zO;have hz:(0:Int)<=j:=zO;have hjm:j<m:=zO;have zM:(j:Int)<m:=zO;obtain ⟨l0,l1,l2⟩:=amH hO hjm;have hng:=aso (HR j hjm)
  have cW:∀ k,k≠208->hpL G0 L k=G0 k:=λk hk=>by
   rcases hV with ⟨_,_,_,_,rfl⟩|⟨_,rfl⟩
   ·rfl
   ·simp [hk]
  rw [ek];unfold W2;refine cA (k3 hz zM TC) ?_;refine Ir follows ?_;simp only [Array.toList,rI,bj,bq,fH,j6,Nat.reduceAdd];refine L7 (bqF L sl j m cO AO k p q) ?_ ?_
  ·refine ⟨gh,gh,gh,gh,gh,?_,?_⟩
   ·exact Hl
   ·exact Ee
  intro jK hp0 hF;refine BH (λlisted ts hp=>(listed[19]?≠some true/\listed[20]?≠some true/\TJ bqN bqX bqD (bqV L sl j m cO AO k p q ) (avU L sl j m cO AO k p q ) jK hp0 listed ts hp)\/((∀ j,j<20->listed[j]? = some true)/\∃ (k2 c2:Nat) (A2:ca),(k2=568\/k2=208)/\OA A2 c2 (mm+1) (qf mm (λi=>k (m - 1 - i)) (λ_=>k j)) (qf mm (λi=>-p (m - 1 - i)) (λ_=>-p j)) (qf mm (λi=>q (m - 1 - i)) (λ_=>q j))/\(listed[20]? = some true->ts 3=.slice (some ⟨k2,0,none⟩) (mm+1) c2)/\ts 31=.slice (some ⟨k2,0,none⟩) (mm+1) c2/\(∀ t∈[0,2,4],ts t=jK t)/\hp k2=some ⟨A2,.ty 128⟩/\(∀ x,x≠k2->x≠560->hp x=hp0 x))) (λlisted ts hp UE RM hI=>?_) (λfuel listed ts hp i UE hi nR h hk=>?_) _ _ _ _ zS dZ ?_
  ·have I9:=uP UE ah RM;have iJ:∀ i,i<21->listed[i]? = some true:=λi hi=>I9 i nN;rcases hI with ⟨gu,_⟩|⟨_,hI⟩
   ·exact absurd (iJ 19 zO) gu
   obtain ⟨k2,c2,A2,w1,w2,w3,w4,w5,w6,w7⟩:=hI;have x3:=w3 (iJ 20 zO);have x0:=(w5 0 zS).trans hF.e0;have x2:=(w5 2 zS).trans hF.e2;have x4:=(w5 4 zS).trans hF.e4;have ar1:¬100=k2:=zO;have avY:=(w7 100 ar1 zO).trans hF.b100;clear w3 w4 w5 w7
   have Qq:OA A2 c2 (mm+1) (λi=>k (m - 1 - i)) (λi=>-p (m - 1 - i)) (λi=>q (m - 1 - i)):=by
    refine w2.congr λx hx=>?_;unfold qf;by_cases cj:x<mm
    ·rw [ag cj,ag cj,ag cj];exact aaB
    ·rw [ae cj,ae cj,ae cj,(zO:m - 1 - x=j)];exact aaB
   clear hng;have q1:=J9 (a:=j) zO;refine cA (k5 x0 x2 x3 x4 q1) ?_;clear q1;refine ⟨λx=>if x=208 then k2 else x,W2 [(208,⟨A2,.ty 128⟩)] AO m cO ((j:Int) - 1) (.slice (some ⟨208,0,none⟩) (mm+1) c2),j,?_,⟨mm+1,_,c2,A2,_,_,zO,rfl,Qq,.inr ⟨rfl,rfl⟩,rfl⟩,zO⟩;have abe:=λD=>Blk.fx_ids (Qq.fx (T:=128)) D;have afY:=λρ=>nY (show Blk.fx ⟨A2,.ty 128⟩ from Qq.fx) ρ;have al5:100<=k2:=zO;have q1:=J9 (a:=j) zO;unfold W2;refine mC (s:=GS.mk _ _ _ 0) _ _ 400 hC G0F (m0:=[(100,⟨AO,.ty 128⟩)]) bA zO ?_ ?_ ?_ ?_ nv
   ·simp [dom,fP,ren,aW,aw,aF,aL,cQ,aI,aP,x0,x2,x3,x4,q1,cJ]
   ·simp [Blk.rn,hfO,axk,abe,afY,dom,avY,w6,al5,cJ]
   ·simp;omega
   ·exact QX
  ·have dp:i<21:=by
    exact sY
   rcases h with ⟨gu,OC,h⟩|⟨iJ,h⟩
   rotate_left
   ·obtain rfl:i=20:=by
     refine bu λe=>?_;rw [iJ i zO] at hi;cases hi
    exact Gs
   have hnx:i≠19->(listed.setIfInBounds i true)[19]?≠some true:=λe h9=>((jG hi).1 h9).elim (λe2=>e e2.symm) gu;have hny:i≠20->(listed.setIfInBounds i true)[20]?≠some true:=λe h9=>((jG hi).1 h9).elim (λe2=>e e2.symm) OC;obtain rfl|rfl|rfl|rfl|rfl|rfl|rfl|rfl|rfl|rfl|rfl|rfl|rfl|rfl|rfl|rfl|rfl|rfl|rfl|rfl|rfl:i=18\/i=19\/i=20\/i=0\/i=1\/i=2\/i=3\/i=4\/i=5\/i=6\/i=7\/i=8\/i=9\/i=10\/i=11\/i=12\/i=13\/i=14\/i=15\/i=16\/i=17:=zO
   ·-- 18
    have lT:=nR _ rfl;simp [Region.binds] at lT;have d17:listed[17]? = some true:=cy;have azd:ts 29=.agg #[.int .u8 (k j),.int .i64 (-p j),.int .i64 (q j)]:=h.tm (17,29) zD d17;refine NC (k8 azd hz zM l0 l1 l2 hng TC) ?_;exact hk _ _ (.inl ⟨hnx zO,hny zO,h.new apL apM avV hi (by simp [bqD,d17]) (i:=18) (t:=30) (k:=560) zD rfl zD rfl zD⟩)
   ·-- 19
    have lT:=nR _ rfl;simp [Region.binds] at lT;have d0:listed[0]? = some true:=cy;have d18:listed[18]? = some true:=cy;have d17:=h.cl (18,17) zD d18;have d5:=h.cl (17,5) zD d17;have d11:=h.cl (17,11) zD d17;have d16:=h.cl (17,16) zD d17;have d4:=h.cl (5,4) zD d5;have d10:=h.cl (11,10) zD d11;have d15:=h.cl (16,15) zD d16;have d3:=h.cl (4,3) zD d4;have d9:=h.cl (10,9) zD d10;have d14:=h.cl (15,14) zD d15;have d1:=h.cl (3,1) zD d3;have d2:=h.cl (3,2) zD d3;have d8:=h.cl (9,8) zD d9;have d12:=h.cl (14,12) zD d14;have d13:=h.cl (14,13) zD d14;have d6:=h.cl (8,6) zD d8;have d7:=h.cl (8,7) zD d8;have abd:(20=19\/listed[20]? = some true)->False:=λh9=>h9.elim (λe=>zO) (λh9=>OC h9)
    have aa6:∀ x,x<19->listed[x]? = some true:=λx hx=>by
     have:x=0\/x=1\/x=2\/x=3\/x=4\/x=5\/x=6\/x=7\/x=8\/x=9\/x=10\/x=11\/x=12\/x=13\/x=14\/x=15\/x=16\/x=17\/x=18:=zO;rcases this with rfl|rfl|rfl|rfl|rfl|rfl|rfl|rfl|rfl|rfl|rfl|rfl|rfl|rfl|rfl|rfl|rfl|rfl|rfl<;>assumption
    have f1:ts 12=sl:=h.tm (0,12) zD d0;have f2:ts 30=.slice (some ⟨560,0,none⟩) 1 1:=h.tm (18,30) zD d18;have g1:hp 560=some (⟨#[.int .u8 (k j),.int .i64 (-p j),.int .i64 (q j)],.ty 128⟩):=h.bxi hi (w:=18) zD d18 zD
    have hod:OD hp (ts 12) A c mm:=by
     exact GX
    refine UY rfl hi ny (by simp [ntmps65]) rfl hod hA f2 g1 (acP (k j) (-p j) (q j)) zO zO ?_;rintro k2 c2 A2 qx nZ Qo
    have Ks:k2=568\/k2=208:=by
     exact Fe
    refine hk _ _ (.inr ⟨λx hx=>(jG hi).2 ?_,k2,c2,A2,Ks,Qo,λh9=>?_,cY _ _ _,λt ht=>?_,cY _ _ _,λx h1 h2=>?_⟩)
    ·by_cases e:x=19
     ·exact .inl e
     ·exact .inr (aa6 x zO)
    ·have:=abd ((jG hi).1 h9);exact this.elim
    ·show upd ts 31 _ t=jK t;rw [ao _ _ (λe=>by subst e;simp at ht)];exact h.t0 t (by simp only [aj,az,ay] at ht;rcases ht with rfl|rfl|rfl<;>decide)
    ·rw [ao _ _ h1];refine h.ext ?_;simp [bqX];omega
   ·exact ES
   all_goals
    have lT:=And.intro hi (nR _ rfl);simp [Region.binds] at lT;have jI:=h.tm;simp [bqN,bqV] at jI;have vx3:=(h.t0 3 zD).trans hF.e3;have vx0:=(h.t0 0 zD).trans hF.e0;have RP:=(h.t0 4 zD).trans hF.e4;have azl:=(h.ext zD).trans hF.b100;refine NC (k13 lT jI vx3 vx0 RP azl hz zM l0 l1 l2 hng TC) ?_;exact hk _ _ (.inl ⟨hnx zO,hny zO,h.tmp apL apM hi (by simp [bqD,lT]) zD rfl zD⟩)
  ·exact Fh
theorem xJ {p:Prop} (h:p:=by simp (disch:=omega) only [jj,ao,bV,ae]):p:=h
theorem jE {p:Prop} (h:p:=by simp [hA,hS,cW,gu]):p:=h
theorem DN {p:Prop} (h:p:=by unfold bkV;split<;>first|rfl|exact absurd rfl hj|exact (hD zD).elim):p:=h
theorem C6 {p:Prop} (h:p:=by unfold ae8;split<;>first|rfl|exact absurd rfl hj|exact (hD zD).elim):p:=h
theorem s8 {p:Prop} (h:p:=by
 intro v ns hV k hk;rw [zl hV k hk];omega):p:=h
def bkN:List (Nat×Nat):=[(0,14),(1,15),(2,16),(3,17),(4,18),(5,19),(6,20),(8,5)]
def bkX:List (Nat×Nat):=[(3,320),(4,328),(7,216)]
def bkD:List (Nat×Nat):=[(5,4),(6,4),(7,4),(8,4)]
def bkV (L:cf) (ka ks off n cap au av:Nat) (g bx tp nr md st:Int) (cO:Nat) (AO:ca) (cb:Nat) (Ab:ca) (J7:Int) (c9:Nat) (M9:Nat) (g9:aJ) (E9:Int):Nat->Value
 | 0=>.agg #[.slice (some ⟨ka,off,none⟩) n cap,.int .i64 g,.int .i64 bx,.int .i64 tp,.int .i64 nr,.int .i64 md]
 | 1=>.agg #[.int .i64 st,.slice (some ⟨ks,au,none⟩) n av]
 | 2=>.slice (some ⟨248,0,none⟩) (oN md) cO
 | 3=>.slice (some ⟨320,0,none⟩) (oN md) cb
 | 4=>.tuple #[.agg #[.int .i64 J7,.slice (some ⟨328,0,none⟩) n c9],.int .i64 E9]
 | 5=>.agg #[.int .i64 J7,.slice (some ⟨328,0,none⟩) n c9]
 | 6=>.int .i64 E9
 | 8=>.int .i64 E9
 | _=>.bool true
def ae8 (L:cf) (ka ks off n cap au av:Nat) (g bx tp nr md st:Int) (cO:Nat) (AO:ca) (cb:Nat) (Ab:ca) (J7:Int) (c9:Nat) (M9:Nat) (g9:aJ) (E9:Int):Nat->Blk
 | 3=>⟨Ab,.ty 128⟩
 | 4=>⟨fa M9 .i64 g9,.ty 72⟩
 | 7=>⟨#[.int .i64 J7,.slice (some ⟨328,0,none⟩) n c9],.ty 27⟩
 | _=>⟨#[],.mp⟩
structure bkF (L:cf) (ka ks off n cap au av:Nat) (g bx tp nr md st:Int) (cO:Nat) (AO:ca) (jK:fp) (hp0:Hp):Prop where
 e2:jK 2=.pointer (some ⟨200,0,none⟩)
 e3:jK 3=.pointer (some ⟨208,0,none⟩)
 e4:jK 4=.pointer (some ⟨216,0,none⟩)
 e5:jK 5=.int .i64 0
 e6:jK 6=.slice (some ⟨248,0,none⟩) (oN md) cO
 b200:hp0 200=some (⟨#[.slice (some ⟨ka,off,none⟩) n cap,.int .i64 g,.int .i64 bx,.int .i64 tp,.int .i64 nr,.int .i64 md],.ty 24⟩)
 b208:hp0 208=some (⟨#[.int .i64 st,.slice (some ⟨ks,au,none⟩) n av],.ty 27⟩)
 b216:hp0 216=some (⟨#[.int .i64 0,.slice none 0 0],.ty 27⟩)
 b248:hp0 248=some (⟨AO,.ty 128⟩)
 low:∀ k,k<100->hp0 k=G0 k
 bL:∀ p∈L,hp0 p.1=some p.2
theorem ae9:(bkN.map Prod.fst).Nodup:=dZ
theorem afa:(bkN.map Prod.snd).Nodup:=dZ
theorem aka:(bkX.map Prod.fst).Nodup:=dZ
theorem IE:∀ k,k<200->k∉bkX.map Prod.snd:=λk hk=>by simp [bkX];try omega

def m49 (kx nk k:Nat):Nat:=if k=149 then kx else if k=1000 then nk else k
theorem B8 {kx nk k:Nat} (h:k<149):m49 kx nk k=k:=by
 unfold m49;exact QR
theorem Wp {L:cf} {ka ks:Nat} {bm bs:Blk} (hT:L3 L ka ks bm bs) (vo:∀ x∈L,x.1<149) (off n cap au av:Nat) (fm fs:aJ) (hm:MB bm off n fm) (fO:SB bs au n fs) (eK:n<=cap) (fL:n<=av) (g bx tp nr md st:Int) (hs:i64 st) (eM:fk n fm g bx tp nr md=true) (jh:aY st fs n=true) (kx nk:Nat) (hkx:200<=kx) (rY:200<=nk) (hxn:kx≠nk) (m cO:Nat) (AO:ca) (k p q:aJ) (hO:OA AO cO m k p q) (KK:m<=45) (o9:Int) (Jb:o9=1\/o9=-1) :
  FunS prog G0 64 #[cfV (.slice (some ⟨ka,off,none⟩) n cap) g bx tp nr md,.agg #[.int .i64 st,.slice (some ⟨ks,au,none⟩) n av],.slice (some ⟨kx,0,none⟩) m cO,.int .i64 o9] (hpL G0 ((kx,⟨AO,.ty 128⟩)::L)) (kx::ak L) (StR nk n (Mh n m g fm k p q st o9 fs)):=by
 have vq:∀ x∈((149,(⟨AO,.ty 128⟩:Blk))::L),x.2.fx:=λx hx=>by
  rcases aj.1 hx with rfl|hx
  ·exact hO.fx
  ·exact hT.fx x hx
 have hL:LAny ((149,(⟨AO,.ty 128⟩:Blk))::L):=by
  refine ⟨⟨λx hx=>?_,?_,λx hx=>Blk.fx_ids (vq x hx) _⟩,vq⟩
  ·rcases aj.1 hx with rfl|hx
   ·simp
   ·exact hT.ok.big x hx
  ·simp only [ak,bI,fu];refine ⟨λh=>?_,hT.ok.one⟩;obtain ⟨x,hx,e⟩:=aK.1 h;have:=vo x hx;omega
 have Rz:L3 ((149,(⟨AO,.ty 128⟩:Blk))::L) ka ks bm bs:=⟨hL,aD _ hT.am,aD _ hT.kb⟩
 have hka:=vo _ hT.am;have pV:=vo _ hT.kb;simp only at hka pV
 have kL:∀ k∈ak L,m49 kx nk k=k:=λk hk=>by
  obtain ⟨x,hx,rfl⟩:=aC.1 hk;exact B8 (vo x hx)
 have h:=UD Rz (λx hx=>by
  rcases aj.1 hx with rfl|hx
  ·simp
  ·have:=vo x hx;omega) off n cap au av fm fs hm fO eK fL g bx tp nr md st hs eM jh 149 m cO AO k p q (jW ..) hO KK o9 Jb
 refine h.mvL G0F hL.ok (m49 kx nk) (λk hk=>B8 zO) (by simp [cfV,ren,aW,aw,aF,B8 hka,B8 pV];rfl) ?_ (UC (show m49 kx nk 1000=nk from rfl) n _) ?_ ?_ ?_ (λv ns hV k hk=>?_) (λv ns hV k hk l hl _=>by rw [zl hV k hk,zl hV l hl])
 ·simp only [ak,bI];rw [show m49 kx nk 149=kx from rfl];congr 1;have:=gK kL;simp only [ak,List.map_id'] at this;exact this
 ·intro k hk;rw [bV,ae zO];exact hT.low k hk
 ·intro x hx;rcases aj.1 hx with rfl|hx
  ·rw [show m49 kx nk 149=kx from rfl,Blk.fx_rn hO.fx];exact ⟨zO,zS⟩
  ·have hb:=hT.ok.big x hx;rw [B8 (vo x hx),Blk.fx_rn (hT.fx x hx),bV,ae zO];exact ⟨hb.1,hT.mem x hx⟩
 ·intro a ha b hb e
  have key:∀ a∈ak ((149,(⟨AO,.ty 128⟩:Blk))::L),(a=149/\m49 kx nk a=kx)\/(a<149/\m49 kx nk a=a):=λa ha=>by
   simp only [ak,bI,aj] at ha;rcases ha with rfl|ha
   ·exact .inl ⟨rfl,rfl⟩
   ·obtain ⟨x,hx,rfl⟩:=aK.1 ha;exact .inr ⟨vo x hx,B8 (vo x hx)⟩
  have:=key a ha;have:=key b hb;omega
 ·rw [zl hV k hk,show m49 kx nk 1000=nk from rfl];refine ⟨zO,λh=>?_⟩;rcases aj.1 h with e|h
  ·exact hxn e.symm
  ·obtain ⟨x,hx,e⟩:=aC.1 h;have:=vo x hx;omega
theorem acW (md:Int) (h:0<=md/\md<=4):FunS prog G0 63 #[.int .i64 md] (hpL G0 []) [] (OsR 248 md):=by
 have h0:FunS prog G0 63 #[.int .i64 md] (hpL G0 []) (ak []) (OsR 1000 md):=by
  by_cases e:md=4
  ·subst e;exact ahg
  ·exact XW md zO
 refine h0.nk0 248 zO (λv ns ⟨w,hV,_⟩=>uc hV) aN ?_;funext v ns;apply propext;constructor
 ·rintro ⟨v0,JF,⟨w,⟨c,A,h1,rfl,rfl⟩,rfl⟩,rfl,rfl⟩;exact ⟨_,⟨c,A,h1,rfl,by simp [rnL,Blk.fx_rn h1.fx]⟩,aN⟩
 ·rintro ⟨w,⟨c,A,h1,rfl,rfl⟩,rfl⟩;exact ⟨_,_,⟨_,⟨c,A,h1,rfl,rfl⟩,rfl⟩,aN,by simp [rnL,Blk.fx_rn h1.fx]⟩
theorem Ol {L:cf} {ka ks:Nat} {bm bs:Blk} (hT:L3 L ka ks bm bs) (vo:∀ x∈L,x.1<149) (off n cap au av:Nat) (fm fs:aJ) (hm:MB bm off n fm) (fO:SB bs au n fs) (eK:n<=cap) (fL:n<=av) (g bx tp nr md st:Int) (hs:i64 st) (eM:fk n fm g bx tp nr md=true) (jh:aY st fs n=true) :
  FunS prog G0 29 #[cfV (.slice (some ⟨ka,off,none⟩) n cap) g bx tp nr md,.agg #[.int .i64 st,.slice (some ⟨ks,au,none⟩) n av]] (hpL G0 L) (ak L) (StR 1000 n (Mh n (oN md) g fm (oK md) (oP md) (oD md) st 1 fs)):=by
 refine eW (B:=200) G0F func29 rfl call29 hT.ok ?_ Nq (by simp [ntmps29]) zO ?_
 ·exact Si
 intro C hC bA hY;have hA:=hT.a;have hS:=hT.s;have cW:=hT.ne;have gu:=hT.na;have jj:=hT.low;have pV:=hT.k1;have n6:=hT.k2;have hka:=hT.a1;have Je:=hT.a2;obtain ⟨_,_,_,Qu⟩:=tK eM;unfold cfV
 repeat' first|refine cT ?_|refine Bz ?_|fail
 refine gj ?_;refine By (Gy.k4 hA hS cW gu) ?_;refine cv (f:=.func 63) (cap:=#[]) hC (acW md Qu) rfl zS rfl rfl aS aq zS aZ aq zS cF ?_ ?_
 ·rintro v ns ⟨w,hV,rfl⟩ k hk;rw [uc hV k hk];omega
 rintro v ns ⟨w,⟨cO,AO,hO,rfl,rfl⟩,rfl⟩;have hfO:=λD=>Blk.fx_ids (hO.fx (T:=128)) D;refine Y6 trivial ?_;refine cu ?_;have dS:=Wp hT vo off n cap au av fm fs hm fO eK fL g bx tp nr md st hs eM jh 248 320 zO zO zO (oN md) cO AO (oK md) (oP md) (oD md) hO (acL Qu).2 1 (.inl rfl);unfold cfV at dS
 repeat' first|refine cT ?_|refine Bz ?_|fail
 refine gj ?_;refine On (Gy.k4 hA hS cW gu) ?_
 refine cv (f:=.func 64) (cap:=#[]) hC dS rfl zS rfl rfl aS aq zS aZ aq (λq hq=>by
  rcases aj.1 hq with rfl|hq
  ·simp
  ·obtain ⟨p,hp,rfl⟩:=aC.1 hq;have HR:=hT.ok.big p hp;simp (disch:=omega) only [ao,bV,ae]) (λk hk=>xJ) ?_ ?_
 ·exact s8
 rintro v ns ⟨J7,i9,F,E,⟨w,⟨c9,M9,g9,x9,y9,z9,rfl,rfl⟩,rfl⟩,Tl,hE⟩;refine Sf trivial ?_;refine cu ?_
 repeat' first|refine cT ?_|refine Bz ?_|fail
 refine ⟨.inr trivial,Aj G0F,_,_,λk=>if k=1000 then 320 else k,⟨J7,i9,F,E,⟨_,⟨c9,M9,g9,x9,y9,z9,rfl,rfl⟩,rfl⟩,Tl,hE⟩,λk hk=>ae zO,zS,zS,by simp [results29,ren,aW,aw,aF,bH],?_⟩;exact Ra
theorem SM {L:cf} {ka ks:Nat} {bm bs:Blk} (hT:L3 L ka ks bm bs) (vo:∀ x∈L,x.1<149) (off n cap au av:Nat) (fm fs:aJ) (hm:MB bm off n fm) (fO:SB bs au n fs) (eK:n<=cap) (fL:n<=av) (g bx tp nr md st:Int) (hs:i64 st) (eM:fk n fm g bx tp nr md=true) (jh:aY st fs n=true) :
  FunS prog G0 30 #[cfV (.slice (some ⟨ka,off,none⟩) n cap) g bx tp nr md,.agg #[.int .i64 st,.slice (some ⟨ks,au,none⟩) n av]] (hpL G0 L) (ak L) (StR 1000 n (Mh n (oN md) g fm (λi=>oK md (oN md - 1 - i)) (λi=>-oP md (oN md - 1 - i)) (λi=>oD md (oN md - 1 - i)) st (-1) fs)):=by
 refine eW (B:=200) G0F func30 rfl call30 hT.ok ?_ Nq (by simp [ntmps30]) zO ?_
 ·exact Si
 intro C hC bA hY;have hA:=hT.a;have hS:=hT.s;have cW:=hT.ne;have gu:=hT.na;have jj:=hT.low;have pV:=hT.k1;have n6:=hT.k2;have hka:=hT.a1;have Je:=hT.a2;obtain ⟨_,_,_,Qu⟩:=tK eM;unfold cfV
 repeat' first|refine cT ?_|refine Bz ?_|fail
 refine gj ?_;refine By (Gy.k4 hA hS cW gu) ?_;refine cv (f:=.func 63) (cap:=#[]) hC (acW md Qu) rfl zS rfl rfl aS aq zS aZ aq zS cF ?_ ?_
 ·rintro v ns ⟨w,hV,rfl⟩ k hk;rw [uc hV k hk];omega
 rintro v ns ⟨w,⟨cO,AO,hO,rfl,rfl⟩,rfl⟩;have hfO:=λD=>Blk.fx_ids (hO.fx (T:=128)) D;refine Y6 trivial ?_;refine cu ?_
 have dB:FunS prog G0 65 #[.slice (some ⟨248,0,none⟩) (oN md) cO] (hpL G0 [(248,⟨AO,.ty 128⟩)]) [248] (Mg 320 (oN md) (λi=>oK md (oN md - 1 - i)) (λi=>-oP md (oN md - 1 - i)) (λi=>oD md (oN md - 1 - i))) :=
  (SL AO (oN md) cO (oK md) (oP md) (oD md) hO (acL Qu) (λj _=>asv Qu j)).own2 hO.fx 248 320 zO zO zO (λv ns=>uc) sD (V3 JT)
 obtain ⟨cb0,Ab0,hO0⟩:∃ cb Ab,OA Ab cb (oN md) (λi=>oK md (oN md - 1 - i)) (λi=>-oP md (oN md - 1 - i)) (λi=>oD md (oN md - 1 - i)):=⟨oN md,fv (3*oN md) (opC _ _ _),afO _ _,λx hx=>by
  obtain ⟨q,_,rfl⟩:=BV hx;unfold opC;split<;>(try split)<;>rfl,λj hj=>z8 _ _ hj,aA _⟩
 repeat' first|refine cT ?_|refine Bz ?_|fail
 refine Ir follows ?_;simp only [Array.toList,rI,bj,bq,fH,j6,Nat.reduceAdd];refine L7 (bkF L ka ks off n cap au av g bx tp nr md st cO AO) ?_ ?_
 ·refine ⟨jE,jE,jE,jE,jE,jE,jE,jE,jE,?_,?_⟩
  ·exact DW
  ·exact FB
 intro jK hp0 hF;refine BH (λlisted ts hp=>∃ cb Ab J7 c9 M9 g9 E9,(OA Ab cb (oN md) (λi=>oK md (oN md - 1 - i)) (λi=>-oP md (oN md - 1 - i)) (λi=>oD md (oN md - 1 - i))/\i64 J7/\∃ F2:Nat->Int,n<=c9/\6*n<=M9/\(∀ j,j<6*n->g9 j=F2 j)/\(∀ j,j<6*n->i64 (F2 j))/\(E9=0->Mh n (oN md) g fm (λi=>oK md (oN md - 1 - i)) (λi=>-oP md (oN md - 1 - i)) (λi=>oD md (oN md - 1 - i)) st (-1) fs J7 F2))/\TJ bkN bkX bkD (bkV L ka ks off n cap au av g bx tp nr md st cO AO cb Ab J7 c9 M9 g9 E9) (ae8 L ka ks off n cap au av g bx tp nr md st cO AO cb Ab J7 c9 M9 g9 E9) jK hp0 listed ts hp) (λlisted ts hp UE RM hI=>?_) (λfuel listed ts hp i UE hi nR h hk=>?_) _ _ _ _ zS dZ ?_
 ·have I9:=uP UE ah RM;have iJ:∀ i,i<9->listed[i]? = some true:=λi hi=>I9 i nN;obtain ⟨cb,Ab,J7,c9,M9,g9,E9,hinv,hI⟩:=hI;have k2:ts 2=.pointer (some ⟨200,0,none⟩):=(hI.t0 2 zD).trans hF.e2;have k3:ts 3=.pointer (some ⟨208,0,none⟩):=(hI.t0 3 zD).trans hF.e3;have k4:ts 4=.pointer (some ⟨216,0,none⟩):=(hI.t0 4 zD).trans hF.e4;have k5:ts 5=.int .i64 E9:=hI.tm (8,5) zD (iJ 8 zO);have zr:hp 216=some (⟨#[.int .i64 J7,.slice (some ⟨328,0,none⟩) n c9],.ty 27⟩):=hI.bx (7,216) zD (iJ 7 zO) (by simp [bkX]);have apU:hp 328=some (⟨fa M9 .i64 g9,.ty 72⟩):=hI.bx (4,328) zD (iJ 4 zO) (by simp [bkX]);have cL:∀ p∈L,hp p.1=some p.2:=λp hp=>(hI.ext (IE _ (hT.ok.big p hp).2)).trans (hF.bL p hp);have akh:∀ k,k<100->hp k=G0 k:=λk hk=>(hI.ext (IE _ zO)).trans (hF.low k hk);obtain ⟨_,u0,F2,u1,u2,u3,u4,u5⟩:=hinv;refine cA (Gy.k4 k4 k5 zr apU) ?_;refine ⟨.inr trivial,fU G0F (λp hp=>(cL p hp).trans (hT.mem p hp).symm) (λk hk=>(akh k hk).trans (hT.low k hk).symm),_,_,λk=>if k=1000 then 328 else k,⟨J7,u0,F2,E9,⟨_,⟨c9,M9,g9,u1,u2,u3,rfl,rfl⟩,rfl⟩,u4,u5⟩,λk hk=>ae zO,zS,zS,by simp [results30,ren,aW,aw,aF,k4,k5,zr],?_⟩;simp [jH,apU]
 ·have dp:i<9:=by
   exact sY
  obtain ⟨cb,Ab,J7,c9,M9,g9,E9,hinv,h⟩:=h;obtain rfl|rfl|rfl|rfl|rfl|rfl|rfl|rfl|rfl:i=3\/i=4\/i=7\/i=8\/i=0\/i=1\/i=2\/i=5\/i=6:=zO
  ·-- 3
   have lT:=nR _ rfl;simp [Region.binds] at lT;have d2:listed[2]? = some true:=cy;have vf2:ts 16=.slice (some ⟨248,0,none⟩) (oN md) cO:=h.tm (2,16) zD d2;have anH:hp 248=some (⟨AO,.ty 128⟩):=(h.ext zD).trans hF.b248;have low:∀ k,k<100->hp k=G0 k:=λk hk=>(h.ext (IE _ zO)).trans (hF.low k hk);refine Iq (f:=.func 65) (cap:=#[]) hC dB rfl hi ny (by simp [ntmps30]) rfl rfl aS aq zS (by simp [okX,fP,vf2,anH]) (by simp [gev,vf2,anH]) (by simp [anH]) (λq hq=>(low q hq).symm▸(by simp (disch:=omega) only [bV,eH,ae])) ?_ ?_
   ·exact yM
   rintro v ns ⟨cb',Ab',u1,rfl,rfl⟩;have h:=h.chg (V':=bkV L ka ks off n cap au av g bx tp nr md st cO AO cb' Ab' J7 c9 M9 g9 E9) (QE:=ae8 L ka ks off n cap au av g bx tp nr md st cO AO cb' Ab' J7 c9 M9 g9 E9) hi (λj hj hD=>DN) (λj hj hD=>C6);obtain ⟨v1,v2⟩:=hinv;exact hk _ _ ⟨cb',Ab',J7,c9,M9,g9,E9,⟨u1,v2⟩,h.new ae9 afa aka hi (by simp [bkD]) (i:=3) (t:=17) (k:=320) zD rfl zD rfl zD⟩
  ·-- 4
   have lT:=nR _ rfl;simp [Region.binds] at lT;have d0:listed[0]? = some true:=cy;have d1:listed[1]? = some true:=cy;have d3:listed[3]? = some true:=cy;have vf0:ts 14=.agg #[.slice (some ⟨ka,off,none⟩) n cap,.int .i64 g,.int .i64 bx,.int .i64 tp,.int .i64 nr,.int .i64 md]:=h.tm (0,14) zD d0;have RO:ts 15=.agg #[.int .i64 st,.slice (some ⟨ks,au,none⟩) n av]:=h.tm (1,15) zD d1;have vf3:ts 17=.slice (some ⟨320,0,none⟩) (oN md) cb:=h.tm (3,17) zD d3;have anI:hp 320=some (⟨Ab,.ty 128⟩):=h.bxi hi (w:=3) zD d3 zD;have low:∀ k,k<100->hp k=G0 k:=λk hk=>(h.ext (IE _ zO)).trans (hF.low k hk);have cL:∀ p∈L,hp p.1=some p.2:=λp hp=>(h.ext (IE _ (hT.ok.big p hp).2)).trans (hF.bL p hp);have dS:=Wp hT vo off n cap au av fm fs hm fO eK fL g bx tp nr md st hs eM jh 320 328 zO zO zO (oN md) cb Ab (λi=>oK md (oN md - 1 - i)) (λi=>-oP md (oN md - 1 - i)) (λi=>oD md (oN md - 1 - i)) hinv.1 (acL Qu).2 (-1) (.inr rfl);unfold cfV at dS
   refine Iq (f:=.func 64) (cap:=#[]) hC dS rfl hi ny (by simp [ntmps30]) rfl rfl aS aq zS (by simp [okX,fP,vf0,RO,vf3,anI]) (by simp [gev,vf0,RO,vf3,anI]) (λq hq=>by
    rcases aj.1 hq with rfl|hq
    ·rw [anI];simp
    ·obtain ⟨p,hp,rfl⟩:=aC.1 hq;have HR:=hT.ok.big p hp;rw [cL p hp,bV,ae zO];exact hT.mem p hp) (λq hq=>by rw [low q hq,bV,ae zO];exact hT.low q hq) ?_ ?_
   ·exact s8
   rintro v ns ⟨anm,i9',F',Rg,⟨w,⟨Rj,Ri,Rk,u1,u2,u3,rfl,rfl⟩,rfl⟩,u4,u5⟩;have h:=h.chg (V':=bkV L ka ks off n cap au av g bx tp nr md st cO AO cb Ab anm Rj Ri Rk Rg) (QE:=ae8 L ka ks off n cap au av g bx tp nr md st cO AO cb Ab anm Rj Ri Rk Rg) hi (λj hj hD=>DN) (λj hj hD=>C6);exact hk _ _ ⟨cb,Ab,anm,Rj,Ri,Rk,Rg,⟨hinv.1,i9',F',u1,u2,u3,u4,u5⟩,h.new ae9 afa aka hi (by simp [bkD]) (i:=4) (t:=18) (k:=328) zD rfl zD rfl zD⟩
  ·-- 7
   have lT:=nR _ rfl;simp [Region.binds] at lT;have d4:listed[4]? = some true:=cy;have d5:listed[5]? = some true:=cy;have vf4:ts 18=.tuple #[.agg #[.int .i64 J7,.slice (some ⟨328,0,none⟩) n c9],.int .i64 E9]:=h.tm (4,18) zD d4;have vf5:ts 19=.agg #[.int .i64 J7,.slice (some ⟨328,0,none⟩) n c9]:=h.tm (5,19) zD d5;have RP:ts 4=.pointer (some ⟨216,0,none⟩):=(h.t0 4 zD).trans hF.e4;have azm:hp 216=some (⟨#[.int .i64 0,.slice none 0 0],.ty 27⟩):=(h.h0 216 λq hq e hl=>by simp only [bkX,aj,az,ay] at hq;rcases hq with rfl|rfl|rfl<;>first|(simp at e;done)|(rw [hi] at hl;cases hl)).trans hF.b216;refine NC (Gy.k4 vf4 vf5 RP azm) ?_;exact hk _ _ ⟨cb,Ab,J7,c9,M9,g9,E9,hinv,(h.st aka hi (by simp [bkD,d4,d5]) (i:=7) (k:=216) zD zD rfl zD)⟩
  ·-- 8
   have lT:=nR _ rfl;simp [Region.binds] at lT;have d6:listed[6]? = some true:=cy;have vf6:ts 20=.int .i64 E9:=h.tm (6,20) zD d6;have d4:listed[4]? = some true:=h.cl (6,4) zD d6;refine NC vf6 ?_;exact hk _ _ ⟨cb,Ab,J7,c9,M9,g9,E9,hinv,(h.tmp ae9 afa hi (by simp [bkD,d4,d6]) (i:=8) (t:=5) zD rfl zD)⟩
  all_goals
   have lT:=And.intro hi (nR _ rfl);simp [Region.binds] at lT;have jI:=h.tm;simp [bkN,bkV] at jI;have vx2:=(h.t0 2 zD).trans hF.e2;have vx3:=(h.t0 3 zD).trans hF.e3;have vx6:=(h.t0 6 zD).trans hF.e6;have anF:=(h.ext zD).trans hF.b200;have anG:=(h.ext zD).trans hF.b208;refine NC (k7 lT jI vx2 vx3 vx6 anF anG) ?_;exact hk _ _ ⟨cb,Ab,J7,c9,M9,g9,E9,hinv,(h.tmp ae9 afa hi (by simp [bkD,lT]) zD rfl zD)⟩
 ·have Ek:∀ j:Nat,(Array.replicate 9 false)[j]?≠some true:=λj=>by
   rw [mN];split<;>simp
  exact ⟨cb0,Ab0,st,n,6*n,fs,1,⟨hO0,hs,fs,aA _,aA _,λ_ _=>rfl,fO.i6,λe=>ir⟩,TJ.start Ek⟩
def alB (f:aJ) (n:Nat):Bool:=decide (∀ i,i<n->f i=f 0)
def alS (b:Blk) (off n cap:Nat) (g bx tp nr md:Int) (i:Nat):GS :=
 ⟨tsL [(1,.pointer (some ⟨200,0,none⟩)),(3,.int .i64 i)],
 hpL G0 [(200,⟨#[.slice (some ⟨100,off,none⟩) n cap,.int .i64 g,.int .i64 bx,.int .i64 tp,.int .i64 nr,.int .i64 md],.ty 24⟩),(100,b)],400,0⟩
theorem aj3 (b:Blk) (off n cap:Nat) (f:aJ) (h:MB b off n f) (g bx tp nr md:Int) (eM:fk n f g bx tp nr md=true) :
  Fun prog G0 31 #[cfV (.slice (some ⟨100,off,none⟩) n cap) g bx tp nr md] (hpL G0 [(100,b)]) (ak [(100,b)]) (.ret (.bool (alB f n)) []):=by
 refine cg (B:=200) G0F func31 rfl call31 (aT h.fx) ?_ zS zS zS (by simp [ntmps31]) zO ?_
 ·exact Q3
 intro C hC bA hY;have hr:=λρ=>Blk.fx_rn h.fx ρ;have qY:=tL b off n cap f h g bx tp nr md;rw [eM] at qY;have hn:=AB eM;clear eM;unfold cfV at qY |-;obtain ⟨N,hN,dp,dk⟩:=Js (λi=>decide (f i=f 0)) n
 have eal:alB f n=decide (N=n):=by
  unfold alB;refine decide_eq_decide.2 ⟨λhh=>?_,λe i hi=>gF (dp i zO)⟩;rcases dk with e|e
  ·exact e
  ·by_cases e2:N=n
   ·exact e2
   ·exact absurd (hh N zO) (of_decide_eq_false e)
 rw [eal]
 repeat' first|refine cT ?_|((first|refine gwR [53] ?_|refine gwD [53] ?_);intro Q hQ _;(repeat first|simp [hC,hY]|refine aE qY G0F (B:=200) (aT h.fx) (λk=>k) (λk hk=>rfl) dI zS dx ai ax ?_);refine dq hQ ?_)|fail
 refine fD N (alS b off n cap g bx tp nr md) ?_ ?_ ?_
 ·exact Hn
 ·intro i hi;have ew:i<n:=zO;have cS:(i:Int)<n:=zO;have hz:(0:Int)<=i:=zO;have R7:0<n:=zO;have hs:Int.bmod ((i:Int)+1) 18446744073709551616=((i+1:Nat):Int):=ee;have l0:=h.at ew;have l1:=h.at (i:=0) zO;have e0:f i=f 0:=gF (dp i hi);simp only [du] at l1;rw [e0] at l0;unfold alS
  repeat' first|refine cT ?_|(refine iy ?_;intro Q hQ _;simp [hC,hY,hi,ew,cS,hz,R7,hs,l0,l1];refine hQ _ _ _ _ ?_ ?_;(focus (first|(rfl;done)|(refine IT ?_;repeat (first|(exact λq hq=>roN hq;done)|refine ro1 ?_|refine ro2 ?_)))))|fail
  exact FQ
 ·by_cases tF:N=n
  ·rw [bg tF];subst tF;unfold alS;refine iI ?_;exact eS results31
  ·rw [aR tF];have ew:N<n:=zO;have cS:(N:Int)<n:=zO;have hz:(0:Int)<=N:=zO;have R7:0<n:=zO;have l0:=h.at ew;have l1:=h.at (i:=0) zO;simp only [du] at l1;have e0:¬f N=f 0:=of_decide_eq_false (dk.resolve_left tF);have e1:(f N != f 0)=true:=by simpa using e0
   unfold alS
   repeat' first|refine cT ?_|(refine iy ?_;intro Q hQ _;simp [hC,hY,ew,cS,hz,R7,l0,l1,e0,e1];refine hQ _ _ _ _ ?_ ?_;(focus (first|(rfl;done)|(refine IT ?_;repeat (first|(exact λq hq=>roN hq;done)|refine ro1 ?_|refine ro2 ?_)))))|fail
   exact eS results31
theorem ae1 {L:cf} (hT:LAny L) {ka:Nat} {b:Blk} (hk:(ka,b)∈L) {off n cap:Nat} {f:aJ} (hm:MB b off n f) {g bx tp nr md:Int} (eM:fk n f g bx tp nr md=true) :
  Fun prog G0 31 #[cfV (.slice (some ⟨ka,off,none⟩) n cap) g bx tp nr md] (hpL G0 L) (ak L) (.ret (.bool (alB f n)) []) :=
 (aj3 b off n cap f hm g bx tp nr md eM).mvG (gz:=#[cfV (.slice (some ⟨ka,off,none⟩) n cap) g bx tp nr md]) (hT.mv1 (kb:=ka) hk) ai nH
theorem amz {L:cf} (hT:LAny L) {ka:Nat} {b:Blk} (hk:(ka,b)∈L) {off n cap:Nat} {f:aJ} (hm:MB b off n f) {g bx tp nr md:Int} :
  Fun prog G0 20 #[cfV (.slice (some ⟨ka,off,none⟩) n cap) g bx tp nr md] (hpL G0 L) (ak L) (.ret (.int .i64 (2*prC (fk n f g bx tp nr md) n)) []) :=
 (Pg b off n cap f hm g bx tp nr md).mvG (gz:=#[cfV (.slice (some ⟨ka,off,none⟩) n cap) g bx tp nr md]) (hT.mv1 (kb:=ka) hk) ai nH
theorem GY {p:Prop} (h:p:=by
 refine cA c3' ?_;refine ⟨.inr rfl,by simp [results8],fin gs⟩):p:=h
def gqL (L:cf) (je:Int) (pa:qE) (na dj:Nat):List (Nat×Blk):=(240,stP je pa na dj)::L
section
variable {L:cf} {p pa:qE} {n cap na dj:Nat} {g bx tp nr md je:Int}
theorem ME (hT:LAny L) (h2:SlI L pa):LOk (gqL L je pa na dj) 300:=by
 have hL:=hT.ok
 have h9:∀ q,200<=q->q∉ak L:=λq hq h=>by
  exact s7
 refine ⟨?_,?_,?_⟩
 ·intro p hp;simp only [gqL,aj] at hp;rcases hp with rfl|hp
  ·simp
  ·have:=hL.big p hp;omega
 ·show (240::ak L).Nodup;simp only [fu];exact ⟨h9 240 zO,hL.one⟩
 ·intro q hq;have u2:aI (λk=>k∈ak (gqL L je pa na dj)) (.slice pa na dj):=iz (λk hk=>aD _ hk) (h2 na dj);simp only [gqL,aj] at hq;rcases hq with rfl|hq
  ·exact Gn
  ·exact Blk.fx_ids (hT.fx q hq) _
def gqS (L:cf) (p pa:qE) (n cap na dj:Nat) (g bx tp nr md je:Int) (i:Nat):GS :=
 ⟨tsL [(1,.slice (some ⟨240,0,none⟩) 1 1),(2,.pointer (some ⟨300,0,none⟩)),(4,.bool false),(5,.int .i64 i)],hpL G0 ([(300,cfB (.slice p n cap) g bx tp nr md)]++gqL L je pa na dj),400,0⟩
theorem aa1 {C:Ctx} (hT:LAny L) (h1:SlI L p) (h2:SlI L pa) {s:GS} (hC:C.G=G0) (h0:C.hp0=hpL G0 (gqL L je pa na dj)) {i:Nat}
  (t1:s.ts 1=.slice (some ⟨240,0,none⟩) 1 1) (t2:s.ts 2=.pointer (some ⟨300,0,none⟩)) (t4:s.ts 4=.bool false) (t5:s.ts 5=.int .i64 i) (a:s.hp 300=some (cfB (.slice p n cap) g bx tp nr md)) (b:∀ q∈gqL L je pa na dj,s.hp q.1=some q.2) (hy:s.yc=0):Weak C s (gqS L p pa n cap na dj g bx tp nr md je i):=by
 have Ot:=ME (je:=je) (na:=na) (dj:=dj) hT h2;have d6:dom (hpL G0 ([(300,cfB (.slice p n cap) g bx tp nr md)]++gqL L je pa na dj)) 240:=jx (by simp [gqL,ak]);unfold gqS
 have key:∀ y,s.yc=y->Weak C s ⟨tsL [(1,.slice (some ⟨240,0,none⟩) 1 1),(2,.pointer (some ⟨300,0,none⟩)),(4,.bool false),(5,.int .i64 i)],hpL G0 ([(300,cfB (.slice p n cap) g bx tp nr md)]++gqL L je pa na dj),400,y⟩:=λy hy=>by
  subst hy;refine cB _ 400 hC G0F (m0:=gqL L je pa na dj) h0 zO ?_ ?_ ?_
  ·simp only [aj,az,ay,dc,bN];exact ⟨⟨t1,by simpa [aL,cQ,aI,aP] using d6⟩,⟨t2,nc⟩,⟨t4,ga⟩,t5,ga⟩
  ·intro q hq;rcases bh.1 hq with h|h
   ·simp only [br] at h;subst h;refine ⟨a,?_,zS,zS⟩;simp only [cfB];refine Blk.ids_of λx hx=>?_;simp at hx;rcases hx with rfl|rfl|rfl|rfl|rfl|rfl
    ·exact iz (λk hk=>jx (aD _ hk)) (h1 n cap)
    all_goals simp [aI,aP]
   ·have hb:=Ot.big q h;exact ⟨b q h,Blk.ids_mono (λk hk=>jx hk) (Ot.ids q h),hb.1,zO⟩
  ·intro q hq;have hb:=Ot.big q hq;refine ⟨hb.1,?_⟩;rw [b q hq];show upd (hpL G0 (gqL L je pa na dj)) 300 _ q.1=_;unfold upd;rw [ae zO];exact LOk.at Ot.one q hq
 exact key 0 hy
theorem I5 (hT:LAny L) (h1:SlI L p) (h2:SlI L pa) :
  Fun prog G0 8 #[cfV (.slice p n cap) g bx tp nr md,.slice (some ⟨240,0,none⟩) 1 1] (hpL G0 (gqL L je pa na dj)) (ak (gqL L je pa na dj)) (.ret (.bool (decide (9<na)||decide (9<n))) []):=by
 have Ot:=ME (je:=je) (na:=na) (dj:=dj) hT h2;refine cg (B:=300) G0F func8 rfl call8 Ot ?_ zS zS zS (by simp [ntmps8]) zO ?_
 ·have u1:aI (λk=>k∈ak (gqL L je pa na dj)) (.slice p n cap):=iz (λk hk=>aD _ hk) (h1 n cap);intro x hx;simp at hx;rcases hx with rfl|rfl
  ·simp only [cfV,aL,cQ];intro x hx;exact E5
  ·simp [aL,cQ,aI,aP,gqL,ak]
 intro C hC bA hY;have jj:=Ot.low (G:=G0)
 have Jl:∀ {hp:Hp},(∀ q,q≠300->hp q=hpL G0 (gqL L je pa na dj) q)->∀ q∈gqL L je pa na dj,hp q.1=some q.2:=λh q hq=>by
  have:=Ot.big q hq;rw [h _ zO];exact LOk.at Ot.one q hq
 have fin:∀ {hp:Hp},(∀ q,q≠300->hp q=hpL G0 (gqL L je pa na dj) q)->∀ k,dom (hpL G0 (gqL L je pa na dj)) k->hp k=hpL G0 (gqL L je pa na dj) k:=λh=>fU G0F (λq hq=>h _ (by have:=Ot.big q hq;omega)) (λk hk=>h _ zO)
 have gs:∀ q,q≠300->hpL G0 ([(300,cfB (.slice p n cap) g bx tp nr md)]++gqL L je pa na dj) q=hpL G0 (gqL L je pa na dj) q:=λq h=>by
  show upd (hpL G0 (gqL L je pa na dj)) 300 _ q=_;unfold upd;rw [ae h]
 have w:=λ{s:GS} {i:Nat}=>aa1 (s:=s) (i:=i) (p:=p) (n:=n) (cap:=cap) (g:=g) (bx:=bx) (tp:=tp) (nr:=nr) (md:=md) (je:=je) (na:=na) (dj:=dj) hT h1 h2 hC bA;unfold cfV;by_cases c1:9<na
 ·have c1':(9:Int)<(na:Int):=zO;rw [bg c1,Bool.true_or];refine iI ?_;refine fD 0 (λi=>gqS L p pa n cap na dj g bx tp nr md je i) ?_ (λi hi=>zO) ?_
  ·exact w rfl rfl rfl rfl rfl (Jl λq hq=>ae hq) rfl
  ·unfold gqS gqL stP;refine cA c1' ?_;refine ⟨.inr rfl,by simp [results8],fin gs⟩
 ·have c1':¬(9:Int)<(na:Int):=zO;rw [aR c1,Bool.false_or];refine iI ?_;refine fD 1 (λi=>gqS L p pa n cap na dj g bx tp nr md je i) ?_ (λi hi=>?_) ?_
  ·exact w rfl rfl rfl rfl rfl (Jl λq hq=>ae hq) rfl
  ·obtain rfl:i=0:=zO;unfold gqS gqL stP;refine cA c1' ?_;exact w rfl rfl rfl rfl rfl (Jl gs) rfl
  ·unfold gqS gqL stP cfB;by_cases c3:9<n
   ·have c3':(9:Int)<(n:Int):=zO;rw [bg c3];exact GY
   ·have c3':¬(9:Int)<(n:Int):=zO;rw [aR c3];exact GY
theorem LAny.gq (hT:LAny L) {hp:Hp} (a:hp 240=some (stP je pa na dj)) (d:∀ q∈L,hp q.1=some q.2):∀ q∈gqL L je pa na dj,hp q.1=some q.2:=λq hq=>by
 simp only [gqL,aj] at hq;rcases hq with rfl|hq
 ·exact a
 ·exact d q hq
end
end Go.Gy
namespace Go.Gy
open Go Go.RowKit Go.Proofs
def trF (md g:Int) (fm:aJ) (n:Nat) (fs:aJ):Nat->Nat->Int
 | 0=>fs
 | j+1=>paF (oK md) (oP md) (oD md) g fm n (trF md g fm n fs j) (oN md)
def ixK (k i:Nat):Nat:=if i<=k then i else 2*k - i
theorem al4 {k i:Nat} (h:i<k):ixK k (i+1)=ixK k i+1:=by
 unfold ixK;rw [ag zO,ag zO]
theorem al3 {k i:Nat} (h:k<=i) (h2:i<2*k):ixK k i=ixK k (i+1)+1:=by
 unfold ixK;by_cases e:i=k
 ·rw [ag zO,ae zO];omega
 ·rw [ae zO,ae zO];omega
theorem agw (k:Nat):ixK k (2*k)=0:=by
 unfold ixK;split<;>omega
theorem PL {st:Int} {f g:aJ} {n:Nat} (h:∀ j,j<6*n->f j=g j):aY st f n=aY st g n:=by
 unfold aY;congr 1;unfold BK;rw [g6,cX,cX]
 have e:∀ i,i<n->inB 1048576 65536 f i=inB 1048576 65536 g i:=λi hi=>by
  unfold inB;rw [h _ zO,h _ zO,h _ zO,h _ zO,h _ zO,h _ zO]
 exact ⟨λk i hi=>by rw [<-e i (by simpa using hi)];exact k i hi,λk i hi=>by rw [e i (by simpa using hi)];exact k i hi⟩
section
variable {md g st n9:Int} {fm fs F:aJ} {n j:Nat}
theorem atg (h:Mh n (oN md) g fm (oK md) (oP md) (oD md) st 1 (trF md g fm n fs j) n9 F):n9=st+1/\Eq6 n F (trF md g fm n fs (j+1))/\aY n9 (trF md g fm n fs (j+1)) n=true:=by
 obtain ⟨h1,h2,h3,_⟩:=h;exact ⟨h1,h3,by rw [<-PL (st:=n9) (n:=n) (show ∀ q,q<6*n->F q=trF md g fm n fs (j+1) q from h3)];exact h2⟩
theorem atf (h:Mh n (oN md) g fm (λi=>oK md (oN md - 1 - i)) (λi=>-oP md (oN md - 1 - i)) (λi=>oD md (oN md - 1 - i)) st (-1) (trF md g fm n fs (j+1)) n9 F):n9=st - 1/\Eq6 n F (trF md g fm n fs j)/\aY n9 (trF md g fm n fs j) n=true:=by
 obtain ⟨h1,h2,h3,h4⟩:=h
 have e:Eq6 n F (trF md g fm n fs j):=h3.trans (ac3 λi hi=>by
  have:=h4 (oN md - 1 - i) zO;simp only [(zO:oN md - 1 - (oN md - 1 - i)=i)] at this;exact this)
 exact ⟨zO,e,by rw [<-PL (st:=n9) (n:=n) e];exact h2⟩
theorem ath {u:Nat} (hu:u<3) (hn:n<=4) (h:∀ i,i<n->fm i=fm 0) (Qu:¬md=4):∀ j,sP fm (trF md g fm n fs j) n u=sP fm fs n u:=by
 intro j;rw [PU hu h,PU hu h];congr 1
 induction j with
 | zero=>rfl
 | succ j ih =>
  rw [<-ih];exact V9 hu hn h (oN md) λi _=>asu Qu i
end
theorem agp {h:HS} {w:aJ} (hk:HOk h.N h.v) (hr:mr h=true) (hN:h.N<=1000) (hw:LsOk w) (hf:w 0<=w 1) :
  P4 h (λ_=>w) 1=h.tk (λ_=>w) 1/\HOk (h.tk (λ_=>w) 1).N (h.tk (λ_=>w) 1).v/\mr (h.tk (λ_=>w) 1)=true/\(h.tk (λ_=>w) 1).N=h.N+1/\tT (h.tk (λ_=>w) 1) w=true/\(h.tk (λ_=>w) 1).v 0<=w 0/\w 1<=(h.tk (λ_=>w) 1).v 1:=by
 have H:HH h (λ_=>w) 1 (λ_ _=>0) 0:=⟨hk,hr,zO,zO,zO,λi q hq=>hw.r q hq,λ_ _ _=>⟨rfl,rfl⟩,λ_ _=>hw,λi hi=>zO⟩
 obtain ⟨a,b,c,d,_,_⟩:=H.one;have Vs:jO w=true:=bg hf;have hc:jc (λ_=>w) 1=1:=by simp [jc,Vs]
 have k:=adS (h:=h) (w:=λ_=>w) (n:=1) H.n0 zO H.rl (i:=0) zO Vs;exact ⟨a,c,b,zO,anq hr zO H.rl (i:=0) zO Vs,k.1.1,k.2.1.2⟩
theorem af9 {w:aJ} (h:LsOk w):LB (hlB (w 0) (w 1) (w 2) (w 3) (w 4) (w 8) (w 9) (w 10)) 0 1 λ_=>w :=
 ⟨λj hj=>by
  have:j=0\/j=1\/j=2\/j=3\/j=4\/j=5\/j=6\/j=7\/j=8\/j=9\/j=10\/j=11\/j=12\/j=13:=zO;rcases this with rfl|rfl|rfl|rfl|rfl|rfl|rfl|rfl|rfl|rfl|rfl|rfl|rfl|rfl<;>rfl,aly _ _ _ _ _ _ _ _,λ_=>h.r,λ_ _=>h.i,λ_ _=>⟨h.w0,h.w1⟩,zO⟩
theorem amq {lo hi x0 x1 x2 y0 y1 y2:Int} (h0:wr lo) (h1:wr hi) (a0:i64 x0) (a1:i64 x1) (a2:i64 x2) (b0:i64 y0) (b1:i64 y1) (b2:i64 y2):LsOk (lsN lo hi x0 x1 x2 y0 y1 y2) :=
 ⟨h0,h1,λc h2 BA=>by
  obtain rfl|rfl|rfl|rfl|rfl|rfl|rfl|rfl|rfl|rfl|rfl|rfl:c=2\/c=3\/c=4\/c=5\/c=6\/c=7\/c=8\/c=9\/c=10\/c=11\/c=12\/c=13:=zO
  all_goals assumption,λq hq=>by
  obtain rfl|rfl|rfl:q=0\/q=1\/q=2:=zO
  all_goals exact ⟨rfl,rfl⟩⟩
theorem aeN {P:Program} {C:Ctx} {n:Nat} {d:List Deferred} {ro:Option Nat} {x y:Code} {s:GS} {K K2:l6} (Q:GS->Prop) (h1:GW P C n d ro x s (dY (λs'=>∃ ρ vk,WeakR C ρ s' vk/\Q vk) (λ_ _=>False))) (h2:∀ vk,Q vk->GW P C n d ro y vk K):GW P C n d ro x s (dY (λs'=>GW P C n d ro y s' K) K2) :=
 gn h1 λe s' h=>by
  cases e with
  | normal =>
   obtain ⟨ρ,vk,hw,hq⟩:=h;exact KU hw (h2 vk hq)
  | _=>exact h.elim
def own1 (nw nm x:Nat):Nat:=if x=nw then nm else x
theorem Be {nw nm:Nat}:own1 nw nm nw=nm:=ag rfl
theorem lU {nw nm x:Nat} (h:x≠nw):own1 nw nm x=x:=ae h
theorem Ly {C:Ctx} {s:GS} {L0 LX m:cf} {l:List (Nat×Value)} {own:Blk} {nw nm B:Nat} (jI:LAny L0) (qN:∀ x∈L0,x.1<148) (hC:C.G=G0) (h0:C.hp0=hpL G0 L0) (vq:own.fx) (hX:∀ x∈LX,x.1=148/\x.2.fx) (H6:(nw=148/\LX=[])\/nw=149) (hnm:149<=nm) (hB:200<=B)
  (hl:∀ p∈l,s.ts p.1=ren (own1 nw nm) p.2/\s.ts p.1≠fP/\aL (dom (hpL G0 (m++(nw,own)::(LX++L0)))) p.2)
  (hm:∀ p∈m,s.hp p.1=some (p.2.rn (own1 nw nm))/\p.2.ids (dom (hpL G0 (m++(nw,own)::(LX++L0))))/\200<=p.1/\p.1<B/\p.1≠nm)
  (ho:s.hp nm=some own) (hXs:∀ x∈LX,s.hp x.1=some x.2) (hL:∀ x∈L0,s.hp x.1=some x.2) :
  WeakR C (own1 nw nm) s ⟨tsL l,hpL G0 (m++(nw,own)::(LX++L0)),B,s.yc⟩:=by
 have aDr:nw=148\/nw=149:=H6.imp And.left id
 have yG:∀ x∈LX,x.1=148/\nw=149/\x.2.fx:=λx hx=>by
  rcases H6 with ⟨_,e⟩|e
  ·rw [e] at hx;cases hx
  ·exact ⟨(hX x hx).1,e,(hX x hx).2⟩
 have key:∀ p∈m++(nw,own)::(LX++L0),(200<=p.1/\p.1≠nm/\own1 nw nm p.1=p.1)\/(p.1=nw/\own1 nw nm p.1=nm)\/(100<=p.1/\p.1<=148/\p.1≠nw/\own1 nw nm p.1=p.1):=λp hp=>by
  simp only [bh,aj] at hp;rcases hp with hp|rfl|hp|hp
  ·have:=hm p hp;exact .inl ⟨this.2.2.1,this.2.2.2.2,lU zO⟩
  ·exact .inr (.inl ⟨rfl,Be⟩)
  ·have:=yG p hp;exact .inr (.inr ⟨zO,zO,zO,lU zO⟩)
  ·have:=qN p hp;have:=(jI.ok.big p hp).1;exact .inr (.inr ⟨zO,zO,zO,lU zO⟩)
 refine mC _ l B hC G0F h0 zO hl (λp hp=>?_) (λp hp q hq e=>?_) (λk hk=>lU zO) (λp hp=>?_)
 ·have hk:=key p hp;simp only [bh,aj] at hp;rcases hp with hp|rfl|hp|hp
  ·have:=hm p hp;exact ⟨by rw [lU zO];exact this.1,this.2.1,zO,this.2.2.2.1,zO⟩
  ·exact ⟨by rw [Be,Blk.fx_rn vq];exact ho,Blk.fx_ids vq _,by simp only;omega,by simp only;omega,by rw [Be];omega⟩
  ·have:=yG p hp;exact ⟨by rw [lU zO,Blk.fx_rn this.2.2];exact hXs p hp,Blk.fx_ids this.2.2 _,zO,zO,zO⟩
  ·have:=qN p hp;have hf:=jI.fx p hp;exact ⟨by rw [lU zO,Blk.fx_rn hf];exact hL p hp,Blk.fx_ids hf _,zO,zO,zO⟩
 ·have:=key p hp;have:=key q hq;omega
 ·have:=qN p hp;exact ⟨(jI.ok.big p hp).1,jx (by simp only [ak,bI,kO,aj,bh];exact .inr (.inr (aK.2 ⟨p,hp,rfl⟩))),lU zO⟩
def hsB (ka off n cap:Nat) (g bx tp nr md st:Int) (ks au av:Nat) (N:Int) (v:aJ) (ur:Int) (zF oE c9:Nat):List (Nat×Blk) :=
 [(200,cfB (.slice (some ⟨ka,off,none⟩) n cap) g bx tp nr md),(208,cE st ks au n av),(368,et N v),(384,cE ur zF oE n c9)]
def hsT (k:Int) (i:Nat):List (Nat×Value):=[(2,.int .i64 k),(3,.pointer (some ⟨200,0,none⟩)),(4,.pointer (some ⟨208,0,none⟩)),(6,.bool false),(7,.pointer (some ⟨368,0,none⟩)),(8,.pointer (some ⟨384,0,none⟩)),(9,.int .i64 i)]
def OM (L:cf) (ka off n cap:Nat) (g bx tp nr md st:Int) (ks au av:Nat) (N:Int) (v:aJ) (ur:Int) (zF oE c9:Nat) (k:Int) (i:Nat):GS :=
 ⟨tsL (hsT k i),hpL G0 (hsB ka off n cap g bx tp nr md st ks au av N v ur zF oE c9++L),600,0⟩
def aby (L:cf) (ka off n cap:Nat) (g bx tp nr md st:Int) (ks au av:Nat) (N:Int) (v:aJ) (ur:Int) (zF oE c9:Nat) (k:Int) (i:Nat) (n9:Int) (c':Nat) (E:Int):GS :=
 ⟨tsL (hsT k i++[(10,.pointer (some ⟨680,0,none⟩)),(11,.int .i64 E)]),hpL G0 ((hsB ka off n cap g bx tp nr md st ks au av N v ur zF oE c9++[(680,cE n9 149 0 n c')])++L),800,0⟩
section
variable {C:Ctx} {s:GS} {L0 LX:cf} {own:Blk} {ka off n cap ks au av zF oE c9 i nm c':Nat} {g bx tp nr md st N ur k n9 E:Int} {v:aJ}
theorem PX {ρ:dR} {st:Int} {k off n cap j:Nat} (h:ρ k=j):(cE st k off n cap).rn ρ=cE st j off n cap:=by
 simp [cE,Blk.rn,aw,aF,h]
theorem J8 {D:iH} {st:Int} {k off n cap:Nat} (h:D k):(cE st k off n cap).ids D:=by
 simp [cE,aM,aI,aP,h]
theorem ain {ρ:dR} {g bx tp nr md:Int} {k off n cap:Nat} (h:ρ k=k):(cfB (.slice (some ⟨k,off,none⟩) n cap) g bx tp nr md).rn ρ=cfB (.slice (some ⟨k,off,none⟩) n cap) g bx tp nr md:=by
 simp [cfB,Blk.rn,aw,aF,h]
theorem ZZ {D:iH} {g bx tp nr md:Int} {k off n cap:Nat} (h:D k):(cfB (.slice (some ⟨k,off,none⟩) n cap) g bx tp nr md).ids D:=by
 simp [cfB,aM,aI,aP,h]
theorem aga (jI:LAny L0) (qN:∀ x∈L0,x.1<148) (hC:C.G=G0) (h0:C.hp0=hpL G0 L0) (vq:own.fx) (hX:∀ x∈LX,x.1=148/\x.2.fx) (hnm:nm=648\/nm=744)
  (hka:ka∈ak L0) (pV:ks∈ak L0) (DP:zF∈ak (LX++L0))
  (t:∀ p∈hsT k i,s.ts p.1=p.2) (t10:s.ts 10=.pointer (some ⟨680,0,none⟩)) (t11:s.ts 11=.int .i64 E)
  (b:∀ p∈hsB ka off n cap g bx tp nr md st ks au av N v ur zF oE c9,s.hp p.1=some p.2) (b6:s.hp 680=some (cE n9 nm 0 n c')) (ho:s.hp nm=some own) (hL:∀ x∈LX++L0,s.hp x.1=some x.2) (hy:s.yc=0) :
  WeakR C (own1 149 nm) s (aby ((149,own)::(LX++L0)) ka off n cap g bx tp nr md st ks au av N v ur zF oE c9 k i n9 c' E):=by
 have lo:∀ {q},q∈ak L0->q<148:=λh=>by
  obtain ⟨p,hp,rfl⟩:=aC.1 h;exact qN p hp
 have lo9:zF≠149:=by
  obtain ⟨p,hp,rfl⟩:=aC.1 DP;rcases bh.1 hp with h|h
  ·have:=hX p h;omega
  ·have:=qN p h;omega
 have la:=lo hka;have ls:=lo pV;have Qy:=hy;unfold aby
 have key:∀ y,s.yc=y->WeakR C (own1 149 nm) s ⟨tsL (hsT k i++[(10,.pointer (some ⟨680,0,none⟩)),(11,.int .i64 E)]),hpL G0 ((hsB ka off n cap g bx tp nr md st ks au av N v ur zF oE c9++[(680,cE n9 149 0 n c')])++((149,own)::(LX++L0))),800,y⟩:=λy hy=>by
  subst hy;have dX:∀ {q} (m:cf),q∈ak (LX++L0)->dom (hpL G0 (m++((149,own)::(LX++L0)))) q:=λm h=>jx (aD _ h)
  have d0:∀ {q},q∈ak L0->q∈ak (LX++L0):=λh=>by
   unfold ak at h |-;rw [kO];exact fh _ h
  refine Ly (LX:=LX) jI qN hC h0 vq hX (.inr rfl) zO zO (λp hp=>?_) (λp hp=>?_) ho (λx hx=>hL x (eE _ hx)) (λx hx=>hL x (fh _ hx))
  ·have e:s.ts p.1=p.2:=by
    rcases bh.1 hp with h|h
    ·exact t p h
    ·simp only [aj,az,ay] at h;rcases h with rfl|rfl
     ·exact t10
     ·exact t11
   rw [e];simp only [hsT,bj,bq,aj,az,ay] at hp;rcases hp with rfl|rfl|rfl|rfl|rfl|rfl|rfl|rfl|rfl<;>simp [ren,aW,aw,aF,fP,own1,aL,cQ,aI,aP,dom,hsB]
  ·rcases bh.1 hp with h|h
   ·have e:=b p h;rw [e];simp only [hsB,aj,az,ay] at h;rcases h with rfl|rfl|rfl|rfl
    ·exact ⟨by rw [ain (lU zO)],ZZ (dX _ (d0 hka)),by simp only;omega,by simp only;omega,by simp only;omega⟩
    ·exact ⟨by rw [PX (lU zO)],J8 (dX _ (d0 pV)),by simp only;omega,by simp only;omega,by simp only;omega⟩
    ·exact ⟨by rw [Blk.fx_rn (iF N v)],Blk.fx_ids (iF N v) _,by simp only;omega,by simp only;omega,by simp only;omega⟩
    ·exact ⟨by rw [PX (lU zO)],J8 (dX _ DP),by simp only;omega,by simp only;omega,by simp only;omega⟩
   ·simp only [aj,az,ay] at h;subst h;exact ⟨by rw [PX Be];exact b6,J8 (jx (jW ..)),ki,ki,ki⟩
 exact key 0 Qy
theorem agl (jI:LAny L0) (qN:∀ x∈L0,x.1<148) (hC:C.G=G0) (h0:C.hp0=hpL G0 L0) (vq:own.fx)
  (hka:ka∈ak L0) (pV:ks∈ak L0)
  (t:∀ p∈hsT k i,s.ts p.1=p.2)
  (b:∀ p∈hsB ka off n cap g bx tp nr md st ks au av N v ur 149 0 c9,s.hp p.1=some p.2) (ho:s.hp 149=some own) (hL:∀ x∈L0,s.hp x.1=some x.2) (hy:s.yc=0) :
  WeakR C (own1 148 149) s (OM ((148,own)::([]++L0)) ka off n cap g bx tp nr md st ks au av N v ur 148 0 c9 k i):=by
 have lo:∀ {q},q∈ak L0->q<148:=λh=>by
  obtain ⟨p,hp,rfl⟩:=aC.1 h;exact qN p hp
 have la:=lo hka;have ls:=lo pV;have Qy:=hy;unfold OM
 have key:∀ y,s.yc=y->WeakR C (own1 148 149) s ⟨tsL (hsT k i),hpL G0 (hsB ka off n cap g bx tp nr md st ks au av N v ur 148 0 c9++((148,own)::([]++L0))),600,y⟩:=λy hy=>by
  subst hy;have d0:∀ {q} (m:cf),q∈ak L0->dom (hpL G0 (m++((148,own)::([]++L0)))) q:=λm h=>jx (aD _ h);refine Ly (LX:=[]) jI qN hC h0 vq zS (.inl ⟨rfl,rfl⟩) zO zO (λp hp=>?_) (λp hp=>?_) ho zS hL
  ·have e:s.ts p.1=p.2:=t p hp;rw [e];simp only [hsT,aj,az,ay] at hp;rcases hp with rfl|rfl|rfl|rfl|rfl|rfl|rfl<;>simp [ren,aW,aw,aF,fP,own1,aL,cQ,aI,aP,dom,hsB]
  ·simp only [hsB,aj,az,ay] at hp;rcases hp with rfl|rfl|rfl|rfl
   ·exact ⟨by rw [ain (lU zO)];exact b _ (by simp [hsB]),ZZ (d0 _ hka),by simp only;omega,by simp only;omega,by simp only;omega⟩
   ·exact ⟨by rw [PX (lU zO)];exact b (208,_) (by simp [hsB]),J8 (d0 _ pV),by simp only;omega,by simp only;omega,by simp only;omega⟩
   ·exact ⟨by rw [Blk.fx_rn (iF N v)];exact b (368,_) (by simp [hsB]),Blk.fx_ids (iF N v) _,by simp only;omega,by simp only;omega,by simp only;omega⟩
   ·exact ⟨by rw [PX Be];exact b (384,cE ur 149 0 n c9) (by simp [hsB]),J8 (jx (jW ..)),by simp only;omega,by simp only;omega,by simp only;omega⟩
 exact key 0 Qy
theorem abJ (jI:LAny L0) (hC:C.G=G0) (h0:C.hp0=hpL G0 L0) (hka:ka∈ak L0) (pV:ks∈ak L0) (DP:zF∈ak L0)
  (t:∀ p∈hsT k i,s.ts p.1=p.2)
  (b:∀ p∈hsB ka off n cap g bx tp nr md st ks au av N v ur zF oE c9,s.hp p.1=some p.2) (hL:∀ x∈L0,s.hp x.1=some x.2) (hy:s.yc=0) :
  Weak C s (OM L0 ka off n cap g bx tp nr md st ks au av N v ur zF oE c9 k i):=by
 have Qy:=hy;unfold OM
 have key:∀ y,s.yc=y->Weak C s ⟨tsL (hsT k i),hpL G0 (hsB ka off n cap g bx tp nr md st ks au av N v ur zF oE c9++L0),600,y⟩:=λy hy=>by
  subst hy;refine uY _ 600 hC G0F jI.ok jI.fx h0 zO (λp hp=>⟨t p hp,?_⟩) (λp hp=>?_) hL
  ·simp only [hsT,aj,az,ay] at hp;rcases hp with rfl|rfl|rfl|rfl|rfl|rfl|rfl<;>simp [aL,cQ,aI,aP,dom,hsB]
  ·have e:=b p hp;simp only [hsB,aj,az,ay] at hp;rcases hp with rfl|rfl|rfl|rfl
   ·exact ⟨e,ZZ (jx hka),by simp only;omega,by simp only;omega⟩
   ·exact ⟨e,J8 (jx pV),by simp only;omega,by simp only;omega⟩
   ·exact ⟨e,Blk.fx_ids (iF N v) _,by simp only;omega,by simp only;omega⟩
   ·exact ⟨e,J8 (jx DP),by simp only;omega,by simp only;omega⟩
 exact key 0 Qy
end
end Go.Gy
namespace Go.Gy
open Go Go.RowKit Go.Proofs Go.Proofs.Tryz
section
variable {L:cf} {p pa:qE} {n cap na dj:Nat} {g bx tp nr md je k:Int}
theorem ZO (h1:SlI L p) (h2:SlI L pa):∀ x∈#[cfV (.slice p n cap) g bx tp nr md,.agg #[.int .i64 je,.slice pa na dj],.int .i64 k],aL (λk=>k∈ak L) x:=by
 have h:=ZP (n:=n) (cap:=cap) (n2:=na) (av:=dj) (g:=g) (bx:=bx) (tp:=tp) (nr:=nr) (md:=md) (st:=je) h1 h2;intro x hx;simp only [eZ,aj,az,ay] at hx;rcases hx with rfl|rfl|rfl
 ·exact h _ zS
 ·exact h _ zS
 ·exact ga
theorem tv (hT:LAny L) (h1:SlI L p) (h2:SlI L pa) {f:Bool} (hF:Fun prog G0 22 #[cfV (.slice p n cap) g bx tp nr md,.agg #[.int .i64 je,.slice pa na dj]] (hpL G0 L) (ak L) (.ret (.bool f) [])) (hb:(decide (9<na)||decide (9<n))=true\/f=false\/k<0\/4<k) :
  Fun prog G0 7 #[cfV (.slice p n cap) g bx tp nr md,.agg #[.int .i64 je,.slice pa na dj],.int .i64 k] (hpL G0 L) (ak L) (.ret (.bool true) []):=by
 refine cg (B:=200) G0F func7 rfl call7 hT.ok (ZO h1 h2) (bw zS) zS zS (by simp [ntmps7]) zO ?_;intro C hC bA hY;have jj:=hT.low;have wk:=LZ;have hG:=I5 (n:=n) (cap:=cap) (g:=g) (bx:=bx) (tp:=tp) (nr:=nr) (md:=md) (je:=je) (na:=na) (dj:=dj) hT h1 h2;have Ru:=ME (je:=je) (na:=na) (dj:=dj) hT h2;generalize hgr:(decide (9<na)||decide (9<n))=gr at *
 unfold cfV at hG hF |-
 have hk:¬k<0->¬4<k->gr=true\/f=false:=λa b=>by
  rcases hb with h|h|h|h
  ·exact Qn
  ·exact .inr h
  ·exact absurd h a
  ·exact absurd h b
 rcases gr with _|_
 ·rcases f with _|_
  ·
   repeat' first|refine cT ?_|((first|refine gwR [8,22] ?_|refine gwD [8,22] ?_);intro Q hQ _;(repeat first|simp [hC,hY,wk]|refine qP hG Ru (hT.gq jD fS) ?_|refine cV hF hT.ok fS ?_);refine dq hQ ?_)|fail
   exact eT results7
  ·by_cases k0:k<0
   ·
    repeat' first|refine cT ?_|((first|refine gwR [8,22] ?_|refine gwD [8,22] ?_);intro Q hQ _;(repeat first|simp [hC,hY,wk,k0]|refine qP hG Ru (hT.gq jD fS) ?_|refine cV hF hT.ok fS ?_);refine dq hQ ?_)|fail
    exact eT results7
   ·have k4:4<k:=by
     refine bu λe=>?_;have:=hk k0 e;simp at this
    repeat' first|refine cT ?_|((first|refine gwR [8,22] ?_|refine gwD [8,22] ?_);intro Q hQ _;(repeat first|simp [hC,hY,wk,k0,k4]|refine qP hG Ru (hT.gq jD fS) ?_|refine cV hF hT.ok fS ?_);refine dq hQ ?_)|fail
    exact eT results7
 ·
  repeat' first|refine cT ?_|((first|refine gwR [8,22] ?_|refine gwD [8,22] ?_);intro Q hQ _;(repeat first|simp [hC,hY,wk]|refine qP hG Ru (hT.gq jD fS) ?_|refine cV hF hT.ok fS ?_);refine dq hQ ?_)|fail
  exact eT results7
end
end Go.Gy
