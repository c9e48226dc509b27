/-
  Lemmas of this claim, in their order (GyGM, GyFM, GyGT, GyZI, GyZJ, GyZK, GyZL, GyZM, GyZN, GyH, GyHS, GyHP, GyHT, GyHC, GyH3, GyHK, GyHQ).
  Conditions: those of each theorem.
-/
import Derived.Test.YtekhnalfccakmaaGreatDoorGz08
import Derived.Stop.LaidErr
import Derived.Test.YtekhnalfccakmaaGreatDoorCards
import Derived.Test.YtekhnalfccakmaaGreatDoorTie
import Derived.WalkKit
import Derived.ProofKit
import Derived.OpenShut
import Derived.Below
import Derived.ChangeSame
import Derived.Deep.DeepHandedRow
import Derived.Lib.LaidTab
import Derived.Deep.Slices
import Derived.ReadAgain
import Derived.Carry
import Derived.Deep.Strs
import Derived.ChangeSlices
set_option linter.unusedSimpArgs false
set_option linter.unusedVariables false
set_option maxRecDepth 8000
set_option maxHeartbeats 16000000
namespace Go.Gy
open Go Go.RowKit Go.Proofs Go.Proofs.Tryz
theorem z9:LOk [] 200:=⟨zS,ah,zS⟩
structure LKb (L:bS) (ka:Nat) (b:Blk):Prop where
 a8:(ka=100/\L=[(100,b)])\/(ka=2/\L=[]/\b=lmB)
 fb:b.fx
section
variable {L:bS} {ka:Nat} {b:Blk}
theorem LKb.ok (h:LKb L ka b):LOk L 200:=by
 rcases h.a8 with ⟨_,rfl⟩|⟨_,rfl,_⟩
 ·exact aH h.fb
 ·exact z9
theorem LKb.mem (h:LKb L ka b) (p:Nat×Blk) (hp:p∈L):hpL G1 L p.1=some p.2:=LOk.at h.ok.one p hp
theorem LKb.a (h:LKb L ka b):hpL G1 L ka=some b:=by
 rcases h.a8 with ⟨rfl,rfl⟩|⟨rfl,rfl,rfl⟩
 ·simp
 ·simp [G1]
theorem LKb.na (h:LKb L ka b) (k:Nat) (hk:200<=k):(ka=k)=False:=by
 have:ka<200:=by rcases h.a8 with ⟨e,_⟩|⟨e,_⟩<;>omega
 exact gE
theorem LKb.low (h:LKb L ka b) (k:Nat) (hk:k<100):hpL G1 L k=G1 k:=h.ok.low k hk
theorem LKb.ia (h:LKb L ka b):dom (hpL G1 L) ka:=by unfold dom;rw [h.a];simp
end
theorem ahx:MvG G0 G1 [(100,lmB)] [] gmv:=by
 refine ⟨G0F,G1F,⟨200,aH pM⟩,⟨200,z9⟩,λk b hk=>⟨OX hk,?_⟩,?_,?_,?_⟩
 ·have:=(G0F k b hk).1;unfold gmv;exact fG
 ·intro p hp;simp only [al,aB,aC] at hp;subst hp;exact ⟨lmB,by simp [gmv,G1],λr=>by rw [Blk.fx_rn pM]⟩
 ·intro k hk l hl e;simp only [ak,bJ,dt,al,aB,aC] at hk hl;rw [hk,hl]
 ·intro k hk l b hl e;simp only [ak,bJ,dt,al,aB,aC] at hk;subst hk;unfold gmv at e;rw [ai rfl] at e;rw [<-e,VL] at hl;cases hl
theorem abq (g bx tp nr md st:Int):Ret prog G0 14 #[.agg #[.slice none 0 0,.int .i64 g,.int .i64 bx,.int .i64 tp,.int .i64 nr,.int .i64 md],.agg #[.int .i64 st,.slice none 0 0]] (.bool false):=by
 refine ck G0F func14 rfl call14 zS zS rf ?_;intro C hC bQ hY;refine fO ?_;exact eR results14
theorem abr (b:Blk) (off n cap:Nat) (f:aS) (h:SB b off n f) (g bx tp nr md st:Int):Fun prog G0 14 #[.agg #[.slice none 0 0,.int .i64 g,.int .i64 bx,.int .i64 tp,.int .i64 nr,.int .i64 md],.agg #[.int .i64 st,.slice (some ⟨100,off,none⟩) n cap]] (hpL G0 [(100,b)]) (ak [(100,b)]) (.ret (.bool false) []):=by
 refine de (B:=200) G0F func14 rfl call14 (aH h.fx) ?_ zS zS zS rf zO ?_
 ·exact bG
 intro C hC bQ hY;have hr:=λρ=>Blk.fx_rn h.fx ρ;refine fO ?_;exact eS results14
theorem Rz (b:Blk) (off n cap:Nat) (f:aS) (h:MB b off n f) (g bx tp nr md st:Int):Fun prog G0 14 #[.agg #[.slice (some ⟨100,off,none⟩) n cap,.int .i64 g,.int .i64 bx,.int .i64 tp,.int .i64 nr,.int .i64 md],.agg #[.int .i64 st,.slice none 0 0]] (hpL G0 [(100,b)]) (ak [(100,b)]) (.ret (.bool false) []):=by
 refine de (B:=200) G0F func14 rfl call14 (aH h.fx) ?_ zS zS zS rf zO ?_
 ·exact bG
 intro C hC bQ hY;have hr:=λρ=>Blk.fx_rn h.fx ρ;have mW:=x4 b off n cap f h g bx tp nr md;unfold cfV at mW
 cases ok:eQ n f g bx tp nr md with
 | false =>
  rw [ok] at mW;simp only [gB,bY] at mW
  repeat' first|refine cM ?_|((first|refine gwR [32] ?_|refine gwD [32] ?_);intro Q hQ _;(repeat first|simp [hC,hY]|refine az mW G0F (B:=200) (aH h.fx) (λk=>k) (λk hk=>rfl) cY zS cj ah ax ?_);refine cQ hQ ?_)|fail
  exact eS results14
 | true =>
  rw [ok] at mW;simp only [aU] at mW
  repeat' first|refine cM ?_|((first|refine gwR [32] ?_|refine gwD [32] ?_);intro Q hQ _;(repeat first|simp [hC,hY]|refine az mW G0F (B:=200) (aH h.fx) (λk=>k) (λk hk=>rfl) cY zS cj ah ax ?_);refine cQ hQ ?_)|fail
  exact eS results14
theorem aca (g bx tp nr md st:Int) (K:iQ):cu prog G1 14 #[.agg #[.slice none 0 0,.int .i64 g,.int .i64 bx,.int .i64 tp,.int .i64 nr,.int .i64 md],.agg #[.int .i64 st,.slice none 0 0]] K↔K (.bool false):=aP G1W ae ((abq g bx tp nr md st).up Gr)
theorem ahg (b:Blk) (off n cap:Nat) (f:aS) (h:SB b off n f) (g bx tp nr md st:Int):Fun prog G1 14 #[.agg #[.slice none 0 0,.int .i64 g,.int .i64 bx,.int .i64 tp,.int .i64 nr,.int .i64 md],.agg #[.int .i64 st,.slice (some ⟨100,off,none⟩) n cap]] (hpL G1 [(100,b)]) (ak [(100,b)]) (.ret (.bool false) []):=(abr b off n cap f h g bx tp nr md st).up1 (aH h.fx)
theorem ahh (L:bS) (ka:Nat) (b:Blk) (hT:LKb L ka b) (off n cap:Nat) (f:aS) (h:MB b off n f) (g bx tp nr md st:Int):Fun prog G1 14 #[.agg #[.slice (some ⟨ka,off,none⟩) n cap,.int .i64 g,.int .i64 bx,.int .i64 tp,.int .i64 nr,.int .i64 md],.agg #[.int .i64 st,.slice none 0 0]] (hpL G1 L) (ak L) (.ret (.bool false) []):=by
 rcases hT.a8 with ⟨rfl,rfl⟩|⟨rfl,rfl,rfl⟩
 ·exact (Rz b off n cap f h g bx tp nr md st).up1 hT.ok
 ·have h2:=(Rz lmB off n cap f h g bx tp nr md st).mvG ahx (λk hk=>by cases hk) rfl;simpa [cfV,ren,aT,aw,aA,gmv,rnL] using h2
theorem rT {p:Prop} (h:p:=by simp [results5]):p:=h
theorem rI {p:Prop} (h:p:=by simp [ntmps5]):p:=h
theorem xL {p:Prop} (h:p:=by
 refine dy (k2 h1 RB) ?_;refine ⟨.inr rfl,rT,I1 G1F⟩):p:=h
theorem Dd {p:Prop} (h:p:=by
 refine dy (k4 h1 h2 RB h2') ?_;refine ⟨.inr rfl,rT,I1 G1F⟩):p:=h
theorem E8 {p:Prop} (h:p:=by
 refine dy (k2 h1 RB) ?_;refine ⟨.inr rfl,rT,G4 G1F⟩):p:=h
theorem N9 (k p q:Int):Ret prog G0 7 #[.agg #[.int .u8 k,.int .i64 p,.int .i64 q]] (.bool (opB k p q)):=by
 refine ck G0F func7 rfl call7 zS zS (by simp [ntmps7]) ?_;intro C hC bQ hY;by_cases a0:1<=k;rotate_left
 ·rw [show opB k p q=false from aX zO];refine dy a0 ?_;exact eR results7
 by_cases a1:k<4;rotate_left
 ·rw [show opB k p q=false from aX zO];refine dy (k2 a0 a1) ?_;exact eR results7
 by_cases a2:-2097152<=p;rotate_left
 ·rw [show opB k p q=false from aX zO];refine dy (k3 a0 a1 a2) ?_;exact eR results7
 by_cases a3:p<=2097152;rotate_left
 ·rw [show opB k p q=false from aX zO];refine dy (k4 a0 a1 a2 a3) ?_;exact eR results7
 by_cases a4:1<=q;rotate_left
 ·rw [show opB k p q=false from aX zO];refine dy (k5 a0 a1 a2 a3 a4) ?_;exact eR results7
 rw [show opB k p q=decide (q<=2097152) by unfold opB;congr 1;simp only [iC];omega];refine dy (k5 a0 a1 a2 a3 a4) ?_;exact eR results7
theorem Oj (L:bS) (ka ks:Nat) (bm bs:Blk) (hT:LKa L ka ks bm bs) (off n cap ao n2 av:Nat) (g bx tp nr md st:Int) :
  Fun prog G1 5 #[cfV (.slice (some ⟨ka,off,none⟩) n cap) g bx tp nr md,.agg #[.int .i64 st,.slice (some ⟨ks,ao,none⟩) n2 av]] (hpL G1 L) (ak L) (.ret (.bool (decide (9<n)||decide (9<n2))) []):=by
 refine qR (B:=200) G1F func5 rfl call5 hT.ok ?_ zS zS zS rI zO ?_
 ·exact dE
 intro C hC bQ hY;have jW:=hT.low;unfold cfV;by_cases h1:9<n
 ·have RB:(9:Int)<(n:Int):=zO;rw [bZ h1,Bool.true_or];exact xL
 ·have RB:¬(9:Int)<(n:Int):=zO;rw [aX h1,Bool.false_or];by_cases h2:9<n2
  ·have h2':(9:Int)<(n2:Int):=zO;rw [bZ h2];exact Dd
  ·have h2':¬(9:Int)<(n2:Int):=zO;rw [aX h2];exact Dd
theorem UW (g bx tp nr md st:Int):Fun prog G1 5 #[.agg #[.slice none 0 0,.int .i64 g,.int .i64 bx,.int .i64 tp,.int .i64 nr,.int .i64 md],.agg #[.int .i64 st,.slice none 0 0]] (hpL G1 []) (ak []) (.ret (.bool false) []):=by
 refine de (B:=200) G1F func5 rfl call5 z9 ?_ (cb zS) zS zS rI zO ?_
 ·exact bG
 intro C hC bQ hY;refine fO ?_;refine ⟨.inr rfl,rT,G4 G1F⟩
theorem UX (b:Blk) (off n cap:Nat) (f:aS) (h:SB b off n f) (g bx tp nr md st:Int):Fun prog G1 5 #[.agg #[.slice none 0 0,.int .i64 g,.int .i64 bx,.int .i64 tp,.int .i64 nr,.int .i64 md],.agg #[.int .i64 st,.slice (some ⟨100,off,none⟩) n cap]] (hpL G1 [(100,b)]) (ak [(100,b)]) (.ret (.bool (decide (9<n))) []):=by
 refine de (B:=200) G1F func5 rfl call5 (aH h.fx) ?_ (cb zS) zS zS rI zO ?_
 ·exact bG
 intro C hC bQ hY;by_cases h1:9<n
 ·have RB:(9:Int)<(n:Int):=zO;rw [bZ h1];exact E8
 ·have RB:¬(9:Int)<(n:Int):=zO;rw [aX h1];exact E8
theorem UY (L:bS) (ka:Nat) (b:Blk) (hT:LKb L ka b) (off n cap:Nat) (f:aS) (h:MB b off n f) (g bx tp nr md st:Int):Fun prog G1 5 #[.agg #[.slice (some ⟨ka,off,none⟩) n cap,.int .i64 g,.int .i64 bx,.int .i64 tp,.int .i64 nr,.int .i64 md],.agg #[.int .i64 st,.slice none 0 0]] (hpL G1 L) (ak L) (.ret (.bool (decide (9<n))) []):=by
 refine qR (B:=200) G1F func5 rfl call5 hT.ok ?_ (cb zS) zS zS rI zO ?_
 ·simp [aN,cp,aL,aR,ak,hT.ia]
 intro C hC bQ hY;have hA:=hT.a;have fq:=hT.na;have jW:=hT.low;by_cases h1:9<n
 ·have RB:(9:Int)<(n:Int):=zO;rw [bZ h1];exact xL
 ·have RB:¬(9:Int)<(n:Int):=zO;rw [aX h1];exact xL
theorem Mw {f:aS} {n:Nat} {nr:Int} {v:Value} {ns:bS} (h:VJ f n nr v ns):ns=[]:=by
 obtain ⟨e,_,h,_⟩:=h;exact h
theorem aa7 {f:aS} {n:Nat} {nr:Int} (ρ:cI):RR ρ (VJ f n nr)=VJ f n nr:=by
 funext v ns;apply propext;constructor
 ·rintro ⟨v0,uo,⟨e,rfl,rfl,h⟩,rfl,rfl⟩;exact ⟨e,rfl,rfl,h⟩
 ·rintro ⟨e,rfl,rfl,h⟩;exact ⟨_,_,⟨e,rfl,rfl,h⟩,rfl,rfl⟩
theorem Pm {L:bS} {ka ks:Nat} {bm bs:Blk} (hT:LKa L ka ks bm bs) (off n cap ao av:Nat) (fm fs:aS) (hm:MB bm off n fm) (cf:SB bs ao n fs) (g bx tp nr md st:Int) (fJ:eQ n fm g bx tp nr md=true) (ez:aV st fs n=true) :
  FunS prog G1 16 #[cfV (.slice (some ⟨ka,off,none⟩) n cap) g bx tp nr md,.agg #[.int .i64 st,.slice (some ⟨ks,ao,none⟩) n av]] (hpL G1 L) (ak L) (VJ fs n nr):=by
 rcases hT.a8 with e|e
 ·subst e;have h2:=hT.tw;exact FunS.up1 (BP ⟨h2.ok,h2.fx,h2.ka,h2.kb⟩ off n cap ao av fm fs hm cf g bx tp nr md st fJ ez) hT.ok
 ·obtain ⟨rfl,rfl⟩:=hT.ag e;subst e;have h2:=LTwo.two (G:=G0) pM cf.fx;refine (BP ⟨h2.ok,h2.fx,h2.ka,h2.kb⟩ off n cap ao av fm fs hm cf g bx tp nr md st fJ ez).mvG hT.lmv ?_ (aa7 _) (λv ns hV k hk=>?_) (λv ns hV k hk=>?_)
  ·simp [cfV,ren,aT,aw,aA,gmv]
  ·rw [Mw hV] at hk;simp [ak] at hk
  ·rw [Mw hV] at hk;simp [ak] at hk
theorem Sf {st:Int} {f:aS} {n:Nat} {nr:Int} (hr:aV st f n=true) (h1:1<=nr/\nr<=2097152):nrB st f n nr=true↔NB f n nr:=by
 have hb:Int.bmod (nr*nr) 18446744073709551616=nr*nr:=by
  exact DS
 have hsq:∀ i k,i<n->k<n->(Ap f i k).2.2=d2F f i k:=λi k hi hk=>JH (ja hr hi).1 (ja hr hk).1
 have Bb:∀ x,x∈prs st f n↔∃ i k,i<k/\k<n/\x=Ap f i k:=λx=>by
  unfold prs;rw [ai hr];have:=ahV hr;constructor
  ·intro hx;rcases this with rfl|rfl|rfl|rfl
   ·simp [vx] at hx
   ·simp [vx] at hx;exact ⟨0,1,zO,zO,hx⟩
   ·simp [vx] at hx;rcases hx with h|h|h
    ·exact ⟨0,1,zO,zO,h⟩
    ·exact ⟨0,2,zO,zO,h⟩
    ·exact ⟨1,2,zO,zO,h⟩
   ·simp [vx] at hx;rcases hx with h|h|h|h|h|h
    ·exact ⟨0,1,zO,zO,h⟩
    ·exact ⟨0,2,zO,zO,h⟩
    ·exact ⟨0,3,zO,zO,h⟩
    ·exact ⟨1,2,zO,zO,h⟩
    ·exact ⟨1,3,zO,zO,h⟩
    ·exact ⟨2,3,zO,zO,h⟩
  ·rintro ⟨i,k,hik,PR,rfl⟩;exact Fg
 unfold nrB Hs;rw [List.any_eq_true];constructor
 ·rintro ⟨x,hx,hn⟩;obtain ⟨i,k,hik,PR,rfl⟩:=(Bb x).1 hx;have:=hsq i k zO PR;unfold vo at hn;rw [this,hb] at hn;exact ⟨i,k,hik,PR,ra⟩
 ·rintro ⟨i,k,hik,PR,cA⟩;refine ⟨_,(Bb _).2 ⟨i,k,hik,PR,rfl⟩,?_⟩;unfold vo;rw [hsq i k zO PR,hb];simpa using cA
end Go.Gy
namespace Go.Gy
open Go Go.RowKit Go.Proofs
def w1 (x v:Int) (j:Nat):Int:=if j=0 then x else if j=3 then v else 0
def m5 (j:Nat):Int:=5
def w2 (j:Nat):Int:=if j=6 then 2 else 0
def m1 (j:Nat):Int:=1
theorem eqF {n:Nat} {f h:aS} (e:(List.range (6*n)).all (λj=>f j==h j)=true):∀ j,j<6*n->f j=h j:=λj hj=>by
 have:=dL.1 e j (lH.2 hj);exact cZ
theorem wf0:stE 1 100 10 1 m5 1 7 pk (pp lfP) pq (w1 0 4) 0=0:=ae
theorem wf1:stE 1 100 10 1 m5 1 7 pk (pp lfP) pq (w1 0 4) 1=0:=ae
theorem wf2:stE 1 100 10 1 m5 1 7 pk (pp lfP) pq (w1 0 4) 2=0:=ae
theorem wf3:∀ j,j<6*1->stF 1 100 10 1 m5 1 7 pk (pp lfP) pq (w1 0 4) 3 j=w1 4 4 j:=eqF ae
theorem wb0:stE 1 100 10 1 m5 1 8 (bkF 3 pk) (bnF 3 (pp lfP)) (bkF 3 pq) (w1 4 4) 0=0:=ae
theorem wb1:stE 1 100 10 1 m5 1 8 (bkF 3 pk) (bnF 3 (pp lfP)) (bkF 3 pq) (w1 4 4) 1=0:=ae
theorem wb2:stE 1 100 10 1 m5 1 8 (bkF 3 pk) (bnF 3 (pp lfP)) (bkF 3 pq) (w1 4 4) 2=0:=ae
theorem wb3:∀ j,j<6*1->stF 1 100 10 1 m5 1 8 (bkF 3 pk) (bnF 3 (pp lfP)) (bkF 3 pq) (w1 4 4) 3 j=w1 0 4 j:=eqF ae
def wk (i:Nat):Int:=if i=0 then 1 else if i=1 then 3 else 0
def wp (i:Nat):Int:=if i=0 then 1 else if i=1 then 1 else 0
def wq (i:Nat):Int:=if i=0 then 2 else if i=1 then 1 else 0
theorem wp0:stE 1 100 10 1 m5 1 7 wk wp wq (w1 0 4) 0=0:=ae
theorem wp1:stE 1 100 10 1 m5 1 7 wk wp wq (w1 0 4) 1=0:=ae
theorem wp2:stE 1 100 10 1 m5 1 7 wk wp wq (w1 0 4) 2=2:=ae
theorem wp3:∀ j,j<6*1->stF 1 100 10 1 m5 1 7 wk wp wq (w1 0 4) 2 j=w1 2 6 j:=eqF ae
theorem wn0:stE 1 100 10 3 m1 2 0 pk (pp lfP) pq w2 0=0:=ae
theorem wn1:stE 1 100 10 3 m1 2 0 pk (pp lfP) pq w2 1=130:=ae
theorem wt0:stE 1 100 3 1 m5 1 7 pk (pp lfP) pq (w1 0 4) 0=180:=ae
theorem wt1:stE 1 100 3 1 m5 1 7 (bkF 3 pk) (bnF 3 (pp lfP)) (bkF 3 pq) (w1 0 4) 0=180:=ae
theorem wo1:eQ 1 m5 1 100 10 1 0=true:=ae
theorem wo2:eQ 2 m1 1 100 10 3 0=true:=ae
theorem wo3:eQ 1 m5 1 100 3 1 0=true:=ae
theorem wr1:aV 7 (w1 0 4) 1=true:=ae
theorem wr2:aV 0 w2 2=true:=ae
theorem wr3:aV 8 (w1 4 4) 1=true:=ae
theorem wi3:ij 100 3 (w1 0 4) 1=false:=ae
end Go.Gy
namespace Go.Gy
open Go Go.RowKit Go.Proofs Go.Proofs.Tryz
theorem SB.cg {b:Blk} {off n:Nat} {f h:aS} (hb:SB b off n f) (e:∀ j,j<6*n->f j=h j):SB b off n h:=⟨λj hj=>by rw [<-e j hj];exact hb.rd j hj,hb.fx,λj hj=>by rw [<-e j hj];exact hb.i6 j hj,hb.nn⟩
theorem afz {ρ:cI} {R:AI} (h:∀ v ns,R v ns->ren ρ v=v/\rnL ρ ns=ns):RR ρ R=R:=by
 funext v ns;apply propext;constructor
 ·rintro ⟨v0,uo,h0,rfl,rfl⟩;obtain ⟨e1,e2⟩:=h v0 uo h0;rw [e1,e2];exact h0
 ·intro h0;obtain ⟨e1,e2⟩:=h v ns h0;exact ⟨v,ns,h0,e1.symm,e2.symm⟩
theorem FunS.two_at {f:FuncId} {bm bs:Blk} {off n cap ao n2 av:Nat} {g bx tp nr md st:Int} {R:Nat->Value->List (Nat×Blk)->Prop} (MU:bm.fx) (hbs:bs.fx)
  (h:FunS prog G1 f #[cfV (.slice (some ⟨100,off,none⟩) n cap) g bx tp nr md,.agg #[.int .i64 st,.slice (some ⟨108,ao,none⟩) n2 av]] (hpL G1 [(100,bm),(108,bs)]) (ak [(100,bm),(108,bs)]) (R 1000))
  (PQ:∀ v ns,R 1000 v ns->∀ k∈ak ns,k=1000) (hrr:∀ (ρ:cI) nk,ρ 1000=nk->RR ρ (R 1000)=R nk) (ka ks nk:Nat) (h1:100<=ka/\100<=ks) (h2:ka≠ks) (h3:100<=nk/\nk≠ka/\nk≠ks) (hp:Hp) (p1:hp ka=some bm) (p2:hp ks=some bs) (ba:∀ k,k<100->hp k=G1 k) :
  FunS prog G1 f #[cfV (.slice (some ⟨ka,off,none⟩) n cap) g bx tp nr md,.agg #[.int .i64 st,.slice (some ⟨ks,ao,none⟩) n2 av]] hp [ka,ks] (R nk):=by
 have hT:=LKa.two MU hbs;have r1:=λρ=>Blk.fx_rn MU ρ;have r2:=λρ=>Blk.fx_rn hbs ρ;have e0:byN ka ks 116 nk 100=ka:=kC;have e1:byN ka ks 116 nk 108=ks:=kC;have e3:byN ka ks 116 nk 1000=nk:=kC;refine h.mvL G1F hT.ok (byN ka ks 116 nk) (λx hx=>by unfold byN;rw [ab zO,ab zO,ab zO,ab zO]) (by simp [cfV,ren,aT,aw,aA,e0,e1]) (by simp [ak,e0,e1]) (hrr _ _ e3) ba ?_ ?_ (λv ns hV x hx=>?_) (λv ns hV x hx y hy _=>by rw [PQ v ns hV x hx,PQ v ns hV y hy])
 ·simp [e0,e1,r1,r2,p1,p2,h1]
 ·simp [ak,e0,e1];omega
 ·rw [PQ v ns hV x hx,e3];simp;omega
theorem Uz {st:Int} {n:Nat} {F:tyJ} {N:Nat} {E:Int} {nk:Nat} {ρ:cI} (h:∀ k,nk<=k->ρ k=k):RR ρ (Hn st n F N E nk)=Hn st n F N E nk:=by
 refine afz λv ns hV=>?_;obtain ⟨cr,A,bh,bl,hA,hb,rfl,rfl⟩:=hV
 have e1:(⟨A,.ty 27⟩:Blk).rn ρ=⟨A,.ty 27⟩:=Blk.rn_dom (D:=λk=>nk<=k) h λx hx=>by
  rcases hA.el x hx with h8|⟨i,hi,rfl⟩
  ·exact jd h8
  ·simp only [aL,aR];omega
 refine ⟨eN,?_⟩;simp only [rnL,bJ,lx,h nk (aG _),e1,List.cons.injEq,true_and];refine dK λi hi=>?_;have cv:i<=N:=lQ;simp only [qi];rw [h _ zO,Blk.fx_rn (hb i cv).1.fx]
def paN (ka ks ko x:Nat):Nat:=if x=100 then ka else if x=108 then ks else if x=116 then ko else x
section
variable (bm bs:Blk) (off n cap ao av:Nat) (fm fs:aS) (hm:MB bm off n fm) (cf:SB bs ao n fs) (dp:n<=av) (g bx tp nr md st:Int) (hs:i64 st) (fJ:eQ n fm g bx tp nr md=true) (ez:aV st fs n=true)
 (oo m oc:Nat) (bo:Blk) (k p q:aS) (hO:OpB bo oo m k p q) (zt:∀ i,i<m->0<=k i/\k i<256)
 (N:Nat) (hN:N<=m) (Jf:∀ c,c<N->stE g bx tp nr fm n st k p q fs c=0) (cm:N=m\/¬stE g bx tp nr fm n st k p q fs N=0) (RL:m<=900)
include hm cf dp hs fJ ez hO zt hN Jf cm RL
theorem ac7 (ka ks ko nk:Nat) (h1:100<=ka/\100<=ks/\100<=ko) (h2:ka≠ks/\ka≠ko/\ks≠ko) (h3:200<=nk/\ka<nk/\ks<nk/\ko<nk) (hp:Hp) (p1:hp ka=some bm) (p2:hp ks=some bs) (p3:hp ko=some bo) (ba:∀ k,k<100->hp k=G1 k) :
  FunS prog G1 8 #[cfV (.slice (some ⟨ka,off,none⟩) n cap) g bx tp nr md,.agg #[.int .i64 st,.slice (some ⟨ks,ao,none⟩) n av],.slice (some ⟨ko,oo,none⟩) m oc] hp [ka,ks,ko]
  (Hn st n (stF g bx tp nr fm n st k p q fs) N (if N=m then 0 else stE g bx tp nr fm n st k p q fs N) nk):=by
 have hT:=LKa.three hm.fx cf.fx hO.fx;have r1:=λρ=>Blk.fx_rn hm.fx ρ;have r2:=λρ=>Blk.fx_rn cf.fx ρ;have r3:=λρ=>Blk.fx_rn hO.fx ρ;have e0:paN ka ks ko 100=ka:=by simp [paN]
 have e1:paN ka ks ko 108=ks:=by simp [paN]
 have e2:paN ka ks ko 116=ko:=by simp [paN]
 have e3:∀ x,nk<=x->paN ka ks ko x=x:=λx hx=>by unfold paN;rw [ab zO,ab zO,ab zO]
 refine (ac8 hT off n cap ao av fm fs hm cf dp g bx tp nr md st hs fJ ez 116 oo m oc bo k p q hO zS zt zO N hN Jf cm RL nk h3.1).mvL G1F hT.ok (paN ka ks ko) (λx hx=>by unfold paN;rw [ab zO,ab zO,ab zO]) CC (by simp [ak,e0,e1,e2]) (Uz e3) ba ?_ ?_ (λv ns hV x hx=>?_) (λv ns hV x hx y hy e=>?_)
 ·simp [e0,e1,e2,r1,r2,r3,p1,p2,p3,h1]
 ·simp [ak,e0,e1,e2];omega
 ·have:=ym hV x hx;rw [e3 x this.1];simp;omega
 ·have h8:=ym hV x hx;have h9:=ym hV y hy;rwa [e3 x h8.1,e3 y h9.1] at e
end
section
variable (bm bs:Blk) (off n cap ao av:Nat) (fm fs:aS) (hm:MB bm off n fm) (cf:SB bs ao n fs) (dp:n<=av) (g bx tp nr st:Int) (hs:i64 st) (fJ:eQ n fm g bx tp nr 0=true) (ez:aV st fs n=true)
 (ka ks nk:Nat) (h1:100<=ka/\100<=ks) (h2:ka≠ks) (h3:100<=nk/\nk≠ka/\nk≠ks) (hp:Hp) (p1:hp ka=some bm) (p2:hp ks=some bs) (ba:∀ k,k<100->hp k=G1 k)
include hm cf dp hs fJ ez h1 h2 h3 p1 p2 ba
theorem Xh (hE:∀ c,c<3->stE g bx tp nr fm n st pk (pp lfP) pq fs c=0) (m9:-1073741824<=st+1/\st+1<=1073741824) :
  FunS prog G1 18 #[cfV (.slice (some ⟨ka,off,none⟩) n cap) g bx tp nr 0,.agg #[.int .i64 st,.slice (some ⟨ks,ao,none⟩) n av]] hp [ka,ks] (ByR (st+1) 0 (stF g bx tp nr fm n st pk (pp lfP) pq fs 3) n nk) :=
 FunS.two_at (R:=λnk=>ByR (st+1) 0 (stF g bx tp nr fm n st pk (pp lfP) pq fs 3) n nk) hm.fx cf.fx (A7 bm bs off n cap ao av fm fs hm cf dp g bx tp nr st hs fJ ez 3 (aG _) hE (.inl rfl) m9) (λv ns=>nF) (λρ nk h=>AS h _ _ _ _) ka ks nk h1 h2 h3 hp p1 p2 ba
theorem MM {N:Nat} {E:Int} (hN:N<3) (hE:∀ c,c<N->stE g bx tp nr fm n st pk (pp lfP) pq fs c=0) (hEN:stE g bx tp nr fm n st pk (pp lfP) pq fs N=E) (h0:¬E=0) (m9:-1073741824<=st+1/\st+1<=1073741824) :
  FunS prog G1 18 #[cfV (.slice (some ⟨ka,off,none⟩) n cap) g bx tp nr 0,.agg #[.int .i64 st,.slice (some ⟨ks,ao,none⟩) n av]] hp [ka,ks] (ByR st E fs n nk):=by
 have h:=A7 bm bs off n cap ao av fm fs hm cf dp g bx tp nr st hs fJ ez N zO hE (.inr (by rw [hEN];exact h0)) m9;rw [ab zO,ab zO,ab zO,hEN] at h;exact FunS.two_at (R:=λnk=>ByR st E fs n nk) hm.fx cf.fx h (λv ns=>nF) (λρ nk h=>AS h _ _ _ _) ka ks nk h1 h2 h3 hp p1 p2 ba
theorem Zc (hE:∀ c,c<3->stE g bx tp nr fm n st (bkF 3 pk) (bnF 3 (pp lfP)) (bkF 3 pq) fs c=0) (m9:-1073741824<=st+-1/\st+-1<=1073741824) :
  FunS prog G1 19 #[cfV (.slice (some ⟨ka,off,none⟩) n cap) g bx tp nr 0,.agg #[.int .i64 st,.slice (some ⟨ks,ao,none⟩) n av]] hp [ka,ks] (ByR (st+-1) 0 (stF g bx tp nr fm n st (bkF 3 pk) (bnF 3 (pp lfP)) (bkF 3 pq) fs 3) n nk):=by
 obtain ⟨JT,OT,_⟩:=iJ fJ;have hr:=pC (g:=g) (nr:=nr) (fm:=fm) (k:=bkF 3 pk) (p:=bnF 3 (pp lfP)) (q:=bkF 3 pq) JT.2 OT.2 ez 3;exact FunS.two_at (R:=λnk=>ByR (st+-1) 0 (stF g bx tp nr fm n st (bkF 3 pk) (bnF 3 (pp lfP)) (bkF 3 pq) fs 3) n nk) hm.fx cf.fx (SE (LKa.two hm.fx cf.fx) off n cap ao av fm fs hm cf dp g bx tp nr st hs fJ ez 3 (aG _) hE (.inl rfl) m9 _ _ _ (λj hj=>zm hr hj) rfl rfl rfl) (λv ns=>nF) (λρ nk h=>AS h _ _ _ _) ka ks nk h1 h2 h3 hp p1 p2 ba
end
def wM5:Blk:=⟨#[.int .i64 5],.ty 3⟩
def wS5:Blk:=⟨#[.int .i64 0,.int .i64 0,.int .i64 0,.int .i64 4,.int .i64 0,.int .i64 0],.ty 50⟩
def wT5:Blk:=⟨#[.int .i64 1,.int .i64 1],.ty 3⟩
def wU5:Blk:=⟨#[.int .i64 0,.int .i64 0,.int .i64 0,.int .i64 0,.int .i64 0,.int .i64 0,.int .i64 2,.int .i64 0,.int .i64 0,.int .i64 0,.int .i64 0,.int .i64 0],.ty 50⟩
def wO5:Blk:=⟨#[.int .u8 1,.int .i64 1,.int .i64 2,.int .u8 3,.int .i64 1,.int .i64 1,.int .u8 0,.int .i64 0,.int .i64 0],.ty 33⟩
theorem lt3 {P:gA} (h0:P 0) (h1:P 1) (h2:P 2):∀ c,c<3->P c:=λc hc=>by
 obtain rfl|rfl|rfl:c=0\/c=1\/c=2:=zO
 ·exact h0
 ·exact h1
 ·exact h2
theorem o5:MB wM5 0 1 m5:=by
 refine ⟨λj hj=>?_,?_,λj hj=>?_,zO⟩
 ·obtain rfl:j=0:=zO
  rfl
 ·show ∀ x∈wM5.c,bP x=true;simp [wM5,bP,mD]
 ·unfold m5 i64;omega
theorem aiw:MB wT5 0 2 m1:=by
 refine ⟨λj hj=>?_,?_,λj hj=>?_,zO⟩
 ·obtain rfl|rfl:j=0\/j=1:=zO
  all_goals rfl
 ·show ∀ x∈wT5.c,bP x=true;simp [wT5,bP,mD]
 ·unfold m1 i64;omega
theorem lv:SB wS5 0 1 (w1 0 4):=by
 refine ⟨λj hj=>?_,?_,λj hj=>zm wr1 hj,zO⟩
 ·obtain rfl|rfl|rfl|rfl|rfl|rfl:j=0\/j=1\/j=2\/j=3\/j=4\/j=5:=zO
  all_goals rfl
 ·show ∀ x∈wS5.c,bP x=true;simp [wS5,bP,mD]
theorem aix:SB wU5 0 2 w2:=by
 refine ⟨λj hj=>?_,?_,λj hj=>zm wr2 hj,zO⟩
 ·obtain rfl|rfl|rfl|rfl|rfl|rfl|rfl|rfl|rfl|rfl|rfl|rfl:j=0\/j=1\/j=2\/j=3\/j=4\/j=5\/j=6\/j=7\/j=8\/j=9\/j=10\/j=11:=zO
  all_goals rfl
 ·show ∀ x∈wU5.c,bP x=true;simp [wU5,bP,mD]
theorem aiv:OpB wO5 0 3 wk wp wq:=by
 refine ⟨by show ∀ x∈wO5.c,bP x=true;simp [wO5,bP,mD],λi hi=>?_,by omega⟩;obtain rfl|rfl|rfl:i=0\/i=1\/i=2:=zO
 all_goals simp [wO5,sZ,opV,wk,wp,wq]
theorem rE {p:Prop} (h:p:=by intro k hk;simp (disch:=omega) only [aW,dm,ab]):p:=h
theorem kJ {p:Prop} (h:p:=by simp [ak,smL];rfl):p:=h
theorem lt1 {P:gA} (h0:P 0):∀ c,c<1->P c:=λc hc=>by
 obtain rfl:c=0:=zO;exact h0
theorem Oy:Ret prog G1 6 #[] (.bool true):=by
 refine ck G1F func6 rfl call6 zS zS (by simp [ntmps6]) ?_;intro C hC bQ hY;have dF:=Xh wM5 wS5 0 1 1 0 1 m5 (w1 0 4) o5 lv (aG _) 1 100 10 1 7 zD wo1 wr1 208 256 304 zO zO zO (hpL G1 [(208,wM5),(256,wS5)]) zS zS rE (lt3 wf0 wf1 wf2) zO;unfold cfV wM5 wS5 at dF;refine fO ?_;refine gj ?_;refine zP trivial ?_;refine bN (f:=.func 18) (cap:=#[]) hC dF rfl zS rfl rfl aJ aq zS aM aq zS l9 ?_ ?_
 ·exact kQ
 rintro v ns ⟨c3,b3,h3,l3,rfl,rfl⟩;have s3:=h3.cg wf3;refine PI trivial ?_;refine bH ?_;refine fO ?_;have dB:=Zc wM5 b3 0 1 1 0 c3 m5 (w1 4 4) o5 s3 l3 1 100 10 1 8 zD wo1 wr3 208 304 376 zO zO zO (hpL G1 [(208,wM5),(304,b3)]) zS zS rE (lt3 wb0 wb1 wb2) zO;unfold cfV wM5 at dB;refine gj ?_;refine zP trivial ?_;refine bN (f:=.func 19) (cap:=#[]) hC dB rfl zS rfl rfl aJ aq zS aM aq zS oP ?_ ?_
 ·exact kQ
 rintro v ns ⟨c4,b4,h4,l4,rfl,rfl⟩;have s4:=h4.cg wb3;refine PI trivial ?_;refine bH ?_;refine fO ?_
 have dP:=ac7 wM5 wS5 0 1 1 0 1 m5 (w1 0 4) o5 lv (aG _) 1 100 10 1 0 7 zD wo1 wr1 0 3 3 wO5 wk wp wq aiv (lt3 zD zD zD) 2 zO (λc hc=>by
  obtain rfl|rfl:c=0\/c=1:=zO
  ·exact wp0
  ·exact wp1) (.inr (by rw [wp2];decide)) zO 208 256 472 480 zO zO zO (hpL G1 [(208,wM5),(256,wS5),(472,wO5)]) zS zS zS (by intro k hk;simp (disch:=omega) only [aW,dm,ab])
 rw [ab zD,wp2] at dP;unfold cfV wM5 wS5 wO5 at dP;refine gj ?_;refine PI trivial ?_;refine bN (f:=.func 8) (cap:=#[]) hC dP rfl zS rfl rfl aJ aq zS aM aq (by simp;kernel_rfl) oP ?_ ?_
 ·intro v ns hV x hx;have:=ym hV x hx;simp;omega
 rintro v ns ⟨cr,A,bh,bl,hA,Ji,rfl,rfl⟩;have er:(List.range (2+1)).map (λi=>(480+1+i,bl i))=[(481,bl 0),(482,bl 1),(483,bl 2)]:=rfl;rw [er];have s5:=(Ji 2 (aG _)).1.cg wp3;refine Z2 trivial ?_;refine bH ?_;refine fO ?_;have dN:=MM wT5 wU5 0 2 2 0 2 m1 w2 aiw aix (aG _) 1 100 10 3 0 zD wo2 wr2 528 592 608 zO zO zO (hpL G1 [(528,wT5),(592,wU5)]) zS zS rE (N:=1) (E:=130) zO (lt1 wn0) wn1 zD zO;unfold cfV wT5 wU5 at dN;refine gj ?_;refine PI trivial ?_;refine bN (f:=.func 18) (cap:=#[]) hC dN rfl zS rfl rfl aJ aq zS aM aq (by simp;kernel_rfl) oP ?_ ?_
 ·exact kQ
 rintro v ns ⟨c6,b6,h6,l6,rfl,rfl⟩;refine PI trivial ?_;refine bH ?_;refine fO ?_;have dT:=MM wM5 wS5 0 1 1 0 1 m5 (w1 0 4) o5 lv (aG _) 1 100 3 1 7 zD wo3 wr1 208 256 696 zO zO zO (hpL G1 [(208,wM5),(256,wS5)]) zS zS rE (N:=0) (E:=180) zO (λc hc=>zO) wt0 zD zO;unfold cfV wM5 wS5 at dT;refine gj ?_;refine zP trivial ?_;refine bN (f:=.func 18) (cap:=#[]) hC dT rfl zS rfl rfl aJ aq zS aM aq zS oP ?_ ?_
 ·exact kQ
 rintro v ns ⟨c7,b7,h7,l7,rfl,rfl⟩;refine PI trivial ?_;refine bH ?_;have ale:=A7 wM5 wS5 0 1 1 0 1 m5 (w1 0 4) o5 lv (aG _) 1 100 3 1 7 zD wo3 wr1 0 zO (λc hc=>zO) (.inr (by rw [wt0];decide)) zO;rw [ab zD,ab zD,ab zD,wt0] at ale;have aqv:=SE (LKa.two o5.fx lv.fx) 0 1 1 0 1 m5 (w1 0 4) o5 lv (aG _) 1 100 3 1 7 zD wo3 wr1 0 zO (λc hc=>zO) (.inr (by rw [wt1];decide)) zO 7 180 (w1 0 4) (λj hj=>zm wr1 hj) (ab zD) ((ab zD).trans wt1) (ab zD);have agl:=acs o5.fx lv.fx 0 1 1 0 1 1 100 3 1 0 7 ale aqv;have hIn:=J5 _ 100 108 wM5 wS5 (LKa.two o5.fx lv.fx) 0 1 1 0 1 1 m5 (w1 0 4) o5 lv 1 100 3 1 0 7 zD zD zD;rw [wi3,Bool.and_false] at hIn;have hSm:=(Oh b4 wS5 0 0 1 1 c4 1 (w1 0 4) (w1 0 4) s4 lv 7 7).up1 (sC s4.fx lv.fx);rw [G7 (λ_ _=>rfl)] at hSm;have r4:=λρ=>Blk.fx_rn s4.fx ρ;have r5:=λρ=>Blk.fx_rn lv.fx ρ;unfold wS5 at r5;have v3:=s3.vec (i:=0) zO (u:=0) zO;have v5:=s5.vec (i:=0) zO (u:=3) zO;have a2:=(hA.rd 2 (aG _)).2;simp [w1] at v3 v5 a2;unfold cfV at agl hIn;unfold wM5 wS5 at agl hIn;unfold wS5 at hSm
 repeat' first|refine cM ?_|((first|refine gwR [20,17,9] ?_|refine gwD [20,17,9] ?_);intro Q hQ _;(repeat first|simp [hC,hY,dk,bW,v3,v5,a2]|(first|refine az agl G1F (B:=200) (LKa.two o5.fx lv.fx).ok (λk=>if k=100 then 208 else if k=108 then 256 else k) (λk hk=>(ab zO).trans (ab zO)) ay zS kO ah ax ?_|refine az hIn G1F (B:=200) (LKa.two o5.fx lv.fx).ok (λk=>if k=100 then 208 else if k=108 then 256 else k) (λk hk=>(ab zO).trans (ab zO)) ay zS kO ah ax ?_|refine az hSm G1F (B:=200) (sC s4.fx lv.fx) (λk=>if k=100 then 376 else if k=108 then 256 else k) (λk hk=>(ab zO).trans (ab zO)) ay zS (by simp [smL,r4,r5]) (by simp [ak,smL]) kJ ?_));refine cQ hQ ?_)|fail
 exact eR results6
theorem IH (K:iQ):cu prog G1 6 #[] K↔K (.bool true):=aP G1W ae Oy
theorem rD {p:Prop} (h:p:=by simp [results4]):p:=h
theorem mh {p:Prop} (h:p:=by simp [smL,RS,Gz,hS,df,mY,bW]):p:=h
theorem mg {p:Prop} (h:p:=by simp [ak,smL];omega):p:=h
theorem ot {p:Prop} (h:p:=by simp [ntmps4]):p:=h
theorem gZ {p:Prop} (h:p:=by
 refine ⟨.inr rfl,rD,I1 G1F⟩):p:=h
theorem D7 {p:Prop} (h:p:=by
 rw [G7 (λj hj=>hNe zD j hj)] at hsm
 repeat' first|refine cM ?_|((first|refine gwR [17,9] ?_|refine gwD [17,9] ?_);intro Q hQ _;(repeat first|simp [hC,hY,hA,hS,df,fq,wk]|(first|refine dG dR hT.ok ji ?_|refine az hsm G1F (B:=200) (sC (dI _ _ _) cf.fx) (λk=>if k=100 then 368 else if k=108 then ks else k) (λk hk=>(ab zO).trans (ab zO)) ay zS mh mg kJ ?_));refine cQ hQ ?_)|fail
 refine ⟨.inr rfl,rD,I1 G1F⟩):p:=h
theorem ani (k p q:Int) (K:iQ):cu prog G1 7 #[.agg #[.int .u8 k,.int .i64 p,.int .i64 q]] K↔K (.bool (opB k p q)):=aP G1W ae ((N9 k p q).up Gr)
theorem Oi (L:bS) (ka ks:Nat) (bm bs:Blk) (hT:LKa L ka ks bm bs) (off n cap ao N2 av:Nat) (fm fs:aS) (hm:MB bm off n fm) (cf:SB bs ao N2 fs) (g bx tp nr md st:Int) (hs:i64 st) (k p q:Int) (agr:pX n N2 (eQ n fm g bx tp nr md) (aV st fs N2)=false\/opB k p q=false) :
  Fun prog G1 4 #[cfV (.slice (some ⟨ka,off,none⟩) n cap) g bx tp nr md,.agg #[.int .i64 st,.slice (some ⟨ks,ao,none⟩) N2 av],.agg #[.int .u8 k,.int .i64 p,.int .i64 q]] (hpL G1 L) (ak L) (.ret (.bool true) []):=by
 refine qR (B:=200) G1F func4 rfl call4 hT.ok ?_ zS zS zS ot zO ?_
 ·exact dE
 intro C hC bQ hY;have hA:=hT.a;have hS:=hT.s;have df:=hT.ne;have fq:=hT.na;have jW:=hT.low;have wk:=IH;have XD:=ani k p q;have hgr:=Oj L ka ks bm bs hT off n cap ao N2 av g bx tp nr md st;have hft:=JO L ka ks bm bs hT off n cap ao N2 av fm fs hm cf g bx tp nr md st;unfold cfV at hgr hft |-
 cases hg:(decide (9<n)||decide (9<N2)) with
 | true =>
  rw [hg] at hgr
  repeat' first|refine cM ?_|((first|refine gwR [5] ?_|refine gwD [5] ?_);intro Q hQ _;(repeat first|simp [hC,hY,hA,hS,df,fq,wk]|refine dG hgr hT.ok ji ?_);refine cQ hQ ?_)|fail
  exact gZ
 | false =>
  rw [hg] at hgr
  cases hf:pX n N2 (eQ n fm g bx tp nr md) (aV st fs N2) with
  | false =>
   rw [hf] at hft
   repeat' first|refine cM ?_|((first|refine gwR [5,14] ?_|refine gwD [5,14] ?_);intro Q hQ _;(repeat first|simp [hC,hY,hA,hS,df,fq,wk]|(first|refine dG hgr hT.ok ji ?_|refine dG hft hT.ok ji ?_));refine cQ hQ ?_)|fail
   exact gZ
  | true =>
   rw [hf] at hft;rw [agr.resolve_left (by rw [hf];simp)] at XD
   repeat' first|refine cM ?_|((first|refine gwR [5,14] ?_|refine gwD [5,14] ?_);intro Q hQ _;(repeat first|simp [hC,hY,hA,hS,df,fq,wk,XD]|(first|refine dG hgr hT.ok ji ?_|refine dG hft hT.ok ji ?_));refine cQ hQ ?_)|fail
   exact gZ
theorem aie (L:bS) (ka ks:Nat) (bm bs:Blk) (hT:LKa L ka ks bm bs) (off n cap ao av:Nat) (fm fs:aS) (hm:MB bm off n fm) (cf:SB bs ao n fs) (dp:n<=av) (g bx tp nr md st:Int) (hs:i64 st) (k p q:Int) (zt:0<=k/\k<256) (fJ:eQ n fm g bx tp nr md=true) (ez:aV st fs n=true) (RM:opB k p q=true) :
  Fun prog G1 4 #[cfV (.slice (some ⟨ka,off,none⟩) n cap) g bx tp nr md,.agg #[.int .i64 st,.slice (some ⟨ks,ao,none⟩) n av],.agg #[.int .u8 k,.int .i64 p,.int .i64 q]] (hpL G1 L) (ak L) (.ret (.bool true) []):=by
 refine qR (B:=200) G1F func4 rfl call4 hT.ok ?_ zS zS zS ot zO ?_
 ·exact dE
 intro C hC bQ hY;have hA:=hT.a;have hS:=hT.s;have df:=hT.ne;have fq:=hT.na;have jW:=hT.low;have mY:=hT.k1;have nA:=hT.k2;have yB:=hT.a2;have wk:=IH;have XD:=ani k p q;rw [RM] at XD;have hgr:=Oj L ka ks bm bs hT off n cap ao n av g bx tp nr md st;have hft:=JO L ka ks bm bs hT off n cap ao n av fm fs hm cf g bx tp nr md st;obtain ⟨_,⟨n1,n4⟩,_⟩:=ln ez;obtain ⟨JT,OT,hn9,_⟩:=iJ fJ;have Jb:pX n n (eQ n fm g bx tp nr md) (aV st fs n)=true:=oF;have hg:(decide (9<n)||decide (9<n))=false:=by rw [aX zO];rfl
 rw [Jb] at hft;rw [hg] at hgr;have hl:r1n 368 ka=ka:=ab zO;have zv:r1n 368 ks=ks:=ab zO;have agU:=(ae6 hT off n cap ao av fm fs hm cf dp g bx tp nr md st hs k p q zt fJ ez).nmL hT.ok hT.fx 368 zO (λv ns=>Ak) (by simp [cfV,ren,aT,aw,aA,hl,zv]) (YA (ρ:=r1n 368) (nk:=368) rfl _ _ _ _);have mW:=Pm hT off n cap ao av fm fs hm cf g bx tp nr md st fJ ez;have dR:=J5 L ka ks bm bs hT off n cap ao n av fm fs hm cf g bx tp nr md st hs fk fk;rw [Jb,iw] at dR;have hwi:=(IM bs ao n av fs cf st bx tp zO zO).up1 (aH cf.fx);have Gz:=λρ=>Blk.fx_rn cf.fx ρ;unfold cfV at hgr hft agU mW dR |-
 repeat' first|refine cM ?_|((first|refine gwR [5,14] ?_|refine gwD [5,14] ?_);intro Q hQ _;(repeat first|simp [hC,hY,hA,hS,df,fq,wk,XD]|(first|refine dG hgr hT.ok ji ?_|refine dG hft hT.ok ji ?_));refine cQ hQ ?_)|fail
 refine gj ?_;refine GU (k4 hA hS df fq) ?_;refine bN (f:=.func 13) (cap:=#[]) hC agU rfl zS rfl rfl aJ aq zS aM aq lY cS ?_ ?_
 ·intro v ns hV x hx;rw [Ak hV x hx];simp
 rintro v ns ⟨F,⟨w,⟨c1,M1,g1,x1,y1,z1,rfl,rfl⟩,rfl⟩,hF6,hFe⟩;refine PI (k4 hA hS df fq) ?_;refine bH ?_;have hsF:SB ⟨fa M1 .i64 g1,.ty 50⟩ 0 n F:=qW y1 z1 hF6 cf.nn;have RS:=λρ=>Blk.fx_rn (dI M1 g1 50) ρ;have hwF:=(IM _ 0 n c1 F hsF st bx tp zO zO).up1 (aH hsF.fx);have hsm:=(Oh ⟨fa M1 .i64 g1,.ty 50⟩ bs 0 ao n n c1 av F fs hsF cf st st).up1 (sC (dI _ _ _) cf.fx)
 repeat' first|refine cM ?_|((first|refine gwR [15] ?_|refine gwD [15] ?_);intro Q hQ _;(repeat first|simp [hC,hY,hA,hS,df,fq]|refine az hwi G1F (B:=200) (aH cf.fx) (λk=>if k=100 then ks else k) (λk hk=>ab zO) ay zS (by simp [Gz,hS,df,mY,bW]) ah ax ?_);refine cQ hQ ?_)|fail
 refine gj ?_;refine zP (k4 hA hS df fq) ?_;refine bN (f:=.func 16) (cap:=#[]) hC mW rfl zS rfl rfl aJ aq zS aM aq lY cS ?_ ?_
 ·rintro v ns ⟨e,rfl,rfl,_⟩ x hx;simp [ak] at hx
 rintro v ns ⟨e,rfl,rfl,hE⟩;refine zP trivial ?_;refine bH ?_;have hEd:opE g bx tp nr fm n st fs k p q=(if ij bx tp fs n=true then (if k=2/\nrB st fs n nr=true then 130 else if ij bx tp (opF k p q g fm n fs) n=true then 0 else 180) else 180):=by unfold opE;rw [RM,ai rfl]
 have hNe:¬opE g bx tp nr fm n st fs k p q=0->Eq6 n F fs:=λh=>by
  unfold opN at hFe;rw [ab h] at hFe;exact hFe
 have hN0:opE g bx tp nr fm n st fs k p q=0->Eq6 n F (opF k p q g fm n fs):=λh=>by
  unfold opN at hFe;rw [ai h] at hFe;exact hFe
 clear agU;generalize opE g bx tp nr fm n st fs k p q=E at *
 cases ha:ij bx tp fs n with
 | false =>
  obtain rfl:E=180:=by rw [hEd,ha];simp
  rw [ha] at dR;rw [G7 (λj hj=>hNe zD j hj)] at hsm;by_cases mN:k=2
  ·subst mN
   repeat' first|refine cM ?_|((first|refine gwR [17,9] ?_|refine gwD [17,9] ?_);intro Q hQ _;(repeat first|simp [hC,hY,hA,hS,df,fq,wk]|(first|refine dG dR hT.ok ji ?_|refine az hsm G1F (B:=200) (sC (dI _ _ _) cf.fx) (λk=>if k=100 then 368 else if k=108 then ks else k) (λk hk=>(ab zO).trans (ab zO)) ay zS mh mg kJ ?_));refine cQ hQ ?_)|fail
   exact gZ
  ·have yZ:(k==2)=false:=by simpa using mN
   have Vt:(k != 2)=true:=by simpa using mN
   repeat' first|refine cM ?_|((first|refine gwR [17,9] ?_|refine gwD [17,9] ?_);intro Q hQ _;(repeat first|simp [hC,hY,hA,hS,df,fq,wk,mN,yZ,Vt]|(first|refine dG dR hT.ok ji ?_|refine az hsm G1F (B:=200) (sC (dI _ _ _) cf.fx) (λk=>if k=100 then 368 else if k=108 then ks else k) (λk hk=>(ab zO).trans (ab zO)) ay zS mh mg kJ ?_));refine cQ hQ ?_)|fail
   exact gZ
 | true =>
  rw [ha] at dR;rw [ha,ai rfl] at hEd;by_cases mN:k=2
  ·subst mN
   cases hnr:nrB st fs n nr with
   | true =>
    obtain rfl:E=130:=by rw [hEd,hnr];simp
    obtain rfl:e=130:=by
     rcases hE with ⟨_,h⟩|⟨h,_⟩
     ·exact absurd ((Sf ez hn9).1 hnr) h
     ·exact h
    exact D7
   | false =>
    obtain rfl:e=0:=by
     rcases hE with ⟨h,_⟩|⟨_,h⟩
     ·exact h
     ·rw [(Sf ez hn9).2 h] at hnr;cases hnr
    rw [hnr] at hEd
    cases hb:ij bx tp (opF 2 p q g fm n fs) n with
    | true =>
     obtain rfl:E=0:=by rw [hEd,hb];simp
     rw [ni (hN0 rfl),hb] at hwF
     repeat' first|refine cM ?_|((first|refine gwR [17,9,15] ?_|refine gwD [17,9,15] ?_);intro Q hQ _;(repeat first|simp [hC,hY,hA,hS,df,fq,wk]|(first|refine dG dR hT.ok ji ?_|refine az hsm G1F (B:=200) (sC (dI _ _ _) cf.fx) (λk=>if k=100 then 368 else if k=108 then ks else k) (λk hk=>(ab zO).trans (ab zO)) ay zS mh mg kJ ?_|refine az hwF G1F (B:=200) (aH hsF.fx) (λk=>if k=100 then 368 else k) (λk hk=>ab zO) ay zS (by simp [RS,df,bW]) ah ax ?_));refine cQ hQ ?_)|fail
     exact gZ
    | false =>
     obtain rfl:E=180:=by rw [hEd,hb];simp
     exact D7
  ·have yZ:(k==2)=false:=by simpa using mN
   have Vt:(k != 2)=true:=by simpa using mN
   cases hb:ij bx tp (opF k p q g fm n fs) n with
   | true =>
    obtain rfl:E=0:=by rw [hEd,hb];simp [mN]
    rw [ni (hN0 rfl),hb] at hwF
    repeat' first|refine cM ?_|((first|refine gwR [17,9,15] ?_|refine gwD [17,9,15] ?_);intro Q hQ _;(repeat first|simp [hC,hY,hA,hS,df,fq,wk,mN,yZ,Vt]|(first|refine dG dR hT.ok ji ?_|refine az hsm G1F (B:=200) (sC (dI _ _ _) cf.fx) (λk=>if k=100 then 368 else if k=108 then ks else k) (λk hk=>(ab zO).trans (ab zO)) ay zS mh mg kJ ?_|refine az hwF G1F (B:=200) (aH hsF.fx) (λk=>if k=100 then 368 else k) (λk hk=>ab zO) ay zS (by simp [RS,df,bW]) ah ax ?_));refine cQ hQ ?_)|fail
    exact gZ
   | false =>
    obtain rfl:E=180:=by rw [hEd,hb];simp [mN]
    rw [G7 (λj hj=>hNe zD j hj)] at hsm
    repeat' first|refine cM ?_|((first|refine gwR [17,9] ?_|refine gwD [17,9] ?_);intro Q hQ _;(repeat first|simp [hC,hY,hA,hS,df,fq,wk,mN,yZ,Vt]|(first|refine dG dR hT.ok ji ?_|refine az hsm G1F (B:=200) (sC (dI _ _ _) cf.fx) (λk=>if k=100 then 368 else if k=108 then ks else k) (λk hk=>(ab zO).trans (ab zO)) ay zS mh mg kJ ?_));refine cQ hQ ?_)|fail
    exact gZ
theorem uA (L:bS) (ka ks:Nat) (bm bs:Blk) (hT:LKa L ka ks bm bs) (off n cap:Nat) (fm:aS) (hm:MB bm off n fm) (dS:n<=cap) (ao N2 av:Nat) (fs:aS) (cf:SB bs ao N2 fs) (dp:N2<=av) (g bx tp nr md st k p q:Int) (_:i64 g) (_:i64 bx) (_:i64 tp) (_:i64 nr) (_:i64 md) (hs:i64 st) (hk:0<=k/\k<256) (hp:i64 p) (hq:i64 q) :
  Fun prog G1 4 #[cfV (.slice (some ⟨ka,off,none⟩) n cap) g bx tp nr md,.agg #[.int .i64 st,.slice (some ⟨ks,ao,none⟩) N2 av],.agg #[.int .u8 k,.int .i64 p,.int .i64 q]] (hpL G1 L) (ak L) (.ret (.bool true) []):=by
 cases hf:pX n N2 (eQ n fm g bx tp nr md) (aV st fs N2) with
 | false=>exact Oi L ka ks bm bs hT off n cap ao N2 av fm fs hm cf g bx tp nr md st hs k p q (.inl hf)
 | true =>
  cases ho:opB k p q with
  | false=>exact Oi L ka ks bm bs hT off n cap ao N2 av fm fs hm cf g bx tp nr md st hs k p q (.inr ho)
  | true =>
   obtain ⟨rfl,fJ,ez⟩:=HI.1 hf;exact aie L ka ks bm bs hT off n cap ao av fm fs hm cf dp g bx tp nr md st hs k p q hk fJ ez ho
theorem rJ {p:Prop} (h:p:=by simp [ak];try rfl):p:=h
theorem I6 (g bx tp nr md st:Int) (k p q:Int) (_:i64 g) (_:i64 bx) (_:i64 tp) (_:i64 nr) (_:i64 md) (_:i64 st) (_:0<=k/\k<256) (_:i64 p) (_:i64 q):Ret prog G1 4 #[.agg #[.slice none 0 0,.int .i64 g,.int .i64 bx,.int .i64 tp,.int .i64 nr,.int .i64 md],.agg #[.int .i64 st,.slice none 0 0],.agg #[.int .u8 k,.int .i64 p,.int .i64 q]] (.bool true):=by
 refine ck G1F func4 rfl call4 zS zS ot ?_;intro C hC bQ hY;have hg:=UW g bx tp nr md st;have wk:=IH;have kf:=aca
 repeat' first|refine cM ?_|((first|refine gwR [5] ?_|refine gwD [5] ?_);intro Q hQ _;(repeat first|simp [hC,hY,wk,kf]|refine az hg G1F (B:=200) z9 (λk=>k) (λk hk=>rfl) cY zS zS ah rJ ?_);refine cQ hQ ?_)|fail
 exact eR results4
theorem I7 (b:Blk) (off n cap:Nat) (f:aS) (h:SB b off n f) (dS:n<=cap) (g bx tp nr md st:Int) (k p q:Int) (_:i64 g) (_:i64 bx) (_:i64 tp) (_:i64 nr) (_:i64 md) (_:i64 st) (_:0<=k/\k<256) (_:i64 p) (_:i64 q):Fun prog G1 4 #[.agg #[.slice none 0 0,.int .i64 g,.int .i64 bx,.int .i64 tp,.int .i64 nr,.int .i64 md],.agg #[.int .i64 st,.slice (some ⟨100,off,none⟩) n cap],.agg #[.int .u8 k,.int .i64 p,.int .i64 q]] (hpL G1 [(100,b)]) (ak [(100,b)]) (.ret (.bool true) []):=by
 refine de (B:=200) G1F func4 rfl call4 (aH h.fx) ?_ (cb zS) zS zS ot zO ?_
 ·exact bG
 intro C hC bQ hY;have hr:=λρ=>Blk.fx_rn h.fx ρ;have hg:=UX b off n cap f h g bx tp nr md st;have wk:=IH;have hf:=ahg b off n cap f h g bx tp nr md st;by_cases h9:9<n
 ·rw [bZ h9] at hg
  repeat' first|refine cM ?_|((first|refine gwR [5] ?_|refine gwD [5] ?_);intro Q hQ _;(repeat first|simp [hC,hY,wk]|refine az hg G1F (B:=200) (aH h.fx) (λk=>k) (λk hk=>rfl) cY zS cj ah rJ ?_);refine cQ hQ ?_)|fail
  refine ⟨.inr rfl,rD,G4 G1F⟩
 ·rw [aX h9] at hg
  repeat' first|refine cM ?_|((first|refine gwR [5,14] ?_|refine gwD [5,14] ?_);intro Q hQ _;(repeat first|simp [hC,hY,wk]|refine az hg G1F (B:=200) (aH h.fx) (λk=>k) (λk hk=>rfl) cY zS cj ah rJ ?_|refine az hf G1F (B:=200) (aH h.fx) (λk=>k) (λk hk=>rfl) cY zS cj ah rJ ?_);refine cQ hQ ?_)|fail
  refine ⟨.inr rfl,rD,G4 G1F⟩
theorem yD (L:bS) (ka:Nat) (b:Blk) (hT:LKb L ka b) (off n cap:Nat) (f:aS) (h:MB b off n f) (dS:n<=cap) (g bx tp nr md st:Int) (k p q:Int) (_:i64 g) (_:i64 bx) (_:i64 tp) (_:i64 nr) (_:i64 md) (_:i64 st) (_:0<=k/\k<256) (_:i64 p) (_:i64 q):Fun prog G1 4 #[.agg #[.slice (some ⟨ka,off,none⟩) n cap,.int .i64 g,.int .i64 bx,.int .i64 tp,.int .i64 nr,.int .i64 md],.agg #[.int .i64 st,.slice none 0 0],.agg #[.int .u8 k,.int .i64 p,.int .i64 q]] (hpL G1 L) (ak L) (.ret (.bool true) []):=by
 refine qR (B:=200) G1F func4 rfl call4 hT.ok ?_ (cb zS) zS zS ot zO ?_
 ·simp [aN,cp,aL,aR,ak,hT.ia]
 intro C hC bQ hY;have hA:=hT.a;have fq:=hT.na;have jW:=hT.low;have hg:=UY L ka b hT off n cap f h g bx tp nr md st;have wk:=IH;have hf:=ahh L ka b hT off n cap f h g bx tp nr md st;by_cases h9:9<n
 ·rw [bZ h9] at hg
  repeat' first|refine cM ?_|((first|refine gwR [5] ?_|refine gwD [5] ?_);intro Q hQ _;(repeat first|simp [hC,hY,wk]|refine dG hg hT.ok ji ?_);refine cQ hQ ?_)|fail
  exact gZ
 ·rw [aX h9] at hg
  repeat' first|refine cM ?_|((first|refine gwR [5,14] ?_|refine gwD [5,14] ?_);intro Q hQ _;(repeat first|simp [hC,hY,wk]|refine dG hg hT.ok ji ?_|refine dG hf hT.ok ji ?_);refine cQ hQ ?_)|fail
  exact gZ
end Go.Gy
namespace Go.Gy
set_option maxRecDepth 100000
open Go Go.RowKit Go.Proofs Go.ChangeShapes Go.WideShapes Go.ChangeAt
abbrev qL := @Go.Lib.mapM_at
abbrev kj := @Option.some.inj

section
variable {H:Type} {enc:TypeId×Value->H} {P:Program}
theorem Jq {f:Func} {s:ChangeSpec} {apart fresh handsOn again:Bool} {W W':World} {args:bV} {v:Value} {ds gs:List (DataW H)} {before pa pv:List MemPlace}
  (hW:DataW.Whole enc P f.params.toList s.vars apart W args.toList ds gs before)
  (HW:∀ (b:Nat) (sp:Nat->Bool) (hd:Bool),DataW.TrodAll enc P W' b sp hd f.resultTypes.toList (v.resultList f.resultTypes.size) (s.fn H (ds++gs)).results [])
  (kv:∀ sp:Nat->Bool,(∀ p∈before,sp p.block=true)->DataW.TrodAll enc P W' 0 sp true f.params.toList args.toList (s.fn H (ds++gs)).args pa)
  (aeH:∀ sp:Nat->Bool,(∀ p∈before,sp p.block=true)->DataW.TrodVars enc P W' sp s.vars (s.fn H (ds++gs)).vars pv)
  (JY:before=pa++pv) (hb:Below W.heap.size W W')
  (fJ:∀ (j:Nat) (t:TypeId) (r:Value),f.resultTypes[j]? = some t->(v.resultList f.resultTypes.size)[j]? = some r->Value.okWide P W' .any 0 t r) :
  s.post enc P f apart fresh handsOn again W args v W':=by
 have cA:∀ p∈before,p.block<W.heap.size:=λp hp=>hW.lt p hp;have hold:∀ p∈before,(λb=>decide (b<W.heap.size)) p.block=true:=λp hp=>by simpa using cA p hp
 refine ⟨ds,gs,before,[],pa,pv,hW,HW _ _ _,kv _ hold,aeH _ hold,World.keptBut_mono (λp hp=>⟨hp,?_⟩) (hb.frame (·∈before)),λ_=>?_⟩
 ·rw [JY,cN] at hp;exact Or.inr hp
 ·obtain ⟨_,_,_,_,_,hz,hn⟩:=hW;refine ⟨fJ,_,_,([]++pa)++pv,⟨[]++pa,pv,trodAll_append (kv _ (λ_ _=>rfl)) (HW _ _ _),aeH _ (λ_ _=>rfl),rfl,?_,?_⟩,?_⟩
  ·intro b off hp;have dR:MemPlace.cell b off∈before:=by rw [JY];simpa using hp
   rw [hb.frozen (cA _ dR)];exact hz b off dR
  ·intro ha;have:=hn ha;rw [JY] at this;exact cZ
  ·intro p hp _;rw [JY];simpa using hp
end

theorem Tp:Tryz.prog.cellsOf 138=1:=ae
theorem Pk:Tryz.prog.cellsOf 140=4:=ae
theorem Yb:IntKind.i64.min=-9223372036854775808/\IntKind.i64.max=9223372036854775807:=zD
theorem jh {z:Int} (h:(Lit.int .i64 z).wf=true):i64 z:=by
 simp only [Lit.wf,bO,fe,Yb.1,Yb.2] at h;unfold i64;omega
section
variable {H:Type} {enc:TypeId×Value->H} {w:World}
end

theorem own:ownKnob Tryz.prog.godebug=none:=ae
theorem vk {P:Program} {W:World} {name:String} {g:Nat} {cs:bV} {z:bV} {T:TypeId} (hg:P.globalNamed name=some g) (cA:g<P.globals.size) (arJ:((begin P (λ_ _=>0) default).world.heap[g]?).bind Obj.row? = some (z,T))
  (hS:W.ShapedOpen P) (hv:W.var? P name=some cs):W.heap[g]? = some (.cells cs T (0,0)):=by
 obtain ⟨c,h1,_⟩:=hS.1 g z T cA arJ;unfold World.var? at hv;rw [hg] at hv;simp only [lC,h1,bg] at hv;rw [h1,hv]
theorem Xj : Tryz.prog.globalNamed "gyre/quot.least" = some 3 := ae
theorem PG:(Tryz.prog.globals[3]?).map (·.type)=some 140:=ae
theorem TF:((begin Tryz.prog (λ_ _=>0) default).world.heap[3]?).bind Obj.row? = some (#[.int .u64 0,.int .u64 0,.int .u64 0,.int .u64 0],140):=ae
theorem X4 {W : World} {rest : List (String × DataW Unit)} (h : laidMet Tryz.prog (("gyre/quot.least", Proofs.YtekhnalfccakmaaGreatDoor.Rows.laid_gyre_quot_least) :: rest) W) : W.var? Tryz.prog "gyre/quot.least" = some lsB.c :=
 Lib.tabIs_of_head (zs:=[0,0,0,9223372036854775808]) Xj PG Tryz.underlying140 Tryz.underlying138 Tp Pk h
theorem Ja {H:Type} {enc:TypeId×Value->H} {P:Program} {w:World} {base:Nat} {sp:Nat->Bool} {held:Bool} {fuel:Nat} {t e:TypeId} {n:Nat} {cs:List Value} {ss:List (List UInt8)} {p:List MemPlace}
  (ht:P.underlying t=some (.array n e)) (he:P.underlying e=some .string) (hce:P.cellsOf e=1) (hct:P.cellsOf t=n)
  (h:DataW.trod enc P w base sp held fuel t cs=some (.agg (ss.map λs=>.lit (.string s)),p)):cs=ss.map λs=>Value.string ⟨s.toArray⟩:=by
 cases fuel with
 | zero=>simp [DataW.trod] at h
 | succ fuel =>
  simp only [DataW.trod,ht,hce,hct,qm] at h;split at h
  ·rename_i hl;obtain ⟨xs,hm,hx⟩:=j5.1 h
   have yH:xs.map (·.1)=ss.map λs=>(DataW.lit (.string s):DataW H):=by
    have:=congrArg Prod.fst hx;exact cZ
   have hxl:xs.length=n:=by simpa using Lib.mapM_length hm
   have hzl:ss.length=n:=by
    have:=congrArg List.length yH;simp at this;omega
   apply List.ext_getElem?
   intro i;by_cases hi:i<n
   ·obtain ⟨b,hb,hf⟩:=qL hm i i (by simp [hi]);obtain ⟨s,hc,rfl,_⟩:=DataW.trod_string he hf
    have h1:cs[i]? = some (.string s):=by
     have:=congrArg (·[0]?) hc;simpa [fT,j6] using this
    have h2:(xs.map (·.1))[i]? = some (DataW.lit (.string s.data.toList):DataW H):=by simp [hb]
    rw [yH] at h2;simp only [nS,j5,DataW.lit.injEq,Lit.string.injEq] at h2;obtain ⟨z',hz',rfl⟩:=h2;simp [h1,hz']
   ·rw [qs zO,qs (by simp;omega)]
  ·cases h
theorem Xk : Tryz.prog.globalNamed "gyre/conf.names" = some 1 := ae
theorem PH:(Tryz.prog.globals[1]?).map (·.type)=some 127:=ae
theorem To:Tryz.prog.cellsOf 9=1:=ae
theorem Mu:Tryz.prog.cellsOf 127=7:=ae
theorem TG:((begin Tryz.prog (λ_ _=>0) default).world.heap[1]?).bind Obj.row? = some (#[.string ⟨#[]⟩,.string ⟨#[]⟩,.string ⟨#[]⟩,.string ⟨#[]⟩,.string ⟨#[]⟩,.string ⟨#[]⟩,.string ⟨#[]⟩],127):=ae
theorem Yi {W : World} {rest : List (String × DataW Unit)} (h : laidMet Tryz.prog (("gyre/conf.names", Proofs.YtekhnalfccakmaaGreatDoor.Rows.laid_gyre_conf_names) :: rest) W) : W.var? Tryz.prog "gyre/conf.names" = some cnB.c := by
 obtain ⟨ps,⟨g',t',cs,fuel,p,q,OQ,ht',ag1,hd,_,_⟩,_⟩:=h;obtain rfl:=kj (Xk.symm.trans OQ);obtain rfl:=kj (PH.symm.trans ht');have h9:=Ja (ss:=[[98,111,100,105,101,115],[109,97,115,115],[99,111,110,115,116,97,110,116],[98,111,120],[116,111,112],[110,101,97,114],[109,101,116,104,111,100]]) Tryz.underlying127 Tryz.underlying9 To Mu hd;rw [ag1];congr 1;exact jk h9
theorem CY {p:Prop} (h:p:=by
 obtain ⟨row,q,m7,hl⟩:=h.lies;rw [e] at m7;unfold World.shape? at m7;rw [h1] at m7;obtain ⟨cc,T⟩:=c;simp only at ht;subst ht;simp only [Blk.obj0,bg,dM] at m7;obtain ⟨rfl,rfl⟩:=m7;rw [zu] at hl;cases hl):p:=h
theorem FM {p:Prop} (h:p:=by
 refine eE.mono λe W' h=>?_;obtain ⟨he,ht⟩:=h;rw [bM hv] at he;exact ⟨he,ht.os,ht.tape,ht.output,ht.size,λq hq=>ht.same q hq zS⟩):p:=h
theorem Ec {p:Prop} (h:p:=by
 congr 1;obtain ⟨cc,T⟩:=c
 cases T with
 | ty t=>exact (Blk.obj_flat (cK q _ hG).2).symm
 | raw t fr=>rfl
 | mp=>exact (Blk.obj_flat (cK q _ hG).2).symm):p:=h
abbrev fW := @Go.DataW.trod_int
abbrev eI := @Go.Proofs.Tryz.underlying3
abbrev qz := @Go.Proofs.Tryz.underlying50
abbrev uJ := @Go.Deep.open_slice
abbrev qw := @Go.Proofs.Tryz.underlying25
abbrev qP := @Go.Proofs.Tryz.underlying27
theorem xZ:Tryz.prog.cellsOf 3=1:=ae
theorem JC:Tryz.prog.cellsOf 48=3:=ae
theorem HA:Tryz.prog.cellsOf 50=6:=ae
theorem zC:Tryz.prog.cellsOf 25=1:=ae
theorem Mv:Tryz.prog.cellsOf 27=2:=ae
theorem KV:Tryz.prog.cellTypes Tryz.prog.depth 27=some [3,25]:=ae
section
variable {H:Type} {enc:TypeId×Value->H} {w:World} {base:Nat} {spare:Nat->Bool} {held:Bool}
theorem Kz {fuel:Nat} {cs:List Value} {x:DataW H×List MemPlace} (h:DataW.trod enc Tryz.prog w base spare held fuel 48 cs=some x):cs.length=3/\∀ j,j<3->∃ z,cs[j]? = some (.int .i64 z)/\i64 z:=by
 obtain ⟨xs,m,_,rfl,hl,yH,hi⟩:=DataW.trod_array Tryz.underlying48 h;rw [JC] at hl;refine ⟨hl,λj hj=>?_⟩;have h1:=hi j hj;rw [xZ,qm,uD zO] at h1;obtain ⟨z,e,_,hw⟩:=fW eI h1;refine ⟨z,?_,jh hw⟩;have:=congrArg (·[0]?) e;simpa [fT,j6] using this
theorem Pd {fuel:Nat} {cs:List Value} {x:DataW H×List MemPlace} (h:DataW.trod enc Tryz.prog w base spare held fuel 50 cs=some x):cs.length=6/\∀ j,j<6->∃ z,cs[j]? = some (.int .i64 z)/\i64 z:=by
 obtain ⟨y0,y1,n,rfl,hl,h0,h1⟩:=trod_struct2 qz h;rw [HA] at hl;simp only [JC] at h0 h1;refine ⟨hl,λj hj=>?_⟩;by_cases c:j<3
 ·obtain ⟨z,e,hz⟩:=(Kz h0).2 j c;refine ⟨z,?_,hz⟩;simpa [fT,j6,c] using e
 ·obtain ⟨z,e,hz⟩:=(Kz h1).2 (j - 3) zO;refine ⟨z,?_,hz⟩;rw [fT,ai zO,j6,(zO:3+(j - 3)=j)] at e;exact e
theorem NC {fuel:Nat} {cs:List Value} {x:DataW H×List MemPlace} (h:DataW.trod enc Tryz.prog w 0 (λ_=>true) held fuel 25 cs=some x) :
  cs=[.slice none 0 0]\/∃ (a:Addr) (len cap:Nat) (f:aS),cs=[.slice (some a) len cap]/\len<=cap/\∀ j,j<6*cap->w.cell? (a.add j)=some (.int .i64 (f j))/\i64 (f j):=by
 rcases uJ qw h with ⟨h0,_⟩|⟨a,len,cap,m,n,D,Pl,rfl,_,hlc,hcm,hm,_,hel⟩
 ·exact .inl h0
 right
 rw [ai rfl] at hm;subst hm;refine ⟨a,len,m,λj=>match w.cell? (a.add j) with|some (.int _ z)=>z|_=>0,rfl,hlc,λj hj=>?_⟩;obtain ⟨WH,h1,h2⟩:=hel (j / 6) zO;rw [HA] at h1;obtain ⟨z,e,hz⟩:=(Pd h2).2 (j%6) zO;unfold World.cells? at h1;rw [ai (fC _)] at h1;have h3:=mapM_some_get h1 (j%6) (j%6) (List.getElem?_range zO);rw [e,Deep.add_add,(zO:j / 6*6+j%6=j)] at h3;dsimp only;rw [h3];exact ⟨rfl,hz⟩
theorem QB {fits:TypeId->Bool} (h:fits 138=false) (d c o n:Nat):rowAt Tryz.prog fits d 138 c o n=false:=by
 cases d with
 | zero=>rfl
 | succ d=>simp [rowAt,h,Tryz.underlying138]
theorem Iz {fits:TypeId->Bool} (h:fits 138=false) (h2:fits 140=false) (d c o n:Nat):rowAt Tryz.prog fits d 140 c o n=false:=by
 cases d with
 | zero=>rfl
 | succ d=>simp [rowAt,h2,Tryz.underlying140,QB h]
theorem Ua (d c o n:Nat):liesAt Tryz.prog d 140 c o 50 n=false:=by
 cases d with
 | zero=>rfl
 | succ d =>
  unfold liesAt;rw [Iz ae ae,qz]
  rfl
theorem UQ {fits:TypeId->Bool} (h:fits 9=false) (d c o n:Nat):rowAt Tryz.prog fits d 9 c o n=false:=by
 cases d with
 | zero=>rfl
 | succ d=>simp [rowAt,h,Tryz.underlying9]
theorem BZ {fits:TypeId->Bool} (h:fits 9=false) (h2:fits 127=false) (d c o n:Nat):rowAt Tryz.prog fits d 127 c o n=false:=by
 cases d with
 | zero=>rfl
 | succ d=>simp [rowAt,h2,Tryz.underlying127,UQ h]
theorem P9 (d c o n:Nat):liesAt Tryz.prog d 127 c o 50 n=false:=by
 cases d with
 | zero=>rfl
 | succ d =>
  unfold liesAt;rw [BZ ae ae,qz]
  rfl
theorem aar:∀ p∈G0L,∃ t,p.2.T=.ty t/\∀ d c o n,liesAt Tryz.prog d t c o 50 n=false:=by
 intro p hp;unfold G0L at hp;rcases al.1 hp with rfl|hp
 ·exact ⟨_,rfl,Ua⟩
 rcases al.1 hp with rfl|hp
 ·exact ⟨_,rfl,P9⟩
 cases hp
structure StAt (W:World) (k off n cap:Nat) (b:Blk) (f:aS):Prop where
 le:n<=cap
 heap:W.heap[k]? = some b.obj0
 fx:b.fx
 raw:∃ c T fr,b=⟨c,.raw T fr⟩
 rd:rdI b off (6*cap) f
 i6:∀ j,j<6*cap->i64 (f j)
 lies:∃ row c,W.shape? k=some (row,c)/\liesAt Tryz.prog Tryz.prog.depth row (c / Tryz.prog.cellsOf row) off 50 cap=true
theorem StAt.sb {W:World} {k off n cap:Nat} {b:Blk} {f:aS} (h:StAt W k off n cap b f) (hn:n<=2932031007402):SB b off n f:=⟨h.rd.le (by have:=h.le;omega),h.fx,λj hj=>h.i6 j (by have:=h.le;omega),hn⟩
theorem Qj {r:Reach} {b0:Nat} {v:Value} {d:DataW H} {p:List MemPlace} (hv:Value.okWide Tryz.prog w r b0 27 v) (h:DataW.Trod enc Tryz.prog w 0 (λ_=>true) held 27 v d p) :
  ∃ st,i64 st/\(v=.agg #[.int .i64 st,.slice none 0 0]\/∃ (k off n cap:Nat) (b:Blk) (f:aS),v=.agg #[.int .i64 st,.slice (some ⟨k,off,none⟩) n cap]/\StAt w k off n cap b f):=by
 simp only [Value.okWide,qP] at hv;obtain ⟨cs,rfl,yg,ts,AG,_,jK⟩:=hv;rw [KV] at AG;simp only [bg] at AG;subst AG;obtain ⟨fuel,hf⟩:=h;obtain ⟨y0,y1,n,_,hl,h0,h1⟩:=trod_struct2 qP hf;rw [xZ] at h0;rw [zC] at h1;simp only [Value.cells] at h0 h1;obtain ⟨st,e0,_,hw⟩:=fW eI h0;rw [Mv] at yg
 obtain ⟨c0,c1,rfl⟩:∃ c0 c1,cs=#[c0,c1]:=by
  obtain ⟨l⟩:=cs
  match l,yg with
  | [c0,c1],_=>exact ⟨c0,c1,rfl⟩
 simp at e0;subst e0;refine ⟨st,jh hw,?_⟩;rcases NC h1 with e1|⟨a,len,cap,f,e1,hle,hc⟩
 ·simp at e1;subst e1;exact .inl rfl
 ·simp at e1;subst e1
  right
  obtain ⟨u,hu,fJ⟩:=jK 1 _ rfl;simp at hu;subst hu;simp only [Cell.okWide,Cell.ok,qw] at fJ;obtain ⟨_,_,_,hsp,row,cells,m7,HV⟩:=fJ;obtain ⟨k,off,sp⟩:=a;simp only at hsp m7 HV;subst hsp;have Bc:=m7;unfold World.shape? at Bc;split at Bc
  ·rename_i c T fr hh;simp only [bg,dM] at Bc;obtain ⟨rfl,rfl⟩:=Bc;refine ⟨k,off,len,cap,⟨c,.raw T fr⟩,f,rfl,hle,hh,eG,⟨c,T,fr,rfl⟩,λj hj=>?_,λj hj=>(hc j hj).2,T,_,m7,HV⟩;have h2:=(hc j hj).1;rw [lG] at h2;simpa [World.cell?,hh] using h2
  ·cases Bc
end
theorem yM {H:Type} {enc:TypeId×Value->H} {P:Program} {base:Nat} (hl:laidOutB P=true) {W W':World} {sp':Nat->Bool}:∀ (ts:List TypeId) (vs:List Value) (ds:List (DataW H)) (ps:List MemPlace),(∀ t∈ts,P.readableRec t=true/\t<P.types.size) ->
  DataW.TrodAll enc P W base (λ_=>true) true ts vs ds ps->(∀ p∈ps,W.sameAt W' p)->(∀ p∈ps,sp' p.block=true)->DataW.TrodAll enc P W' base sp' true ts vs ds ps
 | [],[],[],_,_,h,_,_=>h
 | t::_,_::_,_::_,_,hT,⟨p,q,h1,h2,e⟩,hm,hs=>⟨p,q,WideElems.Trod_stays hl (hT t zS).1 (hT t zS).2 h1 (λx hx=>hm x (by rw [e];exact fB _ hx)) (λx hx=>hs x (by rw [e];exact fB _ hx)),
   yM hl _ _ _ _ (λt ht=>hT t (br _ ht)) h2 (λx hx=>hm x (by rw [e];exact lK _ hx)) (λx hx=>hs x (by rw [e];exact lK _ hx)),e⟩
theorem X3:laidOutB Tryz.prog=true:=ae
theorem Pf:Tryz.prog.bytesOf 50=48:=ae
theorem Wu {H:Type} {enc:TypeId×Value->H} {w:World} {held:Bool} {st:Int} {a:Addr} {n cap:Nat} {d:DataW H} {p:List MemPlace} (h:DataW.Trod enc Tryz.prog w 0 (λ_=>true) held 27 (.agg #[.int .i64 st,.slice (some a) n cap]) d p) (hw:∀ x∈d.weights Tryz.prog 27,x<=reachBytes):cap<=2932031007402:=by
 obtain ⟨fuel,hf⟩:=h;obtain ⟨y0,y1,m,hx,hl,h0,h1⟩:=trod_struct2 qP hf;rw [zC] at h1;simp only [Value.cells] at h1;rcases uJ qw h1 with ⟨e1,_⟩|⟨a',len,cW,m',n',D,Pl,e1,_,hlc,hcm,hm,hy1,_⟩
 ·simp at e1
 ·simp at e1;obtain ⟨rfl,rfl,rfl⟩:=e1;rw [ai rfl] at hm;subst hm;simp only [dM] at hx;have hd:=hx.1;rw [hd,hy1] at hw
  have:=hw ((n+(m' - n))*48) (by
   simp only [DataW.weights,qP];simp [DataW.weightsEach,DataW.weights,qw,Pf])
  unfold reachBytes at this;omega
theorem StAt.ne {W:World} {k off n cap:Nat} {b:Blk} {f:aS} (h:StAt W k off n cap b f) (hg:GOK G0 W):∀ g c,G0 g=some c->k≠g:=λg c hc e=>by
 have h1:=hg g c hc;obtain ⟨t,ht,zu⟩:=aar _ (KD hc);exact CY
theorem A8 {P:Program} {G:Hp} {fn:FuncId} {args:bV} {b:Blk} {v:Value} {W:World} {k:Nat} (cK:ct G) (hF:Fun P G fn args (hpL G [(100,b)]) (ak [(100,b)]) (.ret v [])) (hv:bz v=true) (fM:GOK G W) (zV:b.fx) (hk:W.heap[k]? = some b.obj0) (df:∀ g c,G g=some c->k≠g) :
  jD P fn (args.map (ren λq=>if q=100 then k else q)) W λe W'=>e=.returned v/\Below W.heap.size W W':=by
 have er:rst (hpL G [(100,b)]) (ak [(100,b)])=hpL G [(100,b)]:=LOk.rst cK
 have TT:∀ r,b.obj r=b.obj0:=λr=>by
  obtain ⟨c,T⟩:=b
  cases T with
  | ty t=>exact Blk.obj_flat zV
  | raw t fr=>rfl
  | mp=>exact zV.elim
 have Bb:∀ q c,hpL G [(100,b)] q=some c->(q=100/\c=b)\/(q<100/\G q=some c):=λq c hq=>by
  rcases cB hq with h|h
  ·simp at h;exact .inl h
  ·exact .inr ⟨(cK q c h).1,h⟩
 have eE:=hF.run (λq=>if q=100 then k else q) W fM ?_ ?_ ?_
 ·exact FM
 ·rw [er];intro q c hq;rcases Bb q c hq with ⟨rfl,rfl⟩|⟨cA,hG⟩
  ·exact ⟨by simp only [aU];rw [TT];exact hk,Blk.fx_ids zV _⟩
  ·refine ⟨?_,Blk.flat_ids (cK q c hG).2⟩;have e1:(λq=>if q=100 then k else q) q=q:=ab zO;rw [e1,fM q c hG];exact Ec
 ·rw [er];intro q q' hq y8 e;have e:(if q=100 then k else q)=if q'=100 then k else q':=e
  unfold dom at hq y8
  cases h1:hpL G [(100,b)] q with
  | none=>exact absurd h1 hq
  | some c =>
   cases h2:hpL G [(100,b)] q' with
   | none=>exact absurd h2 y8
   | some c' =>
    rcases Bb q c h1 with ⟨rfl,_⟩|⟨cA,hG⟩<;>rcases Bb q' c' h2 with ⟨rfl,_⟩|⟨agN,hG'⟩
    ·rfl
    ·rw [ai rfl,ab zO] at e;exact absurd e (df _ _ hG')
    ·rw [ab zO,ai rfl] at e;exact absurd e.symm (df _ _ hG)
    ·rw [ab zO,ab zO] at e;exact e
 ·intro q hq _;exact ab zO
section
variable {H:Type} {enc:TypeId×Value->H} {w:World} {base:Nat} {spare:Nat->Bool} {held:Bool}
end
theorem Y7 {W:World} {k:Nat} {b b':Blk} (h:W.heap[k]? = some b.obj0) (h':W.heap[k]? = some b'.obj0) (r:∃ c T fr,b=⟨c,.raw T fr⟩) (r':∃ c T fr,b'=⟨c,.raw T fr⟩):b=b':=by
 obtain ⟨c,T,fr,rfl⟩:=r;obtain ⟨c',T',fr',rfl⟩:=r';rw [h] at h';simp only [Blk.obj0,bg,qt] at h';obtain ⟨rfl,rfl,rfl⟩:=h'
 rfl
theorem aeg {P:Program} {G:Hp} {fn:FuncId} {args:bV} {L:bS} {v:Value} {W:World} (r:cI) (cK:ct G) (hF:Fun P G fn args (hpL G L) (ak L) (.ret v [])) (hv:bz v=true) (fM:GOK G W) (hL:LOk L 200) (zV:∀ p∈L,p.2.fx)
  (hr:∀ p∈L,W.heap[r p.1]? = some p.2.obj0) (df:∀ p∈L,∀ g c,G g=some c->r p.1≠g) (gu:∀ p∈L,∀ q∈L,r p.1=r q.1->p.1=q.1) (ba:∀ q,q<100->r q=q) :
  jD P fn (args.map (ren r)) W λe W'=>e=.returned v/\Below W.heap.size W W':=by
 have er:rst (hpL G L) (ak L)=hpL G L:=LOk.rst cK
 have TT:∀ (b:Blk),b.fx->∀ r,b.obj r=b.obj0:=λb hb r=>by
  obtain ⟨c,T⟩:=b
  cases T with
  | ty t=>exact Blk.obj_flat hb
  | raw t fr=>rfl
  | mp=>exact hb.elim
 have Bb:∀ q c,hpL G L q=some c->(q,c)∈L\/(q<100/\G q=some c):=λq c hq=>by
  rcases cB hq with h|h
  ·exact .inl h
  ·exact .inr ⟨(cK q c h).1,h⟩
 have eE:=hF.run r W fM ?_ ?_ ?_
 ·exact FM
 ·rw [er];intro q c hq;rcases Bb q c hq with h|⟨cA,hG⟩
  ·exact ⟨by rw [TT c (zV _ h)];exact hr _ h,Blk.fx_ids (zV _ h) _⟩
  ·refine ⟨?_,Blk.flat_ids (cK q c hG).2⟩;rw [ba q cA,fM q c hG];exact Ec
 ·rw [er];intro q q' hq y8 e;unfold dom at hq y8
  cases h1:hpL G L q with
  | none=>exact absurd h1 hq
  | some c =>
   cases h2:hpL G L q' with
   | none=>exact absurd h2 y8
   | some c' =>
    rcases Bb q c h1 with h|⟨cA,hG⟩<;>rcases Bb q' c' h2 with h'|⟨agN,hG'⟩
    ·exact gu _ h _ h' e
    ·rw [ba q' agN] at e;exact absurd e (df _ h _ _ hG')
    ·rw [ba q cA] at e;exact absurd e.symm (df _ h' _ _ hG)
    ·rw [ba q cA,ba q' agN] at e;exact e
 ·intro q hq _;exact ba q hq
def nmL (k k2 q:Nat):Nat:=if q=100 then k else if q=108 then k2 else q
theorem Sd (k k2 q:Nat) (h:q<100):nmL k k2 q=q:=by
 unfold nmL;exact fG
@[simp] theorem atZ (k k2:Nat):nmL k k2 100=k:=by simp [nmL]
@[simp] theorem at2 (k k2:Nat):nmL k k2 108=k2:=by simp [nmL]
theorem abw {P:Program} {G:Hp} {fn:FuncId} {args:Nat->Array Value} {b b2:Blk} {v:Value} {W:World} {k k2:Nat} (cK:ct G) (hF:∀ L ks,LTwo G L ks b b2->Fun P G fn (args ks) (hpL G L) (ak L) (.ret v [])) (hv:bz v=true) (fM:GOK G W)
  (h1:b.fx) (h2:b2.fx) (w1:W.heap[k]? = some b.obj0) (w2:W.heap[k2]? = some b2.obj0) (r1:∃ c T fr,b=⟨c,.raw T fr⟩) (r2:∃ c T fr,b2=⟨c,.raw T fr⟩) (n1:∀ g c,G g=some c->k≠g) (n2:∀ g c,G g=some c->k2≠g) {fL:bV}
  (ha:∀ ks,ks=100/\k=k2\/ks=108->(args ks).map (ren (nmL k k2))=fL):jD P fn fL W λe W'=>e=.returned v/\Below W.heap.size W W':=by
 by_cases e:k=k2
 ·subst e;obtain rfl:=Y7 w1 w2 r1 r2;have:=aeg (nmL k k) cK (hF _ _ (LTwo.one h1)) hv fM (LTwo.one (G:=G) h1).ok (LTwo.one (G:=G) h1).fx (by simp [w1]) (by simp;exact n1) zS (Sd k k);rwa [ha 100 (.inl ⟨rfl,rfl⟩)] at this
 ·have:=aeg (nmL k k2) cK (hF _ _ (LTwo.two h1 h2)) hv fM (LTwo.two (G:=G) h1 h2).ok (LTwo.two (G:=G) h1 h2).fx (by simp [w1,w2]) (by simp;exact ⟨n1,n2⟩) (by simp;exact ⟨λh=>e h,λh=>e h.symm⟩) (Sd k k2);rwa [ha 108 (.inr rfl)] at this
abbrev u5 := @Go.Proofs.Tryz.underlying24
abbrev qe := @Go.Proofs.Tryz.underlying22
theorem Pj:Tryz.prog.cellsOf 22=1:=ae
theorem Ph:Tryz.prog.cellsOf 24=6:=ae
theorem MA:Tryz.prog.cellTypes Tryz.prog.depth 24=some [22,3,3,3,3,3]:=ae
theorem Tl:Tryz.prog.bytesOf 3=8:=ae
theorem Nm (d c o n:Nat):liesAt Tryz.prog d 127 c o 3 n=false:=by
 cases d with
 | zero=>rfl
 | succ d =>
  unfold liesAt;rw [BZ ae ae,eI]
  rfl
theorem Qa (d c o n:Nat):liesAt Tryz.prog d 140 c o 3 n=false:=by
 cases d with
 | zero=>rfl
 | succ d =>
  unfold liesAt;rw [Iz ae ae,eI]
  rfl
theorem VK:∀ p∈G0L,∃ t,p.2.T=.ty t/\∀ d c o n,liesAt Tryz.prog d t c o 3 n=false:=by
 intro p hp;unfold G0L at hp;rcases al.1 hp with rfl|hp
 ·exact ⟨_,rfl,Qa⟩
 rcases al.1 hp with rfl|hp
 ·exact ⟨_,rfl,Nm⟩
 cases hp
structure CfAt (W:World) (k off n cap:Nat) (b:Blk) (f:aS):Prop where
 le:n<=cap
 heap:W.heap[k]? = some b.obj0
 fx:b.fx
 raw:∃ c T fr,b=⟨c,.raw T fr⟩
 rd:rdI b off cap f
 i6:∀ j,j<cap->i64 (f j)
 lies:∃ row c,W.shape? k=some (row,c)/\liesAt Tryz.prog Tryz.prog.depth row (c / Tryz.prog.cellsOf row) off 3 cap=true
theorem CfAt.mb {W:World} {k off n cap:Nat} {b:Blk} {f:aS} (h:CfAt W k off n cap b f) (hn:n<=17592186044416):MB b off n f:=⟨h.rd.le h.le,h.fx,λj hj=>h.i6 j (j8 hj h.le),hn⟩
theorem CfAt.ne {W:World} {k off n cap:Nat} {b:Blk} {f:aS} (h:CfAt W k off n cap b f) (hg:GOK G0 W):∀ g c,G0 g=some c->k≠g:=λg c hc e=>by
 have h1:=hg g c hc;obtain ⟨t,ht,zu⟩:=VK _ (KD hc);exact CY
section
variable {H:Type} {enc:TypeId×Value->H} {w:World} {held:Bool}
theorem LO {P:Program} {base:Nat} {spare:Nat->Bool} {t:TypeId} {f0 f1 f2 f3 f4 f5:Field} {fuel:Nat} {cs:List Value} {x:DataW H×List MemPlace} (ht:P.underlying t=some (.struct #[f0,f1,f2,f3,f4,f5])) (h:DataW.trod enc P w base spare held fuel t cs=some x) :
  ∃ y0 y1 y2 y3 y4 y5 n,x.1=.agg [y0.1,y1.1,y2.1,y3.1,y4.1,y5.1]/\DataW.trod enc P w base spare held n f0.type ((cs.drop f0.offset).take (P.cellsOf f0.type))=some y0/\DataW.trod enc P w base spare held n f1.type ((cs.drop f1.offset).take (P.cellsOf f1.type))=some y1 /\
   DataW.trod enc P w base spare held n f2.type ((cs.drop f2.offset).take (P.cellsOf f2.type))=some y2/\DataW.trod enc P w base spare held n f3.type ((cs.drop f3.offset).take (P.cellsOf f3.type))=some y3/\DataW.trod enc P w base spare held n f4.type ((cs.drop f4.offset).take (P.cellsOf f4.type))=some y4/\DataW.trod enc P w base spare held n f5.type ((cs.drop f5.offset).take (P.cellsOf f5.type))=some y5:=by
 obtain ⟨xs,n,_,hx,hl,hlen,hf⟩:=DataW.trod_struct ht h
 match xs,hlen with
 | [y0,y1,y2,y3,y4,y5],_=>exact ⟨y0,y1,y2,y3,y4,y5,n,by rw [hx];rfl,by simpa using hf 0 f0 rfl,by simpa using hf 1 f1 rfl,by simpa using hf 2 f2 rfl,by simpa using hf 3 f3 rfl,by simpa using hf 4 f4 rfl,by simpa using hf 5 f5 rfl⟩
theorem Kw {fuel:Nat} {cs:List Value} {x:DataW H×List MemPlace} (h:DataW.trod enc Tryz.prog w 0 (λ_=>true) held fuel 24 cs=some x) :
  ∃ y0 y1 y2 y3 y4 y5 n,x.1=.agg [y0.1,y1.1,y2.1,y3.1,y4.1,y5.1]/\DataW.trod enc Tryz.prog w 0 (λ_=>true) held n 22 ((cs.drop 0).take 1)=some y0/\DataW.trod enc Tryz.prog w 0 (λ_=>true) held n 3 ((cs.drop 1).take 1)=some y1/\DataW.trod enc Tryz.prog w 0 (λ_=>true) held n 3 ((cs.drop 2).take 1)=some y2 /\
   DataW.trod enc Tryz.prog w 0 (λ_=>true) held n 3 ((cs.drop 3).take 1)=some y3/\DataW.trod enc Tryz.prog w 0 (λ_=>true) held n 3 ((cs.drop 4).take 1)=some y4/\DataW.trod enc Tryz.prog w 0 (λ_=>true) held n 3 ((cs.drop 5).take 1)=some y5:=by
 obtain ⟨y0,y1,y2,y3,y4,y5,n,hx,f0,f1,f2,f3,f4,f5⟩:=LO u5 h;rw [Pj] at f0;rw [xZ] at f1 f2 f3 f4 f5;exact ⟨y0,y1,y2,y3,y4,y5,n,hx,f0,f1,f2,f3,f4,f5⟩
theorem Un {r:Reach} {b0:Nat} {v:Value} {d:DataW H} {p:List MemPlace} (hv:Value.okWide Tryz.prog w r b0 24 v) (h:DataW.Trod enc Tryz.prog w 0 (λ_=>true) held 24 v d p) :
  ∃ g bx tp nr md,i64 g/\i64 bx/\i64 tp/\i64 nr/\i64 md/\(v=cfV (.slice none 0 0) g bx tp nr md\/∃ (k off n cap:Nat) (b:Blk) (f:aS),v=cfV (.slice (some ⟨k,off,none⟩) n cap) g bx tp nr md/\CfAt w k off n cap b f):=by
 simp only [Value.okWide,u5] at hv;obtain ⟨cs,rfl,yg,ts,AG,_,jK⟩:=hv;rw [MA] at AG;simp only [bg] at AG;subst AG;obtain ⟨fuel,hf⟩:=h;obtain ⟨y0,y1,y2,y3,y4,y5,n,_,h0,h1,h2,h3,h4,h5⟩:=Kw hf;simp only [Value.cells] at h0 h1 h2 h3 h4 h5;obtain ⟨g,e1,_,w1⟩:=fW eI h1;obtain ⟨bx,e2,_,w2⟩:=fW eI h2;obtain ⟨tp,e3,_,w3⟩:=fW eI h3;obtain ⟨nr,e4,_,w4⟩:=fW eI h4;obtain ⟨md,e5,_,w5⟩:=fW eI h5;rw [Ph] at yg
 obtain ⟨c0,c1,c2,c3,c4,c5,rfl⟩:∃ c0 c1 c2 c3 c4 c5,cs=#[c0,c1,c2,c3,c4,c5]:=by
  obtain ⟨l⟩:=cs
  match l,yg with
  | [c0,c1,c2,c3,c4,c5],_=>exact ⟨c0,c1,c2,c3,c4,c5,rfl⟩
 simp at e1 e2 e3 e4 e5;subst e1 e2 e3 e4 e5;refine ⟨g,bx,tp,nr,md,jh w1,jh w2,jh w3,jh w4,jh w5,?_⟩;rcases open_ints qe eI xZ h0 with ⟨e0,_⟩|⟨a,len,cap,zs,e0,_,hle,_,hzl,_,hc,hw⟩
 ·simp at e0;subst e0;exact .inl rfl
 ·simp at e0;subst e0
  right
  rw [ai rfl] at hzl;obtain ⟨u,hu,fJ⟩:=jK 0 _ rfl;simp at hu;subst hu;simp only [Cell.okWide,Cell.ok,qe] at fJ;obtain ⟨_,_,_,hsp,row,cells,m7,HV⟩:=fJ;obtain ⟨k,off,sp⟩:=a;simp only at hsp m7 HV;subst hsp;have Bc:=m7;unfold World.shape? at Bc;split at Bc
  ·rename_i c T fr hh;simp only [bg,dM] at Bc;obtain ⟨rfl,rfl⟩:=Bc;refine ⟨k,off,len,cap,⟨c,.raw T fr⟩,λj=>zs.getD j 0,rfl,hle,hh,eG,⟨c,T,fr,rfl⟩,λj hj=>?_,λj hj=>?_,T,_,m7,HV⟩
   ·have h2:=hc j zO;rw [lG] at h2;simpa [World.cell?,hh] using h2
   ·have hjz:j<zs.length:=zO;exact jh (hw _ (by simp [List.getD,uD hjz]))
  ·cases Bc
theorem Rl {g bx tp nr md:Int} {a:Addr} {n cap:Nat} {d:DataW H} {p:List MemPlace} (h:DataW.Trod enc Tryz.prog w 0 (λ_=>true) held 24 (cfV (.slice (some a) n cap) g bx tp nr md) d p) (hw:∀ x∈d.weights Tryz.prog 24,x<=reachBytes):cap<=17592186044416:=by
 obtain ⟨fuel,hf⟩:=h;obtain ⟨y0,y1,y2,y3,y4,y5,m,hx,h0,_⟩:=Kw hf;simp only [cfV,Value.cells] at h0;rcases uJ qe h0 with ⟨e1,_⟩|⟨a',len,cW,m',n',D,Pl,e1,_,hlc,hcm,hm,hy1,_⟩
 ·simp at e1
 ·simp at e1;obtain ⟨rfl,rfl,rfl⟩:=e1;rw [ai rfl] at hm;subst hm;rw [show d=_ from hx,hy1] at hw
  have:=hw ((n+(m' - n))*8) (by
   simp only [DataW.weights,u5];simp [DataW.weightsEach,DataW.weights,qe,Tl])
  unfold reachBytes at this;omega
end
theorem It:Tryz.prog.cellsOf 196=2:=ae
theorem N4:Tryz.prog.cellsOf 197=12:=ae
section
variable {H:Type} {enc:TypeId×Value->H} {w:World}
theorem Y3 {base fuel:Nat} {spare:Nat->Bool} {held:Bool} {cs:List Value} {a b:Int} {p:List MemPlace} (h:DataW.trod enc Tryz.prog w base spare held fuel 196 cs=some (.agg [.lit (.int .i64 a),.lit (.int .i64 b)],p)):cs=[.int .i64 a,.int .i64 b]:=by
 cases fuel with
 | zero=>simp [DataW.trod] at h
 | succ fuel =>
  simp only [DataW.trod,Tryz.underlying196,It] at h;split at h
  ·rename_i hl;obtain ⟨xs,hm,hx⟩:=j5.1 h;have PY:=congrArg Prod.fst hx;simp only [DataW.agg.injEq] at PY
   match cs,hl with
   | [c0,c1],_ =>
    have h0:=qL hm 0 _ rfl;have h1:=qL hm 1 _ rfl;obtain ⟨y0,XK,hf0⟩:=h0;obtain ⟨y1,hy1,hf1⟩:=h1;obtain ⟨z0,hc0,rfl,_⟩:=fW eI hf0;obtain ⟨z1,hc1,rfl,_⟩:=fW eI hf1;have e0:(xs.map (·.1))[0]? = some (DataW.lit (.int .i64 z0):DataW H):=by simp [XK]
    have e1:(xs.map (·.1))[1]? = some (DataW.lit (.int .i64 z1):DataW H):=by simp [hy1]
    rw [PY] at e0 e1;simp at e0 e1;subst e0 e1;have q0:[c0]=[Value.int .i64 a]:=hc0;have q1:[c1]=[Value.int .i64 b]:=hc1;simp at q0 q1;rw [q0,q1]
  ·cases h
theorem Y2 {base fuel:Nat} {spare:Nat->Bool} {held:Bool} {cs:List Value} {p:List MemPlace} (h:DataW.trod enc Tryz.prog w base spare held fuel 197 cs=some (Proofs.YtekhnalfccakmaaGreatDoor.Rows.laid_gyre_pull_limits,p)):cs=lmB.c.toList:=by
 cases fuel with
 | zero=>simp [DataW.trod] at h
 | succ fuel =>
  simp only [DataW.trod,Tryz.underlying197,N4,It] at h;split at h
  ·rename_i hl;obtain ⟨xs,hm,hx⟩:=j5.1 h;have PY:=congrArg Prod.fst hx;simp only [Proofs.YtekhnalfccakmaaGreatDoor.Rows.laid_gyre_pull_limits,DataW.agg.injEq] at PY
   have key:∀ (i:Nat) (a b:Int),i<6->([DataW.agg [.lit (.int .i64 (-2097152)),.lit (.int .i64 2097152)],.agg [.lit (.int .i64 1),.lit (.int .i64 2097152)],.agg [.lit (.int .i64 1),.lit (.int .i64 1048576)],.agg [.lit (.int .i64 1),.lit (.int .i64 1024)],.agg [.lit (.int .i64 (-2097152)),.lit (.int .i64 2097152)],.agg [.lit (.int .i64 0),.lit (.int .i64 13194139533312)]]:List (DataW H))[i]? = some (.agg [.lit (.int .i64 a),.lit (.int .i64 b)]) ->
     (cs.drop (i*2)).take 2=[.int .i64 a,.int .i64 b]:=λi a b hi Xr=>by
    obtain ⟨y,hy,hf⟩:=qL hm i i (by simp [hi]);have e:(xs.map (·.1))[i]? = some y.1:=by simp [hy]
    rw [PY,Xr] at e;simp only [bg] at e;obtain ⟨y1,y2⟩:=y;simp only at e;subst e;exact Y3 hf
   have k0:=key 0 _ _ zO rfl;have k1:=key 1 _ _ zO rfl;have k2:=key 2 _ _ zO rfl;have k3:=key 3 _ _ zO rfl;have k4:=key 4 _ _ zO rfl;have k5:=key 5 _ _ zO rfl
   match cs,hl with
   | [c0,c1,c2,c3,c4,c5,c6,c7,c8,c9,c10,c11],_ =>
    simp at k0 k1 k2 k3 k4 k5;simp [lmB,k0,k1,k2,k3,k4,k5]
  ·cases h
end
theorem Y1 : Tryz.prog.globalNamed "gyre/pull.limits" = some 2 := ae
theorem Qt:(Tryz.prog.globals[2]?).map (·.type)=some 197:=ae
theorem UI:((begin Tryz.prog (λ_ _=>0) default).world.heap[2]?).bind Obj.row? = some (#[.int .i64 0,.int .i64 0,.int .i64 0,.int .i64 0,.int .i64 0,.int .i64 0,.int .i64 0,.int .i64 0,.int .i64 0,.int .i64 0,.int .i64 0,.int .i64 0],197):=ae
theorem Qu {W : World} {rest : List (String × DataW Unit)} (h : laidMet Tryz.prog (("gyre/pull.limits", Proofs.YtekhnalfccakmaaGreatDoor.Rows.laid_gyre_pull_limits) :: rest) W) : W.var? Tryz.prog "gyre/pull.limits" = some lmB.c := by
 obtain ⟨ps,⟨g',t',cs,fuel,p,q,OQ,ht',ag1,hd,_,_⟩,_⟩:=h;obtain rfl:=kj (Y1.symm.trans OQ);obtain rfl:=kj (Qt.symm.trans ht');rw [ag1];congr 1;apply jk;exact Y2 hd
theorem TH {W : World} (hS : W.ShapedOpen Tryz.prog) (h : laidMet Tryz.prog [("gyre/conf.names", Proofs.YtekhnalfccakmaaGreatDoor.Rows.laid_gyre_conf_names), ("gyre/quot.least", Proofs.YtekhnalfccakmaaGreatDoor.Rows.laid_gyre_quot_least), ("gyre/pull.limits", Proofs.YtekhnalfccakmaaGreatDoor.Rows.laid_gyre_pull_limits)] W) : GOK G1 W := λk b hk => by
 rcases cB hk with hm|hm
 ·simp at hm;obtain ⟨rfl,rfl⟩:=hm;exact vk Y1 (nQ ae) UI hS (Qu (laidMet.tail (laidMet.tail h)))
 ·have h9:=KD hm;simp [G0L] at h9;rcases h9 with ⟨rfl,rfl⟩|⟨rfl,rfl⟩
  ·exact vk Xj (nQ (by kernel_rfl)) TF hS (X4 (laidMet.tail h))
  ·exact vk Xk (nQ (by kernel_rfl)) TG hS (Yi h)
theorem QA {fits:TypeId->Bool} (h:fits 3=false) (d c o n:Nat):rowAt Tryz.prog fits d 3 c o n=false:=by
 cases d with
 | zero=>rfl
 | succ d=>simp [rowAt,h,eI]
theorem Oa {fits:TypeId->Bool} (h:fits 3=false) (h2:fits 196=false) (d c o n:Nat):rowAt Tryz.prog fits d 196 c o n=false:=by
 cases d with
 | zero=>rfl
 | succ d=>simp [rowAt,h2,Tryz.underlying196,QA h]
theorem LF {fits:TypeId->Bool} (h:fits 3=false) (h2:fits 196=false) (h3:fits 197=false) (d c o n:Nat):rowAt Tryz.prog fits d 197 c o n=false:=by
 cases d with
 | zero=>rfl
 | succ d=>simp [rowAt,h3,Tryz.underlying197,Oa h h2]
theorem Nl (d c o n:Nat):liesAt Tryz.prog d 197 c o 50 n=false:=by
 cases d with
 | zero=>rfl
 | succ d =>
  unfold liesAt;rw [LF ae ae ae,qz]
  rfl
theorem L9 {g:Nat} {c:Blk} (h:G1 g=some c):(g=2/\c=lmB)\/G0 g=some c:=by
 unfold G1 at h;rw [aW] at h;by_cases e:g=2
 ·rw [ai e] at h;exact .inl ⟨e,(kj h).symm⟩
 ·rw [ab e] at h;exact .inr h
theorem StAt.ne1 {W:World} {k off n cap:Nat} {b:Blk} {f:aS} (h:StAt W k off n cap b f) (hg:GOK G1 W):∀ g c,G1 g=some c->k≠g:=λg c hc e=>by
 rcases L9 hc with ⟨rfl,rfl⟩|h0
 ·have h1:=hg _ _ hc;obtain ⟨row,q,m7,hl⟩:=h.lies;rw [e] at m7;unfold World.shape? at m7;rw [h1] at m7;simp only [lmB,Blk.obj0,bg,dM] at m7;obtain ⟨rfl,rfl⟩:=m7;rw [Nl] at hl;cases hl
 ·exact h.ne (Gr W hg) g c h0 e
theorem CfAt.ne1 {W:World} {k off n cap:Nat} {b:Blk} {f:aS} (h:CfAt W k off n cap b f) (hg:GOK G1 W) (hk:¬k=2):∀ g c,G1 g=some c->k≠g:=λg c hc e=>by
 rcases L9 hc with ⟨rfl,rfl⟩|h0
 ·exact hk e
 ·exact h.ne (Gr W hg) g c h0 e
theorem CfAt.lim {W:World} {k off n cap:Nat} {b:Blk} {f:aS} (h:CfAt W k off n cap b f) (hg:GOK G1 W) (hk:k=2) (hn:n<=17592186044416):MB lmB off n f:=by
 have h1:=hg _ _ xU;have h2:=h.heap;rw [hk,h1] at h2
 have hc:b.c=lmB.c:=by
  obtain ⟨c,T,fr,rfl⟩:=h.raw;simp only [lmB,Blk.obj0,bg,qt] at h2;exact h2.1.symm
 have hm:=h.mb hn;exact ⟨λj hj=>by rw [<-hc];exact hm.rd j hj,pM,hm.i6,hm.nn⟩
theorem Xi {P:Program} {G:Hp} {fn:FuncId} {args:bV} {v:Value} {W:World} (cK:ct G) (hF:Fun P G fn args (hpL G []) (ak []) (.ret v [])) (hv:bz v=true) (fM:GOK G W) :
  jD P fn args W λe W'=>e=.returned v/\Below W.heap.size W W':=by
 have e:rst (hpL G []) (ak [])=hpL G []:=LOk.rst (m:=[]) cK;have hr:=hF.run (λk=>k) W fM;rw [e] at hr
 have h:=hr (λk b hk=>by
  rw [dm] at hk;refine ⟨?_,Blk.flat_ids (cK k b hk).2⟩;rw [fM k b hk];congr 1;obtain ⟨cc,T⟩:=b
  cases T with
  | ty t=>exact (Blk.obj_flat (cK k _ hk).2).symm
  | raw t fr=>rfl
  | mp=>exact (Blk.obj_flat (cK k _ hk).2).symm) (λk l _ _ e=>e) (λk _ _=>rfl)
 rw [show args.map (ren λk=>k)=args by rw [show (ren λk=>k)=id from funext λv=>zk v];simp] at h;refine h.mono λe' W' ⟨h1,h2⟩=>⟨?_,?_⟩
 ·rw [h1,zk]
 ·exact ⟨h2.os,h2.tape,h2.output,h2.size,λk hk=>h2.same k hk zS⟩
theorem JB:Tryz.prog.cellsOf 3=1:=ae
theorem Wx:Tryz.prog.cellsOf 5=1:=ae
theorem Wy:Tryz.prog.cellsOf 33=3:=ae
theorem KB {x:Int} (h:(Lit.int .u8 x).wf=true):0<=x/\x<256:=by
 have e1:IntKind.u8.min=0:=zD;have e2:IntKind.u8.max=255:=zD;simp only [Lit.wf,bO,fe,e1,e2] at h;omega
section
variable {H:Type} {enc:TypeId×Value->H} {w:World} {base:Nat} {spare:Nat->Bool} {held:Bool}
theorem acW {b0:Nat} {r:Reach} {v:Value} {d:DataW H} {p:List MemPlace} (hv:Value.okWide Tryz.prog w r b0 33 v) (h:DataW.Trod enc Tryz.prog w base spare held 33 v d p) :
  ∃ x y z,(Lit.int .u8 x).wf=true/\(Lit.int .i64 y).wf=true/\(Lit.int .i64 z).wf=true/\v=.agg #[.int .u8 x,.int .i64 y,.int .i64 z]/\d=.agg [.lit (.int .u8 x),.lit (.int .i64 y),.lit (.int .i64 z)]/\p=[]:=by
 simp only [Value.okWide,Tryz.underlying33] at hv;obtain ⟨cs,rfl,yg,_⟩:=hv;obtain ⟨fuel,hf⟩:=h;obtain ⟨y0,y1,y2,n,hx,hl,h0,h1,h2⟩:=Deep.trod_struct3 Tryz.underlying33 hf;rw [Wx] at h0;rw [JB] at h1;rw [JB] at h2;simp only [Value.cells] at h0 h1 h2;obtain ⟨x,e0,rfl,w0⟩:=fW Tryz.underlying5 h0;obtain ⟨y,e1,rfl,w1⟩:=fW eI h1;obtain ⟨z,e2,rfl,w2⟩:=fW eI h2;rw [Wy] at yg
 obtain ⟨c0,c1,c2,rfl⟩:∃ c0 c1 c2,cs=#[c0,c1,c2]:=by
  obtain ⟨l⟩:=cs
  match l,yg with
  | [c0,c1,c2],_=>exact ⟨c0,c1,c2,rfl⟩
 simp at e0 e1 e2;subst e0;subst e1;subst e2;simp only [dM] at hx;exact ⟨x,y,z,w0,w1,w2,rfl,hx.1,by simpa using hx.2⟩
end
end Go.Gy
