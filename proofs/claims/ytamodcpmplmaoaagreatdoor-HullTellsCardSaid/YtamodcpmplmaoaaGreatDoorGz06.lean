/-
  Lemmas of this claim, in their order (GyPA, GyEK).
  Conditions: those of each theorem.
-/
import Derived.Test.YtamodcpmplmaoaaGreatDoorGz05
set_option linter.unusedSimpArgs false
set_option linter.unusedVariables false
set_option maxRecDepth 8000
set_option maxHeartbeats 4000000
namespace Go.Gy
open Go Go.RowKit Go.Proofs Go.Proofs.Tryz
theorem zbu {n:Nat} {f:Nat->Int} {g bx tp nr md:Int} (h:zdr n f g bx tp nr md=true) {i:Nat} (hi:i<n):1<=f i/\f i<=1024:=by
 unfold zdr at h
 simp only [Bool.and_eq_true] at h
 have h2:=h.2.1
 unfold zp8 at h2
 rw [List.all_eq_true] at h2
 have:=h2 i (by simpa using hi)
 unfold wiB at this
 simpa using this
theorem zom {n:Nat} {f:Nat->Int} {g bx tp nr md:Int} (h:zdr n f g bx tp nr md=true):1<=g/\g<=1048576:=by
 unfold zdr at h
 simp only [Bool.and_eq_true] at h
 have:=h.2.2.1
 unfold wiB at this
 simpa using this
theorem zdk {n n2:Nat} {okc rt:Bool}:zqa n n2 okc rt=true↔n=n2/\okc=true/\rt=true:=by
 unfold zqa
 simp
theorem zpv {a m:Int} (h:inW m a):0<=a*a/\a*a<=m*m:=by
 obtain ⟨h0,h1,h2⟩:=h
 by_cases c:0<=a
 ·exact ⟨Int.mul_nonneg c c,Int.mul_le_mul h2 h2 c h0⟩
 ·rw [<-Int.neg_mul_neg]
  exact ⟨Int.mul_nonneg (by omega) (by omega),Int.mul_le_mul (by omega) (by omega) (by omega) h0⟩
theorem zew {b:Blk} {off n:Nat} {f:Nat->Int} (h:SB b off n f) (i:Nat) (hi:i<n) (o:Nat) (e:o=off+i*6):zc6 prog 72 b o=some (.agg #[.int .i64 (f (6*i)),.int .i64 (f (6*i+1)),.int .i64 (f (6*i+2)),.int .i64 (f (6*i+3)),.int .i64 (f (6*i+4)),.int .i64 (f (6*i+5))]):=by rw [e];exact h.body hi
theorem zex {b:Blk} {off n:Nat} {f:Nat->Int} (h:MB b off n f) (i:Nat) (hi:i<n) (o:Nat) (e:o=off+i):zc6 prog 3 b o=some (.int .i64 (f i)):=by rw [e];exact h.at hi
def ezB (cq:Array Value):Blk:=⟨cq,.raw 24 (0,0)⟩
theorem z6p {cq:Array Value} {ρ:Nat->Nat}:(ezB cq).rn ρ=ezB cq:=rfl
theorem zm3 {cq:Array Value} {D:Nat->Prop}:(ezB cq).ids D:=trivial
theorem z9f {cq:Array Value} {g:Int} (h1:cq[1]? = some (.int .i64 g)):zc6 prog 3 ⟨cq,.raw 24 (0,0)⟩ 1=some (.int .i64 g):=by
 unfold zc6
 simp [h1,za0,zbf,zhd]
theorem eIn {asd:List Nat} {f g:Hp} {k:Nat} (h:k∈asd):zb3 asd f g k=f k:=if_pos h
theorem eNi {asd:List Nat} {f g:Hp} {k:Nat} (h:k∉asd):zb3 asd f g k=g k:=if_neg h
theorem je7 {G:Hp}:∀ {L:List (Nat×Blk)} {k:Nat},k∉zaa L->hpL G L k=G k
 | [],_,_=>rfl
 | (q,c)::L,k,h=>by
  simp only [zaa,List.map_cons,List.mem_cons,not_or] at h
  rw [zaq,if_neg h.1]
  exact je7 h.2
def d2F (f:Nat->Int) (i k:Nat):Int:=(f (6*i) - f (6*k))*(f (6*i) - f (6*k))+(f (6*i+1) - f (6*k+1))*(f (6*i+1) - f (6*k+1))+(f (6*i+2) - f (6*k+2))*(f (6*i+2) - f (6*k+2))
theorem zxy {a0 a1 a2 b0 b1 b2:Int} (h:inW 1048576 a0/\inW 1048576 a1/\inW 1048576 a2) (k:inW 1048576 b0/\inW 1048576 b1/\inW 1048576 b2):f2V a0 a1 a2 b0 b1 b2=(a0 - b0)*(a0 - b0)+(a1 - b1)*(a1 - b1)+(a2 - b2)*(a2 - b2):=by
 have e:f2E a0 a1 a2 b0 b1 b2=0:=by
  unfold f2E eaE zgq fnI
  unfold inW at h k
  rw [if_pos (by omega)]
 unfold f2V
 rw [if_pos e]
def zfi (fm fs:Nat->Int) (i:Nat):Int:=fm i*dtV (fs (6*i+3)) (fs (6*i+4)) (fs (6*i+5)) (fs (6*i+3)) (fs (6*i+4)) (fs (6*i+5))
def z3x (fm fs:Nat->Int) (n:Nat):Int:=zbv (zfi fm fs) n*524288
def jda (n n2:Nat) (okc rt:Bool):Int:=if zqa n n2 okc rt=true then 0 else 2
def jdb (n n2:Nat) (okc rt:Bool) (fm fs:Nat->Int):Int:=if zqa n n2 okc rt=true then z3x fm fs n2 else 0
theorem z6l {a b c:Int} (h0:inW 65536 a) (h1:inW 65536 b) (h2:inW 65536 c):dtV a b c a b c=a*a+b*b+c*c/\0<=dtV a b c a b c/\dtV a b c a b c<=12884901888:=by
 have e:dtV a b c a b c=a*a+b*b+c*c:=by
  unfold dtV
  rw [if_pos]
  unfold inW at h0 h1 h2
  unfold fnI
  omega
 have s0:=zpv h0
 have s1:=zpv h1
 have s2:=zpv h2
 rw [e]
 refine ⟨rfl,by omega,by omega⟩
theorem zkj {n:Nat} {fm fs:Nat->Int} {st g bx tp nr md:Int} (hc:zdr n fm g bx tp nr md=true) (hr:zbl st fs n=true) {i:Nat} (hi:i<n):0<=zfi fm fs i/\zfi fm fs i<=13194139533312:=by
 have h1:=zbu hc hi
 obtain ⟨_,h2,h3,h4⟩:=zem hr hi
 obtain ⟨_,d0,d1⟩:=z6l h2 h3 h4
 unfold zfi
 exact ⟨Int.mul_nonneg (by omega) d0,Int.mul_le_mul h1.2 d1 d0 (by omega)⟩
def jqy (nk i:Nat) (x:Nat->Int) (sl:Value) (ns:List (Nat×Blk)):Prop:=(i=0/\sl=.slice none 0 0/\ns=[])\/∃ (c:Nat) (g:Nat->Int),0<i/\i<=c/\(∀ j,j<4*i->g j=wF x j)/\sl=.slice (some ⟨nk,0,none⟩) i c/\ns=[(nk,zc2 c g)]
def zhe (ks off n cap off2 n2 cap2:Nat) (g bx tp nr md st:Int):List (Nat×Blk):=[(200,cfB (.slice (some ⟨100,off,none⟩) n cap) g bx tp nr md),(208,zc0 st ks off2 n2 cap2),(216,wb 0)]
def z66 (L:List (Nat×Blk)) (ks off n cap off2 n2 cap2:Nat) (g bx tp nr md st:Int) (i:Nat) (sl:Value) (ns:List (Nat×Blk)):GS :=
 ⟨tsL [(2,.pointer (some ⟨200,0,none⟩)),(3,.pointer (some ⟨208,0,none⟩)),(4,.pointer (some ⟨216,0,none⟩)),(5,.int .i64 0),(6,sl),(19,.slice (some ⟨ks,off2,none⟩) n2 cap2),(20,.int .i64 n2),(21,.int .i64 i)],
 hpL G0 ((zhe ks off n cap off2 n2 cap2 g bx tp nr md st++ns)++L),300,0⟩
def kiI (L:List (Nat×Blk)) (ks off n cap off2 n2 cap2:Nat) (g bx tp nr md st:Int) (x:Nat->Int) (m:Nat) (s:GS):Prop:=∃ i sl ns,i+m=n2/\jqy 224 i x sl ns/\s=z66 L ks off n cap off2 n2 cap2 g bx tp nr md st i sl ns
theorem jfa (L:List (Nat×Blk)) (ks:Nat) (bm bs:Blk) (hT:LTwo G0 L ks bm bs) (off n cap off2 n2 cap2:Nat) (fm fs:Nat->Int) (hm:MB bm off n fm) (hSb:SB bs off2 n2 fs) (hcap:n<=cap) (hcap2:n2<=cap2) (g bx tp nr md st:Int) (hs:i64 st) :
  Fun prog G0 67 #[cfV (.slice (some ⟨100,off,none⟩) n cap) g bx tp nr md,.agg #[.int .i64 st,.slice (some ⟨ks,off2,none⟩) n2 cap2]] (hpL G0 L) (zaa L) (.ret (.tuple #[wd (jdb n n2 (zdr n fm g bx tp nr md) (zbl st fs n2) fm fs),.int .i64 (jda n n2 (zdr n fm g bx tp nr md) (zbl st fs n2))]) []):=by
 refine zar (B:=200) G0F func67 rfl call67 hT.ok ?_ (zai (by simp)) (by simp) (by simp) (by simp [ntmps67]) (by omega) ?_
 ·simp [zap,zax,zah,zaj,hT.ia,hT.ib,cfV]
 intro C hC hC0 hY
 have hA:=hT.a
 have hS:=hT.s
 have hne:=hT.ne
 have hLow:=hT.low
 have hks:=hT.k1
 have hks2:=hT.k2
 have hrm:=λρ=>Blk.fx_rn hm.fx ρ
 have hrs:=λρ=>Blk.fx_rn hSb.fx ρ
 have hfit:=zki L ks bm bs hT off n cap off2 n2 cap2 fm fs hm hSb g bx tp nr md st hs
 unfold jdb jda
 cases hf:zqa n n2 (zdr n fm g bx tp nr md) (zbl st fs n2) with
 | false =>
  rw [hf] at hfit
  unfold cfV at hfit |-
  repeat' first|refine gwZ ?_|((first|refine gwR [94] ?_|refine gwD [94] ?_);intro Q hQ _;(repeat first|simp [hC,hY,hA,hS,hne,zaf]|refine za7 hfit hT.ok zdd ?_);refine gwq hQ ?_)|fail
  refine ⟨.inr rfl,by simp [results67,zaf],kpT G0F⟩
 | true =>
  rw [hf] at hfit
  obtain ⟨hnn,hok,hrt⟩:=zdk.1 hf
  subst hnn
  have hn4:=(zez hrt).2.1
  unfold cfV at hfit |-
  repeat' first|refine gwZ ?_|((first|refine gwR [94] ?_|refine gwD [94] ?_);intro Q hQ _;(repeat first|simp [hC,hY,hA,hS,hne,zaf]|refine za7 hfit hT.ok zdd ?_);refine gwq hQ ?_)|fail
  refine zjj (kiI L ks off n cap off2 n cap2 g bx tp nr md st (zfi fm fs)) (m0:=n) (s0:=z66 L ks off n cap off2 n cap2 g bx tp nr md st 0 (.slice none 0 0) []) ?_ ⟨0,_,_,by omega,.inl ⟨rfl,rfl,rfl⟩,rfl⟩ ?_
  ·refine zg6 _ 300 hC G0F hT.ok hT.fx hC0 (by omega) ?_ ?_ zdd
   ·simp [zhe,zap,zax,zah,zaj,dom,hA,hS,hne]
   ·simp [zhe,cfB,zc0,wb,zad,zah,zaj,dom,hA,hS,hne,zaf]
  rintro m _ ⟨i,sl,ns,him,hV,rfl⟩
  by_cases hm0:m=0
  ·obtain rfl:i=n:=by omega
   rcases hV with ⟨h0,_,_⟩|⟨c,gg,hi0,hic,hg,rfl,rfl⟩
   ·exact absurd h0 (by omega)
   have hgi:=λD=>Blk.fx_ids (zba c gg) D
   have hgr:=λρ=>Blk.fx_rn (zba c gg) ρ
   have hsum:=z5k c i gg (zfi fm fs) hic (by omega) hg λj hj=>by have:=zkj hok hrt hj;omega
   have hb:=ziz (f:=zfi fm fs) (n:=i) (lo:=0) (hi:=13194139533312) λj hj=>zkj hok hrt hj
   have hb1:zbv (zfi fm fs) i<=4*13194139533312:=Int.le_trans hb.2 (Int.mul_le_mul_of_nonneg_right (by omega) (by omega))
   have hb0:0<=zbv (zfi fm fs) i:=by omega
   have w1:=zct (zk4 hb0 (by omega))
   have w2:sz 524288=524288:=by decide
   have i2:i64 524288:=by decide
   have ek:z3x fm fs i=zbv (zfi fm fs) i*524288:=rfl
   unfold zc2 at hgi hgr hsum
   unfold z66 zhe cfB zc0 wb zc2
   repeat' first|refine gwZ ?_|((first|refine gwR [100] ?_|refine gwD [100] ?_);intro Q hQ _;(repeat first|simp [hC,hY,hA,hS,hne,w1,w2,i2,zaf]|refine zae hsum G0F (B:=200) (zk1 c gg) (λk=>if k=100 then 224 else k) (λk hk=>if_neg (by omega)) (by simp [ren,zay,zak,zan]) (by simp) (by simp [hgr]) (by simp [zaa]) (by simp [zaa];rfl) ?_);refine gwq hQ ?_)|fail
   refine ⟨.inr rfl,by simp [results67,ek],kpT G0F⟩
  ·have hin:i<n:=by omega
   have hi':(i:Int)<n:=by omega
   have hz:(0:Int)<=i:=by omega
   have hs':Int.bmod ((i:Int)+1) 18446744073709551616=((i+1:Nat):Int):=by rw [Go.Gy.bm (by omega) (by omega)];rfl
   have hl:=hSb.body hin
   have hml:=hm.at hin
   have hkb:=zkj hok hrt hin
   have hkx:zfi fm fs i=fm i*dtV (fs (6*i+3)) (fs (6*i+4)) (fs (6*i+5)) (fs (6*i+3)) (fs (6*i+4)) (fs (6*i+5)):=rfl
   have hkb1:Int.bmod (fm i*dtV (fs (6*i+3)) (fs (6*i+4)) (fs (6*i+5)) (fs (6*i+3)) (fs (6*i+4)) (fs (6*i+5))) 18446744073709551616=zfi fm fs i:=by rw [<-hkx];exact Go.Gy.bm (by omega) (by omega)
   have hki:i64 (zfi fm fs i):=⟨by omega,by omega⟩
   rcases hV with ⟨rfl,rfl,rfl⟩|⟨c,gg,hi0,hic,hg,rfl,rfl⟩
   ·simp only [Nat.mul_zero,Nat.zero_mul,Nat.add_zero,Nat.zero_add] at hl hml hkb1
    unfold z66 zhe cfB zc0 wb
    repeat' first|refine gwZ ?_|(refine gwX ?_;intro Q hQ _;simp [hC,hY,hA,hS,hne,hin,hi',hz,hs',hl,hml,zaf];refine gwq hQ ?_)|fail
    refine zc3 ?_
    simp only [Array.toList]
    refine gwl 10 ?_;intro Q hQ;simp [hC,hY,hA,hS,hne,hin,hi',hz,hs',hl,hml,hkb1,hki,zaf];apply hQ
    simp only [wT,wM,Nat.reduceAdd]
    refine zfe .u64 (m:=4) (i:=0) (j:=508) (by':=32) (z:=.agg #[.int .u64 0,.int .u64 0,.int .u64 0,.int .u64 0]) (T2:=.ty 30) (G:=wF (zfi fm fs)) (ev:=λu=>wi (zfi fm fs 0) u) rfl (by simp) rfl underlying118 (zam sizeOf30) (by kernel_rfl) (by kernel_rfl) (by omega) (by simp [Value.cells]) (by simp [Value.cells]) (by omega) (by omega) (.inl ⟨rfl,by simp⟩) (by simp) (by simp [zgh]) (λu hu=>?_) (by omega) ?_
    ·unfold wF
     rw [show (4*0+u) / 4=0 by omega,show (4*0+u)%4=u by omega]
    ·rintro k' c' g' hk' hk100 hc' hg'
     obtain rfl:k'=516:=by
      rcases hk' with hk'|⟨c,hk'⟩
      ·exact hk'
      ·simp at hk'
     refine gwl 1 ?_;intro Q hQ;simp [hC,hY,zcx];apply hQ
     simp only [wT,wM,Nat.reduceAdd]
     refine zdc ?_
     repeat' first|refine gwZ ?_|(refine gwX ?_;intro Q hQ _;simp [hC,hY,hs'];refine gwq hQ ?_)|fail
     refine ⟨λk=>if k=224 then 516 else k,z66 L ks off n cap off2 n cap2 g bx tp nr md st (0+1) (.slice (some ⟨224,0,none⟩) (0+1) c') [(224,zc2 c' g')],n - (0+1),?_,⟨0+1,_,_,by omega,.inr ⟨c',g',by omega,hc',hg',rfl,rfl⟩,rfl⟩,by omega⟩
     have hfi:=λD=>Blk.fx_ids (zba c' g') D
     have hfm:=λρ=>zeb (show Blk.fx ⟨fa (4*c') .u64 g',.ty 30⟩ from zba c' g') ρ
     unfold zc2 at hfi
     refine ze1 (s:=GS.mk _ _ _ 0) _ _ 300 hC G0F hT.ok hT.fx hC0 (by omega) ?_ ?_ ?_ ?_ zdd
     ·simp [zhe,zc2,dom,zcm,ren,zay,zak,zan,zap,zax,zah,zaj,hs',hA,hS,hne]
     ·simp [zhe,zc2,cfB,zc0,wb,Blk.rn,zak,zan,zad,zah,zaj,dom,hfi,hfm,hA,hS,hne,zaf]
     ·simp [zhe]
     ·intro k hk;simp<;>omega
   ·have hgi:=λD=>Blk.fx_ids (zba c gg) D
    unfold zc2 at hgi
    unfold z66 zhe cfB zc0 wb zc2
    repeat' first|refine gwZ ?_|(refine gwX ?_;intro Q hQ _;simp [hC,hY,hA,hS,hne,hin,hi',hz,hs',hl,hml,zaf];refine gwq hQ ?_)|fail
    refine zc3 ?_
    simp only [Array.toList]
    refine gwl 10 ?_;intro Q hQ;simp [hC,hY,hA,hS,hne,hin,hi',hz,hs',hl,hml,hkb1,hki,zaf];apply hQ
    simp only [wT,wM,Nat.reduceAdd]
    refine zfe .u64 (m:=4) (i:=i) (j:=508) (by':=32) (z:=.agg #[.int .u64 0,.int .u64 0,.int .u64 0,.int .u64 0]) (T2:=.ty 30) (G:=wF (zfi fm fs)) (ev:=λu=>wi (zfi fm fs i) u) rfl (by simp) rfl underlying118 (zam sizeOf30) (by kernel_rfl) (by kernel_rfl) (by omega) (by simp [Value.cells]) (by simp [Value.cells]) (by omega) (by omega) (.inr ⟨224,c,gg,by omega,by simp,by simp,hic,hg⟩) (by simp) (by simp [zgh]) (λu hu=>?_) (by omega) ?_
    ·unfold wF
     rw [show (4*i+u) / 4=i by omega,show (4*i+u)%4=u by omega]
    ·rintro k' c' g' hk' hk100 hc' hg'
     have hk':k'=516\/k'=224:=by
      rcases hk' with hk'|⟨c,hk'⟩
      ·exact .inl hk'
      ·simp at hk';exact .inr hk'.1.symm
     rcases hk' with rfl|rfl
     ·
      refine gwl 1 ?_;intro Q hQ;simp [hC,hY,zcx];apply hQ
      simp only [wT,wM,Nat.reduceAdd]
      refine zdc ?_
      repeat' first|refine gwZ ?_|(refine gwX ?_;intro Q hQ _;simp [hC,hY,hs'];refine gwq hQ ?_)|fail
      refine ⟨λk=>if k=224 then 516 else k,z66 L ks off n cap off2 n cap2 g bx tp nr md st (i+1) (.slice (some ⟨224,0,none⟩) (i+1) c') [(224,zc2 c' g')],n - (i+1),?_,⟨i+1,_,_,by omega,.inr ⟨c',g',by omega,hc',hg',rfl,rfl⟩,rfl⟩,by omega⟩
      have hfi:=λD=>Blk.fx_ids (zba c' g') D
      have hfm:=λρ=>zeb (show Blk.fx ⟨fa (4*c') .u64 g',.ty 30⟩ from zba c' g') ρ
      unfold zc2 at hfi
      refine ze1 (s:=GS.mk _ _ _ 0) _ _ 300 hC G0F hT.ok hT.fx hC0 (by omega) ?_ ?_ ?_ ?_ zdd
      ·simp [zhe,zc2,dom,zcm,ren,zay,zak,zan,zap,zax,zah,zaj,hs',hA,hS,hne]
      ·simp [zhe,zc2,cfB,zc0,wb,Blk.rn,zak,zan,zad,zah,zaj,dom,hfi,hfm,hA,hS,hne,zaf]
      ·simp [zhe]
      ·intro k hk;simp<;>omega
     ·
      refine gwl 1 ?_;intro Q hQ;simp [hC,hY,zcx];apply hQ
      simp only [wT,wM,Nat.reduceAdd]
      refine zdc ?_
      repeat' first|refine gwZ ?_|(refine gwX ?_;intro Q hQ _;simp [hC,hY,hs'];refine gwq hQ ?_)|fail
      refine ⟨λk=>k,z66 L ks off n cap off2 n cap2 g bx tp nr md st (i+1) (.slice (some ⟨224,0,none⟩) (i+1) c') [(224,zc2 c' g')],n - (i+1),?_,⟨i+1,_,_,by omega,.inr ⟨c',g',by omega,hc',hg',rfl,rfl⟩,rfl⟩,by omega⟩
      have hfi:=λD=>Blk.fx_ids (zba c' g') D
      have hfm:=λρ=>zeb (show Blk.fx ⟨fa (4*c') .u64 g',.ty 30⟩ from zba c' g') ρ
      unfold zc2 at hfi
      refine ze1 (s:=GS.mk _ _ _ 0) _ _ 300 hC G0F hT.ok hT.fx hC0 (by omega) ?_ ?_ ?_ ?_ zdd
      ·simp [zhe,zc2,dom,zcm,ren,zay,zak,zan,zap,zax,zah,zaj,hs',hA,hS,hne]
      ·simp [zhe,zc2,cfB,zc0,wb,Blk.rn,zak,zan,zad,zah,zaj,dom,hfi,hfm,hA,hS,hne,zaf]
      ·simp [zhe]
      ·intro k hk;simp<;>omega
end Go.Gy
