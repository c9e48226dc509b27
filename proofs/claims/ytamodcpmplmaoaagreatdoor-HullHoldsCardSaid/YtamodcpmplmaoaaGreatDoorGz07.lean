/-
  Lemmas of this claim, in their order (GyPC, GyEA, GyEB, GyEC, GyEU, GyEV, GyFD, GyFG, GyW1, GyU1, GyPU, GyJP, GyJQ, GyPD, GyFC, GyFE, GyRD, GyRE, GyRG, GyFJ, GyPB, GyFK, GyFN, GyFA, GyFO, GyFM, GyFP, GyJR).
  Conditions: those of each theorem.
-/
import Derived.Test.YtamodcpmplmaoaaGreatDoorGz06
set_option linter.unusedSimpArgs false
set_option linter.unusedVariables false
set_option maxRecDepth 8000
set_option maxHeartbeats 4000000
namespace Go.Gy
open Go Go.RowKit Go.Proofs Go.Proofs.Tryz
theorem zck {f:FuncId} {c:Array Value} {T:TypeId} {n nk b:Nat} {x:Int} {v:Value} {hp:Hp} {K:Eff->Prop} (h:Fun prog G0 f #[.int .i64 x,.slice (some ⟨100,0,none⟩) n n] (hpL G0 [(100,⟨c,.ty T⟩)]) [100] (.ret v [])) (hc:∀ x∈c,za9 x=true) (hv:zau v=true) (hb:100<=b)
  (h1:hp b=some ⟨c,.ty T⟩) (hK:K ((Res.ret v []).eff [b])):zhz prog G0 f #[.int .i64 x,.slice (some ⟨b,0,none⟩) n n] hp nk K :=
 zae h G0F (B:=200) ⟨by simp,by simp [zab],λp hp1=>by simp at hp1;subst hp1;exact λx hx=>zd5 (hc x hx)⟩ (λk=>if k=100 then b else k) (λk hk=>if_neg (by omega)) (by simp [ren,zay,zaj,zam]) hv
  (by simp [hb,h1,Blk.rn];exact (zbm (λx hx=>zcd (hc x hx))).symm) (by simp [zab]) (by simp [zab]) hK
theorem zzs (most n0:Int):Fun prog G0 121 #[.int .i64 most,.slice (some ⟨100,0,none⟩) 1 1] (hpL G0 [(100,⟨#[.int .i64 n0],.ty 3⟩)]) (zab [(100,(⟨#[.int .i64 n0],.ty 3⟩:Blk))]) (.ret (.bool (decide ((1<=n0/\n0<=most)))) []):=by
 refine zaz (B:=200) G0F func121 rfl call121 ⟨by simp,by simp [zab],by simp [zac,zah,zal]⟩ ?_ (by simp) (by simp) (by simp) (by simp [ntmps121]) (by omega) ?_
 ·simp [zan,za0,zah,zal,zab]
 intro C hC hC0 hY
 by_cases a00:1<=n0
 rotate_left
 ·have a00n:n0<1:=by omega
  have hd:decide ((1<=n0/\n0<=most))=false:=decide_eq_false (by omega)
  rw [hd]
  repeat' first|refine zat ?_|refine zaw ?_|refine gwZ ?_|(refine gwX ?_;intro Q hQ _;simp [hC,hY,a00,a00n];refine gwq hQ ?_)|refine gwC ?_ ?_<;>intro hb
  refine ⟨.inr rfl,by simp [results121],kpS G0F⟩
 have a00n:¬n0<1:=by omega
 by_cases a01:n0<=most
 rotate_left
 ·have a01n:most<n0:=by omega
  have hd:decide ((1<=n0/\n0<=most))=false:=decide_eq_false (by omega)
  rw [hd]
  repeat' first|refine zat ?_|refine zaw ?_|refine gwZ ?_|(refine gwX ?_;intro Q hQ _;simp [hC,hY,a00,a00n,a01,a01n];refine gwq hQ ?_)|refine gwC ?_ ?_<;>intro hb
  refine ⟨.inr rfl,by simp [results121],kpS G0F⟩
 have a01n:¬most<n0:=by omega
 have hd:decide ((1<=n0/\n0<=most))=true:=decide_eq_true (by omega)
 rw [hd]
 repeat' first|refine zat ?_|refine zaw ?_|refine gwZ ?_|(refine gwX ?_;intro Q hQ _;simp [hC,hY,a00,a00n,a01,a01n];refine gwq hQ ?_)|refine gwC ?_ ?_<;>intro hb
 refine ⟨.inr rfl,by simp [results121],kpS G0F⟩
theorem zzt (most n0 n1:Int):Fun prog G0 121 #[.int .i64 most,.slice (some ⟨100,0,none⟩) 2 2] (hpL G0 [(100,⟨#[.int .i64 n0,.int .i64 n1],.ty 3⟩)]) (zab [(100,(⟨#[.int .i64 n0,.int .i64 n1],.ty 3⟩:Blk))]) (.ret (.bool (decide ((1<=n0/\n0<=most)/\(1<=n1/\n1<=most)))) []):=by
 refine zaz (B:=200) G0F func121 rfl call121 ⟨by simp,by simp [zab],by simp [zac,zah,zal]⟩ ?_ (by simp) (by simp) (by simp) (by simp [ntmps121]) (by omega) ?_
 ·simp [zan,za0,zah,zal,zab]
 intro C hC hC0 hY
 by_cases a00:1<=n0
 rotate_left
 ·have a00n:n0<1:=by omega
  have hd:decide ((1<=n0/\n0<=most)/\(1<=n1/\n1<=most))=false:=decide_eq_false (by omega)
  rw [hd]
  repeat' first|refine zat ?_|refine zaw ?_|refine gwZ ?_|(refine gwX ?_;intro Q hQ _;simp [hC,hY,a00,a00n];refine gwq hQ ?_)|refine gwC ?_ ?_<;>intro hb
  refine ⟨.inr rfl,by simp [results121],kpS G0F⟩
 have a00n:¬n0<1:=by omega
 by_cases a01:n0<=most
 rotate_left
 ·have a01n:most<n0:=by omega
  have hd:decide ((1<=n0/\n0<=most)/\(1<=n1/\n1<=most))=false:=decide_eq_false (by omega)
  rw [hd]
  repeat' first|refine zat ?_|refine zaw ?_|refine gwZ ?_|(refine gwX ?_;intro Q hQ _;simp [hC,hY,a00,a00n,a01,a01n];refine gwq hQ ?_)|refine gwC ?_ ?_<;>intro hb
  refine ⟨.inr rfl,by simp [results121],kpS G0F⟩
 have a01n:¬most<n0:=by omega
 by_cases a10:1<=n1
 rotate_left
 ·have a10n:n1<1:=by omega
  have hd:decide ((1<=n0/\n0<=most)/\(1<=n1/\n1<=most))=false:=decide_eq_false (by omega)
  rw [hd]
  repeat' first|refine zat ?_|refine zaw ?_|refine gwZ ?_|(refine gwX ?_;intro Q hQ _;simp [hC,hY,a00,a00n,a01,a01n,a10,a10n];refine gwq hQ ?_)|refine gwC ?_ ?_<;>intro hb
  refine ⟨.inr rfl,by simp [results121],kpS G0F⟩
 have a10n:¬n1<1:=by omega
 by_cases a11:n1<=most
 rotate_left
 ·have a11n:most<n1:=by omega
  have hd:decide ((1<=n0/\n0<=most)/\(1<=n1/\n1<=most))=false:=decide_eq_false (by omega)
  rw [hd]
  repeat' first|refine zat ?_|refine zaw ?_|refine gwZ ?_|(refine gwX ?_;intro Q hQ _;simp [hC,hY,a00,a00n,a01,a01n,a10,a10n,a11,a11n];refine gwq hQ ?_)|refine gwC ?_ ?_<;>intro hb
  refine ⟨.inr rfl,by simp [results121],kpS G0F⟩
 have a11n:¬most<n1:=by omega
 have hd:decide ((1<=n0/\n0<=most)/\(1<=n1/\n1<=most))=true:=decide_eq_true (by omega)
 rw [hd]
 repeat' first|refine zat ?_|refine zaw ?_|refine gwZ ?_|(refine gwX ?_;intro Q hQ _;simp [hC,hY,a00,a00n,a01,a01n,a10,a10n,a11,a11n];refine gwq hQ ?_)|refine gwC ?_ ?_<;>intro hb
 refine ⟨.inr rfl,by simp [results121],kpS G0F⟩
theorem zsj (r a n:Int) (hi:i64 n) (w1:wr (r*r)) (w2:wr (r*r*n)) (w3:wr (a*a)) (hr:wr r) (ha:wr a):Ret prog G0 123 #[wd r,wd a,.int .i64 n] (.bool (decide (r*r*n=a*a))):=by
 refine za2 G0F func123 rfl call123 rfl (by simp) (by simp [ntmps123]) ?_
 intro C hC hC0 hY
 have s1:=zdb w1
 have s2:=zdb w2
 have s3:=zdb w3
 have s4:=zdb hr
 have s5:=zdb ha
 have s6:=zdb (zdn hi)
 repeat' first|refine gwZ ?_|(refine gwX ?_;intro Q hQ _;simp [hC,hY,hi,s1,s2,s3,s4,s5,s6];refine gwq hQ ?_)|refine gwC ?_ ?_<;>intro hb
 refine ⟨.inr trivial,?_⟩
 simp [results123]
 rw [weq,s2,s3]
@[simp] theorem jj7 (r a n:Int) (hi:i64 n) (w1:wr (r*r)) (w2:wr (r*r*n)) (w3:wr (a*a)) (hr:wr r) (ha:wr a) (K:Value->Prop):zbe prog G0 123 #[Value.agg #[.int .u64 (wi (r) 0),.int .u64 (wi (r) 1),.int .u64 (wi (r) 2),.int .u64 (wi (r) 3)],Value.agg #[.int .u64 (wi (a) 0),.int .u64 (wi (a) 1),.int .u64 (wi (a) 2),.int .u64 (wi (a) 3)],.int .i64 n] K↔K (.bool (decide (r*r*n=a*a))):=zaf G0W (by kernel_rfl) (zsj r a n hi w1 w2 w3 hr ha)
theorem zkf {most n0:Int} (h:(1<=n0/\n0<=most)):Fun prog G0 121 #[.int .i64 most,.slice (some ⟨100,0,none⟩) 1 1] (hpL G0 [(100,⟨#[.int .i64 n0],.ty 3⟩)]) [100] (.ret (.bool true) []):=by
 have e:=zzs most n0
 rw [decide_eq_true h] at e
 exact e
theorem zkg {most n0 n1:Int} (h:(1<=n0/\n0<=most)/\(1<=n1/\n1<=most)):Fun prog G0 121 #[.int .i64 most,.slice (some ⟨100,0,none⟩) 2 2] (hpL G0 [(100,⟨#[.int .i64 n0,.int .i64 n1],.ty 3⟩)]) [100] (.ret (.bool true) []):=by
 have e:=zzt most n0 n1
 rw [decide_eq_true h] at e
 exact e
theorem zzn {g m w q:Int} (h:EIn g m w q) (hq:0<q):Ret prog G0 96 #[.int .i64 g,.int .i64 m,.int .i64 w,.int .i64 q] (.tuple #[.int .i64 (zfe g m w q),.int .i64 (zkc g m w q),.int .i64 0]):=by
 refine za2 G0F func96 rfl call96 (by simp) (by simp) (by simp [ntmps96]) ?_
 intro C hC hC0 hY
 have k1:=h.gm
 have k2:=h.gmw
 have k3:=h.a
 have k4:=h.aa
 have k5:=h.lo hq
 have k6:=h.hi hq
 have k7:=(h.holds hq).1
 have k8:=z5z k5.1 k5.2 h.q0 h.q1
 have k9:=zqi g m w q
 have hw1:(1<=g/\g<=1048576):=⟨h.g0,h.g1⟩
 have hw2:(1<=m/\m<=1024)/\(1<=w/\w<=1024):=⟨⟨h.m0,h.m1⟩,h.w0,h.w1⟩
 have hq0:¬q<0:=by omega
 have hq1:¬13194139533312<q:=by have:=h.q1;omega
 have iq:i64 q:=⟨by omega,by omega⟩
 have eA:enA g m w=g*m*w*1048576:=rfl
 have eL:zfe g m w q=isq (enA g m w*enA g m w / q):=rfl
 have iA:i64 (enA g m w):=⟨by omega,by omega⟩
 have iL:i64 (zfe g m w q):=⟨by omega,by omega⟩
 have wA:=zdn iA
 have wL:=zdn iL
 have wq:=zdn iq
 have wAA:wr (enA g m w*enA g m w):=⟨Int.le_trans (by decide) k4.1,Int.lt_of_le_of_lt k4.2 (by decide)⟩
 have w2:wr (zfe g m w q*zfe g m w q):=⟨Int.le_trans (by decide) k8.1,Int.lt_of_le_of_lt k8.2.1 (by decide)⟩
 have w3:wr (zfe g m w q*zfe g m w q*q):=⟨Int.le_trans (by decide) k8.2.2.1,Int.lt_of_le_of_lt k8.2.2.2 (by decide)⟩
 have b1:Int.bmod (g*m) 18446744073709551616=g*m:=bm (by omega) (by omega)
 have b2:Int.bmod (g*m*w) 18446744073709551616=g*m*w:=bm (by omega) (by omega)
 have b3:Int.bmod (g*m*w*1048576) 18446744073709551616=g*m*w*1048576:=bm (by omega) (by omega)
 have b4:Int.bmod (zfe g m w q+1) 18446744073709551616=zfe g m w q+1:=bm (by omega) (by omega)
 have s1:=zdb wA
 have s2:=zdb wAA
 have s3:=zdb wL
 rw [k9]
 generalize zfe g m w q=R at *
 simp only [eA] at iA wA wAA k4 s1 s2 eL k7 k9 |-
 have hR:=eL.symm
 clear eL eA
 by_cases c:R*R*q=g*m*w*1048576*(g*m*w*1048576)
 ·rw [if_pos c]
  repeat' first|refine gwZ ?_|((first|refine gwR [121] ?_|refine gwD [121] ?_);intro Q hQ _;(repeat first|simp [hC,hY,hq0,hq1,b1,b2,b3,b4,iq,iA,iL,wA,wL,wq,wAA,w2,w3,s1,s2,s3,hR,k4.1,hq,c]|refine zck (zkf hw1) (by simp) rfl (by simp) (by simp) ?_|refine zck (zkg hw2) (by simp) rfl (by simp) (by simp) ?_);refine gwq hQ ?_)|refine gwC ?_ ?_<;>intro hb
  refine zer 0 (λ_ _=>False) rfl (λ_ _ h=>h.elim) ?_
  intro _
  repeat' first|refine gwZ ?_|((first|refine gwR [121] ?_|refine gwD [121] ?_);intro Q hQ _;(repeat first|simp [hC,hY,hq0,hq1,b1,b2,b3,b4,iq,iA,iL,wA,wL,wq,wAA,w2,w3,s1,s2,s3,hR,k4.1,hq,c]|refine zck (zkf hw1) (by simp) rfl (by simp) (by simp) ?_|refine zck (zkg hw2) (by simp) rfl (by simp) (by simp) ?_);refine gwq hQ ?_)|refine gwC ?_ ?_<;>intro hb
  refine ⟨.inr trivial,?_⟩
  simp [results96]
 ·rw [if_neg c]
  repeat' first|refine gwZ ?_|((first|refine gwR [121] ?_|refine gwD [121] ?_);intro Q hQ _;(repeat first|simp [hC,hY,hq0,hq1,b1,b2,b3,b4,iq,iA,iL,wA,wL,wq,wAA,w2,w3,s1,s2,s3,hR,k4.1,hq,c]|refine zck (zkf hw1) (by simp) rfl (by simp) (by simp) ?_|refine zck (zkg hw2) (by simp) rfl (by simp) (by simp) ?_);refine gwq hQ ?_)|refine gwC ?_ ?_<;>intro hb
  refine zer 0 (λ_ _=>False) rfl (λ_ _ h=>h.elim) ?_
  intro _
  repeat' first|refine gwZ ?_|((first|refine gwR [121] ?_|refine gwD [121] ?_);intro Q hQ _;(repeat first|simp [hC,hY,hq0,hq1,b1,b2,b3,b4,iq,iA,iL,wA,wL,wq,wAA,w2,w3,s1,s2,s3,hR,k4.1,hq,c]|refine zck (zkf hw1) (by simp) rfl (by simp) (by simp) ?_|refine zck (zkg hw2) (by simp) rfl (by simp) (by simp) ?_);refine gwq hQ ?_)|refine gwC ?_ ?_<;>intro hb
  refine ⟨.inr trivial,?_⟩
  simp [results96,b4]
@[simp] theorem jlg (a:Int) (K:Value->Prop):zbe prog G0 122 #[Value.agg #[.int .u64 (wi (a) 0),.int .u64 (wi (a) 1),.int .u64 (wi (a) 2),.int .u64 (wi (a) 3)],.agg #[.int .u64 0,.int .u64 0,.int .u64 0,.int .u64 0]] K↔K (.tuple #[wd 0,.int .i64 30]):=by
 have:=ji8 a 0 rfl K
 simpa [zar] using this
theorem z44 {g m w q:Int} (h:EIn g m w q) (hq:q=0):Ret prog G0 96 #[.int .i64 g,.int .i64 m,.int .i64 w,.int .i64 q] (.tuple #[.int .i64 0,.int .i64 0,.int .i64 30]):=by
 refine za2 G0F func96 rfl call96 (by simp) (by simp) (by simp [ntmps96]) ?_
 intro C hC hC0 hY
 subst hq
 have k1:=h.gm
 have k2:=h.gmw
 have hw1:(1<=g/\g<=1048576):=⟨h.g0,h.g1⟩
 have hw2:(1<=m/\m<=1024)/\(1<=w/\w<=1024):=⟨⟨h.m0,h.m1⟩,h.w0,h.w1⟩
 have hq0:¬(0:Int)<0:=by omega
 have hq1:¬(13194139533312:Int)<0:=by omega
 have i0:i64 0:=by decide
 have z0:(0:Int)=0:=rfl
 have b1:Int.bmod (g*m) 18446744073709551616=g*m:=bm (by omega) (by omega)
 have b2:Int.bmod (g*m*w) 18446744073709551616=g*m*w:=bm (by omega) (by omega)
 have b3:Int.bmod (g*m*w*1048576) 18446744073709551616=g*m*w*1048576:=bm (by omega) (by omega)
 have iA:i64 (g*m*w*1048576):=⟨by omega,by omega⟩
 have s1:=zdb (zdn iA)
 have k4:=h.aa
 have wAA:wr (g*m*w*1048576*(g*m*w*1048576)):=⟨Int.le_trans (by decide) k4.1,Int.lt_of_le_of_lt k4.2 (by decide)⟩
 have s2:=zdb wAA
 repeat' first|refine gwZ ?_|((first|refine gwR [121] ?_|refine gwD [121] ?_);intro Q hQ _;(repeat first|simp [hC,hY,hq0,hq1,b1,b2,b3,i0,z0,iA,s1,s2]|refine zck (zkf hw1) (by simp) rfl (by simp) (by simp) ?_|refine zck (zkg hw2) (by simp) rfl (by simp) (by simp) ?_);refine gwq hQ ?_)|refine gwC ?_ ?_<;>intro hb
 refine zer 0 (λm s=>s=⟨tsL [(10,.int .i64 30)],hpL G0 [],1000,0⟩) rfl ?_ ?_
 ·rintro m _ rfl
  repeat' first|refine gwZ ?_|refine gwW ?_|refine gwC ?_ ?_<;>intro hb
  refine ⟨.inr trivial,?_⟩
  simp [results96]
 ·intro _
  repeat' first|refine gwZ ?_|((first|refine gwR [121] ?_|refine gwD [121] ?_);intro Q hQ _;(repeat first|simp [hC,hY,hq0,hq1,b1,b2,b3,i0,z0,iA,s1,s2]|refine zck (zkf hw1) (by simp) rfl (by simp) (by simp) ?_|refine zck (zkg hw2) (by simp) rfl (by simp) (by simp) ?_);refine gwq hQ ?_)|refine gwC ?_ ?_<;>intro hb
  refine ⟨rfl,_,0,zbi _ 1000 hC G0F (m0:=[]) hC0 (by omega) ?_ ?_ ?_,rfl⟩
  ·simp [zan,za0,zah,zal,dom]
  ·simp [zac,zah,zal,dom]
  ·simp
theorem zql {g m w q a b:Int} (h:EIn g m w q) (hq:0<q) (e1:zfe g m w q=a) (e2:zkc g m w q=b) (K:Value->Prop):zbe prog G0 96 #[.int .i64 g,.int .i64 m,.int .i64 w,.int .i64 q] K↔K (.tuple #[.int .i64 a,.int .i64 b,.int .i64 0]):=by
 subst e1 e2
 exact zaf G0W (by kernel_rfl) (zzn h hq)
def ji4 (n n2:Nat) (okc rt:Bool) (fs:Nat->Int):Int:=if zvg n n2 okc rt=true then (if z3l fs n2=0 then 0 else 30) else 2
theorem zzp (L:List (Nat×Blk)) (ks:Nat) (bm bs:Blk) (hT:LTwo G0 L ks bm bs) (off n cap off2 n2 cap2:Nat) (fm fs:Nat->Int) (hm:MB bm off n fm) (hSb:SB bs off2 n2 fs) (g bx tp nr md st:Int) (hs:i64 st)
  (hf:zvg n n2 (zf6 n fm g bx tp nr md) (zco st fs n2)=false) :
  Fun prog G0 66 #[cfV (.slice (some ⟨100,off,none⟩) n cap) g bx tp nr md,.agg #[.int .i64 st,.slice (some ⟨ks,off2,none⟩) n2 cap2]] (hpL G0 L) (zab L) (.ret (.tuple #[spV 0 0,.int .i64 2]) []):=by
 refine zaz (B:=200) G0F func66 rfl call66 hT.ok ?_ (zak (by simp [spV])) (by simp) (by simp) (by simp [ntmps66]) (by omega) ?_
 ·simp [zan,za0,zah,zal,hT.ia,hT.ib,cfV]
 intro C hC hC0 hY
 have hA:=hT.a
 have hS:=hT.s
 have hne:=hT.ne
 have hLow:=hT.low
 have hks:=hT.k1
 have hks2:=hT.k2
 have hfit:=zh3 L ks bm bs hT off n cap off2 n2 cap2 fm fs hm hSb g bx tp nr md st hs
 rw [hf] at hfit
 unfold cfV at hfit |-
 repeat' first|refine gwZ ?_|((first|refine gwR [94] ?_|refine gwD [94] ?_);intro Q hQ _;(repeat first|simp [hC,hY,hA,hS,hne,zar]|refine zby hfit hT.ok zg0 ?_);refine gwq hQ ?_)|refine gwC ?_ ?_<;>intro hb
 refine ⟨.inr rfl,by simp [results66,zar,spV],kpT G0F⟩
def spB (lo hi:Int):Blk:=⟨#[.int .u64 (wi lo 0),.int .u64 (wi lo 1),.int .u64 (wi lo 2),.int .u64 (wi lo 3),.int .u64 (wi hi 0),.int .u64 (wi hi 1),.int .u64 (wi hi 2),.int .u64 (wi hi 3)],.ty 32⟩
def zpb:List (Nat×Value):=[(2,.pointer (some ⟨200,0,none⟩)),(4,.pointer (some ⟨216,0,none⟩)),(5,.pointer (some ⟨224,0,none⟩))]
def epM (cq:Array Value) (lo hi:Int):List (Nat×Blk):=[(200,ezB cq),(216,spB lo hi),(224,⟨#[.int .i64 0],.ty 41⟩)]
def epI (cq:Array Value) (F H:Nat->Nat->Int) (l:List (Nat×Nat)) (j:Nat) (h:Hp):Prop:=h=hpL G0 (epM cq (pS F (l.take j)) (pS H (l.take j)))
def epr (k:Nat):Nat:=if k=200 then 280 else if k=208 then 281 else k
theorem jj6 {L:List (Nat×Blk)} (hL:LOk L 200):(λk=>if k∈280::281::zab L then none else hpL G0 L k)=hpL G0 []:=by
 funext k
 simp only [zaq]
 split
 ·rename_i hm
  rcases List.mem_cons.1 hm with rfl|hm
  ·exact (zff _ (by omega)).symm
  ·rcases List.mem_cons.1 hm with rfl|hm
   ·exact (zff _ (by omega)).symm
   ·obtain ⟨p,hp,rfl⟩:=zad.1 hm
    exact (zff _ (hL.big p hp).1).symm
 ·rename_i hm
  exact jag λh=>hm (List.mem_cons_of_mem _ (List.mem_cons_of_mem _ h))
theorem zgn {k:Nat} (h:k<200):epr k=k:=by unfold epr;rw [if_neg (by omega),if_neg (by omega)]
theorem zzq (L:List (Nat×Blk)) (ks:Nat) (bm bs:Blk) (hT:LTwo G0 L ks bm bs) (off n cap off2 cap2:Nat) (fm fs:Nat->Int) (hm:MB bm off n fm) (hSb:SB bs off2 n fs) (hcap2:n<=cap2) (g bx tp nr md st:Int) (hs:i64 st)
  (hok:zf6 n fm g bx tp nr md=true) (hrt:zco st fs n=true) (hz:z3l fs n=0) :
  Fun prog G0 66 #[cfV (.slice (some ⟨100,off,none⟩) n cap) g bx tp nr md,.agg #[.int .i64 st,.slice (some ⟨ks,off2,none⟩) n cap2]] (hpL G0 L) (zab L) (.ret (.tuple #[spV (zs9 g fm fs n) (zs8 g fm fs n),.int .i64 0]) []):=by
 refine zaz (B:=200) G0F func66 rfl call66 hT.ok ?_ (zak (by simp [spV])) (by simp) (by simp) (by simp [ntmps66]) (by omega) ?_
 ·simp [zan,za0,zah,zal,hT.ia,hT.ib,cfV]
 intro C hC hC0 hY
 have hA:=hT.a
 have hS:=hT.s
 have hne:=hT.ne
 have hLow:=hT.low
 have hks:=hT.k1
 have hks2:=hT.k2
 have hfit:=zh3 L ks bm bs hT off n cap off2 n cap2 fm fs hm hSb g bx tp nr md st hs
 rw [ze2.2 ⟨rfl,hok,hrt⟩] at hfit
 have hn4:=(zjl hrt).2.1
 have hpr:=znd 280 (by omega) L ks bm bs hT off n cap off2 n cap2 g bx tp nr md st
 unfold cfV at hfit hpr |-
 repeat' first|refine gwZ ?_|((first|refine gwR [94] ?_|refine gwD [94] ?_);intro Q hQ _;(repeat first|simp [hC,hY,hA,hS,hne,zar]|refine zby hfit hT.ok zg0 ?_);refine gwq hQ ?_)|refine gwC ?_ ?_<;>intro hb
 refine zdf ?_
 simp only [Array.toList]
 refine gwl 2 ?_;intro Q hQ;simp [hC,hY,hA,hS,hne];apply hQ
 simp only [wT,wM,Nat.reduceAdd]
 refine zeb (f:=.func 95) (cap:=#[]) hC hpr rfl (by simp) rfl rfl (by simp [okT]) (by simp [gev]) (by simp) (by simp [okX,zcj]) (by simp [gev]) (by intro q hq;obtain ⟨p,hp,rfl⟩:=zad.1 hq;have hpb:=hT.ok.big p hp;(try dsimp only);simp (disch:=omega) only [zaa]) (by (intro k hk;first|exact hLow k hk|(simp (disch:=omega) only [hLow,zbw,List.mem_cons,List.not_mem_nil,or_false,zaa,zag,zaq,if_neg,zbb,List.cons_append,List.nil_append]<;>done))) (λv ns hV k hk=>by have:=zgs hV k hk;simp;omega) ?_
 rintro v ns ⟨rfl,rfl⟩
 refine zec ?_
 repeat' first|refine gwZ ?_|(refine gwX ?_;intro Q hQ _;simp [hC,hY,zcq,zbb,hA,hS,hne];refine gwq hQ ?_)|refine gwC ?_ ?_<;>intro hb
 simp only [zcq,zbb]
 refine zmt 200 (t:=24) (cs:=#[.slice (some ⟨100,off,none⟩) n cap,.int .i64 g,.int .i64 bx,.int .i64 tp,.int .i64 nr,.int .i64 md]) (by simp [cfB]) (by omega) ?_
 intro cq hq1 hq2
 have hq4:cq[1]? = some (.int .i64 g):=hq2 1 _ rfl rfl
 have hq6:cq.size=6:=hq1
 have hidL:∀ k∈zab L,epr k=k:=λk hk=>by
  obtain ⟨p,hp,rfl⟩:=zad.1 hk
  exact zgn (hT.ok.big p hp).2
 have hout:∀ k,200<=k->k≠280->k≠281->(k∈280::281::zab L)=False:=λk h1 h2 h3=>eq_false λhm=>by
  rcases List.mem_cons.1 hm with e|hm
  ·exact h2 e
  ·rcases List.mem_cons.1 hm with e|hm
   ·exact h3 e
   ·obtain ⟨p,hp,rfl⟩:=zad.1 hm
    have:=(hT.ok.big p hp).2
    omega
 have hasd:∀ C0:Ctx,(C0.hp0=λk=>if k∈280::281::zab L then none else C.hp0 k)->C0.hp0=hpL G0 []:=λC0 h0=>by
  rw [h0,hC0]
  exact jj6 hT.ok
 refine zmu (f:=119) (rs:=280::281::zab L) (xs:=(zg5 n).map λp=>epV fm fs p.1 p.2) (caps:=#[.pointer (some ⟨281,0,none⟩),.pointer (some ⟨280,0,none⟩)]) (280::281::zab L) hY (by simp) ?_ ?_ (by simp [ntmps66]) (tsL zpb) (tsL zpb) (epI cq (λi k=>zfe g (fm i) (fm k) (zfl fs i k)) (λi k=>zkc g (fm i) (fm k) (zfl fs i k)) (zg5 n)) (hpS:=hpL G0 (epM cq 0 0)) 300 (zg5 n).length (by simp) (λk hk=>hk) ?_ ?_ ?_ ?_ ?_ (λ_=>.inl rfl) ?_ ?_
 ·rw [hC]
  refine zef (zne L ks bm bs hT off n cap off2 cap2 fm fs hm hSb hcap2 hn4 g bx tp nr md st) G0F (zig hT off n cap off2 n cap2 g bx tp nr md st) epr (λk hk=>zgn (by omega)) (by simp [zam,epr]) ?_ (by (intro k hk;first|exact hLow k hk|(simp (disch:=omega) only [hLow,zbw,List.mem_cons,List.not_mem_nil,or_false,zaa,zag,zaq,if_neg,zbb,List.cons_append,List.nil_append]<;>done))) ?_ ?_
  ·show epr 200::epr 208::(zab L).map epr=_
   rw [List.map_congr_left hidL]
   simp [epr]
  ·intro p hp
   rcases List.mem_cons.1 hp with rfl|hp
   ·simp [epr,cfB,Blk.rn,zaj,zam,upd]
   ·rcases List.mem_cons.1 hp with rfl|hp
    ·have h3:epr ks=ks:=zgn hks2
     simp [zej,Blk.rn,zaj,zam,upd,h3]
     simp [epr,upd]
    ·have hpb:=hT.ok.big p hp
     rw [zgn hpb.2,Blk.fx_rn (hT.fx p hp)]
     refine ⟨hpb.1,?_⟩
     (try dsimp only)
     simp (disch:=omega) only [zbw,zaa,zag,zaq,if_neg,zbb]
     exact hT.mem p hp
  ·have key:∀ k∈zab (enM L ks off n cap off2 n cap2 g bx tp nr md st),(k=200/\epr k=280)\/(k=208/\epr k=281)\/(k<200/\epr k=k):=λk hk=>by
    rcases List.mem_cons.1 hk with rfl|hk
    ·exact .inl ⟨rfl,rfl⟩
    ·rcases List.mem_cons.1 hk with rfl|hk
     ·exact .inr (.inl ⟨rfl,rfl⟩)
     ·obtain ⟨p,hp,rfl⟩:=zad.1 hk
      have:=(hT.ok.big p hp).2
      exact .inr (.inr ⟨this,zgn this⟩)
   intro k hk l hl e
   have:=key k hk
   have:=key l hl
   omega
 ·intro x hx
  simp only [List.mem_map] at hx
  obtain ⟨p,_,rfl⟩:=hx
  simp [epV]
 ·intro k hk
  rcases List.mem_cons.1 hk with rfl|hk
  ·simp [dom,upd]
  ·rcases List.mem_cons.1 hk with rfl|hk
   ·simp [dom,upd]
   ·obtain ⟨p,hp,rfl⟩:=zad.1 hk
    have hpb:=hT.ok.big p hp
    refine ⟨hpb.1,?_⟩
    unfold dom
    dsimp only
    simp (disch:=omega) only [zbw,zaa,zag,zaq,if_neg,zbb]
    rw [hT.mem p hp]
    simp
 ·intro k hk b hb1
  rcases List.mem_cons.1 hk with rfl|hk
  ·simp [upd] at hb1;subst hb1;simp [cfB,zac,zah,zal,hT.ia]
  ·rcases List.mem_cons.1 hk with rfl|hk
   ·simp [upd] at hb1;subst hb1;simp [zej,zac,zah,zal,hT.ib]
   ·obtain ⟨p,hp,rfl⟩:=zad.1 hk
    have hpb:=hT.ok.big p hp
    dsimp only at hb1
    simp (disch:=omega) only [zbw,zaa,zag,zaq,if_neg,zbb] at hb1
    rw [hT.mem p hp] at hb1
    simp only [Option.some.injEq] at hb1
    subst hb1
    exact Blk.fx_ids (hT.fx p hp) _
 ·intro C0 h1 h2
  refine zbi _ 300 (h1.trans hC) G0F (m0:=[]) (hasd C0 h2) (by omega) ?_ ?_ ?_
  ·simp [zpb,epM,zan,za0,zah,zal,dom]
  ·simp [epM,zlo,spB,zac,zah,zal,dom,upd,zar]
   rfl
  ·simp
 ·simp [epI,pS]
 ·intro k hk
  have h3:k=280\/k=281\/(100<=k/\k<200):=by
   rcases List.mem_cons.1 hk with rfl|hk
   ·exact .inl rfl
   ·rcases List.mem_cons.1 hk with rfl|hk
    ·exact .inr (.inl rfl)
    ·obtain ⟨p,hp,rfl⟩:=zad.1 hk
     exact .inr (.inr (hT.ok.big p hp))
  rw [jag (λhm=>?_)]
  ·exact zff k (by omega)
  ·simp [epM,zab] at hm
   omega
 ·intro j x hq0 hj hx hI C1 lb hC1 hh1 hY1
  unfold epI at hI
  subst hI
  rw [List.getElem?_map,List.getElem?_eq_getElem hj] at hx
  simp only [Option.map_some,Option.some.injEq] at hx
  subst hx
  have t1:=zlz (λi k=>zfe g (fm i) (fm k) (zfl fs i k)) hj
  have t2:=zlz (λi k=>zkc g (fm i) (fm k) (zfl fs i k)) hj
  have hmem:=List.getElem_mem hj
  unfold epI
  rw [t1,t2]
  clear t1 t2
  generalize (zg5 n)[j]=p at *
  obtain ⟨hl1,hl2⟩:=zpa hmem
  have hsq:=zve hrt (i:=p.1) (k:=p.2) hl2 (by omega)
  have hz1:¬zfl fs p.1 p.2=0:=λe=>by
   have:=(zxi (Z:=λi k=>if zfl fs i k=0 then 1 else 0) (λi k=>by by_cases c:zfl fs i k=0<;>simp [c]) n).1 hz p.1 p.2 hl1 hl2
   simp [e] at this
  have hg:=zu3 hok
  have hm1:=zc0 hok (i:=p.1) hl2
  have hm2:=zc0 hok (i:=p.2) (by omega)
  have hEI:EIn g (fm p.1) (fm p.2) (zfl fs p.1 p.2):=⟨hg.1,hg.2,hm1.1,hm1.2,hm2.1,hm2.2,hsq.1,hsq.2⟩
  have P:=zql hEI (by omega) rfl rfl
  have hlo:=hEI.lo (by omega)
  have hhi:=hEI.hi (by omega)
  have hld:=z46 hq4
  generalize pS (λi k=>zfe g (fm i) (fm k) (zfl fs i k)) ((zg5 n).take j)=A at *
  generalize pS (λi k=>zkc g (fm i) (fm k) (zfl fs i k)) ((zg5 n).take j)=H at *
  generalize zfe g (fm p.1) (fm p.2) (zfl fs p.1 p.2)=lo at *
  generalize zkc g (fm p.1) (fm p.2) (zfl fs p.1 p.2)=hi at *
  have il:i64 lo:=⟨by omega,by omega⟩
  have ih:i64 hi:=⟨by omega,by omega⟩
  have hCC:=hC
  have hC1':C1.G=G0:=hC1.trans hC
  unfold epV
  clear hC hY
  have hC:=hC1'
  have hY:=hY1
  unfold epM spB ezB
  repeat' first|refine gwZ ?_|(refine gwX ?_;intro Q hQ _;simp [hC,hY,zao,zpb];refine gwq hQ ?_)|refine gwC ?_ ?_<;>intro hb
  intro C2 hC2 hh2 hY2
  clear hC hY
  have hC:C2.G=G0:=hC2.trans hCC
  have hY:=hY2
  repeat' first|refine gwZ ?_|(refine gwX ?_;intro Q hQ _;simp [hC,hY,P,hld,il,ih];refine gwq hQ ?_)|refine gwC ?_ ?_<;>intro hb
  refine ⟨λk=>k,hpL G0 (epM cq (A+lo) (H+hi)),λC0 h1 h2=>zxx _ _ 300 (h1.trans hCC) G0F (m0:=[]) (hasd C0 h2) (by omega) ?_ ?_ ?_ ?_ ?_,rfl⟩
  ·simp [zpb,epM,dom,zcj,ren,zay,zaj,zam,zan,za0,zah,zal]
  ·simp [epM,z2o,zlo,spB,Blk.rn,zaj,zam,zac,zah,zal,dom]
   rfl
  ·simp [epM]
  ·intro k hk;rfl
  ·simp
 ·refine .inl ⟨by simp,?_⟩
  rintro hq hI
  have hI':hq=hpL G0 (epM cq (zs9 g fm fs n) (zs8 g fm fs n)):=by
   rw [hI,List.take_length]
   unfold zs9 zs8
   rw [zpx _ hn4,zpx _ hn4]
  subst hI'
  refine ⟨λk hk=>?_,?_⟩
  ·have h3:k=280\/k=281\/(100<=k/\k<200):=by
    rcases List.mem_cons.1 hk with rfl|hk
    ·exact .inl rfl
    ·rcases List.mem_cons.1 hk with rfl|hk
     ·exact .inr (.inl rfl)
     ·obtain ⟨p,hp,rfl⟩:=zad.1 hk
      exact .inr (.inr (hT.ok.big p hp))
   refine ⟨?_,by omega⟩
   rw [jag (λhm=>?_)]
   ·exact zff k (by omega)
   ·simp [epM,zab] at hm
    omega
  have hm16:=hout 216 (by omega) (by omega) (by omega)
  have hm24:=hout 224 (by omega) (by omega) (by omega)
  unfold zpb epM spB
  repeat' first|refine gwZ ?_|(refine gwX ?_;intro Q hQ _;simp [hC,hY,zbw,hm16,hm24];refine gwq hQ ?_)|refine gwC ?_ ?_<;>intro hb
  refine ⟨.inr rfl,by simp [results66,spV,zbw,hm16,hm24],zbz G0F (λp hp=>by
    have hpb:=hT.ok.big p hp
    have hm9:p.1∈280::281::zab L:=List.mem_cons_of_mem _ (List.mem_cons_of_mem _ (zad.2 ⟨p,hp,rfl⟩))
    simp (disch:=omega) only [eIn hm9,zaa,zag,zaq,if_neg,zbb]) (λk hk=>by
    have hm9:k∉280::281::zab L:=λhm9=>by
     rcases List.mem_cons.1 hm9 with rfl|hm9
     ·omega
     ·rcases List.mem_cons.1 hm9 with rfl|hm9
      ·omega
      ·obtain ⟨p,hp,rfl⟩:=zad.1 hm9
       have:=(hT.ok.big p hp).1
       omega
    simp (disch:=omega) only [eNi hm9,zaa,zag,zaq,if_neg,zbb,hLow])⟩
theorem zkm (t a:Int) {b nk:Nat} {hp:Hp} {K:Eff->Prop} (hb:100<=b) (h1:hp b=some (wb t)) (hK:K ((Res.ret (wd (t - a)) []).eff [b])) :
  zhz prog G0 68 #[Value.agg #[.int .u64 (wi (a) 0),.int .u64 (wi (a) 1),.int .u64 (wi (a) 2),.int .u64 (wi (a) 3)],.pointer (some ⟨b,0,none⟩)] hp nk K :=
 zae (zva t a) G0F (B:=200) ⟨by simp,by simp [zab],by simp [wb,zac,zah,zal]⟩ (λk=>if k=100 then b else k) (λk hk=>if_neg (by omega)) (by simp [ren,zay,zaj,zam]) (by simp) (by simp [wb,Blk.rn,zaj,zam,hb,h1]) (by simp [zab]) (by simp [zab]) hK
theorem zo9 (L:List (Nat×Blk)) (ks:Nat) (bm bs:Blk) (hT:LTwo G0 L ks bm bs) (off n cap off2 cap2:Nat) (fm fs:Nat->Int) (hm:MB bm off n fm) (hSb:SB bs off2 n fs) (hcap:n<=cap) (hcap2:n<=cap2) (g bx tp nr md st:Int) (hs:i64 st)
  (hok:zf6 n fm g bx tp nr md=true) (hrt:zco st fs n=true) (hz:z3l fs n=0) :
  Fun prog G0 36 #[cfV (.slice (some ⟨100,off,none⟩) n cap) g bx tp nr md,.agg #[.int .i64 st,.slice (some ⟨ks,off2,none⟩) n cap2]] (hpL G0 L) (zab L) (.ret (.tuple #[spV (z5v fm fs n - zs8 g fm fs n) (z5v fm fs n - zs9 g fm fs n),.int .i64 0]) []):=by
 refine zaz (B:=200) G0F func36 rfl call36 hT.ok ?_ (zak (by simp [spV])) (by simp) (by simp) (by simp [ntmps36]) (by omega) ?_
 ·simp [zan,za0,zah,zal,hT.ia,hT.ib,cfV]
 intro C hC hC0 hY
 have hA:=hT.a
 have hS:=hT.s
 have hne:=hT.ne
 have hLow:=hT.low
 have hks:=hT.k1
 have hks2:=hT.k2
 have hpo:=zzq L ks bm bs hT off n cap off2 cap2 fm fs hm hSb hcap2 g bx tp nr md st hs hok hrt hz
 have hki:=jai L ks bm bs hT off n cap off2 n cap2 fm fs hm hSb hcap hcap2 g bx tp nr md st hs
 unfold jid jic at hki
 rw [ze2.2 ⟨rfl,hok,hrt⟩,if_pos rfl,if_pos rfl] at hki
 unfold cfV spV at hpo
 unfold cfV at hki |-
 generalize z5v fm fs n=T at *
 generalize zs9 g fm fs n=lo at *
 generalize zs8 g fm fs n=hi at *
 repeat' first|refine gwZ ?_|((first|refine gwR [66,67,68] ?_|refine gwD [66,67,68] ?_);intro Q hQ _;(repeat first|simp [hC,hY,hA,hS,hne,zar]|refine zby hpo hT.ok zg0 ?_|refine zby hki hT.ok zg0 ?_|(refine zkm T hi (by simp) ?_ ?_;focus (simp [wb];done))|(refine zkm T lo (by simp) ?_ ?_;focus (simp [wb];done)));refine gwq hQ ?_)|refine gwC ?_ ?_<;>intro hb
 refine ⟨.inr rfl,by simp [results36,spV],kpT G0F⟩
theorem zvb {g m w q:Int} (h:EIn g m w q) (hq:q=0) (K:Value->Prop):zbe prog G0 96 #[.int .i64 g,.int .i64 m,.int .i64 w,.int .i64 q] K↔K (.tuple #[.int .i64 0,.int .i64 0,.int .i64 30]):=zaf G0W (by kernel_rfl) (z44 h hq)
theorem zqq {P:Nat×Nat->Prop}:∀ {l:List (Nat×Nat)},(∃ p∈l,P p)->∃ N,∃ h:N<l.length,P l[N]/\∀ j,j<N->∀ h:j<l.length,¬P l[j]
 | [],h=>by obtain ⟨p,hp,_⟩:=h;cases hp
 | a::l,h=>by
  by_cases ha:P a
  ·exact ⟨0,by simp,ha,λj hj=>by omega⟩
  ·obtain ⟨p,hp,hP⟩:=h
   rcases List.mem_cons.1 hp with rfl|hp
   ·exact absurd hP ha
   ·obtain ⟨N,h1,h2,h3⟩:=zqq ⟨p,hp,hP⟩
    refine ⟨N+1,by simpa using h1,by simpa using h2,λj hj hl=>?_⟩
    cases j with
    | zero=>exact ha
    | succ j=>simpa using h3 j (by omega) (by simpa using hl)
theorem jct {F:Nat->Nat->Int}:∀ {l:List (Nat×Nat)},¬pS F l=0->∃ p∈l,¬F p.1 p.2=0
 | [],h=>absurd rfl h
 | p::l,h=>by
  by_cases hp:F p.1 p.2=0
  ·obtain ⟨q,hq,h2⟩:=jct (F:=F) (l:=l) λe=>h (by simp only [pS];omega)
   exact ⟨q,List.mem_cons_of_mem _ hq,h2⟩
  ·exact ⟨p,by simp,hp⟩
theorem z48 {fs:Nat->Int} {n:Nat} (hn:1<=n/\n<=4) (hz:¬z3l fs n=0):∃ N,∃ h:N<(zg5 n).length,zfl fs (zg5 n)[N].1 (zg5 n)[N].2=0/\∀ j,j<N->∀ h:j<(zg5 n).length,¬zfl fs (zg5 n)[j].1 (zg5 n)[j].2=0:=by
 unfold z3l at hz
 rw [zpx _ hn] at hz
 obtain ⟨p,hp,h⟩:=jct hz
 refine zqq (P:=λp=>zfl fs p.1 p.2=0) ⟨p,hp,?_⟩
 by_cases c:zfl fs p.1 p.2=0
 ·exact c
 ·exact absurd (if_neg c) h
theorem zvd (L:List (Nat×Blk)) (ks:Nat) (bm bs:Blk) (hT:LTwo G0 L ks bm bs) (off n cap off2 cap2:Nat) (fm fs:Nat->Int) (hm:MB bm off n fm) (hSb:SB bs off2 n fs) (hcap2:n<=cap2) (g bx tp nr md st:Int) (hs:i64 st)
  (hok:zf6 n fm g bx tp nr md=true) (hrt:zco st fs n=true) (hz:¬z3l fs n=0) :
  Fun prog G0 66 #[cfV (.slice (some ⟨100,off,none⟩) n cap) g bx tp nr md,.agg #[.int .i64 st,.slice (some ⟨ks,off2,none⟩) n cap2]] (hpL G0 L) (zab L) (.ret (.tuple #[spV 0 0,.int .i64 30]) []):=by
 refine zaz (B:=200) G0F func66 rfl call66 hT.ok ?_ (zak (by simp [spV])) (by simp) (by simp) (by simp [ntmps66]) (by omega) ?_
 ·simp [zan,za0,zah,zal,hT.ia,hT.ib,cfV]
 intro C hC hC0 hY
 have hA:=hT.a
 have hS:=hT.s
 have hne:=hT.ne
 have hLow:=hT.low
 have hks:=hT.k1
 have hks2:=hT.k2
 have hfit:=zh3 L ks bm bs hT off n cap off2 n cap2 fm fs hm hSb g bx tp nr md st hs
 rw [ze2.2 ⟨rfl,hok,hrt⟩] at hfit
 have hn4:=(zjl hrt).2.1
 obtain ⟨N,hN,hzN,hbef⟩:=z48 hn4 hz
 have hpr:=znd 280 (by omega) L ks bm bs hT off n cap off2 n cap2 g bx tp nr md st
 unfold cfV at hfit hpr |-
 repeat' first|refine gwZ ?_|((first|refine gwR [94] ?_|refine gwD [94] ?_);intro Q hQ _;(repeat first|simp [hC,hY,hA,hS,hne,zar]|refine zby hfit hT.ok zg0 ?_);refine gwq hQ ?_)|refine gwC ?_ ?_<;>intro hb
 refine zdf ?_
 simp only [Array.toList]
 refine gwl 2 ?_;intro Q hQ;simp [hC,hY,hA,hS,hne];apply hQ
 simp only [wT,wM,Nat.reduceAdd]
 refine zeb (f:=.func 95) (cap:=#[]) hC hpr rfl (by simp) rfl rfl (by simp [okT]) (by simp [gev]) (by simp) (by simp [okX,zcj]) (by simp [gev]) (by intro q hq;obtain ⟨p,hp,rfl⟩:=zad.1 hq;have hpb:=hT.ok.big p hp;(try dsimp only);simp (disch:=omega) only [zaa]) (by (intro k hk;first|exact hLow k hk|(simp (disch:=omega) only [hLow,zbw,List.mem_cons,List.not_mem_nil,or_false,zaa,zag,zaq,if_neg,zbb,List.cons_append,List.nil_append]<;>done))) (λv ns hV k hk=>by have:=zgs hV k hk;simp;omega) ?_
 rintro v ns ⟨rfl,rfl⟩
 refine zec ?_
 repeat' first|refine gwZ ?_|(refine gwX ?_;intro Q hQ _;simp [hC,hY,zcq,zbb,hA,hS,hne];refine gwq hQ ?_)|refine gwC ?_ ?_<;>intro hb
 simp only [zcq,zbb]
 refine zmt 200 (t:=24) (cs:=#[.slice (some ⟨100,off,none⟩) n cap,.int .i64 g,.int .i64 bx,.int .i64 tp,.int .i64 nr,.int .i64 md]) (by simp [cfB]) (by omega) ?_
 intro cq hq1 hq2
 have hq4:cq[1]? = some (.int .i64 g):=hq2 1 _ rfl rfl
 have hq6:cq.size=6:=hq1
 have hidL:∀ k∈zab L,epr k=k:=λk hk=>by
  obtain ⟨p,hp,rfl⟩:=zad.1 hk
  exact zgn (hT.ok.big p hp).2
 have hout:∀ k,200<=k->k≠280->k≠281->(k∈280::281::zab L)=False:=λk h1 h2 h3=>eq_false λhm=>by
  rcases List.mem_cons.1 hm with e|hm
  ·exact h2 e
  ·rcases List.mem_cons.1 hm with e|hm
   ·exact h3 e
   ·obtain ⟨p,hp,rfl⟩:=zad.1 hm
    have:=(hT.ok.big p hp).2
    omega
 have hasd:∀ C0:Ctx,(C0.hp0=λk=>if k∈280::281::zab L then none else C.hp0 k)->C0.hp0=hpL G0 []:=λC0 h0=>by
  rw [h0,hC0]
  exact jj6 hT.ok
 refine zmu (f:=119) (rs:=280::281::zab L) (xs:=(zg5 n).map λp=>epV fm fs p.1 p.2) (caps:=#[.pointer (some ⟨281,0,none⟩),.pointer (some ⟨280,0,none⟩)]) (280::281::zab L) hY (by simp) ?_ ?_ (by simp [ntmps66]) (tsL zpb) (tsL zpb) (epI cq (λi k=>zfe g (fm i) (fm k) (zfl fs i k)) (λi k=>zkc g (fm i) (fm k) (zfl fs i k)) (zg5 n)) (hpS:=hpL G0 (epM cq 0 0)) 300 N (by simp;omega) (λk hk=>hk) ?_ ?_ ?_ ?_ ?_ (λ_=>.inl rfl) ?_ ?_
 ·rw [hC]
  refine zef (zne L ks bm bs hT off n cap off2 cap2 fm fs hm hSb hcap2 hn4 g bx tp nr md st) G0F (zig hT off n cap off2 n cap2 g bx tp nr md st) epr (λk hk=>zgn (by omega)) (by simp [zam,epr]) ?_ (by (intro k hk;first|exact hLow k hk|(simp (disch:=omega) only [hLow,zbw,List.mem_cons,List.not_mem_nil,or_false,zaa,zag,zaq,if_neg,zbb,List.cons_append,List.nil_append]<;>done))) ?_ ?_
  ·show epr 200::epr 208::(zab L).map epr=_
   rw [List.map_congr_left hidL]
   simp [epr]
  ·intro p hp
   rcases List.mem_cons.1 hp with rfl|hp
   ·simp [epr,cfB,Blk.rn,zaj,zam,upd]
   ·rcases List.mem_cons.1 hp with rfl|hp
    ·have h3:epr ks=ks:=zgn hks2
     simp [zej,Blk.rn,zaj,zam,upd,h3]
     simp [epr,upd]
    ·have hpb:=hT.ok.big p hp
     rw [zgn hpb.2,Blk.fx_rn (hT.fx p hp)]
     refine ⟨hpb.1,?_⟩
     (try dsimp only)
     simp (disch:=omega) only [zbw,zaa,zag,zaq,if_neg,zbb]
     exact hT.mem p hp
  ·have key:∀ k∈zab (enM L ks off n cap off2 n cap2 g bx tp nr md st),(k=200/\epr k=280)\/(k=208/\epr k=281)\/(k<200/\epr k=k):=λk hk=>by
    rcases List.mem_cons.1 hk with rfl|hk
    ·exact .inl ⟨rfl,rfl⟩
    ·rcases List.mem_cons.1 hk with rfl|hk
     ·exact .inr (.inl ⟨rfl,rfl⟩)
     ·obtain ⟨p,hp,rfl⟩:=zad.1 hk
      have:=(hT.ok.big p hp).2
      exact .inr (.inr ⟨this,zgn this⟩)
   intro k hk l hl e
   have:=key k hk
   have:=key l hl
   omega
 ·intro x hx
  simp only [List.mem_map] at hx
  obtain ⟨p,_,rfl⟩:=hx
  simp [epV]
 ·intro k hk
  rcases List.mem_cons.1 hk with rfl|hk
  ·simp [dom,upd]
  ·rcases List.mem_cons.1 hk with rfl|hk
   ·simp [dom,upd]
   ·obtain ⟨p,hp,rfl⟩:=zad.1 hk
    have hpb:=hT.ok.big p hp
    refine ⟨hpb.1,?_⟩
    unfold dom
    dsimp only
    simp (disch:=omega) only [zbw,zaa,zag,zaq,if_neg,zbb]
    rw [hT.mem p hp]
    simp
 ·intro k hk b hb1
  rcases List.mem_cons.1 hk with rfl|hk
  ·simp [upd] at hb1;subst hb1;simp [cfB,zac,zah,zal,hT.ia]
  ·rcases List.mem_cons.1 hk with rfl|hk
   ·simp [upd] at hb1;subst hb1;simp [zej,zac,zah,zal,hT.ib]
   ·obtain ⟨p,hp,rfl⟩:=zad.1 hk
    have hpb:=hT.ok.big p hp
    dsimp only at hb1
    simp (disch:=omega) only [zbw,zaa,zag,zaq,if_neg,zbb] at hb1
    rw [hT.mem p hp] at hb1
    simp only [Option.some.injEq] at hb1
    subst hb1
    exact Blk.fx_ids (hT.fx p hp) _
 ·intro C0 h1 h2
  refine zbi _ 300 (h1.trans hC) G0F (m0:=[]) (hasd C0 h2) (by omega) ?_ ?_ ?_
  ·simp [zpb,epM,zan,za0,zah,zal,dom]
  ·simp [epM,zlo,spB,zac,zah,zal,dom,upd,zar]
   rfl
  ·simp
 ·simp [epI,pS]
 ·intro k hk
  have h3:k=280\/k=281\/(100<=k/\k<200):=by
   rcases List.mem_cons.1 hk with rfl|hk
   ·exact .inl rfl
   ·rcases List.mem_cons.1 hk with rfl|hk
    ·exact .inr (.inl rfl)
    ·obtain ⟨p,hp,rfl⟩:=zad.1 hk
     exact .inr (.inr (hT.ok.big p hp))
  rw [jag (λhm=>?_)]
  ·exact zff k (by omega)
  ·simp [epM,zab] at hm
   omega
 ·intro j x hq0 hj0 hx hI C1 lb hC1 hh1 hY1
  have hj:j<(zg5 n).length:=by omega
  have hz1:=hbef j hj0 hj
  unfold epI at hI
  subst hI
  rw [List.getElem?_map,List.getElem?_eq_getElem hj] at hx
  simp only [Option.map_some,Option.some.injEq] at hx
  subst hx
  have t1:=zlz (λi k=>zfe g (fm i) (fm k) (zfl fs i k)) hj
  have t2:=zlz (λi k=>zkc g (fm i) (fm k) (zfl fs i k)) hj
  have hmem:=List.getElem_mem hj
  unfold epI
  rw [t1,t2]
  clear t1 t2
  generalize (zg5 n)[j]=p at *
  obtain ⟨hl1,hl2⟩:=zpa hmem
  have hsq:=zve hrt (i:=p.1) (k:=p.2) hl2 (by omega)
  have hg:=zu3 hok
  have hm1:=zc0 hok (i:=p.1) hl2
  have hm2:=zc0 hok (i:=p.2) (by omega)
  have hEI:EIn g (fm p.1) (fm p.2) (zfl fs p.1 p.2):=⟨hg.1,hg.2,hm1.1,hm1.2,hm2.1,hm2.2,hsq.1,hsq.2⟩
  have P:=zql hEI (by omega) rfl rfl
  have hlo:=hEI.lo (by omega)
  have hhi:=hEI.hi (by omega)
  have hld:=z46 hq4
  generalize pS (λi k=>zfe g (fm i) (fm k) (zfl fs i k)) ((zg5 n).take j)=A at *
  generalize pS (λi k=>zkc g (fm i) (fm k) (zfl fs i k)) ((zg5 n).take j)=H at *
  generalize zfe g (fm p.1) (fm p.2) (zfl fs p.1 p.2)=lo at *
  generalize zkc g (fm p.1) (fm p.2) (zfl fs p.1 p.2)=hi at *
  have il:i64 lo:=⟨by omega,by omega⟩
  have ih:i64 hi:=⟨by omega,by omega⟩
  have hCC:=hC
  have hC1':C1.G=G0:=hC1.trans hC
  unfold epV
  clear hC hY
  have hC:=hC1'
  have hY:=hY1
  unfold epM spB ezB
  repeat' first|refine gwZ ?_|(refine gwX ?_;intro Q hQ _;simp [hC,hY,zao,zpb];refine gwq hQ ?_)|refine gwC ?_ ?_<;>intro hb
  intro C2 hC2 hh2 hY2
  clear hC hY
  have hC:C2.G=G0:=hC2.trans hCC
  have hY:=hY2
  repeat' first|refine gwZ ?_|(refine gwX ?_;intro Q hQ _;simp [hC,hY,P,hld,il,ih];refine gwq hQ ?_)|refine gwC ?_ ?_<;>intro hb
  refine ⟨λk=>k,hpL G0 (epM cq (A+lo) (H+hi)),λC0 h1 h2=>zxx _ _ 300 (h1.trans hCC) G0F (m0:=[]) (hasd C0 h2) (by omega) ?_ ?_ ?_ ?_ ?_,rfl⟩
  ·simp [zpb,epM,dom,zcj,ren,zay,zaj,zam,zan,za0,zah,zal]
  ·simp [epM,z2o,zlo,spB,Blk.rn,zaj,zam,zac,zah,zal,dom]
   rfl
  ·simp [epM]
  ·intro k hk;rfl
  ·simp
 ·refine .inr ⟨epV fm fs (zg5 n)[N].1 (zg5 n)[N].2,by rw [List.getElem?_map,List.getElem?_eq_getElem hN];rfl,?_⟩
  intro hq0 hI C1 lb hC1 hh1 hY1
  unfold epI at hI
  subst hI
  have hmem:=List.getElem_mem hN
  generalize (zg5 n)[N]=p at *
  obtain ⟨hl1,hl2⟩:=zpa hmem
  have hsq:=zve hrt (i:=p.1) (k:=p.2) hl2 (by omega)
  have hg:=zu3 hok
  have hm1:=zc0 hok (i:=p.1) hl2
  have hm2:=zc0 hok (i:=p.2) (by omega)
  have hEI:EIn g (fm p.1) (fm p.2) (zfl fs p.1 p.2):=⟨hg.1,hg.2,hm1.1,hm1.2,hm2.1,hm2.2,hsq.1,hsq.2⟩
  have P:=zvb hEI hzN
  have hld:=z46 hq4
  generalize pS (λi k=>zfe g (fm i) (fm k) (zfl fs i k)) ((zg5 n).take N)=A at *
  generalize pS (λi k=>zkc g (fm i) (fm k) (zfl fs i k)) ((zg5 n).take N)=H at *
  have hCC:=hC
  have hC1':C1.G=G0:=hC1.trans hC
  unfold epV
  clear hC hY
  have hC:=hC1'
  have hY:=hY1
  unfold epM spB ezB
  repeat' first|refine gwZ ?_|(refine gwX ?_;intro Q hQ _;simp [hC,hY,zao,zpb];refine gwq hQ ?_)|refine gwC ?_ ?_<;>intro hb
  intro C2 hC2 hh2 hY2
  clear hC hY
  have hC:C2.G=G0:=hC2.trans hCC
  have hY:=hY2
  repeat' first|refine gwZ ?_|(refine gwX ?_;intro Q hQ _;simp [hC,hY,P,hld,zar];refine gwq hQ ?_)|refine gwC ?_ ?_<;>intro hb
  have hm16:=hout 216 (by omega) (by omega) (by omega)
  have hm24:=hout 224 (by omega) (by omega) (by omega)
  refine ⟨rfl,λt=>?_,λk hk=>?_,?_⟩
  ·rcases zdv (l:=[(2,.pointer (some ⟨200,0,none⟩)),(4,.pointer (some ⟨216,0,none⟩)),(5,.pointer (some ⟨224,0,none⟩))]) (t:=t) with h|h
   ·unfold zpb;rw [h];simp [zcj,zan,za0,zah,zal]
   ·simp only [List.mem_cons,List.not_mem_nil,or_false,Prod.mk.injEq] at h
    unfold zpb
    rcases h with ⟨_,h⟩|⟨_,h⟩|⟨_,h⟩<;>rw [h]<;>simp [zan,za0,zah,zal,dom]
  ·have h3:k=280\/k=281\/(100<=k/\k<200):=by
    rcases List.mem_cons.1 hk with rfl|hk
    ·exact .inl rfl
    ·rcases List.mem_cons.1 hk with rfl|hk
     ·exact .inr (.inl rfl)
     ·obtain ⟨p,hp,rfl⟩:=zad.1 hk
      exact .inr (.inr (hT.ok.big p hp))
   refine ⟨?_,by omega⟩
   simp (disch:=omega) only [zaa,zag,zaq,if_neg,zbb]
   exact zff k (by omega)
  ·
   repeat' first|refine gwZ ?_|(refine gwX ?_;intro Q hQ _;simp [hC,hY,zbw,hm16,hm24];refine gwq hQ ?_)|refine gwC ?_ ?_<;>intro hb
   refine ⟨.inr rfl,by simp [results66,spV,zbw,hm16,hm24,zpb,zar],zbz G0F (λp hp=>by
    have hpb:=hT.ok.big p hp
    have hm9:p.1∈280::281::zab L:=List.mem_cons_of_mem _ (List.mem_cons_of_mem _ (zad.2 ⟨p,hp,rfl⟩))
    simp (disch:=omega) only [eIn hm9,zaa,zag,zaq,if_neg,zbb]) (λk hk=>by
    have hm9:k∉280::281::zab L:=λhm9=>by
     rcases List.mem_cons.1 hm9 with rfl|hm9
     ·omega
     ·rcases List.mem_cons.1 hm9 with rfl|hm9
      ·omega
      ·obtain ⟨p,hp,rfl⟩:=zad.1 hm9
       have:=(hT.ok.big p hp).1
       omega
    simp (disch:=omega) only [eNi hm9,zaa,zag,zaq,if_neg,zbb,hLow])⟩
theorem zjb (E:Int) (hE:¬E=0) (L:List (Nat×Blk)) (ks:Nat) (bm bs:Blk) (hT:LTwo G0 L ks bm bs) (off n cap off2 n2 cap2:Nat) (g bx tp nr md st:Int)
  (hpo:Fun prog G0 66 #[cfV (.slice (some ⟨100,off,none⟩) n cap) g bx tp nr md,.agg #[.int .i64 st,.slice (some ⟨ks,off2,none⟩) n2 cap2]] (hpL G0 L) (zab L) (.ret (.tuple #[spV 0 0,.int .i64 E]) [])) :
  Fun prog G0 36 #[cfV (.slice (some ⟨100,off,none⟩) n cap) g bx tp nr md,.agg #[.int .i64 st,.slice (some ⟨ks,off2,none⟩) n2 cap2]] (hpL G0 L) (zab L) (.ret (.tuple #[spV 0 0,.int .i64 E]) []):=by
 refine zaz (B:=200) G0F func36 rfl call36 hT.ok ?_ (zak (by simp [spV])) (by simp) (by simp) (by simp [ntmps36]) (by omega) ?_
 ·simp [zan,za0,zah,zal,hT.ia,hT.ib,cfV]
 intro C hC hC0 hY
 have hA:=hT.a
 have hS:=hT.s
 have hne:=hT.ne
 have hLow:=hT.low
 have hks:=hT.k1
 have hks2:=hT.k2
 have hEb:(E != 0)=true:=by simpa using hE
 have hEq:(E==0)=false:=by simpa using hE
 unfold cfV spV at hpo
 unfold cfV
 repeat' first|refine gwZ ?_|((first|refine gwR [66] ?_|refine gwD [66] ?_);intro Q hQ _;(repeat first|simp [hC,hY,hA,hS,hne,zar,hE,hEb,hEq]|refine zby hpo hT.ok zg0 ?_);refine gwq hQ ?_)|refine gwC ?_ ?_<;>intro hb
 refine ⟨.inr rfl,by simp [results36,spV,zar],kpT G0F⟩
def eLo (E:Int) (g:Int) (fm fs:Nat->Int) (n:Nat):Int:=if E=0 then z5v fm fs n - zs8 g fm fs n else 0
def eHi (E:Int) (g:Int) (fm fs:Nat->Int) (n:Nat):Int:=if E=0 then z5v fm fs n - zs9 g fm fs n else 0
def enE (n n2:Nat) (fm fs:Nat->Int) (g bx tp nr md st:Int):Int:=ji4 n n2 (zf6 n fm g bx tp nr md) (zco st fs n2) fs
def enV (n n2:Nat) (fm fs:Nat->Int) (g bx tp nr md st:Int):Value:=.tuple #[spV (eLo (enE n n2 fm fs g bx tp nr md st) g fm fs n2) (eHi (enE n n2 fm fs g bx tp nr md st) g fm fs n2),.int .i64 (enE n n2 fm fs g bx tp nr md st)]
theorem zqh (n n2:Nat) (fm fs:Nat->Int) (g bx tp nr md st:Int):zau (enV n n2 fm fs g bx tp nr md st)=true:=by simp [enV,spV]
theorem znc (L:List (Nat×Blk)) (ks:Nat) (bm bs:Blk) (hT:LTwo G0 L ks bm bs) (off n cap off2 n2 cap2:Nat) (fm fs:Nat->Int) (hm:MB bm off n fm) (hSb:SB bs off2 n2 fs) (hcap:n<=cap) (hcap2:n2<=cap2) (g bx tp nr md st:Int) (hs:i64 st) :
  Fun prog G0 36 #[cfV (.slice (some ⟨100,off,none⟩) n cap) g bx tp nr md,.agg #[.int .i64 st,.slice (some ⟨ks,off2,none⟩) n2 cap2]] (hpL G0 L) (zab L) (.ret (enV n n2 fm fs g bx tp nr md st) []):=by
 unfold enV eLo eHi enE ji4
 cases hf:zvg n n2 (zf6 n fm g bx tp nr md) (zco st fs n2) with
 | false =>
  simp only [Bool.false_eq_true,if_false,if_neg (show ¬(2:Int)=0 by decide)]
  exact zjb 2 (by decide) L ks bm bs hT off n cap off2 n2 cap2 g bx tp nr md st (zzp L ks bm bs hT off n cap off2 n2 cap2 fm fs hm hSb g bx tp nr md st hs hf)
 | true =>
  obtain ⟨rfl,hok,hrt⟩:=ze2.1 hf
  by_cases hz:z3l fs n=0
  ·simp only [if_true,if_pos hz]
   exact zo9 L ks bm bs hT off n cap off2 cap2 fm fs hm hSb hcap hcap2 g bx tp nr md st hs hok hrt hz
  ·simp only [if_true,if_neg hz,if_neg (show ¬(30:Int)=0 by decide)]
   exact zjb 30 (by decide) L ks bm bs hT off n cap off2 n cap2 g bx tp nr md st (zvd L ks bm bs hT off n cap off2 cap2 fm fs hm hSb hcap2 g bx tp nr md st hs hok hrt hz)
end Go.Gy
namespace Go.Gy
open Go Go.RowKit Go.Proofs
end Go.Gy
namespace Go.Gy
open Go Go.RowKit
section
variable {P:Program} {G G':Hp}
structure LOd (G:Hp) (m:List (Nat×Blk)) (B:Nat):Prop where
 big:∀ p∈m,100<=p.1/\p.1<B
 one:(zab m).Nodup
 ids:∀ p∈m,p.2.ids (dom (hpL G m))
theorem LOk.sub' {m:List (Nat×Blk)} (h1:(zab m).Nodup) (k:Nat) (hk:k∈zab m):dom (hpL G m) k:=by
 obtain ⟨p,hp,rfl⟩:=zad.1 hk
 unfold dom;rw [LOk.at h1 p hp];simp
theorem LOd.low {m:List (Nat×Blk)} {B:Nat} (h:LOd G m B):∀ k,k<100->hpL G m k=G k:=λ_ hk=>za7 (λp hp=>(h.big p hp).1) hk
theorem LOd.sub {m:List (Nat×Blk)} {B:Nat} (h:LOd G m B) (k:Nat) (hk:k∈zab m):dom (hpL G m) k:=LOk.sub' h.one k hk
theorem LOd.closed {m:List (Nat×Blk)} {B:Nat} (hGF:zbg G) (h:LOd G m B) (k:Nat) (b:Blk) (hk:hpL G m k=some b):b.ids (dom (hpL G m)):=by
 rcases za5 hk with h1|h1
 ·exact h.ids (k,b) h1
 ·exact Blk.flat_ids (hGF k b h1).2
theorem LOd.free {m:List (Nat×Blk)} {B:Nat} (hGF:zbg G) (hB:100<=B) (h:LOd G m B) (x:Nat) (hx:B<=x):hpL G m x=none:=by
 cases hb:hpL G m x with
 | none=>rfl
 | some b =>
  rcases za5 hb with h1|h1
  ·have:=(h.big _ h1).2;simp at this;omega
  ·have:=(hGF x b h1).1;omega
structure MvG (G G':Hp) (m m':List (Nat×Blk)) (ρ:Nat->Nat):Prop where
 gf:zbg G
 gf':zbg G'
 ok:∃ B,LOk m B
 ok':∃ B,LOk m' B
 sub:∀ k b,G k=some b->G' k=some b/\ρ k=k
 at':∀ p∈m,∃ c,hpL G' m' (ρ p.1)=some c/\∀ r,c.obj r=(p.2.rn ρ).obj r
 inj:∀ k∈zab m,∀ l∈zab m,ρ k=ρ l->k=l
 far:∀ k∈zab m,∀ l b,G l=some b->ρ k≠l
theorem MvG.dom {m m':List (Nat×Blk)} {ρ:Nat->Nat} (h:MvG G G' m m' ρ) {k:Nat} (hk:Gy.dom (hpL G m) k):Gy.dom (hpL G' m') (ρ k):=by
 unfold Gy.dom at hk
 cases hb:hpL G m k with
 | none=>exact absurd hb hk
 | some b =>
  rcases za5 hb with h1|h1
  ·obtain ⟨c,h2,_⟩:=h.at' (k,b) h1
   unfold Gy.dom
   rw [show hpL G' m' (ρ k)=some c from h2]
   simp
  ·obtain ⟨h2,h3⟩:=h.sub k b h1
   obtain ⟨B,ok'⟩:=h.ok'
   unfold Gy.dom
   rw [h3,ok'.low k (h.gf k b h1).1,h2]
   simp
theorem MvG.run {m m':List (Nat×Blk)} {ρ:Nat->Nat} (h:MvG G G' m m' ρ) (hcl:∀ k b,hpL G m k=some b->b.ids (Gy.dom (hpL G m))) {r:Nat->Nat} {W:World} (hg:GOK G' W) (hs:Sat r (Gy.dom (hpL G' m')) (hpL G' m') W) (hi:Inj r (Gy.dom (hpL G' m'))) (hl:∀ k,k<100->Gy.dom (hpL G' m') k->r k=k) :
  GOK G W/\Sat (λk=>r (ρ k)) (Gy.dom (hpL G m)) (hpL G m) W/\Inj (λk=>r (ρ k)) (Gy.dom (hpL G m))/\(∀ k,k<100->Gy.dom (hpL G m) k->r (ρ k)=k):=by
 obtain ⟨B',ok'⟩:=h.ok'
 obtain ⟨B,ok⟩:=h.ok
 have hG:GOK G W:=λk b hk=>hg k b (h.sub k b hk).1
 have key:∀ k,Gy.dom (hpL G m) k->(k∈zab m/\100<=k)\/(∃ b,G k=some b/\k<100/\ρ k=k):=λk hk=>by
  unfold Gy.dom at hk
  cases hb:hpL G m k with
  | none=>exact absurd hb hk
  | some b =>
   rcases za5 hb with h1|h1
   ·exact .inl ⟨zad.2 ⟨_,h1,rfl⟩,(ok.big _ h1).1⟩
   ·exact .inr ⟨b,h1,(h.gf k b h1).1,(h.sub k b h1).2⟩
 refine ⟨hG,λk b hk=>⟨?_,hcl k b hk⟩,λk l hk hl' e=>?_,λk hk hd=>?_⟩
 ·rcases za5 hk with h1|h1
  ·obtain ⟨c,h2,h3⟩:=h.at' (k,b) h1
   rw [(hs _ c h2).1,h3 r,Blk.rn_obj]
  ·obtain ⟨h2,h3⟩:=h.sub k b h1
   have h4:=(h.gf k b h1).1
   have h5:hpL G' m' k=some b:=by rw [ok'.low k h4,h2]
   have:=(hs k b h5).1
   show W.heap[r (ρ k)]? = _
   rw [h3,this]
   exact congrArg some (Blk.obj_congr (D:=λ_=>False) (λ_ hf=>hf.elim) (Blk.flat_ids (h.gf k b h1).2))
 ·have e2:ρ k=ρ l:=hi _ _ (h.dom hk) (h.dom hl') e
  rcases key k hk with ⟨k1,_⟩|⟨b,k1,_,k2⟩<;>rcases key l hl' with ⟨l1,_⟩|⟨c,l1,_,l2⟩
  ·exact h.inj k k1 l l1 e2
  ·exact absurd (e2.trans l2) (h.far k k1 l c l1)
  ·exact absurd (e2.symm.trans k2) (h.far l l1 k b k1)
  ·rw [<-k2,<-l2,e2]
 ·rcases key k hd with ⟨_,k1⟩|⟨b,k1,k3,k2⟩
  ·omega
  ·have:=hl k hk (by have:=h.dom hd;rwa [k2] at this)
   rw [k2,this]
theorem Fun.mvG {f:FuncId} {args args':Array Value} {m m' ws:List (Nat×Blk)} {v:Value} {ρ:Nat->Nat} (hi:Fun P G f args (hpL G m) (zab m) (.ret v ws)) (h:MvG G G' m m' ρ) (hw:∀ k∈zab ws,ρ k∈zab m') (ea:args.map (ren ρ)=args') :
  Fun P G' f args' (hpL G' m') (zab m') (.ret (ren ρ v) (rnL ρ ws)):=by
 subst ea
 have er:=LOk.rst (m:=m) h.gf
 have er':=LOk.rst (m:=m') h.gf'
 obtain ⟨B',ok'⟩:=h.ok'
 obtain ⟨en,ids,closed,fits,run⟩:=hi
 rw [er] at ids closed run
 obtain ⟨f1,f2,f3,f4⟩:=fits
 rw [er] at f1 f4
 refine ⟨en,λx hx=>?_,λk b hb=>?_,⟨?_,λk hk=>?_,λk b c h1 h2=>?_,λp hp1=>?_⟩,λr W hgok hsat hinj hlow=>?_⟩
 ·rw [er']
  obtain ⟨y,hy,rfl⟩:=Array.mem_map.1 hx
  exact zfv (λk hk=>h.dom hk) (ids y hy)
 ·rw [er'] at hb |-
  exact ok'.closed h.gf' k b hb
 ·rw [er'];exact zfv (λk hk=>h.dom hk) f1
 ·obtain ⟨q,hq,rfl⟩:=ziw hk
  have h1:=hw q hq
  refine ⟨h1,ok'.sub _ h1,?_⟩
  obtain ⟨p,hp,e⟩:=zad.1 h1
  rw [<-e];exact (ok'.big p hp).1
 ·simp only [rnL,List.mem_map,Prod.mk.injEq] at h1 h2
  obtain ⟨p,hp1,e1,rfl⟩:=h1
  obtain ⟨q,hq1,e2,rfl⟩:=h2
  have k1:=f2 p.1 (zad.2 ⟨p,hp1,rfl⟩)
  have k2:=f2 q.1 (zad.2 ⟨q,hq1,rfl⟩)
  have e3:=h.inj p.1 k1.1 q.1 k2.1 (e1.trans e2.symm)
  rw [f3 p.1 p.2 q.2 hp1 (by rw [e3];exact hq1)]
 ·simp only [rnL,List.mem_map] at hp1
  obtain ⟨p,hp1,rfl⟩:=hp1
  rw [er']
  exact Blk.ids_rn (λk hk=>h.dom hk) (f4 p hp1)
 ·rw [er'] at hsat hinj hlow
  obtain ⟨s0,s1,s2,s3⟩:=h.run closed hgok hsat hinj hlow
  have hrun:=run (λk=>r (ρ k)) W s0 s1 s2 s3
  have ha:(args.map (ren ρ)).map (ren r)=args.map (ren λk=>r (ρ k)):=by
   rw [Array.map_map]
   exact Array.map_congr_left λx _=>zcc r ρ x
  rw [ha]
  refine hrun.mono λe W' ⟨he,ht⟩=>⟨?_,ht.os,ht.tape,ht.output,ht.size,λk hk hnw=>ht.same k hk λp hp1=>?_,λp hp1=>?_,by simp,by simp⟩
  ·rw [he,zcc]
  ·exact hnw (ρ p.1,p.2.rn ρ) (by simp only [rnL,List.mem_map];exact ⟨p,hp1,rfl⟩)
  ·simp only [List.append_nil,rnL,List.mem_map] at hp1
   obtain ⟨p,hp1,rfl⟩:=hp1
   have hh:=ht.has p (by simpa using hp1)
   refine ⟨by rw [Blk.rn_obj];exact hh.1,?_⟩
   rw [er']
   exact Blk.ids_rn (λk hk=>hk.elim (λh1=>.inl (h.dom h1)) (λh1=>.inr (by simp [zab] at h1))) hh.2
theorem FunS.mvG {f:FuncId} {args args':Array Value} {m m':List (Nat×Blk)} {R R':Value->List (Nat×Blk)->Prop} {ρ:Nat->Nat} (hi:FunS P G f args (hpL G m) (zab m) R) (h:MvG G G' m m' ρ) (ea:args.map (ren ρ)=args') (eR:RR ρ R=R')
  (hnew:∀ v ns,R v ns->∀ k∈zab ns,100<=ρ k/\¬dom (hpL G' m') (ρ k)) (hnj:∀ v ns,R v ns->∀ k∈zab ns,∀ l∈zab ns,ρ k=ρ l->k=l):FunS P G' f args' (hpL G' m') (zab m') R':=by
 subst ea eR
 have er:=LOk.rst (m:=m) h.gf
 have er':=LOk.rst (m:=m') h.gf'
 obtain ⟨B',ok'⟩:=h.ok'
 obtain ⟨en,ids,closed,fits,run⟩:=hi
 rw [er] at ids closed run fits
 have hext:∀ ns,∀ k,zcu (dom (hpL G m)) ns k->zcu (dom (hpL G' m')) (rnL ρ ns) (ρ k):=λns k hk=>hk.elim (λh1=>.inl (h.dom h1)) (λh1=>.inr (zih h1))
 refine ⟨en,λx hx=>?_,λk b hb=>?_,λv' ns' hR'=>?_,λr W hgok hsat hinj hlow=>?_⟩
 ·rw [er']
  obtain ⟨y,hy,rfl⟩:=Array.mem_map.1 hx
  exact zfv (λk hk=>h.dom hk) (ids y hy)
 ·rw [er'] at hb |-
  exact ok'.closed h.gf' k b hb
 ·rw [er']
  obtain ⟨v,ns,hR,rfl,rfl⟩:=hR'
  obtain ⟨f1,f2,f3,f4⟩:=fits v ns hR
  refine ⟨zfv (hext ns) f1,λk hk=>?_,λk b c h1 h2=>?_,λp hp1=>?_⟩
  ·obtain ⟨q,hq,rfl⟩:=ziw hk
   exact hnew v ns hR q hq
  ·simp only [rnL,List.mem_map,Prod.mk.injEq] at h1 h2
   obtain ⟨p,hp1,e1,rfl⟩:=h1
   obtain ⟨q,hq1,e2,rfl⟩:=h2
   have e3:=hnj v ns hR p.1 (zad.2 ⟨p,hp1,rfl⟩) q.1 (zad.2 ⟨q,hq1,rfl⟩) (e1.trans e2.symm)
   rw [f3 p.1 p.2 q.2 hp1 (by rw [e3];exact hq1)]
  ·simp only [rnL,List.mem_map] at hp1
   obtain ⟨p,hp1,rfl⟩:=hp1
   exact Blk.ids_rn (hext ns) (f4 p hp1)
 ·rw [er'] at hsat hinj hlow |-
  obtain ⟨s0,s1,s2,s3⟩:=h.run closed hgok hsat hinj hlow
  have hrun:=run (λk=>r (ρ k)) W s0 s1 s2 s3
  have ha:(args.map (ren ρ)).map (ren r)=args.map (ren λk=>r (ρ k)):=by
   rw [Array.map_map]
   exact Array.map_congr_left λx _=>zcc r ρ x
  rw [ha]
  refine hrun.mono λe W' ⟨v,ns,r1,hR,hr1,he,ht⟩=>?_
  obtain ⟨f1,f2,f3,f4⟩:=fits v ns hR
  let r2:Nat->Nat:=λk'=>match (zab ns).find? (λk=>ρ k==k') with|some k=>r1 k|none=>r k'
  have e1:∀ k∈zab ns,r2 (ρ k)=r1 k:=λk hk=>by
   show (match (zab ns).find? (λl=>ρ l==ρ k) with|some k=>r1 k|none=>r (ρ k))=r1 k
   cases hf:(zab ns).find? (λl=>ρ l==ρ k) with
   | none=>have:=List.find?_eq_none.1 hf k hk;simp at this
   | some l =>
    have h1:=List.find?_some hf
    have h2:=List.mem_of_find?_eq_some hf
    simp only [beq_iff_eq] at h1
    rw [hnj v ns hR l h2 k hk h1]
  have e2:∀ k,dom (hpL G' m') k->r2 k=r k:=λk hk=>by
   show (match (zab ns).find? (λl=>ρ l==k) with|some k=>r1 k|none=>r k)=r k
   cases hf:(zab ns).find? (λl=>ρ l==k) with
   | none=>rfl
   | some l =>
    have h1:=List.find?_some hf
    have h2:=List.mem_of_find?_eq_some hf
    simp only [beq_iff_eq] at h1
    exact absurd (h1▸hk) (hnew v ns hR l h2).2
  have e3:∀ k,zcu (dom (hpL G m)) ns k->r2 (ρ k)=r1 k:=λk hk=>hk.elim (λh1=>by rw [e2 _ (h.dom h1),hr1 k h1]) (λh1=>e1 k h1)
  refine ⟨ren ρ v,rnL ρ ns,r2,⟨v,ns,hR,rfl,rfl⟩,e2,?_,ht.os,ht.tape,ht.output,ht.size,λk hk hnw=>ht.same k hk (by simp),λp hp1=>?_,λp hp1=>?_,λp hp1 q hq1 hpq=>?_⟩
  ·rw [he,zcc]
   exact congrArg _ (zcn (D:=zcu (dom (hpL G m)) ns) (λk hk=>(e3 k hk).symm) f1)
  ·simp only [List.nil_append,rnL,List.mem_map] at hp1
   obtain ⟨p,hp1,rfl⟩:=hp1
   have hh:=ht.has p (by simpa using hp1)
   refine ⟨?_,Blk.ids_rn (hext ns) hh.2⟩
   rw [Blk.rn_obj,Blk.obj_congr e3 hh.2]
   show W'.heap[r2 (ρ p.1)]? = _
   rw [e1 _ (zad.2 ⟨p,hp1,rfl⟩)]
   exact hh.1
  ·simp only [rnL,List.mem_map] at hp1
   obtain ⟨p,hp1,rfl⟩:=hp1
   show W.heap.size<=r2 (ρ p.1)
   rw [e1 _ (zad.2 ⟨p,hp1,rfl⟩)]
   exact ht.fresh p hp1
  ·simp only [rnL,List.mem_map] at hp1 hq1
   obtain ⟨p,hp1,rfl⟩:=hp1
   obtain ⟨q,hq1,rfl⟩:=hq1
   have k1:=zad.2 ⟨p,hp1,rfl⟩
   have k2:=zad.2 ⟨q,hq1,rfl⟩
   have hpq':r2 (ρ p.1)=r2 (ρ q.1):=hpq
   rw [e1 _ k1,e1 _ k2] at hpq'
   have:=ht.apart p hp1 q hq1 hpq'
   show ρ p.1=ρ q.1
   rw [this]
end
end Go.Gy
namespace Go.Gy
open Go Go.RowKit Go.Proofs Go.Proofs.Tryz
theorem zsp (N:Int) (v:Nat->Int) (w0:wr (v 0)) (w1:wr (v 1)) (h0:v 0<=v 1) (h1:i64 (v 1 - v 0)):Ret prog G0 12 #[zbq N v] (.tuple #[.int .i64 (v 1 - v 0),.bool true]):=by
 unfold zbq za8
 refine za2 G0F func12 rfl call12 (by simp) (by simp) (by simp [ntmps12]) ?_
 intro C hC hC0 hY
 have hw:=λ(K:Value->Prop)=>zaf (K:=K) G0W (by kernel_rfl) (zng (v 0) (v 1) w0 w1 h0 h1)
 unfold spV at hw
 repeat' first|refine gwZ ?_|(refine gwX ?_;intro Q hQ _;simp [hC,hY,hw];refine gwq hQ ?_)|refine gwC ?_ ?_<;>intro hb
 refine ⟨.inr trivial,?_⟩
 simp [results12]
theorem zo6 {n:Nat} {f:Nat->Int} {g bx tp nr md:Int} (h:zf6 n f g bx tp nr md=true):1<=n/\n<=4:=by
 unfold zf6 wiB at h
 simp only [Bool.and_eq_true,decide_eq_true_eq] at h
 omega
def prC (ok:Bool) (n:Nat):Int:=if ok then (n*(n - 1) / 2:Nat) else 0
theorem zwr (b:Blk) (off n cap:Nat) (f:Nat->Int) (h:MB b off n f) (g bx tp nr md:Int) :
  Fun prog G0 51 #[cfV (.slice (some ⟨100,off,none⟩) n cap) g bx tp nr md] (hpL G0 [(100,b)]) (zab [(100,b)]) (.ret (.int .i64 (prC (zf6 n f g bx tp nr md) n)) []):=by
 refine zaz (B:=200) G0F func51 rfl call51 (zax h.fx) ?_ (by simp) (by simp) (by simp) (by simp [ntmps51]) (by omega) ?_
 ·simp [zan,za0,zah,zal,zab,cfV]
 intro C hC hC0 hY
 have hr:=λρ=>Blk.fx_rn h.fx ρ
 have hck:=zi7 b off n cap f h g bx tp nr md
 unfold prC
 cases hc:zf6 n f g bx tp nr md with
 | true =>
  rw [hc] at hck
  have hn:=zo6 hc
  have:n=1\/n=2\/n=3\/n=4:=by omega
  clear hc
  unfold cfV at hck |-
  rcases this with rfl|rfl|rfl|rfl
  all_goals
   repeat' first|refine gwZ ?_|((first|refine gwR [83] ?_|refine gwD [83] ?_);intro Q hQ _;(repeat first|simp [hC,hY]|refine zae hck G0F (B:=200) (zax h.fx) (λk=>k) (λk hk=>rfl) (by simp [ren,zay,zaj,zam,cfV]) (by simp) (by simp [hr]) (by simp [zab]) (by simp [zab];rfl) ?_);refine gwq hQ ?_)|refine gwC ?_ ?_<;>intro hb
   refine ⟨.inr rfl,by simp [results51],kpS G0F⟩
 | false =>
  rw [hc] at hck
  unfold cfV at hck |-
  repeat' first|refine gwZ ?_|((first|refine gwR [83] ?_|refine gwD [83] ?_);intro Q hQ _;(repeat first|simp [hC,hY]|refine zae hck G0F (B:=200) (zax h.fx) (λk=>k) (λk hk=>rfl) (by simp [ren,zay,zaj,zam,cfV]) (by simp) (by simp [hr]) (by simp [zab]) (by simp [zab];rfl) ?_);refine gwq hQ ?_)|refine gwC ?_ ?_<;>intro hb
  refine ⟨.inr rfl,by simp [results51],kpS G0F⟩
theorem jc3 (ok:Bool) {n:Nat} (h:ok=true->n<=4):0<=prC ok n/\prC ok n<=6:=by
 unfold prC
 cases ok with
 | false=>simp
 | true =>
  have hn:=h rfl
  have:n=0\/n=1\/n=2\/n=3\/n=4:=by omega
  rcases this with rfl|rfl|rfl|rfl|rfl<;>decide
theorem z0t (b:Blk) (off n cap:Nat) (f:Nat->Int) (h:MB b off n f) (g bx tp nr md:Int) :
  Fun prog G0 20 #[cfV (.slice (some ⟨100,off,none⟩) n cap) g bx tp nr md] (hpL G0 [(100,b)]) (zab [(100,b)]) (.ret (.int .i64 (2*prC (zf6 n f g bx tp nr md) n)) []):=by
 refine zaz (B:=200) G0F func20 rfl call20 (zax h.fx) ?_ (by simp) (by simp) (by simp) (by simp [ntmps20]) (by omega) ?_
 ·simp [zan,za0,zah,zal,zab,cfV]
 intro C hC hC0 hY
 have hr:=λρ=>Blk.fx_rn h.fx ρ
 have hpr:=zwr b off n cap f h g bx tp nr md
 have hb:=jc3 (zf6 n f g bx tp nr md) (n:=n) λh=>(zo6 h).2
 generalize prC (zf6 n f g bx tp nr md) n=z at *
 have hs:Int.bmod (2*z) 18446744073709551616=2*z:=bm (by omega) (by omega)
 unfold cfV at hpr |-
 repeat' first|refine gwZ ?_|((first|refine gwR [51] ?_|refine gwD [51] ?_);intro Q hQ _;(repeat first|simp [hC,hY,hs]|refine zae hpr G0F (B:=200) (zax h.fx) (λk=>k) (λk hk=>rfl) (by simp [ren,zay,zaj,zam,cfV]) (by simp) (by simp [hr]) (by simp [zab]) (by simp [zab];rfl) ?_);refine gwq hQ ?_)|refine gwC ?_ ?_<;>intro hb
 refine ⟨.inr rfl,by simp [results20],kpS G0F⟩
def mv2 (ka kb k:Nat):Nat:=if k=100 then ka else if k=108 then kb else k
section
variable {L:List (Nat×Blk)} {ka kb:Nat} {bm ba:Blk}
theorem zwm {k:Nat} (h:k<100):mv2 ka kb k=k:=by unfold mv2;rw [if_neg (by omega),if_neg (by omega)]
theorem LAny.same (hT:LAny L) (ha:(ka,bm)∈L) (hb:(ka,ba)∈L):bm=ba:=by
 have h1:=hT.mem _ ha
 have h2:=hT.mem _ hb
 simp only at h1 h2
 rw [h1] at h2
 exact Option.some.inj h2
theorem LAny.mv1 (hT:LAny L) (ha:(ka,bm)∈L):MvG G0 G0 [(100,bm)] L (mv2 ka kb):=by
 have hka:=(hT.ok.big _ ha).1
 refine ⟨G0F,G0F,⟨200,zax (hT.fx _ ha)⟩,⟨200,hT.ok⟩,λk b hk=>⟨hk,zwm (G0F k b hk).1⟩,?_,?_,?_⟩
 ·intro p hp
  simp only [List.mem_singleton] at hp
  subst hp
  exact ⟨bm,hT.mem _ ha,λr=>by rw [Blk.fx_rn (hT.fx _ ha)]⟩
 ·intro k hk l hl e
  simp [zab] at hk hl
  omega
 ·intro k hk l b hl e
  simp [zab] at hk
  subst hk
  have:=(G0F l b hl).1
  unfold mv2 at e
  rw [if_pos rfl] at e
  simp only at hka
  omega
theorem LAny.mv2 (hT:LAny L) (ha:(ka,bm)∈L) (hb:(kb,ba)∈L) (hne:ka≠kb):MvG G0 G0 [(100,bm),(108,ba)] L (mv2 ka kb):=by
 have hka:=(hT.ok.big _ ha).1
 have hkb:=(hT.ok.big _ hb).1
 refine ⟨G0F,G0F,⟨200,(LTwo.two (G:=G0) (hT.fx _ ha) (hT.fx _ hb)).ok⟩,⟨200,hT.ok⟩,λk b hk=>⟨hk,zwm (G0F k b hk).1⟩,?_,?_,?_⟩
 ·intro p hp
  simp only [List.mem_cons,List.not_mem_nil,or_false] at hp
  rcases hp with rfl|rfl
  ·exact ⟨bm,hT.mem _ ha,λr=>by rw [Blk.fx_rn (hT.fx _ ha)]⟩
  ·exact ⟨ba,hT.mem _ hb,λr=>by rw [Blk.fx_rn (hT.fx _ hb)]⟩
 ·intro k hk l hl e
  simp [zab] at hk hl
  unfold Gy.mv2 at e
  rcases hk with rfl|rfl<;>rcases hl with rfl|rfl<;>simp at e<;>first|rfl|omega
 ·intro k hk l b hl e
  simp [zab] at hk
  have:=(G0F l b hl).1
  unfold Gy.mv2 at e
  simp only at hka hkb
  rcases hk with rfl|rfl<;>simp at e<;>omega
theorem zk1 {f:FuncId} {off n cap off2 n2 cap2:Nat} {g bx tp nr md st:Int} {v:Value} (hv:zau v=true) (hT:LAny L) (ha:(ka,bm)∈L) (hb:(kb,ba)∈L)
  (h:∀ (L':List (Nat×Blk)) (ks:Nat),LTwo G0 L' ks bm ba->Fun prog G0 f #[cfV (.slice (some ⟨100,off,none⟩) n cap) g bx tp nr md,.agg #[.int .i64 st,.slice (some ⟨ks,off2,none⟩) n2 cap2]] (hpL G0 L') (zab L') (.ret v [])) :
  Fun prog G0 f #[cfV (.slice (some ⟨ka,off,none⟩) n cap) g bx tp nr md,.agg #[.int .i64 st,.slice (some ⟨kb,off2,none⟩) n2 cap2]] (hpL G0 L) (zab L) (.ret v []):=by
 by_cases hne:ka=kb
 ·subst hne
  have:=hT.same ha hb
  subst this
  have h1:=(h _ _ (LTwo.one (hT.fx _ ha))).mvG (args':=#[cfV (.slice (some ⟨ka,off,none⟩) n cap) g bx tp nr md,.agg #[.int .i64 st,.slice (some ⟨ka,off2,none⟩) n2 cap2]]) (hT.mv1 (kb:=ka) ha) (by simp [zab]) (by simp [cfV,ren,zay,zaj,zam,Gy.mv2])
  rw [zap hv] at h1
  exact h1
 ·have h1:=(h _ _ (LTwo.two (hT.fx _ ha) (hT.fx _ hb))).mvG (args':=#[cfV (.slice (some ⟨ka,off,none⟩) n cap) g bx tp nr md,.agg #[.int .i64 st,.slice (some ⟨kb,off2,none⟩) n2 cap2]]) (hT.mv2 ha hb hne) (by simp [zab]) (by simp [cfV,ren,zay,zaj,zam,Gy.mv2])
  rw [zap hv] at h1
  exact h1
end
theorem SlI.at {L:List (Nat×Blk)} {k off:Nat} {b:Blk} (h:(k,b)∈L):SlI L (some ⟨k,off,none⟩):=λn cap=>by
 simp [zah,zal]
 exact zad.2 ⟨_,h,rfl⟩
theorem SlI.nil {L:List (Nat×Blk)}:SlI L none:=λn cap=>by simp [zah,zal]
theorem LTwo.any {L:List (Nat×Blk)} {ks:Nat} {b b2:Blk} (h:LTwo G0 L ks b b2):LAny L:=⟨h.ok,h.fx⟩
def zP (fs:Nat->Int) (u i:Nat):Int:=if u=0 then fs (6*i+3) else if u=1 then fs (6*i+4) else fs (6*i+5)
def zL (fs:Nat->Int) (u i:Nat):Int :=
 if u=0 then fs (6*i+1)*fs (6*i+5) - fs (6*i+2)*fs (6*i+4)
 else if u=1 then fs (6*i+2)*fs (6*i+3) - fs (6*i)*fs (6*i+5)
 else fs (6*i)*fs (6*i+4) - fs (6*i+1)*fs (6*i+3)
def sP (fm fs:Nat->Int) (n u:Nat):Int:=zdi (mzF fm (zP fs) u) n
def sL (fm fs:Nat->Int) (n u:Nat):Int:=zdi (mzF fm (zL fs) u) n
theorem zh1 {x v:Int} (hx:inW 1048576 x) (hv:inW 65536 v):-68719476736<=x*v/\x*v<=68719476736:=by
 obtain ⟨_,a,b⟩:=hx
 obtain ⟨_,c,d⟩:=hv
 have k:x.natAbs*v.natAbs<=1048576*65536:=Nat.mul_le_mul (by omega) (by omega)
 rw [<-Int.natAbs_mul] at k
 omega
theorem z7q {st:Int} {fs:Nat->Int} {n:Nat} (hr:zco st fs n=true) (u i:Nat) (hi:i<n):-65536<=zP fs u i/\zP fs u i<=65536:=by
 obtain ⟨_,⟨_,a0,a1⟩,⟨_,b0,b1⟩,⟨_,c0,c1⟩⟩:=zh8 hr hi
 unfold zP
 split
 ·omega
 ·split<;>omega
theorem z7p {st:Int} {fs:Nat->Int} {n:Nat} (hr:zco st fs n=true) (u i:Nat) (hi:i<n):-274877906944<=zL fs u i/\zL fs u i<=274877906944:=by
 obtain ⟨⟨x0,x1,x2⟩,v0,v1,v2⟩:=zh8 hr hi
 have a:=zh1 x1 v2
 have b:=zh1 x2 v1
 have c:=zh1 x2 v0
 have d:=zh1 x0 v2
 have e:=zh1 x0 v1
 have f:=zh1 x1 v0
 unfold zL
 split
 ·omega
 ·split<;>omega
theorem zz0 {st:Int} {fs:Nat->Int} {n i:Nat} (hr:zco st fs n=true) (hi:i<n):(fnI (fs (6*i))/\fnI (fs (6*i+1))/\fnI (fs (6*i+2)))/\fnI (fs (6*i+3))/\fnI (fs (6*i+4))/\fnI (fs (6*i+5)):=by
 obtain ⟨⟨⟨_,a0,a1⟩,⟨_,b0,b1⟩,⟨_,c0,c1⟩⟩,⟨_,d0,d1⟩,⟨_,e0,e1⟩,⟨_,f0,f1⟩⟩:=zh8 hr hi
 unfold fnI
 omega
section
variable {L:List (Nat×Blk)} {ks:Nat} {bm bs:Blk} {off n cap off2 cap2:Nat} {fm fs:Nat->Int} {g bx tp nr md st:Int}
theorem jb6 (hT:LTwo G0 L ks bm bs) (hm:MB bm off n fm) (hSb:SB bs off2 n fs) (hs:i64 st) (hok:zf6 n fm g bx tp nr md=true) (hrt:zco st fs n=true) :
  Fun prog G0 38 #[cfV (.slice (some ⟨100,off,none⟩) n cap) g bx tp nr md,.agg #[.int .i64 st,.slice (some ⟨ks,off2,none⟩) n cap2]] (hpL G0 L) (zab L) (.ret (.tuple #[v3 (sP fm fs n 0) (sP fm fs n 1) (sP fm fs n 2),.int .i64 0]) []) :=
 jil hT.any (SlI.at hT.ka) (SlI.at hT.kb) (zwi L ks bm bs hT off n cap off2 cap2 fm fs hm hSb g bx tp nr md st hs hok hrt 71 (zP fs) (λi hi K=>jik _ _ _ _ _ _ K) (λu i hi=>by have:=z7q hrt u i hi;omega))
theorem jb5 (hT:LTwo G0 L ks bm bs) (hm:MB bm off n fm) (hSb:SB bs off2 n fs) (hs:i64 st) (hok:zf6 n fm g bx tp nr md=true) (hrt:zco st fs n=true) :
  Fun prog G0 39 #[cfV (.slice (some ⟨100,off,none⟩) n cap) g bx tp nr md,.agg #[.int .i64 st,.slice (some ⟨ks,off2,none⟩) n cap2]] (hpL G0 L) (zab L) (.ret (.tuple #[v3 (sL fm fs n 0) (sL fm fs n 1) (sL fm fs n 2),.int .i64 0]) []) :=
 jij hT.any (SlI.at hT.ka) (SlI.at hT.kb) (zwi L ks bm bs hT off n cap off2 cap2 fm fs hm hSb g bx tp nr md st hs hok hrt 72 (zL fs) (λi hi K=>jii (zz0 hrt hi) K) (λu i hi=>z7p hrt u i hi))
end
theorem z0x {n:Nat} {fm:Nat->Int} {g bx tp nr md:Int} (hok:zf6 n fm g bx tp nr md=true) {z:Nat->Nat->Int} (hz:∀ u i,i<n->-274877906944<=z u i/\z u i<=274877906944) (u:Nat):-1125899906842624<=zdi (mzF fm z u) n/\zdi (mzF fm z u) n<=1125899906842624:=by
 have h4:=(zo6 hok).2
 have:=zpm (f:=mzF fm z u) (n:=n) (λj hj=>by
  have hmm:=zc0 hok hj
  have hzz:=hz u j hj
  exact zn5 hmm.1 hmm.2 hzz.1 hzz.2) n (Nat.le_refl _)
 omega
def lsE (ea eb:Int):Int:=if ea=0 then eb else ea
def lsW (ea eb:Int) (fm:Nat->Int) (n:Nat) (g:Int) (fa fb:Nat->Int):Nat->Int :=
 if ea=0/\eb=0 then lsN (eLo 0 g fm fb n - eHi 0 g fm fa n) (eHi 0 g fm fb n - eLo 0 g fm fa n) (sP fm fb n 0 - sP fm fa n 0) (sP fm fb n 1 - sP fm fa n 1) (sP fm fb n 2 - sP fm fa n 2) (sL fm fb n 0 - sL fm fa n 0) (sL fm fb n 1 - sL fm fa n 1) (sL fm fb n 2 - sL fm fa n 2)
 else λ_=>0
theorem jaj {n n2:Nat} {fm fs:Nat->Int} {g bx tp nr md st:Int} (h:enE n n2 fm fs g bx tp nr md st=0):n=n2/\zf6 n fm g bx tp nr md=true/\zco st fs n2=true/\z3l fs n2=0:=by
 unfold enE ji4 at h
 split at h
 ·rename_i hf
  obtain ⟨a,b,c⟩:=ze2.1 hf
  split at h
  ·rename_i hz;exact ⟨a,b,c,hz⟩
  ·cases h
 ·cases h
theorem z5i {L:List (Nat×Blk)} (hT:LAny L) {ka kb kc:Nat} {bm ba bb:Blk} (h1:(ka,bm)∈L) (h2:(kb,ba)∈L) (h3:(kc,bb)∈L) {off n cap offa na capa offb nb capb:Nat} {fm fa fb:Nat->Int} (hm:MB bm off n fm) (hA:SB ba offa na fa) (hB:SB bb offb nb fb) (hcm:n<=cap) (hca:na<=capa) (hcb:nb<=capb) {g bx tp nr md sta stb:Int} (hsa:i64 sta) (hsb:i64 stb) :
  Fun prog G0 10 #[cfV (.slice (some ⟨ka,off,none⟩) n cap) g bx tp nr md,.agg #[.int .i64 sta,.slice (some ⟨kb,offa,none⟩) na capa],.agg #[.int .i64 stb,.slice (some ⟨kc,offb,none⟩) nb capb]] (hpL G0 L) (zab L)
   (.ret (.tuple #[zcm (lsW (enE n na fm fa g bx tp nr md sta) (enE n nb fm fb g bx tp nr md stb) fm n g fa fb),.int .i64 (lsE (enE n na fm fa g bx tp nr md sta) (enE n nb fm fb g bx tp nr md stb))]) []):=by
 have eA:=zk1 (cap2:=capa) (zqh n na fm fa g bx tp nr md sta) hT h1 h2 λL' ks hL=>znc L' ks bm ba hL off n cap offa na capa fm fa hm hA hcm hca g bx tp nr md sta hsa
 have eB:=zk1 (cap2:=capb) (zqh n nb fm fb g bx tp nr md stb) hT h1 h3 λL' ks hL=>znc L' ks bm bb hL off n cap offb nb capb fm fb hm hB hcm hcb g bx tp nr md stb hsb
 unfold enV at eA eB
 by_cases ha:enE n na fm fa g bx tp nr md sta=0
 ·rw [ha] at eA |-
  obtain ⟨rfl,hok,hra,hza⟩:=jaj ha
  by_cases hb:enE n nb fm fb g bx tp nr md stb=0
  ·rw [hb] at eB |-
   obtain ⟨rfl,_,hrb,hzb⟩:=jaj hb
   have pA:=zk1 (cap2:=capa) (by simp [v3]) hT h1 h2 λL' ks hL=>jb6 (cap:=cap) (cap2:=capa) hL hm hA hsa hok hra
   have pB:=zk1 (cap2:=capb) (by simp [v3]) hT h1 h3 λL' ks hL=>jb6 (cap:=cap) (cap2:=capb) hL hm hB hsb hok hrb
   have lA:=zk1 (cap2:=capa) (by simp [v3]) hT h1 h2 λL' ks hL=>jb5 (cap:=cap) (cap2:=capa) hL hm hA hsa hok hra
   have lB:=zk1 (cap2:=capb) (by simp [v3]) hT h1 h3 λL' ks hL=>jb5 (cap:=cap) (cap2:=capb) hL hm hB hsb hok hrb
   have qa:=λu=>z0x hok (z:=zP fa) (λu i hi=>by have:=z7q hra u i hi;omega) u
   have qb:=λu=>z0x hok (z:=zP fb) (λu i hi=>by have:=z7q hrb u i hi;omega) u
   have ra:=λu=>z0x hok (z:=zL fa) (λu i hi=>z7p hra u i hi) u
   have rb:=λu=>z0x hok (z:=zL fb) (λu i hi=>z7p hrb u i hi) u
   have dP:∀ u,i64 (sP fm fb n u - sP fm fa n u):=λu=>by have:=qa u;have:=qb u;unfold sP;exact ⟨by omega,by omega⟩
   have dL:∀ u,i64 (sL fm fb n u - sL fm fa n u):=λu=>by have:=ra u;have:=rb u;unfold sL;exact ⟨by omega,by omega⟩
   have gP:=znr hT (SlI.at h1) (SlI.at h2) (SlI.at h3) (F:=38) (by decide) (dP 0) (dP 1) (dP 2) pA pB
   have gL:=znr hT (SlI.at h1) (SlI.at h2) (SlI.at h3) (F:=39) (by decide) (dL 0) (dL 1) (dL 2) lA lB
   have h:=zz3 hT (SlI.at h1) (SlI.at h2) (SlI.at h3) eA eB gP gL
   unfold lsW lsE
   rw [if_pos ⟨rfl,rfl⟩,if_pos rfl]
   exact h
  ·have h:=zss hT (SlI.at h1) (SlI.at h2) (SlI.at h3) hb eA eB
   unfold lsW lsE
   rw [if_neg (λh=>hb h.2),if_pos rfl]
   exact h
 ·have h:=zko (stb:=stb) (pb:=some ⟨kc,offb,none⟩) (nb:=nb) (capb:=capb) hT (SlI.at h1) (SlI.at h2) (SlI.at h3) ha eA
  unfold lsW lsE
  rw [if_neg (λh=>ha h.1),if_neg ha]
  exact h
end Go.Gy
namespace Go.Gy
open Go Go.RowKit Go.Proofs
end Go.Gy
namespace Go.Gy
open Go Go.RowKit Go.Proofs Go.Proofs.Tryz
end Go.Gy
namespace Go.Gy
open Go Go.RowKit Go.Proofs
end Go.Gy
namespace Go.Gy
open Go Go.RowKit Go.Proofs Go.Proofs.Tryz
def bt (z:Int):Nat->Int
 | 0=>0
 | i+1=>if wi z i=0 then bt z i else 64*i+za3 (wi z i)
end Go.Gy
namespace Go.Gy
open Go Go.RowKit Go.Proofs Go.Proofs.Tryz
end Go.Gy
namespace Go.Gy
open Go Go.RowKit Go.Proofs
end Go.Gy
namespace Go.Gy
open Go Go.RowKit Go.Proofs Go.Proofs.Tryz
theorem jg9 (n lo hi:Int):Ret prog G0 112 #[.int .i64 n,.int .i64 lo,.int .i64 hi] (.bool (decide (lo<=n/\n<=hi))):=by
 refine za2 G0F func112 rfl call112 rfl (by simp) (by simp [ntmps112]) ?_
 intro C hC hC0 hY
 by_cases h1:lo<=n
 ·by_cases h2:n<=hi
  ·rw [decide_eq_true (show lo<=n/\n<=hi from ⟨h1,h2⟩)]
   repeat' first|refine gwZ ?_|(refine gwX ?_;intro Q hQ _;simp [hC,hY,h1,h2];refine gwq hQ ?_)|refine gwC ?_ ?_<;>intro hb
   refine ⟨.inr trivial,?_⟩
   simp [results112]
  ·rw [decide_eq_false (show ¬(lo<=n/\n<=hi) from λh=>h2 h.2)]
   repeat' first|refine gwZ ?_|(refine gwX ?_;intro Q hQ _;simp [hC,hY,h1,h2];refine gwq hQ ?_)|refine gwC ?_ ?_<;>intro hb
   refine ⟨.inr trivial,?_⟩
   simp [results112]
 ·rw [decide_eq_false (show ¬(lo<=n/\n<=hi) from λh=>h1 h.1)]
  repeat' first|refine gwZ ?_|(refine gwX ?_;intro Q hQ _;simp [hC,hY,h1];refine gwq hQ ?_)|refine gwC ?_ ?_<;>intro hb
  refine ⟨.inr trivial,?_⟩
  simp [results112]
theorem zkv (lo hi a:Int):Ret prog G0 27 #[spV lo hi,wd a] (.bool (zns lo hi a)):=by
 refine za2 G0F func27 rfl call27 rfl (by simp) (by simp [ntmps27]) ?_
 intro C hC hC0 hY
 unfold spV zns
 by_cases h1:zch (sz lo) (sz a)<=0
 ·rw [decide_eq_true h1]
  repeat' first|refine gwZ ?_|(refine gwX ?_;intro Q hQ _;simp [hC,hY,h1];refine gwq hQ ?_)|refine gwC ?_ ?_<;>intro hb
  refine ⟨.inr trivial,?_⟩
  simp [results27]
 ·rw [decide_eq_false h1]
  repeat' first|refine gwZ ?_|(refine gwX ?_;intro Q hQ _;simp [hC,hY,h1];refine gwq hQ ?_)|refine gwC ?_ ?_<;>intro hb
  refine ⟨.inr trivial,?_⟩
  simp [results27]
end Go.Gy
namespace Go.Gy
open Go Go.RowKit Go.Proofs Go.Proofs.Tryz
end Go.Gy
namespace Go.Gy
open Go Go.RowKit Go.Proofs Go.Proofs.Tryz
theorem z6u (E:Int) (hE:¬E=0) (L:List (Nat×Blk)) (ks:Nat) (bm bs:Blk) (hT:LTwo G0 L ks bm bs) (off n cap off2 n2 cap2:Nat) (g bx tp nr md st:Int)
  (hpo:Fun prog G0 55 #[cfV (.slice (some ⟨100,off,none⟩) n cap) g bx tp nr md,.agg #[.int .i64 st,.slice (some ⟨ks,off2,none⟩) n2 cap2]] (hpL G0 L) (zab L) (.ret (.tuple #[spV 0 0,.int .i64 E]) [])) :
  Fun prog G0 23 #[cfV (.slice (some ⟨100,off,none⟩) n cap) g bx tp nr md,.agg #[.int .i64 st,.slice (some ⟨ks,off2,none⟩) n2 cap2]] (hpL G0 L) (zab L) (.ret (.tuple #[spV 0 0,.int .i64 E]) []):=by
 refine zaz (B:=200) G0F func23 rfl call23 hT.ok ?_ (zak (by simp [spV])) (by simp) (by simp) (by simp [ntmps23]) (by omega) ?_
 ·simp [zan,za0,zah,zal,hT.ia,hT.ib,cfV]
 intro C hC hC0 hY
 have hA:=hT.a
 have hS:=hT.s
 have hne:=hT.ne
 have hLow:=hT.low
 have hEb:(E != 0)=true:=by simpa using hE
 have hEq:(E==0)=false:=by simpa using hE
 unfold cfV spV at hpo
 unfold cfV
 repeat' first|refine gwZ ?_|((first|refine gwR [55] ?_|refine gwD [55] ?_);intro Q hQ _;(repeat first|simp [hC,hY,hA,hS,hne,zar,hE,hEb,hEq]|refine zby hpo hT.ok zg0 ?_);refine gwq hQ ?_)|refine gwC ?_ ?_<;>intro hb
 refine ⟨.inr rfl,by simp [results23,spV,zar],kpT G0F⟩
theorem z0f (g bx tp nr md st:Int):Fun prog G0 94 #[.agg #[.slice none 0 0,.int .i64 g,.int .i64 bx,.int .i64 tp,.int .i64 nr,.int .i64 md],.agg #[.int .i64 st,.slice none 0 0]] (hpL G0 []) (zab []) (.ret (.bool false) []):=by
 refine zaz (B:=200) G0F func94 rfl call94 zeo ?_ (zak (by simp [spV])) (by simp) (by simp) (by simp [ntmps94]) (by omega) ?_
 ·simp [zan,za0,zah,zal,zab]
 intro C hC hC0 hY
 have hfx:Blk.fx (⟨#[.slice none 0 0,.int .i64 g,.int .i64 bx,.int .i64 tp,.int .i64 nr,.int .i64 md],.ty 24⟩:Blk):=λx hx=>by
  simp at hx
  rcases hx with rfl|rfl|rfl|rfl|rfl|rfl<;>rfl
 have hck:=zka (⟨#[.slice none 0 0,.int .i64 g,.int .i64 bx,.int .i64 tp,.int .i64 nr,.int .i64 md],.ty 24⟩:Blk) hfx g bx tp nr md
 have hbr:=λρ=>Blk.fx_rn hfx ρ
 unfold cfV at hck
 repeat' first|refine gwZ ?_|((first|refine gwR [83] ?_|refine gwD [83] ?_);intro Q hQ _;(repeat first|simp [hC,hY]|refine zae hck G0F (B:=200) (zax hfx) (λk=>if k=100 then 200 else k) (λk hk=>if_neg (by omega)) (by simp [ren,zay,zaj,zam,cfV]) (by simp) (by simp [hbr]) (by simp [zab]) (by simp [zab];try rfl) ?_);refine gwq hQ ?_)|refine gwC ?_ ?_<;>intro hb
 refine ⟨.inr rfl,by simp [results94,spV,zar],kpS G0F⟩
theorem jfq (b:Blk) (off n cap:Nat) (f:Nat->Int) (h:SB b off n f) (g bx tp nr md st:Int):Fun prog G0 94 #[.agg #[.slice none 0 0,.int .i64 g,.int .i64 bx,.int .i64 tp,.int .i64 nr,.int .i64 md],.agg #[.int .i64 st,.slice (some ⟨100,off,none⟩) n cap]] (hpL G0 [(100,b)]) (zab [(100,b)]) (.ret (.bool false) []):=by
 refine zaz (B:=200) G0F func94 rfl call94 (zax h.fx) ?_ (zak (by simp [spV])) (by simp) (by simp) (by simp [ntmps94]) (by omega) ?_
 ·simp [zan,za0,zah,zal,zab]
 intro C hC hC0 hY
 have hr:=λρ=>Blk.fx_rn h.fx ρ
 have hck:=zka b h.fx g bx tp nr md
 unfold cfV at hck
 by_cases h0:n=0
 ·subst h0
  repeat' first|refine gwZ ?_|((first|refine gwR [83] ?_|refine gwD [83] ?_);intro Q hQ _;(repeat first|simp [hC,hY]|refine zae hck G0F (B:=200) (zax h.fx) (λk=>k) (λk hk=>rfl) (by simp [ren,zay,zaj,zam,cfV]) (by simp) (by simp [hr]) (by simp [zab]) (by simp [zab];try rfl) ?_);refine gwq hQ ?_)|refine gwC ?_ ?_<;>intro hb
  refine ⟨.inr rfl,by simp [results94,spV,zar],kpS G0F⟩
 ·have h1:¬(n:Int)=0:=by omega
  have h2:((n:Int)==0)=false:=by simpa using h1
  have h3:((0:Int)==(n:Int))=false:=by simp;omega
  have h4:¬(0:Int)=(n:Int):=by omega
  have h5:¬0=n:=by omega
  repeat' first|refine gwZ ?_|(refine gwX ?_;intro Q hQ _;simp [hC,hY,h0,h1,h2,h3,h4,h5];refine gwq hQ ?_)|refine gwC ?_ ?_<;>intro hb
  refine ⟨.inr rfl,by simp [results94,spV,zar],kpS G0F⟩
theorem z0g (b:Blk) (off n cap:Nat) (f:Nat->Int) (h:MB b off n f) (g bx tp nr md st:Int):Fun prog G0 94 #[.agg #[.slice (some ⟨100,off,none⟩) n cap,.int .i64 g,.int .i64 bx,.int .i64 tp,.int .i64 nr,.int .i64 md],.agg #[.int .i64 st,.slice none 0 0]] (hpL G0 [(100,b)]) (zab [(100,b)]) (.ret (.bool false) []):=by
 refine zaz (B:=200) G0F func94 rfl call94 (zax h.fx) ?_ (zak (by simp [spV])) (by simp) (by simp) (by simp [ntmps94]) (by omega) ?_
 ·simp [zan,za0,zah,zal,zab]
 intro C hC hC0 hY
 have hr:=λρ=>Blk.fx_rn h.fx ρ
 have hck:=zi7 b off n cap f h g bx tp nr md
 unfold cfV at hck
 by_cases h0:n=0
 ·subst h0
  rw [show zf6 0 f g bx tp nr md=false from rfl] at hck
  repeat' first|refine gwZ ?_|((first|refine gwR [83] ?_|refine gwD [83] ?_);intro Q hQ _;(repeat first|simp [hC,hY]|refine zae hck G0F (B:=200) (zax h.fx) (λk=>k) (λk hk=>rfl) (by simp [ren,zay,zaj,zam,cfV]) (by simp) (by simp [hr]) (by simp [zab]) (by simp [zab];try rfl) ?_);refine gwq hQ ?_)|refine gwC ?_ ?_<;>intro hb
  refine ⟨.inr rfl,by simp [results94,spV,zar],kpS G0F⟩
 ·have h1:¬(n:Int)=0:=by omega
  have h2:((n:Int)==0)=false:=by simpa using h1
  have h3:((0:Int)==(n:Int))=false:=by simp;omega
  have h4:¬(0:Int)=(n:Int):=by omega
  have h5:¬0=n:=by omega
  repeat' first|refine gwZ ?_|(refine gwX ?_;intro Q hQ _;simp [hC,hY,h0,h1,h2,h3,h4,h5];refine gwq hQ ?_)|refine gwC ?_ ?_<;>intro hb
  refine ⟨.inr rfl,by simp [results94,spV,zar],kpS G0F⟩
theorem jhe (g bx tp nr md st:Int):Fun prog G0 66 #[.agg #[.slice none 0 0,.int .i64 g,.int .i64 bx,.int .i64 tp,.int .i64 nr,.int .i64 md],.agg #[.int .i64 st,.slice none 0 0]] (hpL G0 []) (zab []) (.ret (.tuple #[spV 0 0,.int .i64 2]) []):=by
 refine zaz (B:=200) G0F func66 rfl call66 zeo ?_ (zak (by simp [spV])) (by simp) (by simp) (by simp [ntmps66]) (by omega) ?_
 ·simp [zan,za0,zah,zal,zab]
 intro C hC hC0 hY
 have hf:=z0f g bx tp nr md st
 repeat' first|refine gwZ ?_|((first|refine gwR [94] ?_|refine gwD [94] ?_);intro Q hQ _;(repeat first|simp [hC,hY,zar]|refine zae hf G0F (B:=200) zeo (λk=>k) (λk hk=>rfl) (by simp [ren,zay,zaj,zam,cfV]) (by simp) (by simp) (by simp [zab]) (by simp [zab];try rfl) ?_);refine gwq hQ ?_)|refine gwC ?_ ?_<;>intro hb
 refine ⟨.inr rfl,by simp [results66,spV,zar],kpS G0F⟩
theorem z45 (b:Blk) (off n cap:Nat) (f:Nat->Int) (h:MB b off n f) (g bx tp nr md st:Int):Fun prog G0 66 #[.agg #[.slice (some ⟨100,off,none⟩) n cap,.int .i64 g,.int .i64 bx,.int .i64 tp,.int .i64 nr,.int .i64 md],.agg #[.int .i64 st,.slice none 0 0]] (hpL G0 [(100,b)]) (zab [(100,b)]) (.ret (.tuple #[spV 0 0,.int .i64 2]) []):=by
 refine zaz (B:=200) G0F func66 rfl call66 (zax h.fx) ?_ (zak (by simp [spV])) (by simp) (by simp) (by simp [ntmps66]) (by omega) ?_
 ·simp [zan,za0,zah,zal,zab]
 intro C hC hC0 hY
 have hr:=λρ=>Blk.fx_rn h.fx ρ
 have hf:=z0g b off n cap f h g bx tp nr md st
 repeat' first|refine gwZ ?_|((first|refine gwR [94] ?_|refine gwD [94] ?_);intro Q hQ _;(repeat first|simp [hC,hY,zar]|refine zae hf G0F (B:=200) (zax h.fx) (λk=>k) (λk hk=>rfl) (by simp [ren,zay,zaj,zam,cfV]) (by simp) (by simp [hr]) (by simp [zab]) (by simp [zab];try rfl) ?_);refine gwq hQ ?_)|refine gwC ?_ ?_<;>intro hb
 refine ⟨.inr rfl,by simp [results66,spV,zar],kpS G0F⟩
theorem jah (b:Blk) (off n cap:Nat) (f:Nat->Int) (h:MB b off n f) (g bx tp nr md st:Int):Fun prog G0 36 #[.agg #[.slice (some ⟨100,off,none⟩) n cap,.int .i64 g,.int .i64 bx,.int .i64 tp,.int .i64 nr,.int .i64 md],.agg #[.int .i64 st,.slice none 0 0]] (hpL G0 [(100,b)]) (zab [(100,b)]) (.ret (.tuple #[spV 0 0,.int .i64 2]) []):=by
 refine zaz (B:=200) G0F func36 rfl call36 (zax h.fx) ?_ (zak (by simp [spV])) (by simp) (by simp) (by simp [ntmps36]) (by omega) ?_
 ·simp [zan,za0,zah,zal,zab]
 intro C hC hC0 hY
 have hr:=λρ=>Blk.fx_rn h.fx ρ
 have hf:=z45 b off n cap f h g bx tp nr md st
 unfold spV at hf
 repeat' first|refine gwZ ?_|((first|refine gwR [66] ?_|refine gwD [66] ?_);intro Q hQ _;(repeat first|simp [hC,hY,zar]|refine zae hf G0F (B:=200) (zax h.fx) (λk=>k) (λk hk=>rfl) (by simp [ren,zay,zaj,zam,cfV]) (by simp) (by simp [hr]) (by simp [zab]) (by simp [zab];try rfl) ?_);refine gwq hQ ?_)|refine gwC ?_ ?_<;>intro hb
 refine ⟨.inr rfl,by simp [results36,spV,zar],kpS G0F⟩
theorem znp {l:List Value} {T:TypeId} (h:l.all za9=true):Blk.fx ⟨l.toArray,.ty T⟩:=λx hx=>List.all_eq_true.1 h x (by simpa using hx)
def hkM:Blk:=⟨#[.int .i64 2],.ty 3⟩
def hkA:Blk:=⟨#[.int .i64 0,.int .i64 0,.int .i64 0,.int .i64 1,.int .i64 0,.int .i64 0],.ty 72⟩
def hkB:Blk:=⟨#[.int .i64 0,.int .i64 5,.int .i64 0,.int .i64 0,.int .i64 3,.int .i64 0],.ty 72⟩
def hkm (j:Nat):Int:=2
def hka (j:Nat):Int:=if j=3 then 1 else 0
def hkb (j:Nat):Int:=if j=1 then 5 else if j=4 then 3 else 0
theorem zqu:MB hkM 0 1 hkm:=⟨λj hj=>by
 have:j=0:=by omega
 subst this;rfl,znp rfl,λj hj=>(show i64 2 by decide),by omega⟩
theorem six {P:Nat->Prop} (h0:P 0) (h1:P 1) (h2:P 2) (h3:P 3) (h4:P 4) (h5:P 5):∀ j,j<6*1->P j:=λj hj=>by
 have:j=0\/j=1\/j=2\/j=3\/j=4\/j=5:=by omega
 rcases this with rfl|rfl|rfl|rfl|rfl|rfl<;>assumption
theorem zvr:SB hkA 0 1 hka:=⟨six (P:=λj=>hkA.c[0+j]? = some (.int .i64 (hka j))) rfl rfl rfl rfl rfl rfl,znp rfl,six (P:=λj=>i64 (hka j)) (by decide) (by decide) (by decide) (by decide) (by decide) (by decide),by omega⟩
theorem zvs:SB hkB 0 1 hkb:=⟨six (P:=λj=>hkB.c[0+j]? = some (.int .i64 (hkb j))) rfl rfl rfl rfl rfl rfl,znp rfl,six (P:=λj=>i64 (hkb j)) (by decide) (by decide) (by decide) (by decide) (by decide) (by decide),by omega⟩
def hkL:List (Nat×Blk):=[(100,hkM),(108,hkA),(116,hkB)]
theorem zjf:LAny hkL:=by
 have f1:=zqu.fx
 have f2:=zvr.fx
 have f3:=zvs.fx
 refine ⟨⟨by simp [hkL],by simp [hkL,zab],?_⟩,?_⟩
 ·simp only [hkL,List.mem_cons,List.not_mem_nil,or_false,forall_eq_or_imp,forall_eq]
  exact ⟨Blk.fx_ids f1 _,Blk.fx_ids f2 _,Blk.fx_ids f3 _⟩
 ·simp only [hkL,List.mem_cons,List.not_mem_nil,or_false,forall_eq_or_imp,forall_eq]
  exact ⟨f1,f2,f3⟩
theorem jh3:enE 1 1 hkm hka 1 100 10 1 0 0=0:=by decide
theorem jh4:enE 1 1 hkm hkb 1 100 10 1 0 0=0:=by decide
def hkl:Nat->Int:=lsN 8388608 8388608 (-2) 6 0 0 0 0
theorem jl3:lsW 0 0 hkm 1 1 hka hkb=hkl:=by
 unfold lsW
 rw [if_pos ⟨rfl,rfl⟩]
 unfold hkl
 rw [show eLo 0 1 hkm hkb 1 - eHi 0 1 hkm hka 1=8388608 by decide,show eHi 0 1 hkm hkb 1 - eLo 0 1 hkm hka 1=8388608 by decide,show sP hkm hkb 1 0 - sP hkm hka 1 0=-2 by decide,show sP hkm hkb 1 1 - sP hkm hka 1 1=6 by decide,show sP hkm hkb 1 2 - sP hkm hka 1 2=0 by decide,show sL hkm hkb 1 0 - sL hkm hka 1 0=0 by decide,show sL hkm hkb 1 1 - sL hkm hka 1 1=0 by decide,show sL hkm hkb 1 2 - sL hkm hka 1 2=0 by decide]
theorem z5f:Fun prog G0 10 #[cfV (.slice (some ⟨100,0,none⟩) 1 1) 1 100 10 1 0,.agg #[.int .i64 0,.slice (some ⟨108,0,none⟩) 1 1],.agg #[.int .i64 0,.slice (some ⟨116,0,none⟩) 1 1]] (hpL G0 hkL) (zab hkL) (.ret (.tuple #[zcm hkl,.int .i64 0]) []):=by
 have h:=z5i zjf (ka:=100) (kb:=108) (kc:=116) (by simp [hkL]) (by simp [hkL]) (by simp [hkL]) zqu zvr zvs (cap:=1) (capa:=1) (capb:=1) (by omega) (by omega) (by omega) (g:=1) (bx:=100) (tp:=10) (nr:=1) (md:=0) (sta:=0) (stb:=0) (by decide) (by decide)
 rw [jh3,jh4,jl3] at h
 exact h
theorem z5h:Fun prog G0 10 #[cfV (.slice (some ⟨100,0,none⟩) 1 1) 1 100 10 1 0,.agg #[.int .i64 0,.slice none 0 0],.agg #[.int .i64 0,.slice (some ⟨116,0,none⟩) 1 1]] (hpL G0 hkL) (zab hkL) (.ret (.tuple #[zcm λ_=>0,.int .i64 2]) []):=by
 have h:=(jah hkM 0 1 1 hkm zqu 1 100 10 1 0 0).mvG (args':=#[cfV (.slice (some ⟨100,0,none⟩) 1 1) 1 100 10 1 0,.agg #[.int .i64 0,.slice none 0 0]]) (zjf.mv1 (ka:=100) (kb:=108) (by simp [hkL])) (by simp [zab]) (by simp [cfV,ren,zay,zaj,zam,Gy.mv2])
 rw [zap (by simp [spV])] at h
 exact zko zjf (SlI.at (b:=hkM) (by simp [hkL])) SlI.nil (SlI.at (b:=hkB) (by simp [hkL])) (by decide) h
def hkw (i:Nat):Nat->Int:=if i=0 then hkl else λ_=>0
def hkv:Nat->Int
 | 1=>8388608
 | 2=>-2
 | 6=>6
 | _=>0
theorem z20:(zov ⟨0,λ_=>0⟩ hkw 2).N=2/\∀ c,c<14->(zov ⟨0,λ_=>0⟩ hkw 2).v c=hkv c:=by decide
theorem z5e:zd9 (zov ⟨0,λ_=>0⟩ hkw 2)=zbq 2 hkv:=by
 unfold zd9 zbq
 rw [z20.1,zgu z20.2]
theorem zsq:LsOk hkl:=⟨zdn (by decide),zdn (by decide),λc h1 h2=>by
 have:c=2\/c=3\/c=4\/c=5\/c=6\/c=7\/c=8\/c=9\/c=10\/c=11\/c=12\/c=13:=by omega
 rcases this with rfl|rfl|rfl|rfl|rfl|rfl|rfl|rfl|rfl|rfl|rfl|rfl<;>decide,λq hq=>by
 have:q=0\/q=1\/q=2:=by omega
 rcases this with rfl|rfl|rfl<;>decide⟩
theorem zz4:LsOk λ_=>0:=⟨zdn (by decide),zdn (by decide),λc h1 h2=>by decide,λq hq=>⟨rfl,rfl⟩⟩
theorem z2z:HOk 2 hkv:=⟨by decide,λc h1 h2=>by
 have:c=2\/c=3\/c=4\/c=5\/c=6\/c=7\/c=8\/c=9\/c=10\/c=11\/c=12\/c=13:=by omega
 rcases this with rfl|rfl|rfl|rfl|rfl|rfl|rfl|rfl|rfl|rfl|rfl|rfl<;>decide,zdn (by decide),zdn (by decide)⟩
theorem zqv (N:Int) (h:i64 N):HOk N λ_=>0:=⟨h,λc h1 h2=>by decide,zdn (by decide),zdn (by decide)⟩
theorem jhy:zkn ⟨2,hkv⟩ hkl=true:=by decide
theorem jhz:zkn ⟨0,λ_=>0⟩ hkl=false:=by decide
theorem jh0:ze7 ⟨2,hkv⟩=true:=by decide
theorem jh1:ze7 ⟨0,λ_=>0⟩=true:=by decide
theorem jh2:ze7 ⟨-1,λ_=>0⟩=false:=by decide
end Go.Gy
