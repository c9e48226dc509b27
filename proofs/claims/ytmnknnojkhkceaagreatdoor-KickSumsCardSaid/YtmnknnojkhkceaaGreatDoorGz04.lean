/-
  Lemmas of this claim, in their order (GyY6, GyY7, GyZ1, GyZ2, GyZ3, GyW1, GyU1, GyPU, GyV2, GyVA, GyRA, GyRB, GyDM, GyQA, GyVB, GyVC, GyVD, GyRC, GyRF, GyQB, GyDB, GyDC, GyWA, GyWB, GyWC, GyWD, GyWE, GyWF, GyWG, GyWH, GyWK, GyWL, GyWM, GyCA).
  Conditions: those of each theorem.
-/
import Derived.Test.YtmnknnojkhkceaaGreatDoorGz03
set_option linter.unusedSimpArgs false
set_option linter.unusedVariables false
namespace Go.Gy
set_option linter.unusedSimpArgs false
set_option linter.unusedVariables false
open Go Go.RowKit Go.Proofs Go.Proofs.Tryz

def jc0 (a b:Int) (k:Nat):Hp:=hpL G0 [(200,wb (rA a b k)),(208,wb b),(216,⟨fa 4 .u64 (wi (qA a b k)),.ty 86⟩),(224,zB)]
def jc1:Nat→Value:=tsL [(2,.pointer (some ⟨200,0,none⟩)),(3,.pointer (some ⟨208,0,none⟩)),(4,.pointer (some ⟨216,0,none⟩)),(5,.pointer (some ⟨224,0,none⟩))]
set_option maxHeartbeats 1000000 in
theorem zya (a b:Int) (ha0:0≤a) (ha:a<57896044618658097711785492504343953926634992332820282019728792003956564819968) (hb0:0<b) (hb1:b<57896044618658097711785492504343953926634992332820282019728792003956564819968) :
  Ret prog G0 135 #[wd a,wd b] (.tuple #[wd (a / b),wd (a%b)]):=by
 refine zar G0F func135 rfl call135 (by simp) (by simp) (by simp [ntmps135]) ?_
 intro C hC hC0 hY
 have hup:=jho a b ha0 hb0 (by omega) (by omega)
 have hbd:=z6t a b
 have hna:zaw a≤255:=(zey 255 (by omega)).2
 have hlt:shN a b<256:=by
  have ea:uz a=a:=by unfold uz;omega
  have hnb:=zey 256 (z34 b).2
  unfold shN;rw [ea];omega
 have hit:=zy5 a b hlt
 generalize shN a b=N at *
 repeat' (first|refine gwA ?_|(refine gwX ?_;intro Q hQ hP;simp [hC,hY];refine gwq hQ ?_;clear hQ hP Q)|(refine gwC ?_ ?_<;>(intro hb;try (cases hb;done))))
 refine zcc [143] (by kernel_rfl) ?_;intro Q hQ hP;simp [hC,hY]
 refine zbv (zux a b 248 (by omega)) (by simp) (fun _ _=>rfl) (by simp [Res.at]) ?_
 simp
 refine hQ _ _ _ _ ?_;clear hQ hP Q
 repeat' (first|refine gwA ?_|(refine gwX ?_;intro Q hQ hP;simp [hC,hY];refine gwq hQ ?_;clear hQ hP Q)|(refine gwC ?_ ?_<;>(intro hb;try (cases hb;done))))
 refine zgi (f:=152) (rs:=[248,249]) (xs:=z6u b N) (caps:=#[.pointer (some ⟨248,0,none⟩),.pointer (some ⟨249,0,none⟩)]) (by simp) ?_ ?_ (by simp [ntmps135]) jc1 (fun i=>jc0 a b (N+1 - (i:Int)).toNat) 300 (N+1).toNat (by rw [zm0];omega) ?_ ?_ ?_ ?_ ?_
 ·rw [hC]
  refine zg4.cast (IterX.rn (fun k=>if k=100 then 248 else if k=101 then 249 else k) G0F (fun k hk=>za4 (by simp) hk) (rs:=[100,101]) ?_ hit) (by simp [zao]) (by simp)
  refine ⟨fun k hk=>?_,?_,?_,?_⟩
  ·have h1:¬k=100:=by omega
   have h2:¬k=101:=by omega
   have h3:¬k=200:=by omega
   have h4:¬k=208:=by omega
   have h5:¬k=216:=by omega
   have h6:¬k=224:=by omega
   have h8:¬k=248:=by omega
   have h9:¬k=249:=by omega
   simp [h1,h2,h3,h4,h5,h6,h8,h9,wHp]
  ·simp
  ·simp [wHp,wb,Blk.rn,zak,zao]
  ·simp
 ·intro x hx
  simp only [z6u,List.mem_map] at hx
  obtain ⟨i,_,rfl⟩:=hx
  simp
 ·have e:=z1n a b (N+1).toNat ha0 hup.1
  refine zbb _ 300 hC G0F (m0:=[]) hC0 (by omega) ?_ ?_ ?_
  ·simp [dom]
  ·simp [zB,wb,e.1,e.2,zih,zde]
  ·simp
 ·simp [jc0,dom]
 ·intro i hi t
  refine zes ?_ t
  simp [dom,jc0]
 ·intro i x hi hx C1 l hC1 hh1 hY1
  have hCC:=hC
  have hC1':C1.G=G0:=hC1.trans hC
  obtain ⟨n,hn⟩:∃ n:Nat,N - (i:Int)=n:=⟨(N - i).toNat,by omega⟩
  rw [zy3 b N i hi,hn] at hx
  have e1:(N+1 - (i:Int)).toNat=n+1:=by omega
  have e2:(N+1 - ((i+1:Nat):Int)).toNat=n:=by omega
  simp only [e1,e2]
  cases hx
  have hD:b*2^n<57896044618658097711785492504343953926634992332820282019728792003956564819968:=by
   have h1:=hup.2 (by omega)
   have h2:(2:Int)^n≤2^N.toNat:=by exact_mod_cast Nat.pow_le_pow_right (by omega) (by omega:n≤N.toNat)
   have h3:b*2^n≤b*2^N.toNat:=Int.mul_le_mul_of_nonneg_left h2 (by omega)
   have h4:(2:Int)^(zaw a).toNat≤2^255:=by exact_mod_cast Nat.pow_le_pow_right (by omega) (by omega:(zaw a).toNat≤255)
   omega
  have hD0:0<b*2^n:=Int.mul_pos hb0 (zbe _)
  have hM0:0<b*2^(n+1):=Int.mul_pos hb0 (zbe _)
  have hA0:0≤rA a b (n+1):=Int.emod_nonneg _ (by omega)
  have hA1:rA a b (n+1)≤a:=by
   have h1:=Int.emod_add_mul_ediv a (b*2^(n+1))
   have h2:0≤b*2^(n+1)*(a / (b*2^(n+1))):=Int.mul_nonneg (by omega) (Int.ediv_nonneg ha0 (by omega))
   unfold rA;omega
  have szD:sz (b*2^n)=b*2^n:=zg3 (Int.le_of_lt hD0) hD
  have szA:sz (rA a b (n+1))=rA a b (n+1):=zg3 hA0 (Int.lt_of_le_of_lt hA1 ha)
  obtain ⟨t,r,hr,hn'⟩:∃ t r,r<64∧n=64*t+r:=⟨n / 64,n%64,by omega,by omega⟩
  have tq:((n:Int)).tdiv 64=t:=by rw [Int.tdiv_eq_ediv_of_nonneg (by omega)];omega
  have tm:((n:Int)).tmod 64=r:=by rw [Int.tmod_eq_emod_of_nonneg (by omega)];omega
  have t4:t<4:=by omega
  have t4':(t:Int)<4:=by omega
  have t0:(0:Int)≤t:=by omega
  have tb:Int.bmod (t:Int) 18446744073709551616=t:=bm (by omega) (by omega)
  have t3:t≤3:=Nat.le_of_lt_succ t4
  have t3':(t:Int)≤3:=Int.le_of_lt_add_one t4'
  have m1:min r 64=r:=by omega
  have m2:(2:Int)^r%18446744073709551616=2^r:=Int.emod_eq_of_lt (Int.le_of_lt (zbe _)) (by
   have:(2:Int)^r<2^64:=by exact_mod_cast Nat.pow_lt_pow_right (by omega) hr
   exact this)
  have hst:=z71 a b hb0 n
  replace hC:=hC1'
  replace hY:=hY1
  by_cases hle:b*2^n≤rA a b (n+1)
  ·have hcmp:zcs (sz (b*2^n)) (sz (rA a b (n+1)))≤0:=by rw [szD,szA];unfold zcs;split<;>(try split)<;>omega
   obtain ⟨s1,s2⟩:=hst.1 hle
   have hb1:=z62 (a / (b*2^(64*t+r+1))) t r hr
   have hb2:=zm7 (a / (b*2^(64*t+r+1))) t r
   rw [←hn'] at hb1 hb2
   replace hb1:zdy .or .u64 (wi (qA a b (n+1)) t) (2^r)=wi (qA a b n) t:=by rw [s2];exact hb1
   replace hb2:∀ j,j≠t→wi (qA a b n) j=wi (qA a b (n+1)) j:=fun j hj=>by rw [s2];exact hb2 j hr hj
   have hq:fa 4 .u64 (upd (wi (qA a b (n+1))) t (wi (qA a b n) t))=fa 4 .u64 (wi (qA a b n)):=zb5 fun j _=>by
    unfold upd;split
    ·rename_i h;rw [h]
    ·rename_i h;rw [hb2 j h]
   unfold jc0
   repeat' (first|refine gwA ?_|(refine gwX ?_;intro Q hQ hP;simp [hC,hY,zaz,jc1];refine gwq hQ ?_;clear hQ hP Q)|(refine gwC ?_ ?_<;>(intro hb;try (cases hb;done))))
   intro C2 hC2 hh2 hY2
   replace hC:C2.G=G0:=hC2.trans hCC
   replace hY:=hY2
   repeat' (first|refine gwA ?_|(refine gwX ?_;intro Q hQ hP;simp [hC,hY,zaz,jc1,wb,hcmp,tq,tm,t4,t4',t0,t3,t3',tb,m1,m2,zc9,zdf,hb1];refine gwq hQ ?_;clear hQ hP Q)|(refine gwC ?_ ?_<;>(intro hb;try (cases hb;done))))
   refine zbb [] 300 hC1' G0F hh1 (by omega) ?_ ?_ ?_
   ·simp
   ·simp [zcn,zae,wb,zB,hq,s1]
   ·simp [wb,zB,hq,s1]
  ·have hcmp:¬zcs (sz (b*2^n)) (sz (rA a b (n+1)))≤0:=by rw [szD,szA];unfold zcs;split<;>(try split)<;>omega
   obtain ⟨s1,s2⟩:=hst.2 (by omega)
   unfold jc0
   repeat' (first|refine gwA ?_|(refine gwX ?_;intro Q hQ hP;simp [hC,hY,zaz,jc1];refine gwq hQ ?_;clear hQ hP Q)|(refine gwC ?_ ?_<;>(intro hb;try (cases hb;done))))
   intro C2 hC2 hh2 hY2
   replace hC:C2.G=G0:=hC2.trans hCC
   replace hY:=hY2
   repeat' (first|refine gwA ?_|(refine gwX ?_;intro Q hQ hP;simp [hC,hY,zaz,jc1,wb,hcmp];refine gwq hQ ?_;clear hQ hP Q)|(refine gwC ?_ ?_<;>(intro hb;try (cases hb;done))))
   refine zbb [] 300 hC1' G0F hh1 (by omega) ?_ ?_ ?_
   ·simp
   ·simp [zcn,zae,wb,zB,s1,s2]
   ·simp [wb,zB,s1,s2]
 ·left
  refine ⟨by rw [zm0],?_⟩
  have e:(N+1 - ((N+1).toNat:Int)).toNat=0:=by omega
  have ed:=jeh a b
  rw [e]
  unfold jc0 jc1
  rw [ed.1,ed.2]
  repeat' (first|refine gwA ?_|(refine gwX ?_;intro Q hQ hP;simp [hC,hY,wb,zih,zB];refine gwq hQ ?_;clear hQ hP Q)|(refine gwC ?_ ?_<;>(intro hb;try (cases hb;done))))
  refine ⟨.inr trivial,?_⟩
  simp [results135]
@[simp] theorem jp0 (a b:Int) (ha0:0≤a) (ha:a<57896044618658097711785492504343953926634992332820282019728792003956564819968) (hb0:0<b) (hb1:b<57896044618658097711785492504343953926634992332820282019728792003956564819968) (K:Value→Prop) :
  za0 prog G0 135 #[Value.agg #[.int .u64 (wi (a) 0),.int .u64 (wi (a) 1),.int .u64 (wi (a) 2),.int .u64 (wi (a) 3)],Value.agg #[.int .u64 (wi (b) 0),.int .u64 (wi (b) 1),.int .u64 (wi (b) 2),.int .u64 (wi (b) 3)]] K↔K (.tuple #[wd (a / b),wd (a%b)]):=zad G0W (by kernel_rfl) (zya a b ha0 ha hb0 hb1)
theorem zhc {P:Program} {G:Hp} {f:FuncId} {args:Array Value} {v:Value} (h:zkw P G f args (.ret v)):Ret P G f args v:=⟨h.1 v rfl,h.2.1,h.2.2.1,h.2.2.2⟩
@[simp] theorem jrj (n:Int) (K:Value→Prop):za0 prog G0 133 #[.bool true,.int .i64 n] K↔K (.tuple #[]):=zad G0W (by kernel_rfl) (zhc (z56 n))
@[simp] theorem jrm (z:Int) (K:Value→Prop):za0 prog G0 134 #[Value.agg #[.int .u64 (wi (z) 0),.int .u64 (wi (z) 1),.int .u64 (wi (z) 2),.int .u64 (wi (z) 3)],.bool false] K↔K (wd z):=zad G0W (by kernel_rfl) (zhc (jhu z))
def wr (z:Int):Prop:=-57896044618658097711785492504343953926634992332820282019728792003956564819968≤z∧z<57896044618658097711785492504343953926634992332820282019728792003956564819968
theorem zb7 {z:Int} (h:wr z):sz z=z:=jhw h.1 h.2
theorem jih {z:Int} (h:wr z):ng z=decide (z<0):=by rw [zep,zb7 h]
theorem z57 {z:Int} (h:wr z) (h0:0≤z):ng z=false:=by rw [jih h];simp;exact h0
theorem jps {z:Int} (h:wr z) (h0:z<0):ng z=true:=by rw [jih h];simp;exact h0
theorem zgk (z:Int) (h:wr z) (h1:z ≠ -57896044618658097711785492504343953926634992332820282019728792003956564819968):(!wi z 0==0||(!wi z 1==0||(!wi z 2==0||!wi z 3==9223372036854775808)))=true:=by
 refine Classical.byContradiction fun hn=>h1 ?_
 simp at hn
 obtain ⟨w0,w1,w2,w3⟩:=hn
 rw [←zb7 h,jav,w0,w1,w2,w3]
 unfold ng;rw [w3];decide
theorem zzx {z:Int} (h:wr z) (h0:z≠0):(!wi z 0==0||(!wi z 1==0||(!wi z 2==0||!wi z 3==0)))=true:=zjp z (by rw [zb7 h];exact h0)
theorem zp0:i64 1:=by decide
def lst:Int:=-57896044618658097711785492504343953926634992332820282019728792003956564819968

theorem jbw (a:Int):zkw prog G0 117 #[wd a,wd 0] (.pan (erV 30)):=by
 refine zed G0F func117 rfl call117 (fun v h=>by cases h) (by simp) (by simp [ntmps117]) ?_
 intro C hC hC0 hY
 repeat' (first|refine gwA ?_|((first|refine gwR [1000133] ?_|refine gwD [1000133] ?_);intro Q hQ hP;(repeat first|simp [hC,hY,zde]|refine za1 (jga 30) ?_);(first|refine gwq hQ ?_|refine hP _ _ (by kernel_rfl) fun _=>?_);clear hQ hP Q)|(refine gwC ?_ ?_<;>(intro hb;try (cases hb;done))))
 rfl
set_option maxHeartbeats 2000000 in
theorem z12 (a b:Int) (ha:wr a) (hb:wr b) (h0:0<b) (ha0:0≤a):Ret prog G0 117 #[wd a,wd b] (.tuple #[wd (a.fdiv b),wd (a.fmod b)]):=by
 refine zar G0F func117 rfl call117 (by simp) (by simp) (by simp [ntmps117]) ?_
 intro C hC hC0 hY
 have hz:=zzx hb (by omega)
 have hn1:=zgk a ha (by omega)
 have hn2:=zgk b hb (by omega)
 have s1:¬zcs (sz b) 0<0:=by rw [zb7 hb];unfold zcs;split<;>(try split)<;>omega
 have s2:¬zcs (sz a) 0<0:=by rw [zb7 ha];unfold zcs;split<;>(try split)<;>omega
 have hbu:b<57896044618658097711785492504343953926634992332820282019728792003956564819968:=hb.2
 have hau:a<57896044618658097711785492504343953926634992332820282019728792003956564819968:=ha.2
 have e1:a.fdiv b=a / b:=Int.fdiv_eq_ediv_of_nonneg a (by omega)
 have e2:a.fmod b=a%b:=Int.fmod_eq_emod_of_nonneg a (by omega)
 repeat' (first|refine gwA ?_|(refine gwX ?_;intro Q hQ hP;simp [hC,hY,hz,hn1,hn2,s1,s2,lsB,ha0,hau,h0,hbu];(first|refine gwq hQ ?_|refine hP _ _ (by kernel_rfl) fun _=>?_);clear hQ hP Q)|(refine gwC ?_ ?_<;>(intro hb;try (cases hb;done))))
 refine ⟨.inr trivial,?_⟩
 simp [results117,e1,e2]
theorem z2x (m b:Int) (hb:0<b):(-(m+1)).fdiv b=-(m / b) - 1∧(-(m+1)).fmod b=b - 1 - m%b:=by
 have h1:=Int.emod_add_mul_ediv m b
 have h2:=Int.emod_nonneg m (b:=b) (by omega)
 have h3:=Int.emod_lt_of_pos m hb
 have e:-(m+1)=(b - 1 - m%b)+b*(-(m / b) - 1):=by rw [Int.mul_sub,Int.mul_neg];omega
 rw [Int.fdiv_eq_ediv_of_nonneg _ (by omega),Int.fmod_eq_emod_of_nonneg _ (by omega)]
 constructor
 ·rw [e,Int.add_mul_ediv_left _ _ (by omega),Int.ediv_eq_zero_of_lt (by omega) (by omega)];omega
 ·rw [e,Int.add_mul_emod_self_left,Int.emod_eq_of_lt (by omega) (by omega)]
set_option maxHeartbeats 2000000 in
theorem z11 (m b:Int) (ha:wr (-(m+1))) (hal:-(m+1)≠lst) (hb:wr b) (h0:0<b) (hm0:0≤m):Ret prog G0 117 #[wd (-(m+1)),wd b] (.tuple #[wd ((-(m+1)).fdiv b),wd ((-(m+1)).fmod b)]):=by
 refine zar G0F func117 rfl call117 (by simp) (by simp) (by simp [ntmps117]) ?_
 intro C hC hC0 hY
 obtain ⟨d1,d2⟩:=z2x m b h0
 rw [d1,d2]
 generalize ea:-(m+1)=a at *
 have hz:=zzx hb (by omega)
 have hn1:=zgk a ha hal
 have hn2:=zgk b hb (by omega)
 have s1:¬zcs (sz b) 0<0:=by rw [zb7 hb];unfold zcs;split<;>(try split)<;>omega
 have s2:zcs (sz a) 0<0:=by rw [zb7 ha];unfold zcs;split<;>(try split)<;>omega
 have hbu:b<57896044618658097711785492504343953926634992332820282019728792003956564819968:=hb.2
 have hmu:m<57896044618658097711785492504343953926634992332820282019728792003956564819968:=by have:=ha.1;unfold lst at hal;omega
 have hq0:0≤m / b:=Int.ediv_nonneg hm0 (by omega)
 have hq1:m / b≤m:=Int.ediv_le_self b hm0
 have hr0:0≤m%b:=Int.emod_nonneg m (by omega)
 have hr1:m%b<b:=Int.emod_lt_of_pos m h0
 have em:-(a+1)=m:=by omega
 have f1:(ng a==ng 1&&ng (a+1) != ng a)=false:=by
  rw [jps ha (by omega),z57 (z:=1) (by unfold wr;omega) (by omega)];rfl
 have f2:(ng (a+1)&&ng m)=false:=by rw [z57 (z:=m) (by unfold wr;omega) hm0];simp
 have f3:(ng (m / b)&&ng (-(m / b)))=false:=by rw [z57 (z:=m / b) (by unfold wr;omega) hq0];simp
 have f4:(ng (-(m / b)) != ng 1&&ng (-(m / b) - 1) != ng (-(m / b)))=false:=by
  rw [z57 (z:=1) (by unfold wr;omega) (by omega),jps (z:=-(m / b) - 1) (by unfold wr;omega) (by omega)]
  cases ng (-(m / b))<;>rfl
 have f5:(ng b != ng 1&&ng (b - 1) != ng b)=false:=by
  rw [z57 hb (by omega),z57 (z:=1) (by unfold wr;omega) (by omega)];rfl
 have f6:(ng (b - 1) != ng (m%b)&&ng (b - 1 - m%b) != ng (b - 1))=false:=by
  rw [z57 (z:=b - 1) (by unfold wr;have:=hb.2;omega) (by omega),z57 (z:=m%b) (by unfold wr;omega) hr0];rfl
 have i1:=zp0
 repeat' (first|refine gwA ?_|(refine gwX ?_;intro Q hQ hP;simp [hC,hY,hz,hn1,hn2,s1,s2,lsB,h0,hbu,hm0,hmu,em,f1,f2,f3,f4,f5,f6,i1];(first|refine gwq hQ ?_|refine hP _ _ (by kernel_rfl) fun _=>?_);clear hQ hP Q)|(refine gwC ?_ ?_<;>(intro hb;try (cases hb;done))))
 refine ⟨.inr trivial,?_⟩
 simp [results117]
theorem zcr {α:Type} {f:Nat→α} {x k:Nat} {v:α} (h:k<x):upd f x v k=f k:=zaa f v (by omega)
theorem zwq (a b:Int) (ha:wr a) (hal:a≠lst) (hb:wr b) (h0:0<b):Ret prog G0 117 #[wd a,wd b] (.tuple #[wd (a / b),wd (a%b)]):=by
 rw [←Int.fdiv_eq_ediv_of_nonneg a (Int.le_of_lt h0),←Int.fmod_eq_emod_of_nonneg a (Int.le_of_lt h0)]
 by_cases ha0:0≤a
 ·exact z12 a b ha hb h0 ha0
 ·obtain ⟨m,rfl⟩:∃ m,a=-(m+1):=⟨-a - 1,by omega⟩
  exact z11 m b ha hal hb h0 (by omega)
@[simp] theorem jpz (a b:Int) (ha:wr a) (hal:a≠lst) (hb:wr b) (h0:0<b) (K:Value→Prop):za0 prog G0 117 #[Value.agg #[.int .u64 (wi (a) 0),.int .u64 (wi (a) 1),.int .u64 (wi (a) 2),.int .u64 (wi (a) 3)],Value.agg #[.int .u64 (wi (b) 0),.int .u64 (wi (b) 1),.int .u64 (wi (b) 2),.int .u64 (wi (b) 3)]] K↔K (.tuple #[wd (a / b),wd (a%b)]) :=
 zad G0W (by kernel_rfl) (zwq a b ha hal hb h0)
def hp2 (a b:Int):Hp:=hpL G0 [(200,wb a),(208,wb b)]
theorem zf6 (a b:Int):rst (hp2 a b) [200,208]=hp2 a b:=zdj G0F (by simp)
theorem zk9 (a b:Int) (D:Nat→Prop) (k:Nat) (c:Blk) (h:hp2 a b k=some c):c.ids D:=by
 rcases za5 h with h|h
 ·simp at h
  rcases h with ⟨_,rfl⟩|⟨_,rfl⟩<;>simp [wb]
 ·exact zei _ _ _ h
theorem zjg (a b:Int) (x:Nat) (hx:300≤x):hp2 a b x=none:=by
 simp [hp2,show ¬x=200 by omega,show ¬x=208 by omega,show 100≤x by omega]
theorem ztd (a b:Int) (ha:wr a) (hal:a≠lst) (hb:wr b) (h0:0<b):Fun prog G0 116 [.pointer (some ⟨200,0,none⟩),.pointer (some ⟨208,0,none⟩)].toArray (hp2 a b) [200,208] (.ret (wd (a / b)) []):=by
 refine zfa (B:=300) G0F (fun k hk=>za4 (by simp) hk) func116 rfl call116 ?_ ?_ ⟨zaq (by simp),by simp [zab],by simp,by simp⟩ (by simp [ntmps116]) (by omega) ?_ ?_
 ·rw [zf6];simp [hp2,dom]
 ·rw [zf6];exact zk9 a b _
 ·rw [zf6];exact zjg a b
 ·intro C hC hC0 hY
  rw [zf6] at hC0 ⊢
  repeat' (first|refine gwA ?_|(refine gwX ?_;intro Q hQ hP;simp [hC,hY,hp2,wb,ha,hal,hb,h0];(first|refine gwq hQ ?_|refine hP _ _ (by kernel_rfl) fun _=>?_);clear hQ hP Q)|(refine gwC ?_ ?_<;>(intro hb;try (cases hb;done))))
  refine ⟨.inr rfl,by simp [results116],fun k hk=>?_⟩
  have hk3:k<300:=Classical.byContradiction fun h=>hk (zjg a b k (by omega))
  simp (disch:=omega) only [zcr]
  rfl
theorem zui (a b:Int) (ha:wr a) (hal:a≠lst) (hb:wr b) (h0:0<b):Ret prog G0 89 #[wd a,wd b] (.tuple #[wd (a / b),.int .i64 0]):=by
 refine zar G0F func89 rfl call89 (by simp) (by simp) (by simp [ntmps89]) ?_
 intro C hC hC0 hY
 repeat' (first|refine gwA ?_|((first|refine gwR [115] ?_|refine gwD [115] ?_);intro Q hQ hP;(repeat first|simp [hC,hY]|refine zbv (hp':=hp2 a b) (zyl (fun k hk=>za4 (by simp) hk) (by simp) rfl (by simp) (ztd a b ha hal hb h0)) (by simp [hp2,wb]) (fun k hk=>za4 (by simp) hk) trivial ?_);(first|refine gwq hQ ?_|refine hP _ _ (by kernel_rfl) fun _=>?_);clear hQ hP Q)|(refine gwC ?_ ?_<;>(intro hb;try (cases hb;done))))
 refine ⟨.inr trivial,?_⟩
 simp [results89]
@[simp] theorem jpy (a b:Int) (ha:wr a) (hal:a≠lst) (hb:wr b) (h0:0<b) (K:Value→Prop):za0 prog G0 89 #[Value.agg #[.int .u64 (wi (a) 0),.int .u64 (wi (a) 1),.int .u64 (wi (a) 2),.int .u64 (wi (a) 3)],Value.agg #[.int .u64 (wi (b) 0),.int .u64 (wi (b) 1),.int .u64 (wi (b) 2),.int .u64 (wi (b) 3)]] K↔K (.tuple #[wd (a / b),.int .i64 0]) :=
 zad G0W (by kernel_rfl) (zui a b ha hal hb h0)
theorem jah (n:Int):zkw prog G0 93 #[.bool true,.int .i64 n] (.ret (.tuple #[])):=by
 refine zed G0F func93 rfl call93 (fun v h=>by cases h;simp) (by simp) (by simp [ntmps93]) ?_
 intro C hC hC0 hY
 repeat' (first|refine gwA ?_|(refine gwX ?_;intro Q hQ hP;simp [hC,hY];(first|refine gwq hQ ?_|refine hP _ _ (by kernel_rfl) fun _=>?_);clear hQ hP Q)|(refine gwC ?_ ?_<;>(intro hb;try (cases hb;done))))
 exact ⟨.inl trivial,by simp [results93]⟩
theorem jag (n:Int):zkw prog G0 93 #[.bool false,.int .i64 n] (.pan (erV n)):=by
 refine zed G0F func93 rfl call93 (fun v h=>by cases h) (by simp) (by simp [ntmps93]) ?_
 intro C hC hC0 hY
 repeat' (first|refine gwA ?_|(refine gwX ?_;intro Q hQ hP;simp [hC,hY];(first|refine gwq hQ ?_|refine hP _ _ (by kernel_rfl) fun _=>?_);clear hQ hP Q)|(refine gwC ?_ ?_<;>(intro hb;try (cases hb;done))))
 rfl
@[simp] theorem jrr (n:Int) (K:Value→Prop):za0 prog G0 93 #[.bool true,.int .i64 n] K↔K (.tuple #[]):=zad G0W (by kernel_rfl) (zhc (jah n))
theorem z2o (z:Int):Ret prog G0 149 #[wd z] (.int .i64 (zaw (uz z) / 2)):=by
 refine zar G0F func149 rfl call149 rfl (by simp) (by simp [ntmps149]) ?_
 intro C hC hC0 hY
 have b0:=zfm z 0
 have b1:=zfm z 1
 have b2:=zfm z 2
 have b3:=zfm z 3
 have k3:=zzb z
 have k2:=zza z
 have k1:=zy9 z
 have k0:=zy8 z
 have m3:Int.bmod (192+zaw (wi z 3)) 18446744073709551616=192+zaw (wi z 3):=bm (by omega) (by omega)
 have m2:Int.bmod (128+zaw (wi z 2)) 18446744073709551616=128+zaw (wi z 2):=bm (by omega) (by omega)
 have m1:Int.bmod (64+zaw (wi z 1)) 18446744073709551616=64+zaw (wi z 1):=bm (by omega) (by omega)
 have t3:(192+zaw (wi z 3)).tdiv 2=(192+zaw (wi z 3)) / 2:=Int.tdiv_eq_ediv_of_nonneg (by omega)
 have t2:(128+zaw (wi z 2)).tdiv 2=(128+zaw (wi z 2)) / 2:=Int.tdiv_eq_ediv_of_nonneg (by omega)
 have t1:(64+zaw (wi z 1)).tdiv 2=(64+zaw (wi z 1)) / 2:=Int.tdiv_eq_ediv_of_nonneg (by omega)
 have t0:(zaw (wi z 0)).tdiv 2=zaw (wi z 0) / 2:=Int.tdiv_eq_ediv_of_nonneg (by omega)
 have u3:Int.bmod ((192+zaw (wi z 3)) / 2) 18446744073709551616=(192+zaw (wi z 3)) / 2:=bm (by omega) (by omega)
 have u2:Int.bmod ((128+zaw (wi z 2)) / 2) 18446744073709551616=(128+zaw (wi z 2)) / 2:=bm (by omega) (by omega)
 have u1:Int.bmod ((64+zaw (wi z 1)) / 2) 18446744073709551616=(64+zaw (wi z 1)) / 2:=bm (by omega) (by omega)
 have u0:Int.bmod (zaw (wi z 0) / 2) 18446744073709551616=zaw (wi z 0) / 2:=bm (by omega) (by omega)
 repeat' (first|refine zac ?_|refine zaf ?_|refine gwA ?_|(refine gwX ?_;intro Q hQ hP;simp [hC,hY,zbm,zbs,m1,m2,m3,t0,t1,t2,t3,u0,u1,u2,u3];(first|refine gwq hQ ?_|refine hP _ _ (by kernel_rfl) fun _=>?_);clear hQ hP Q)|(refine gwC ?_ ?_<;>(intro hb;try (cases hb;done))))
 all_goals
  refine ⟨.inr trivial,?_⟩
  simp [results149]
  simp_all
@[simp] theorem jrq (z:Int) (K:Value→Prop):za0 prog G0 149 #[Value.agg #[.int .u64 (wi (z) 0),.int .u64 (wi (z) 1),.int .u64 (wi (z) 2),.int .u64 (wi (z) 3)]] K↔K (.int .i64 (zaw (uz z) / 2)):=zad G0W (by kernel_rfl) (z2o z)
theorem z7k (a:Int) (k:Nat) (h100:100≤k):Fun prog G0 139 #[wd a] G0 [] (.new (.func (.func 148) #[] #[.pointer (some ⟨k,0,none⟩)]) [(k,wb a)]):=by
 have e0:rst G0 []=G0:=zi8 G0F []
 refine zoi (B:=200) (fun j=>if j=k then 200 else j) G0F (fun _ _=>rfl) func139 rfl call139 (by simp [zan,zay,zai,zaj]) (by rw [e0];exact zei _) ?_ (by simp [ntmps139]) (by omega) (by rw [e0];exact fun x hx=>zrd x (by omega)) (fun j hj=>?_) ?_ ?_ ?_ ?_
 ·refine ⟨by simp [zan,zay,zai,zaj,zc0,zab],by simp [zab];omega,fun q b c h1 h2=>?_⟩
  simp at h1 h2
  rw [h1.2,h2.2]
 ·rw [e0] at hj;have:=zku hj;rw [if_neg (by omega)]
 ·simp [e0,dom]
 ·simp
 ·simp [wb,zae,zai,zaj]
 ·intro C hC hC0 hY
  rw [e0]
  repeat' (first|refine gwA ?_|(refine gwX ?_;intro Q hQ hP;simp [hC,hY];(first|refine gwq hQ ?_|refine hP _ _ (by kernel_rfl) fun _=>?_);clear hQ hP Q)|(refine gwC ?_ ?_<;>(intro hb;try (cases hb;done))))
  refine ⟨.inr trivial,?_⟩
  simp [results139,ren,zax,zak,zao,wb]
  intro j hj hj2
  have:=zku hj
  omega
theorem jif (t r j:Nat) (hr:r<64):wi (2^(64*t+r)) j=if j=t then 2^r else 0:=by
 by_cases h:j=t
 ·subst h
  rw [if_pos rfl]
  unfold wi
  rw [Int.pow_add,Int.mul_ediv_cancel_left _ (by have:=zbe (64*j);omega)]
  exact Int.emod_eq_of_lt (Int.le_of_lt (zbe _)) (by
   have:(2:Int)^r<2^64:=by exact_mod_cast Nat.pow_lt_pow_right (by omega) hr
   exact this)
 ·rw [if_neg h]
  have:=zm7 0 t r j hr h
  simp only [Int.zero_mul,Int.zero_add] at this
  rw [this,zde]
theorem zy2 (t r:Nat) (ht:t<4) (hr:r<64):(#[.int .u64 0,.int .u64 0,.int .u64 0,.int .u64 0]:Array Value).setIfInBounds t (.int .u64 (2^r))=#[.int .u64 (wi (2^(64*t+r)) 0),.int .u64 (wi (2^(64*t+r)) 1),.int .u64 (wi (2^(64*t+r)) 2),.int .u64 (wi (2^(64*t+r)) 3)]:=by
 simp only [jif _ _ _ hr]
 have:t=0∨t=1∨t=2∨t=3:=by omega
 rcases this with rfl|rfl|rfl|rfl<;>simp
def znl (M:Int):List (Array Value):=(List.range (M+1).toNat).map fun (i:Nat)=>#[wd (2^(M - (i:Int)).toNat)]
theorem zjs (M:Int):(znl M).length=(M+1).toNat:=by simp [znl]
theorem zl9 (M:Int) (i:Nat) (h:i<(M+1).toNat):(znl M)[i]? = some #[wd (2^(M - (i:Int)).toNat)]:=by simp [znl,h]
def aHp (a:Int):Hp:=hpL G0 [(100,wb a)]
def z02 (a M:Int) (l i:Nat):GS :=
 ⟨tsL [(0,.func (.yield l) #[] #[]),(1,.pointer (some ⟨100,0,none⟩)),(3,.int .i64 (M - i))],aHp a,300,i⟩
theorem jdz (a:Int):zg4 prog G0 148 #[.pointer (some ⟨100,0,none⟩)] (aHp a) [100] (znl (zaw (uz a) / 2)):=by
 have e0:rst (aHp a) [100]=aHp a:=zdj G0F (by simp)
 refine zmo (B:=200) (v:=.tuple #[]) G0F (fun k hk=>za4 (by simp) hk) func148 rfl call148 ?_ ?_ (by simp [ntmps148]) (by omega) ?_ ?_
 ·rw [e0];simp [zan,zay,zai,zaj,dom,aHp]
 ·rw [e0]
  intro k c hk
  rcases za5 hk with h|h
  ·simp at h
   rcases h with ⟨_,rfl⟩
   simp [wb,zae,zai,zaj]
  ·exact zei _ _ _ h
 ·rw [e0]
  intro x hx
  simp [aHp,show ¬x=100 by omega,show 100≤x by omega]
 ·intro C l stop hC hC0 hY
  rw [e0] at hC0 ⊢
  have hnb:=zey 256 (z34 a).2
  have hM:0≤zaw (uz a) / 2∧zaw (uz a) / 2≤128:=by omega
  have hlen:=zjs (zaw (uz a) / 2)
  repeat' (first|refine gwA ?_|(refine gwX ?_;intro Q hQ hP;simp [hC,hY,aHp,wb];(first|refine gwq hQ ?_|refine hP _ _ (by kernel_rfl) fun _=>?_);clear hQ hP Q)|(refine gwC ?_ ?_<;>(intro hb;try (cases hb;done))))
  generalize hMe:zaw (uz a) / 2=M at *
  generalize hxs:znl M=xs at *
  refine zb8 (min stop xs.length) (z02 a M l) ?_ ?_ ?_
  ·refine zbb _ 300 hC G0F (m:=[(100,wb a)]) (m0:=[(100,wb a)]) hC0 (by omega) ?_ ?_ ?_
   ·simp [dom]
   ·simp [wb]
   ·simp [wb]
  ·intro i hi
   have hs:i<stop:=by omega
   have hq:(i != stop)=true:=by simp;omega
   have hle:i≤stop:=by omega
   obtain ⟨n,hn⟩:∃ n:Nat,M - (i:Int)=n:=⟨(M - i).toNat,by omega⟩
   have g1:(i:Int)≤M:=by omega
   have hx:xs[i]? = some #[wd (2^n)]:=by
    rw [←hxs,zl9 M i (by omega),hn];rfl
   simp only [ja7] at hx
   have g4:Int.bmod ((n:Int) - 1) 18446744073709551616=M - ((i+1:Nat):Int):=by rw [bm (by omega) (by omega)];omega
   obtain ⟨t,r,hr,hn'⟩:∃ t r,r<64∧n=64*t+r:=⟨n / 64,n%64,by omega,by omega⟩
   have tq:((n:Int)).tdiv 64=t:=by rw [Int.tdiv_eq_ediv_of_nonneg (by omega)];omega
   have tm:((n:Int)).tmod 64=r:=by rw [Int.tmod_eq_emod_of_nonneg (by omega)];omega
   have t4:t<4:=by omega
   have t4':(t:Int)<4:=by omega
   have t0:(0:Int)≤t:=by omega
   have tb:Int.bmod (t:Int) 18446744073709551616=t:=bm (by omega) (by omega)
   have t3:t≤3:=Nat.le_of_lt_succ t4
   have m1:min r 64=r:=by omega
   have m2:(2:Int)^r%18446744073709551616=2^r:=Int.emod_eq_of_lt (Int.le_of_lt (zbe _)) (by
    have:(2:Int)^r<2^64:=by exact_mod_cast Nat.pow_lt_pow_right (by omega) hr
    exact this)
   have hset:=zy2 t r t4 hr
   rw [←hn'] at hset
   unfold z02
   repeat' (first|refine gwA ?_|(refine gwX ?_;intro Q hQ hP;simp [hC,hY,aHp,wb,hs,hq,hle,hn,g1,g4,hx,tq,tm,t4,t4',t0,tb,t3,m1,m2,hset];(first|refine gwq hQ ?_|refine hP _ _ (by kernel_rfl) fun _=>?_);clear hQ hP Q)|(refine gwC ?_ ?_<;>(intro hb;try (cases hb;done))))
   refine zbb _ 300 hC G0F (m:=[(100,wb a)]) (m0:=[(100,wb a)]) hC0 (by omega) ?_ ?_ ?_
   ·simp [dom]
   ·simp [wb]
   ·simp [wb]
  ·by_cases h4:xs.length≤stop
   ·rw [Nat.min_eq_right h4]
    have g1:¬((xs.length:Int)≤M):=by omega
    unfold z02
    repeat' (first|refine gwA ?_|(refine gwX ?_;intro Q hQ hP;simp [hC,hY,aHp,wb,g1];(first|refine gwq hQ ?_|refine hP _ _ (by kernel_rfl) fun _=>?_);clear hQ hP Q)|(refine gwC ?_ ?_<;>(intro hb;try (cases hb;done))))
    refine ⟨.inl trivial,by simp [results148],?_⟩
    show xs.length=_
    omega
   ·rw [Nat.min_eq_left (by omega)]
    obtain ⟨n,hn⟩:∃ n:Nat,M - (stop:Int)=n:=⟨(M - stop).toNat,by omega⟩
    have g1:(stop:Int)≤M:=by omega
    have hx:xs[stop]? = some #[wd (2^n)]:=by
     rw [←hxs,zl9 M stop (by omega),hn];rfl
    simp only [ja7] at hx
    obtain ⟨t,r,hr,hn'⟩:∃ t r,r<64∧n=64*t+r:=⟨n / 64,n%64,by omega,by omega⟩
    have tq:((n:Int)).tdiv 64=t:=by rw [Int.tdiv_eq_ediv_of_nonneg (by omega)];omega
    have tm:((n:Int)).tmod 64=r:=by rw [Int.tmod_eq_emod_of_nonneg (by omega)];omega
    have t4:t<4:=by omega
    have t4':(t:Int)<4:=by omega
    have t0:(0:Int)≤t:=by omega
    have tb:Int.bmod (t:Int) 18446744073709551616=t:=bm (by omega) (by omega)
    have t3:t≤3:=Nat.le_of_lt_succ t4
    have m1:min r 64=r:=by omega
    have m2:(2:Int)^r%18446744073709551616=2^r:=Int.emod_eq_of_lt (Int.le_of_lt (zbe _)) (by
     have:(2:Int)^r<2^64:=by exact_mod_cast Nat.pow_lt_pow_right (by omega) hr
     exact this)
    have hset:=zy2 t r t4 hr
    rw [←hn'] at hset
    unfold z02
    repeat' (first|refine gwA ?_|(refine gwX ?_;intro Q hQ hP;simp [hC,hY,aHp,wb,hn,g1,hx,tq,tm,t4,t4',t0,tb,t3,m1,m2,hset];(first|refine gwq hQ ?_|refine hP _ _ (by kernel_rfl) fun _=>?_);clear hQ hP Q)|(refine gwC ?_ ?_<;>(intro hb;try (cases hb;done))))
    refine ⟨.inr trivial,by simp [results148],?_⟩
    show stop+1=_
    omega
def rp (a:Int) (K:Nat):Nat→Int
 | 0=>0
 | i+1=>if (rp a K i+2^(K - 1 - i))*(rp a K i+2^(K - 1 - i))≤a then rp a K i+2^(K - 1 - i) else rp a K i
theorem zsx (a:Int) (K:Nat) (h0:0≤a) (h:a<2^K*2^K):∀ i,i≤K→0≤rp a K i∧rp a K i*rp a K i≤a∧a<(rp a K i+2^(K - i))*(rp a K i+2^(K - i))
 | 0,_=>by simp [rp];exact ⟨h0,h⟩
 | i+1,hi=>by
  obtain ⟨h1,h2,h3⟩:=zsx a K h0 h i (by omega)
  have e1:K - i=(K - 1 - i)+1:=by omega
  have e2:K - (i+1)=K - 1 - i:=by omega
  rw [e1,Int.pow_succ] at h3
  rw [e2]
  have hp:=zbe (K - 1 - i)
  unfold rp
  split
  ·rename_i hc
   refine ⟨by omega,hc,?_⟩
   rw [Int.add_assoc,show (2:Int)^(K - 1 - i)+2^(K - 1 - i)=2^(K - 1 - i)*2 by omega]
   exact h3
  ·rename_i hc
   exact ⟨h1,h2,by omega⟩
def isq (a:Int):Int:=rp a (zaw a / 2+1).toNat (zaw a / 2+1).toNat
theorem zmn (a:Int) (h0:0≤a):a<2^(zaw a / 2+1).toNat*2^(zaw a / 2+1).toNat:=by
 rw [←Int.pow_add]
 by_cases h:a=0
 ·subst h;exact zbe _
 ·obtain ⟨k,hk,k1,k2⟩:=zeo (x:=a) (by omega)
  refine Int.lt_of_lt_of_le k2 ?_
  rw [hk]
  exact_mod_cast Nat.pow_le_pow_right (by omega) (by omega)
theorem zfk (a:Int) (h0:0≤a):0≤isq a∧isq a*isq a≤a∧a<(isq a+1)*(isq a+1):=by
 have:=zsx a (zaw a / 2+1).toNat h0 (zmn a h0) (zaw a / 2+1).toNat (Nat.le_refl _)
 simpa [isq] using this
theorem jaq {x y:Int} (hx:0≤x) (hy:0≤y) (h:x*x<y*y):x<y:=by
 refine Classical.byContradiction fun hn=>?_
 have:y*y≤x*x:=Int.mul_le_mul (by omega) (by omega) hy hx
 omega
theorem zdz {a r:Int} (h0:0≤r) (h1:r*r≤a) (h2:a<(r+1)*(r+1)):isq a=r:=by
 have ha:0≤a:=Int.le_trans (Int.mul_nonneg h0 h0) h1
 obtain ⟨s0,s1,s2⟩:=zfk a ha
 have h3:=jaq (x:=isq a) (y:=r+1) s0 (by omega) (by omega)
 have h4:=jaq (x:=r) (y:=isq a+1) h0 (by omega) (by omega)
 omega
theorem z3t {x:Int} (B:Int) (hx:0≤x) (hB:0≤B) (h:x*x<B*B):x<B:=jaq hx hB h
def jaf (a r:Int):Hp:=hpL G0 [(200,wb a),(208,wb r)]
def z6n:Nat→Value:=tsL [(1,.pointer (some ⟨200,0,none⟩)),(2,.pointer (some ⟨208,0,none⟩))]
theorem jc7 (a:Int) (ha:wr a) (h0:a<0):zkw prog G0 120 #[wd a] (.pan (erV 2)):=by
 refine zed G0F func120 rfl call120 (fun v h=>by cases h) (by simp) (by simp [ntmps120]) ?_
 intro C hC hC0 hY
 have s1:¬0≤zcs (sz a) 0:=by rw [zb7 ha];unfold zcs;split<;>(try split)<;>omega
 repeat' (first|refine gwA ?_|((first|refine gwR [1000093] ?_|refine gwD [1000093] ?_);intro Q hQ hP;(repeat first|simp [hC,hY,s1]|refine za1 (jag 2) ?_);(first|refine gwq hQ ?_|refine hP _ _ (by kernel_rfl) fun _=>?_);clear hQ hP Q)|(refine gwC ?_ ?_<;>(intro hb;try (cases hb;done))))
 rfl
set_option maxHeartbeats 1000000 in
theorem zur (a:Int) (ha:wr a) (h0:0≤a):Ret prog G0 120 #[wd a] (wd (isq a)):=by
 refine zar G0F func120 rfl call120 (by simp) (by simp) (by simp [ntmps120]) ?_
 intro C hC hC0 hY
 have s1:0≤zcs (sz a) 0:=by rw [zb7 ha];unfold zcs;split<;>(try split)<;>omega
 have hnb:=zey 255 ha.2
 have hit:=jdz a
 have eu:uz a=a:=by unfold uz;have:=ha.2;omega
 rw [eu] at hit
 have hinv:=zsx a (zaw a / 2+1).toNat h0 (zmn a h0)
 have hisq:isq a=rp a (zaw a / 2+1).toNat (zaw a / 2+1).toNat:=rfl
 have hM:0≤zaw a / 2∧zaw a / 2≤127:=by omega
 generalize zaw a / 2=M at *
 repeat' (first|refine gwA ?_|(refine gwX ?_;intro Q hQ hP;simp [hC,hY,s1];(first|refine gwq hQ ?_|refine hP _ _ (by kernel_rfl) fun _=>?_);clear hQ hP Q)|(refine gwC ?_ ?_<;>(intro hb;try (cases hb;done))))
 refine zcc [139] (by kernel_rfl) ?_;intro Q hQ hP;simp [hC,hY]
 refine zbv (z7k a 256 (by omega)) (by simp) (fun _ _=>rfl) (by simp [Res.at]) ?_
 simp
 refine hQ _ _ _ _ ?_;clear hQ hP Q
 repeat' (first|refine gwA ?_|(refine gwX ?_;intro Q hQ hP;simp [hC,hY];(first|refine gwq hQ ?_|refine hP _ _ (by kernel_rfl) fun _=>?_);clear hQ hP Q)|(refine gwC ?_ ?_<;>(intro hb;try (cases hb;done))))
 generalize hK:(M+1).toNat=K at *
 refine zgi (f:=148) (rs:=[256]) (xs:=znl M) (caps:=#[.pointer (some ⟨256,0,none⟩)]) (by simp) ?_ ?_ (by simp [ntmps120]) z6n (fun i=>jaf a (rp a K i)) 300 K (by rw [zjs];omega) ?_ ?_ ?_ ?_ ?_
 ·rw [hC]
  refine zg4.cast (IterX.rn (fun k=>if k=100 then 256 else k) G0F (fun k hk=>za4 (by simp) hk) (rs:=[100]) ?_ hit) (by simp [zao]) (by simp)
  refine ⟨fun k hk=>?_,?_,?_,?_⟩
  ·simp [aHp,show ¬k=100 by omega,show ¬k=200 by omega,show ¬k=208 by omega,show ¬k=256 by omega]
  ·simp
  ·simp [aHp,wb,Blk.rn,zak,zao]
  ·simp
 ·intro x hx
  simp only [znl,List.mem_map] at hx
  obtain ⟨i,_,rfl⟩:=hx
  simp
 ·refine zbb _ 300 hC G0F (m0:=[]) hC0 (by omega) ?_ ?_ ?_
  ·simp [dom]
  ·simp [wb,rp,zde]
  ·simp
 ·simp [jaf,dom]
 ·intro i hi t
  refine zes ?_ t
  simp [dom,jaf]
 ·intro i x hi hx C1 l hC1 hh1 hY1
  have hCC:=hC
  have hC1':C1.G=G0:=hC1.trans hC
  obtain ⟨n,hn⟩:∃ n:Nat,M - (i:Int)=n:=⟨(M - i).toNat,by omega⟩
  rw [zl9 M i (by omega),hn] at hx
  cases hx
  obtain ⟨r0,r1,r2⟩:=hinv i (by omega)
  have en:K - 1 - i=n:=by omega
  have hrs:rp a K (i+1)=if (rp a K i+2^n)*(rp a K i+2^n)≤a then rp a K i+2^n else rp a K i:=by
   rw [rp,en]
  generalize rp a K i=r at *
  have hau:=ha.2
  have hr:r<340282366920938463463374607431768211456:=z3t _ r0 (by decide) (by omega)
  have hn2:(2:Int)^n≤2^127:=by exact_mod_cast Nat.pow_le_pow_right (by omega) (by omega:n≤127)
  have hn0:=zbe n
  have t0:0≤r+2^n:=by omega
  have t1:r+2^n<680564733841876926926749214863536422912:=by omega
  have szt:sz (r+2^n)=r+2^n:=zg3 t0 (Int.lt_trans t1 (by decide))
  have tt0:0≤(r+2^n)*(r+2^n):=Int.mul_nonneg t0 t0
  have hmul:zhz (r+2^n) (r+2^n)=decide (¬((r+2^n)*(r+2^n)<57896044618658097711785492504343953926634992332820282019728792003956564819968)):=by
   unfold zhz;rw [szt];congr 1
   exact propext ⟨fun h1 h2=>h1 ⟨Int.le_trans (by decide) tt0,h2⟩,fun h1 h2=>h1 h2.2⟩
  have sza:sz a=a:=zb7 ha
  replace hC:=hC1'
  replace hY:=hY1
  simp only [hrs]
  generalize htt:(r+2^n)*(r+2^n)=T at *
  by_cases hov:T<57896044618658097711785492504343953926634992332820282019728792003956564819968
  ·have hm:zhz (r+2^n) (r+2^n)=false:=by rw [hmul];simp [hov]
   have szT:sz T=T:=zg3 tt0 hov
   by_cases hle:T≤a
   ·have hcmp:zcs (sz T) (sz a)≤0:=by rw [szT,sza];unfold zcs;split<;>(try split)<;>omega
    rw [if_pos hle]
    unfold jaf
    repeat' (first|refine gwA ?_|(refine gwX ?_;intro Q hQ hP;simp [hC,hY,zaz,z6n];(first|refine gwq hQ ?_|refine hP _ _ (by kernel_rfl) fun _=>?_);clear hQ hP Q)|(refine gwC ?_ ?_<;>(intro hb;try (cases hb;done))))
    intro C2 hC2 hh2 hY2
    replace hC:C2.G=G0:=hC2.trans hCC
    replace hY:=hY2
    repeat' (first|refine gwA ?_|(refine gwX ?_;intro Q hQ hP;simp [hC,hY,zaz,z6n,wb,szt,htt,hm,hcmp];(first|refine gwq hQ ?_|refine hP _ _ (by kernel_rfl) fun _=>?_);clear hQ hP Q)|(refine gwC ?_ ?_<;>(intro hb;try (cases hb;done))))
    refine zbb [] 300 hC1' G0F hh1 (by omega) ?_ ?_ ?_
    ·simp
    ·simp [wb]
    ·simp [wb]
   ·have hcmp:¬zcs (sz T) (sz a)≤0:=by rw [szT,sza];unfold zcs;split<;>(try split)<;>omega
    rw [if_neg hle]
    unfold jaf
    repeat' (first|refine gwA ?_|(refine gwX ?_;intro Q hQ hP;simp [hC,hY,zaz,z6n];(first|refine gwq hQ ?_|refine hP _ _ (by kernel_rfl) fun _=>?_);clear hQ hP Q)|(refine gwC ?_ ?_<;>(intro hb;try (cases hb;done))))
    intro C2 hC2 hh2 hY2
    replace hC:C2.G=G0:=hC2.trans hCC
    replace hY:=hY2
    repeat' (first|refine gwA ?_|(refine gwX ?_;intro Q hQ hP;simp [hC,hY,zaz,z6n,wb,szt,htt,hm,hcmp];(first|refine gwq hQ ?_|refine hP _ _ (by kernel_rfl) fun _=>?_);clear hQ hP Q)|(refine gwC ?_ ?_<;>(intro hb;try (cases hb;done))))
    refine zbb [] 300 hC1' G0F hh1 (by omega) ?_ ?_ ?_
    ·simp
    ·simp [wb]
    ·simp [wb]
  ·have hm:zhz (r+2^n) (r+2^n)=true:=by rw [hmul];simp only [hov,not_false_eq_true,decide_true]
   have hle:¬T≤a:=fun h=>hov (Int.lt_of_le_of_lt h hau)
   rw [if_neg hle]
   unfold jaf
   repeat' (first|refine gwA ?_|(refine gwX ?_;intro Q hQ hP;simp [hC,hY,zaz,z6n];(first|refine gwq hQ ?_|refine hP _ _ (by kernel_rfl) fun _=>?_);clear hQ hP Q)|(refine gwC ?_ ?_<;>(intro hb;try (cases hb;done))))
   intro C2 hC2 hh2 hY2
   replace hC:C2.G=G0:=hC2.trans hCC
   replace hY:=hY2
   repeat' (first|refine gwA ?_|(refine gwX ?_;intro Q hQ hP;simp [hC,hY,zaz,z6n,wb,szt,htt,hm];(first|refine gwq hQ ?_|refine hP _ _ (by kernel_rfl) fun _=>?_);clear hQ hP Q)|(refine gwC ?_ ?_<;>(intro hb;try (cases hb;done))))
   refine zbb [] 300 hC1' G0F hh1 (by omega) ?_ ?_ ?_
   ·simp
   ·simp [wb]
   ·simp [wb]
 ·left
  refine ⟨by rw [zjs];omega,?_⟩
  rw [←hisq]
  unfold jaf z6n
  repeat' (first|refine gwA ?_|(refine gwX ?_;intro Q hQ hP;simp [hC,hY,wb];(first|refine gwq hQ ?_|refine hP _ _ (by kernel_rfl) fun _=>?_);clear hQ hP Q)|(refine gwC ?_ ?_<;>(intro hb;try (cases hb;done))))
  refine ⟨.inr trivial,?_⟩
  simp [results120]
@[simp] theorem jp8 (a:Int) (ha:wr a) (h0:0≤a) (K:Value→Prop):za0 prog G0 120 #[Value.agg #[.int .u64 (wi (a) 0),.int .u64 (wi (a) 1),.int .u64 (wi (a) 2),.int .u64 (wi (a) 3)]] K↔K (wd (isq a)):=zad G0W (by kernel_rfl) (zur a ha h0)
theorem z2y (a:Int):Ret prog G0 90 #[wd a] (wd (a+1)):=by
 refine zar G0F func90 rfl call90 (by simp) (by simp) (by simp [ntmps90]) ?_
 intro C hC hC0 hY
 have i1:=zp0
 repeat' (first|refine gwA ?_|(refine gwX ?_;intro Q hQ hP;simp [hC,hY,i1];(first|refine gwq hQ ?_|refine hP _ _ (by kernel_rfl) fun _=>?_);clear hQ hP Q)|(refine gwC ?_ ?_<;>(intro hb;try (cases hb;done))))
 refine ⟨.inr trivial,?_⟩
 simp [results90]
@[simp] theorem jrs (a:Int) (K:Value→Prop):za0 prog G0 90 #[Value.agg #[.int .u64 (wi (a) 0),.int .u64 (wi (a) 1),.int .u64 (wi (a) 2),.int .u64 (wi (a) 3)]] K↔K (wd (a+1)):=zad G0W (by kernel_rfl) (z2y a)
def hp1 (a:Int):Hp:=hpL G0 [(200,wb a)]
theorem z5n (a:Int) (ha:wr a) (h0:0≤a):isq a<340282366920938463463374607431768211456∧wr (isq a):=by
 obtain ⟨h1,h2,h3⟩:=zfk a h0
 have hau:=ha.2
 have h4:=z3t 340282366920938463463374607431768211456 h1 (by decide) (by omega)
 exact ⟨h4,Int.le_trans (by decide) h1,Int.lt_trans h4 (by decide)⟩
theorem zrt {a b:Int} (ha:wr a) (h0:0≤a) (hb:0<b):wr (a / b)∧0≤a / b:=by
 have h1:0≤a / b:=Int.ediv_nonneg h0 (by omega)
 exact ⟨⟨Int.le_trans (by decide) h1,Int.lt_of_le_of_lt (Int.ediv_le_self b h0) ha.2⟩,h1⟩
theorem z54 {a:Int} (h0:0≤a):a≠lst:=fun e=>by rw [e] at h0;exact absurd h0 (by decide)
theorem jgg (a b:Int) (ha:wr a) (hb:wr b) (h0:0≤a) (hb0:0<b):Ret prog G0 91 #[wd a,wd b] (wd (isq (a / b))):=by
 refine zar G0F func91 rfl call91 (by simp) (by simp) (by simp [ntmps91]) ?_
 intro C hC hC0 hY
 have hz:=zzx hb (by omega)
 have s1:0≤zcs (sz a) 0:=by rw [zb7 ha];unfold zcs;split<;>(try split)<;>omega
 have s2:0<zcs (sz b) 0:=by rw [zb7 hb];unfold zcs;split<;>(try split)<;>omega
 obtain ⟨d1,d2⟩:=zrt ha h0 hb0
 have hl:=z54 h0
 repeat' (first|refine gwA ?_|(refine gwX ?_;intro Q hQ hP;simp [hC,hY,hz,s1,s2,ha,hb,hb0,hl,d1,d2];(first|refine gwq hQ ?_|refine hP _ _ (by kernel_rfl) fun _=>?_);clear hQ hP Q)|(refine gwC ?_ ?_<;>(intro hb;try (cases hb;done))))
 refine ⟨.inr trivial,?_⟩
 simp [results91]
@[simp] theorem rof (a b:Int) (ha:wr a) (hb:wr b) (h0:0≤a) (hb0:0<b) (K:Value→Prop):za0 prog G0 91 #[Value.agg #[.int .u64 (wi (a) 0),.int .u64 (wi (a) 1),.int .u64 (wi (a) 2),.int .u64 (wi (a) 3)],Value.agg #[.int .u64 (wi (b) 0),.int .u64 (wi (b) 1),.int .u64 (wi (b) 2),.int .u64 (wi (b) 3)]] K↔K (wd (isq (a / b))):=zad G0W (by kernel_rfl) (jgg a b ha hb h0 hb0)
theorem z3j (a b:Int) (ha:wr a) (hb:wr b) (h0:0≤a) (hb0:0<b):Fun prog G0 88 [.pointer (some ⟨200,0,none⟩),.pointer (some ⟨208,0,none⟩)].toArray (hp2 a b) [200,208] (.ret (wd ((isq (a / b)+1) / 2)) []):=by
 refine zfa (B:=300) G0F (fun k hk=>za4 (by simp) hk) func88 rfl call88 ?_ ?_ ⟨zaq (by simp),by simp [zab],by simp,by simp⟩ (by simp [ntmps88]) (by omega) ?_ ?_
 ·rw [zf6];simp [hp2,dom]
 ·rw [zf6];exact zk9 a b _
 ·rw [zf6];exact zjg a b
 ·intro C hC hC0 hY
  rw [zf6] at hC0 ⊢
  obtain ⟨d1,d2⟩:=zrt ha h0 hb0
  obtain ⟨q0,q1⟩:=z5n _ d1 d2
  have q2:=(zfk _ d2).1
  have w2:wr 2:=by unfold wr;omega
  have w1:wr (isq (a / b)+1):=⟨Int.le_trans (by decide) (by omega:0≤isq (a / b)+1),by omega⟩
  have wl:isq (a / b)+1≠lst:=z54 (by omega)
  have i2:i64 2:=by decide
  repeat' (first|refine gwA ?_|(refine gwX ?_;intro Q hQ hP;simp [hC,hY,hp2,wb,ha,hb,h0,hb0,w1,wl,w2,i2];(first|refine gwq hQ ?_|refine hP _ _ (by kernel_rfl) fun _=>?_);clear hQ hP Q)|(refine gwC ?_ ?_<;>(intro hb;try (cases hb;done))))
  refine ⟨.inr rfl,by simp [results88],fun k hk=>?_⟩
  have hk3:k<300:=Classical.byContradiction fun h=>hk (zjg a _ k (by omega))
  simp (disch:=omega) only [zcr]
  rfl
theorem zqx (a b:Int) (ha:wr a) (hb:wr b) (h0:0≤a) (hb0:0<b):Ret prog G0 70 #[wd a,wd b] (.tuple #[wd ((isq (a / b)+1) / 2),.int .i64 0]):=by
 refine zar G0F func70 rfl call70 (by simp) (by simp) (by simp [ntmps70]) ?_
 intro C hC hC0 hY
 repeat' (first|refine gwA ?_|((first|refine gwR [87] ?_|refine gwD [87] ?_);intro Q hQ hP;(repeat first|simp [hC,hY]|refine zbv (hp':=hp2 a b) (zy0 (fun k hk=>za4 (by simp) hk) (by simp) rfl (by simp) (z3j a b ha hb h0 hb0)) (by simp [hp2,wb]) (fun k hk=>za4 (by simp) hk) trivial ?_);(first|refine gwq hQ ?_|refine hP _ _ (by kernel_rfl) fun _=>?_);clear hQ hP Q)|(refine gwC ?_ ?_<;>(intro hb;try (cases hb;done))))
 refine ⟨.inr trivial,?_⟩
 simp [results70,zde]
theorem zhr {n:Int} (h:i64 n):wr n:=by unfold i64 at h;unfold wr;omega
end Go.Gy
namespace Go.Gy
set_option linter.unusedSimpArgs false
set_option linter.unusedVariables false
open Go Go.RowKit Go.Proofs
end Go.Gy
namespace Go.Gy
set_option linter.unusedSimpArgs false
set_option linter.unusedVariables false
open Go Go.RowKit Go.Proofs Go.Proofs.Tryz
def lmB:Blk:=⟨#[.int .i64 (-2097152),.int .i64 2097152,.int .i64 1,.int .i64 2097152,.int .i64 1,.int .i64 1048576,.int .i64 1,.int .i64 1024,.int .i64 (-2097152),.int .i64 2097152,.int .i64 0,.int .i64 13194139533312],.ty 97⟩
def G1:Hp:=hpL G0 [(0,lmB)]
theorem G1F:zbi G1:=fun k b h=>by
 rcases za5 h with h|h
 ·simp at h
  obtain ⟨rfl,rfl⟩:=h
  exact ⟨by omega,by simp [lmB]⟩
 ·exact G0F k b h
@[simp] theorem zg1 (k:Nat) (h:100≤k):G1 k=none:=by
 cases hb:G1 k with
 | none=>rfl
 | some b=>have:=(G1F k b hb).1;omega
@[simp] theorem znd:G1 0=some lmB:=by simp [G1]
theorem zvk {k:Nat} (h:dom G1 k):k<100:=by
 refine Classical.byContradiction fun hk=>?_
 exact h (zg1 k (by omega))
theorem zej (D:Nat→Prop) (k:Nat) (b:Blk) (h:G1 k=some b):b.ids D:=Blk.flat_ids ((G1F k b h).2)
theorem G1W:∃ W,GOK G1 W:=⟨{ (default:World) with heap:=Array.ofFn (n:=100) fun k=>match G1 k.1 with|some b=>b.obj0|none=>.cells #[] 0 (0,0) },fun k b h=>by
 have hk:=(G1F k b h).1
 simp [hk,h]⟩
theorem zvd (W:World) (h:GOK G1 W):GOK G0 W:=fun k b hk=>h k b (by
 have h0:¬k=0:=fun e=>by subst e;simp [G0,G0L] at hk
 simp [G1,h0,hk])

@[simp] theorem jum (n:Int) (h:i64 n) (K:Value→Prop):za0 prog G1 92 #[.int .i64 n] K↔K (wd n):=zad G1W (by kernel_rfl) ((zzs n h).up zvd)
@[simp] theorem jsk (a b:Int) (K:Value→Prop):za0 prog G1 94 #[Value.agg #[.int .u64 (wi (a) 0),.int .u64 (wi (a) 1),.int .u64 (wi (a) 2),.int .u64 (wi (a) 3)],Value.agg #[.int .u64 (wi (b) 0),.int .u64 (wi (b) 1),.int .u64 (wi (b) 2),.int .u64 (wi (b) 3)]] K↔K (.tuple #[wd (sz a*sz b),.bool (zhz a b)]):=zad G1W (by kernel_rfl) ((zs9 a b).up zvd)
@[simp] theorem jsj (z:Int) (K:Value→Prop):za0 prog G1 73 #[Value.agg #[.int .u64 (wi (z) 0),.int .u64 (wi (z) 1),.int .u64 (wi (z) 2),.int .u64 (wi (z) 3)]] K↔K (.tuple #[.int .i64 (if i64 (sz z) then sz z else 0),.bool (decide (i64 (sz z)))]):=zad G1W (by kernel_rfl) ((z4d z).up zvd)
@[simp] theorem jp4 (a b:Int) (ha:wr a) (hb:wr b) (h0:0≤a) (hb0:0<b) (K:Value→Prop):za0 prog G1 70 #[Value.agg #[.int .u64 (wi (a) 0),.int .u64 (wi (a) 1),.int .u64 (wi (a) 2),.int .u64 (wi (a) 3)],Value.agg #[.int .u64 (wi (b) 0),.int .u64 (wi (b) 1),.int .u64 (wi (b) 2),.int .u64 (wi (b) 3)]] K↔K (.tuple #[wd ((isq (a / b)+1) / 2),.int .i64 0]):=zad G1W (by kernel_rfl) ((zqx a b ha hb h0 hb0).up zvd)
@[simp] theorem jtg (n:Int) (h:i64 n) (K:Value→Prop):za0 prog G1 81 #[.int .i64 n] K↔K (wd n):=zad G1W (by kernel_rfl) ((zx0 n h).up zvd)
@[simp] theorem jq7 (a b:Int) (K:Value→Prop):za0 prog G1 80 #[Value.agg #[.int .u64 (wi (a) 0),.int .u64 (wi (a) 1),.int .u64 (wi (a) 2),.int .u64 (wi (a) 3)],Value.agg #[.int .u64 (wi (b) 0),.int .u64 (wi (b) 1),.int .u64 (wi (b) 2),.int .u64 (wi (b) 3)]] K↔K (.tuple #[wd (sz a*sz b),.bool (zhz a b)]):=zad G1W (by kernel_rfl) ((zsk a b).up zvd)
theorem zdc (n:Int):zkw prog G1 67 #[.bool true,.int .i64 n] (.ret (.tuple #[])):=by
 refine zed G1F func67 rfl call67 (fun v h=>by cases h;simp) (by simp) (by simp [ntmps67]) ?_
 intro C hC hC0 hY
 repeat' (first|refine gwA ?_|(refine gwX ?_;intro Q hQ hP;simp [hC,hY];(first|refine gwq hQ ?_|refine hP _ _ (by kernel_rfl) fun _=>?_);clear hQ hP Q)|(refine gwC ?_ ?_<;>(intro hb;try (cases hb;done))))
 exact ⟨.inl trivial,by simp [results67]⟩
theorem zdb (n:Int):zkw prog G1 67 #[.bool false,.int .i64 n] (.pan (erV n)):=by
 refine zed G1F func67 rfl call67 (fun v h=>by cases h) (by simp) (by simp [ntmps67]) ?_
 intro C hC hC0 hY
 repeat' (first|refine gwA ?_|(refine gwX ?_;intro Q hQ hP;simp [hC,hY];(first|refine gwq hQ ?_|refine hP _ _ (by kernel_rfl) fun _=>?_);clear hQ hP Q)|(refine gwC ?_ ?_<;>(intro hb;try (cases hb;done))))
 rfl
def zz1:Array Value:=#[.pointer (some ⟨100000,0,none⟩)]
def hpP (n:Int):Hp:=hpL G1 [(100000,eB n)]
theorem zii (n:Int):rst (hpP n) [100000]=hpP n:=zdj G1F (by simp)
theorem zwz (n:Int) (k:Nat) (b:Blk) (D:Nat→Prop) (h:hpP n k=some b):b.ids D:=by
 rcases za5 h with h|h
 ·simp at h
  rcases h with ⟨_,rfl⟩
  simp [eB]
 ·exact zej _ _ _ h
@[simp] theorem z6f {dst:Option Tmp} {x:Operand} {T:TypeId} {ps:String} {af:Array Edge} {g:Option (Nat×Bool)} {V:XV} {yc nk:Nat} {ts:Nat→Value} {hp:Hp} {C:Eff→Prop} (h:ifE (gev ts x)=true) (hx:okX ts hp x) :
  opX prog G1 V yc ⟨dst,.typeAssert x 20 32 false,T,ps,af,g⟩ ts hp nk C↔C (val (ifN (gev ts x)) []):=by
 obtain ⟨n,hn⟩:=zw3 h
 refine zh1 (K:=fun v=>C (val v [])) ?_ ?_ fun W=>?_
 ·intro y hy
  simp [Op.operands] at hy
  subst hy
  exact ⟨hx,by rw [hn];rfl⟩
 ·rw [hn];rfl
 ·simp only [execOp,hn]
  kernel_rfl
theorem jp5:Array.replicate 6 undef=#[undef,undef,undef,undef,undef,undef]:=rfl
theorem jnc (n:Int):RecF prog G1 66 zz1 (hpP 0) [100000] (erV n) [(100000,eB n)]:=by
 refine ⟨⟨_,func66⟩,call66,?_,?_⟩
 ·refine zpq (k:=1) func66 rfl fun args c₀ cs W hk hu=>?_
  obtain ⟨p0,rfl⟩:∃ p0,args=#[p0]:=by
   rcases args with ⟨l⟩
   match l,hk with
   | [a],_=>exact ⟨a,rfl⟩
  have hn:f66.ntmps=7:=ntmps66
  refine wpSIn_seq (wpSIn_region ?_)
  simp [wpOpsSIn,List.range,List.range.loop,go_sem,recoverD,hu,hn,jp5]
  refine wpSIn_seq (wpSIn_region ?_)
  simp [wpOpsSIn,List.range,List.range.loop,go_sem,zsm]
  refine wpSIn_cond (t:=false) (by simp [Act.eval]) ?_
  refine wpSIn_of_wpIn rfl (wpIn_skip ?_)
  exact ⟨.inl rfl,rfl,rfl,rfl,.tuple #[],by simp [results,results66,go_sem]⟩
 ·refine zju (B:=200000) (A:=#[.pointer (some ⟨100000,0,none⟩),erV n,erV n,undef,undef,undef,undef]) G1F (fun k hk=>za4 (by simp) hk) func66 rfl (by simp [ntmps66]) ?_ ?_ ?_ ?_ ?_ ?_ (by omega) ?_ ?_
  ·rw [zii];simp [hpP,dom]
  ·intro r c₀ cs W Q hu hQ
   have hrn:∀ v,zav v=true→ren r v=v:=fun v hv=>zau hv
   simp only [List.map_toArray,List.map_cons,List.map_nil,zz1] at hQ ⊢
   generalize ren r (.pointer (some ⟨100000,0,none⟩))=p0 at hQ ⊢
   simp only [hrn (erV n) rfl,zcg] at hQ
   have hn:f66.ntmps=7:=ntmps66
   simp [wpOpsSIn,List.range,List.range.loop,go_sem,recoverD,hu,jcx,erV,hn,jp5]
   exact hQ
  ·rw [zii];exact fun k b h=>zwz 0 k b _ h
  ·rw [zii];simp [hpP,dom]
  ·intro k b c h1 h2
   simp at h1 h2
   rw [h1.2,h2.2]
  ·simp [eB]
  ·rw [zii];exact fun x hx=>by simp [hpP,show ¬x=100000 by omega,show 100≤x by omega]
  ·intro C hC hC0 hY
   rw [zii]
   repeat' (first|refine gwA ?_|(refine gwX ?_;intro Q hQ hP;simp [hC,hY,hpP,eB];(first|refine gwq hQ ?_|refine hP _ _ (by kernel_rfl) fun _=>?_);clear hQ hP Q)|(refine gwC ?_ ?_<;>(intro hb;try (cases hb;done))))
   refine ⟨.inl trivial,by simp [results66],fun k hk=>?_⟩
   simp [eB,hpP]
theorem zyi {g:FuncId} {capv:List Value} {hp:Hp} {rs:List Nat} {ws:List (Nat×Blk)} (hG:∀ k,k<100→hp k=G1 k) (hrs:∀ k∈rs,k<100000) (hc:capv.isEmpty=false) (hpl:capv.all zbj=true)
  (h:Fun prog G1 g capv.toArray hp rs (.ret (.tuple #[]) ws)) :
  Fun prog G1 44 #[.func (.func g) #[] capv.toArray] hp rs (.ret (.int .i64 0) ws):=by
 have hids:∀ x∈capv,zaj (dom (rst hp rs)) x:=fun x hx=>(zb3 (List.all_eq_true.1 hpl x hx)).1 (h.ids x (by simpa using hx))
 have hbig:∀ x,100000≤x→rst hp rs x=none:=fun x hx=>by
  unfold rst;rw [if_neg];rintro (h1|h1)
  ·omega
  ·have:=hrs x h1;omega
 refine zml (out:=.ret (.int .i64 0) ws) (B:=100000) (B1:=100008) (id:=1) (t:=3) (ts1:=upd (fun t=>[Value.func (.func g) #[] capv.toArray][t]?.getD undef) 2 (zk8 100000))
  (hp1:=upd (rst hp rs) 100000 (some (eB 0))) zz1 G1F hG func44 rfl (by simp [ntmps44]) call44 ⟨_,_,_,_,jnc 0⟩ ?_ h.closed ?_ (by simp [ntmps44]) (by omega) hbig ?_ ?_ ?_ ?_ ?_ ?_
 ·simpa using hids
 ·exact ⟨zaq (by simp),h.fits.2⟩
 ·intro C hC hC0 hY
  repeat' (first|refine gwA ?_|(refine gwX ?_;intro Q hQ hP;simp [hC,hY];(first|refine gwq hQ ?_|refine hP _ _ (by kernel_rfl) fun _=>?_);clear hQ hP Q)|(refine gwC ?_ ?_<;>(intro hb;try (cases hb;done))))
  exact ⟨trivial,rfl⟩
 ·intro k hk
  have h1:¬k=100000:=fun e=>hk (hbig k (by omega))
  simp [h1]
 ·simp [okT,zz1]
 ·simp [zz1]
 ·simp [zz1]
 ·intro C d hC hC0 hY
  refine ziu ?_
  refine zcc [] (by kernel_rfl) ?_;intro Q hQ hP;simp [hC,hY,hc,hpl]
  have hk1:∀ k∈zab ws,k<100000:=fun k hk=>hrs k (h.fits.2.1 k hk).1
  have hk2:(100000:Nat)∉zab ws:=fun hm=>by have:=hk1 _ hm;omega
  have w1:zbh (upd (rst hp rs) 100000 (some (eB 0))) ws 100000=some (eB 0):=by
   rw [za8 hk2];simp
  refine zbv (hp':=hp) h (fun k hk=>?_) hG trivial ?_
  ·have:=hrs k hk
   simp [rst,hk,show ¬k=100000 by omega]
  simp only [eB] at w1
  simp [w1,eB]
  refine hQ _ _ _ _ ?_
  repeat' (first|refine gwA ?_|(refine gwX ?_;intro Q hQ hP;simp [hC,hY,w1,eB];(first|refine gwq hQ ?_|refine hP _ _ (by kernel_rfl) fun _=>?_);clear hQ hP Q)|(refine gwC ?_ ?_<;>(intro hb;try (cases hb;done))))
  refine ⟨.inr rfl,by simp [results44],fun k hk=>?_⟩
  have h1:¬k=100000:=fun e=>hk (hbig k (by omega))
  rw [zc8 hk2]
  simp [h1]
theorem zyh {g:FuncId} {capv:List Value} {hp:Hp} {rs:List Nat} {n:Int} (hG:∀ k,k<100→hp k=G1 k) (hrs:∀ k∈rs,k<100000) (hc:capv.isEmpty=false) (hpl:capv.all zbj=true)
  (h:Fun prog G1 g capv.toArray hp rs (.pan (erV n))) :
  Fun prog G1 44 #[.func (.func g) #[] capv.toArray] hp rs (.ret (.int .i64 n) []):=by
 have hids:∀ x∈capv,zaj (dom (rst hp rs)) x:=fun x hx=>(zb3 (List.all_eq_true.1 hpl x hx)).1 (h.ids x (by simpa using hx))
 have hbig:∀ x,100000≤x→rst hp rs x=none:=fun x hx=>by
  unfold rst;rw [if_neg];rintro (h1|h1)
  ·omega
  ·have:=hrs x h1;omega
 refine zml (out:=.pan (erV n) [100000] [(100000,eB n)] (.int .i64 n)) (B:=100000) (B1:=100008) (id:=1) (t:=3) (ts1:=upd (fun t=>[Value.func (.func g) #[] capv.toArray][t]?.getD undef) 2 (zk8 100000))
  (hp1:=upd (rst hp rs) 100000 (some (eB 0))) zz1 G1F hG func44 rfl (by simp [ntmps44]) call44 ⟨_,_,_,_,jnc 0⟩ ?_ h.closed ?_ (by simp [ntmps44]) (by omega) hbig ?_ ?_ ?_ ?_ ?_ ?_
 ·simpa using hids
 ·exact ⟨zaq (by simp),by simp [zab],by simp,by simp⟩
 ·intro C hC hC0 hY
  repeat' (first|refine gwA ?_|(refine gwX ?_;intro Q hQ hP;simp [hC,hY];(first|refine gwq hQ ?_|refine hP _ _ (by kernel_rfl) fun _=>?_);clear hQ hP Q)|(refine gwC ?_ ?_<;>(intro hb;try (cases hb;done))))
  exact ⟨trivial,rfl⟩
 ·intro k hk
  have h1:¬k=100000:=fun e=>hk (hbig k (by omega))
  simp [h1]
 ·simp [okT,zz1]
 ·simp [zz1]
 ·simp [zz1]
 ·intro C d hC hC0 hY
  refine ziu ?_
  refine zcc [] (by kernel_rfl) ?_;intro Q hQ hP;simp [hC,hY,hc,hpl]
  refine zbv (hp':=hp) h (fun k hk=>?_) hG trivial ?_
  ·have:=hrs k hk
   simp [rst,hk,show ¬k=100000 by omega]
  simp
  refine hP _ _ fun yc=>?_
  simp only [zkk]
  have e:∀ k,(k<100∨k∈[100000])→hpP 0 k=upd (rst hp rs) 100000 (some (eB 0)) k:=fun k hk=>by
   rcases hk with hk|hk
   ·simp [hpP,show ¬k=100000 by omega,rst,hk,hG k hk]
   ·simp at hk;subst hk;simp [hpP]
  have er:rst (upd (rst hp rs) 100000 (some (eB 0))) [100000]=hpP 0:=by rw [←zfe e,zii]
  refine ⟨rfl,by simp [results44,eB],fun k hk=>rfl,(jnc n).under e,fun k hk=>?_,fun k hk=>?_,?_⟩
  ·rw [er] at hk;unfold dom at hk ⊢
   by_cases h1:k=100000
   ·subst h1;simp
   ·simp only [hpP,zam,za6,h1,if_false] at hk
    have hk100:=zvk hk
    simp [h1,rst,hk100,hG k hk100];exact hk
  ·rw [er]
   simp [zab] at hk
   subst hk
   exact ⟨by simp [hpP,dom],by omega,fun hd=>hd (hbig _ (by omega))⟩
  ·rw [er];exact fun k b hk=>zwz 0 k b _ hk
end Go.Gy
namespace Go.Gy
set_option linter.unusedSimpArgs false
set_option linter.unusedVariables false
open Go Go.RowKit
section
variable {P:Program} {G G':Hp}
structure LOd (G:Hp) (m:List (Nat×Blk)) (B:Nat):Prop where
 big:∀ p∈m,100≤p.1∧p.1<B
 one:(zab m).Nodup
 ids:∀ p∈m,p.2.ids (dom (hpL G m))
theorem LOk.sub' {m:List (Nat×Blk)} (h1:(zab m).Nodup) (k:Nat) (hk:k∈zab m):dom (hpL G m) k:=by
 obtain ⟨p,hp,rfl⟩:=zag.1 hk
 unfold dom;rw [LOk.at h1 p hp];simp
theorem LOd.low {m:List (Nat×Blk)} {B:Nat} (h:LOd G m B):∀ k,k<100→hpL G m k=G k:=fun _ hk=>za4 (fun p hp=>(h.big p hp).1) hk
theorem LOd.sub {m:List (Nat×Blk)} {B:Nat} (h:LOd G m B) (k:Nat) (hk:k∈zab m):dom (hpL G m) k:=LOk.sub' h.one k hk
theorem LOd.closed {m:List (Nat×Blk)} {B:Nat} (hGF:zbi G) (h:LOd G m B) (k:Nat) (b:Blk) (hk:hpL G m k=some b):b.ids (dom (hpL G m)):=by
 rcases za5 hk with h1|h1
 ·exact h.ids (k,b) h1
 ·exact Blk.flat_ids (hGF k b h1).2
theorem LOd.free {m:List (Nat×Blk)} {B:Nat} (hGF:zbi G) (hB:100≤B) (h:LOd G m B) (x:Nat) (hx:B≤x):hpL G m x=none:=by
 cases hb:hpL G m x with
 | none=>rfl
 | some b =>
  rcases za5 hb with h1|h1
  ·have:=(h.big _ h1).2;simp at this;omega
  ·have:=(hGF x b h1).1;omega
theorem zdi {f:FuncId} {fn:Func} {c:Code} {args:Array Value} {m:List (Nat×Blk)} {v:Value} {ws:List (Nat×Blk)} {B:Nat} (hGF:zbi G) (hf:P.funcs[f]? = some fn) (hb:fn.body=some c) (hcall:∀ a w,(callFunc f a).run P w=.ok (.enter f a) w)
  (hm:LOk m B) (ha:∀ x∈args,zan (dom (hpL G m)) x) (hv:zan (fun k=>k∈zab m) v) (hw:∀ p∈ws,p.1∈zab m∧p.2.ids (fun k=>k∈zab m)) (hw1:∀ k b c,(k,b)∈ws→(k,c)∈ws→b=c) (hn:args.size≤fn.ntmps) (hB:100≤B)
  (h:∀ C:Ctx,C.G=G→C.hp0=hpL G m→C.Y=none→GW P C fn.ntmps [] none c ⟨fun t=>args.getD t undef,hpL G m,B,0⟩ (jnq P fn (hpL G m) (.ret v ws))):Fun P G f args (hpL G m) (zab m) (.ret v ws):=by
 have e:=LOk.rst (m:=m) hGF
 refine zfa (B:=B) hGF hm.low hf hb hcall (by rw [e];exact ha) (by rw [e];exact hm.closed hGF) ⟨by rw [e];exact zb4 (fun q hq=>hm.sub q hq) hv,fun k hk=>?_,hw1,fun p hp=>?_⟩ hn hB (by rw [e];exact hm.free hGF hB) (by rw [e];exact h)
 ·obtain ⟨p,hp,rfl⟩:=zag.1 hk
  have:=(hw p hp).1
  obtain ⟨q,hq,e1⟩:=zag.1 this
  exact ⟨this,hm.sub _ this,by rw [←e1];exact (hm.big q hq).1⟩
 ·rw [e];exact Blk.ids_mono (fun q hq=>hm.sub q hq) (hw p hp).2
theorem zdg {f:FuncId} {fn:Func} {c:Code} {caps:Array Value} {m:List (Nat×Blk)} {xs:List (Array Value)} {B:Nat} {v:Value} (hGF:zbi G) (hf:P.funcs[f]? = some fn) (hb:fn.body=some c) (hcall:∀ a w,(callFunc f a).run P w=.ok (.enter f a) w)
  (hm:LOd G m B) (ha:∀ x∈caps,zbj x=true∧zan (fun k=>k∈zab m) x) (hn:caps.size+1≤fn.ntmps) (hB:100≤B)
  (h:∀ (C:Ctx) (l stop:Nat),C.G=G→C.hp0=hpL G m→C.Y=some ⟨l,xs,stop,none⟩→GW P C fn.ntmps [] none c ⟨fun t=>(#[Value.func (.yield l) #[] #[]]++caps).getD t undef,hpL G m,B,0⟩
   (fun e s=>(e=.normal∨e=.ret)∧zmw P fn.results.toList s.ts s.hp=some v∧s.yc=min (stop+1) xs.length∧∀ k,dom (hpL G m) k→s.hp k=hpL G m k)):IterK P G f caps (hpL G m) (zab m) xs:=by
 have e:=LOk.rst (m:=m) hGF
 exact zr2 (B:=B) (v:=v) hGF hm.low hf hb hcall (by rw [e];exact fun x hx=>⟨(ha x hx).1,zb4 (fun q hq=>hm.sub q hq) (ha x hx).2⟩) (by rw [e];exact hm.closed hGF) hn hB (by rw [e];exact hm.free hGF hB) (by rw [e];exact h)
theorem zjj {f:FuncId} {fn:Func} {c:Code} {args:Array Value} {m:List (Nat×Blk)} {R:Value→List (Nat×Blk)→Prop} {B:Nat} (hGF:zbi G) (hf:P.funcs[f]? = some fn) (hb:fn.body=some c) (hcall:∀ a w,(callFunc f a).run P w=.ok (.enter f a) w)
  (hm:LOk m B) (ha:∀ x∈args,zan (dom (hpL G m)) x)
  (hfit:∀ v ns,R v ns→zan (zc0 (dom (hpL G m)) ns) v∧(∀ p∈ns,B≤p.1∧p.2.ids (zc0 (dom (hpL G m)) ns))∧(∀ k b c,(k,b)∈ns→(k,c)∈ns→b=c))
  (hn:args.size≤fn.ntmps) (hB:100≤B)
  (h:∀ C:Ctx,C.G=G→C.hp0=hpL G m→C.Y=none→GW P C fn.ntmps [] none c ⟨fun t=>args.getD t undef,hpL G m,B,0⟩ fun e s=>(e=.normal∨e=.ret)∧(∀ k,dom (hpL G m) k→s.hp k=hpL G m k) ∧
   ∃ v ns ρ,R v ns∧(∀ k,k<B→ρ k=k)∧(∀ p∈ns,B≤ρ p.1)∧(∀ p∈ns,∀ q∈ns,ρ p.1=ρ q.1→p.1=q.1)∧zmw P fn.results.toList s.ts s.hp=some (ren ρ v)∧∀ p∈ns,s.hp (ρ p.1)=some (p.2.rn ρ)):FunS P G f args (hpL G m) (zab m) R:=by
 have e:=LOk.rst (m:=m) hGF
 have hlt:∀ k,dom (hpL G m) k→k<B:=fun k hk=>by
  refine Classical.byContradiction fun h1=>hk (hm.free hGF hB k (by omega))
 refine zxv (B:=B) hGF hm.low hf hb hcall (by rw [e];exact ha) (by rw [e];exact hm.closed hGF) (fun v ns hR=>?_) hn hB (by rw [e];exact hm.free hGF hB) (fun C h1 h2 h3=>?_)
 ·rw [e]
  obtain ⟨f1,f2,f3⟩:=hfit v ns hR
  refine ⟨f1,fun k hk=>?_,f3,fun p hp=>(f2 p hp).2⟩
  obtain ⟨p,hp,rfl⟩:=zag.1 hk
  have:=(f2 p hp).1
  exact ⟨by omega,fun hd=>by have:=hlt _ hd;omega⟩
 ·rw [e] at h2 ⊢
  refine zdp (h C h1 h2 h3) fun e s=>fun ⟨q1,q2,v,ns,ρ,q3,q4,q5,q6,q7,q8⟩=>⟨q1,q2,v,ns,ρ,q3,fun k hk=>q4 k (hlt k hk),fun p hp=>?_,q6,q7,q8⟩
  have:=q5 p hp
  exact ⟨fun hd=>by have:=hlt _ hd;omega,by omega⟩
structure MvG (G G':Hp) (m m':List (Nat×Blk)) (ρ:Nat→Nat):Prop where
 gf:zbi G
 gf':zbi G'
 ok:∃ B,LOk m B
 ok':∃ B,LOk m' B
 sub:∀ k b,G k=some b→G' k=some b∧ρ k=k
 at':∀ p∈m,∃ c,hpL G' m' (ρ p.1)=some c∧∀ r,c.obj r=(p.2.rn ρ).obj r
 inj:∀ k∈zab m,∀ l∈zab m,ρ k=ρ l→k=l
 far:∀ k∈zab m,∀ l b,G l=some b→ρ k≠l
theorem MvG.dom {m m':List (Nat×Blk)} {ρ:Nat→Nat} (h:MvG G G' m m' ρ) {k:Nat} (hk:Gy.dom (hpL G m) k):Gy.dom (hpL G' m') (ρ k):=by
 unfold Gy.dom at hk
 cases hb:hpL G m k with
 | none=>exact absurd hb hk
 | some b =>
  rcases za5 hb with h1|h1
  ·obtain ⟨c,h2,_⟩:=h.at' (k,b) h1
   unfold Gy.dom
   rw [show hpL G' m' (ρ k)=some c from h2]
   simp
  ·obtain ⟨h2,h3⟩:=h.sub k b h1
   obtain ⟨B,ok'⟩:=h.ok'
   unfold Gy.dom
   rw [h3,ok'.low k (h.gf k b h1).1,h2]
   simp
theorem MvG.run {m m':List (Nat×Blk)} {ρ:Nat→Nat} (h:MvG G G' m m' ρ) (hcl:∀ k b,hpL G m k=some b→b.ids (Gy.dom (hpL G m))) {r:Nat→Nat} {W:World} (hg:GOK G' W) (hs:Sat r (Gy.dom (hpL G' m')) (hpL G' m') W) (hi:Inj r (Gy.dom (hpL G' m'))) (hl:∀ k,k<100→Gy.dom (hpL G' m') k→r k=k) :
  GOK G W∧Sat (fun k=>r (ρ k)) (Gy.dom (hpL G m)) (hpL G m) W∧Inj (fun k=>r (ρ k)) (Gy.dom (hpL G m))∧(∀ k,k<100→Gy.dom (hpL G m) k→r (ρ k)=k):=by
 obtain ⟨B',ok'⟩:=h.ok'
 obtain ⟨B,ok⟩:=h.ok
 have hG:GOK G W:=fun k b hk=>hg k b (h.sub k b hk).1
 have key:∀ k,Gy.dom (hpL G m) k→(k∈zab m∧100≤k)∨(∃ b,G k=some b∧k<100∧ρ k=k):=fun k hk=>by
  unfold Gy.dom at hk
  cases hb:hpL G m k with
  | none=>exact absurd hb hk
  | some b =>
   rcases za5 hb with h1|h1
   ·exact .inl ⟨zag.2 ⟨_,h1,rfl⟩,(ok.big _ h1).1⟩
   ·exact .inr ⟨b,h1,(h.gf k b h1).1,(h.sub k b h1).2⟩
 refine ⟨hG,fun k b hk=>⟨?_,hcl k b hk⟩,fun k l hk hl' e=>?_,fun k hk hd=>?_⟩
 ·rcases za5 hk with h1|h1
  ·obtain ⟨c,h2,h3⟩:=h.at' (k,b) h1
   rw [(hs _ c h2).1,h3 r,Blk.rn_obj]
  ·obtain ⟨h2,h3⟩:=h.sub k b h1
   have h4:=(h.gf k b h1).1
   have h5:hpL G' m' k=some b:=by rw [ok'.low k h4,h2]
   have:=(hs k b h5).1
   show W.heap[r (ρ k)]? = _
   rw [h3,this]
   exact congrArg some (Blk.obj_congr (D:=fun _=>False) (fun _ hf=>hf.elim) (Blk.flat_ids (h.gf k b h1).2))
 ·have e2:ρ k=ρ l:=hi _ _ (h.dom hk) (h.dom hl') e
  rcases key k hk with ⟨k1,_⟩|⟨b,k1,_,k2⟩<;>rcases key l hl' with ⟨l1,_⟩|⟨c,l1,_,l2⟩
  ·exact h.inj k k1 l l1 e2
  ·exact absurd (e2.trans l2) (h.far k k1 l c l1)
  ·exact absurd (e2.symm.trans k2) (h.far l l1 k b k1)
  ·rw [←k2,←l2,e2]
 ·rcases key k hd with ⟨_,k1⟩|⟨b,k1,k3,k2⟩
  ·omega
  ·have:=hl k hk (by have:=h.dom hd;rwa [k2] at this)
   rw [k2,this]
theorem Fun.mvG {f:FuncId} {args args':Array Value} {m m' ws:List (Nat×Blk)} {v:Value} {ρ:Nat→Nat} (hi:Fun P G f args (hpL G m) (zab m) (.ret v ws)) (h:MvG G G' m m' ρ) (hw:∀ k∈zab ws,ρ k∈zab m') (ea:args.map (ren ρ)=args') :
  Fun P G' f args' (hpL G' m') (zab m') (.ret (ren ρ v) (rnL ρ ws)):=by
 subst ea
 have er:=LOk.rst (m:=m) h.gf
 have er':=LOk.rst (m:=m') h.gf'
 obtain ⟨B',ok'⟩:=h.ok'
 obtain ⟨en,ids,closed,fits,run⟩:=hi
 rw [er] at ids closed run
 obtain ⟨f1,f2,f3,f4⟩:=fits
 rw [er] at f1 f4
 refine ⟨en,fun x hx=>?_,fun k b hb=>?_,⟨?_,fun k hk=>?_,fun k b c h1 h2=>?_,fun p hp1=>?_⟩,fun r W hgok hsat hinj hlow=>?_⟩
 ·rw [er']
  obtain ⟨y,hy,rfl⟩:=Array.mem_map.1 hx
  exact zfj (fun k hk=>h.dom hk) (ids y hy)
 ·rw [er'] at hb ⊢
  exact ok'.closed h.gf' k b hb
 ·rw [er'];exact zfj (fun k hk=>h.dom hk) f1
 ·obtain ⟨q,hq,rfl⟩:=zjh hk
  have h1:=hw q hq
  refine ⟨h1,ok'.sub _ h1,?_⟩
  obtain ⟨p,hp,e⟩:=zag.1 h1
  rw [←e];exact (ok'.big p hp).1
 ·simp only [rnL,List.mem_map,Prod.mk.injEq] at h1 h2
  obtain ⟨p,hp1,e1,rfl⟩:=h1
  obtain ⟨q,hq1,e2,rfl⟩:=h2
  have k1:=f2 p.1 (zag.2 ⟨p,hp1,rfl⟩)
  have k2:=f2 q.1 (zag.2 ⟨q,hq1,rfl⟩)
  have e3:=h.inj p.1 k1.1 q.1 k2.1 (e1.trans e2.symm)
  rw [f3 p.1 p.2 q.2 hp1 (by rw [e3];exact hq1)]
 ·simp only [rnL,List.mem_map] at hp1
  obtain ⟨p,hp1,rfl⟩:=hp1
  rw [er']
  exact Blk.ids_rn (fun k hk=>h.dom hk) (f4 p hp1)
 ·rw [er'] at hsat hinj hlow
  obtain ⟨s0,s1,s2,s3⟩:=h.run closed hgok hsat hinj hlow
  have hrun:=run (fun k=>r (ρ k)) W s0 s1 s2 s3
  have ha:(args.map (ren ρ)).map (ren r)=args.map (ren fun k=>r (ρ k)):=by
   rw [Array.map_map]
   exact Array.map_congr_left fun x _=>zcu r ρ x
  rw [ha]
  refine hrun.mono fun e W' ⟨he,ht⟩=>⟨?_,ht.os,ht.tape,ht.output,ht.size,fun k hk hnw=>ht.same k hk fun p hp1=>?_,fun p hp1=>?_,by simp,by simp⟩
  ·rw [he,zcu]
  ·exact hnw (ρ p.1,p.2.rn ρ) (by simp only [rnL,List.mem_map];exact ⟨p,hp1,rfl⟩)
  ·simp only [List.append_nil,rnL,List.mem_map] at hp1
   obtain ⟨p,hp1,rfl⟩:=hp1
   have hh:=ht.has p (by simpa using hp1)
   refine ⟨by rw [Blk.rn_obj];exact hh.1,?_⟩
   rw [er']
   exact Blk.ids_rn (fun k hk=>hk.elim (fun h1=>.inl (h.dom h1)) (fun h1=>.inr (by simp [zab] at h1))) hh.2
theorem FunS.mvG {f:FuncId} {args args':Array Value} {m m':List (Nat×Blk)} {R R':Value→List (Nat×Blk)→Prop} {ρ:Nat→Nat} (hi:FunS P G f args (hpL G m) (zab m) R) (h:MvG G G' m m' ρ) (ea:args.map (ren ρ)=args') (eR:RR ρ R=R')
  (hnew:∀ v ns,R v ns→∀ k∈zab ns,100≤ρ k∧¬dom (hpL G' m') (ρ k)) (hnj:∀ v ns,R v ns→∀ k∈zab ns,∀ l∈zab ns,ρ k=ρ l→k=l):FunS P G' f args' (hpL G' m') (zab m') R':=by
 subst ea eR
 have er:=LOk.rst (m:=m) h.gf
 have er':=LOk.rst (m:=m') h.gf'
 obtain ⟨B',ok'⟩:=h.ok'
 obtain ⟨en,ids,closed,fits,run⟩:=hi
 rw [er] at ids closed run fits
 have hext:∀ ns,∀ k,zc0 (dom (hpL G m)) ns k→zc0 (dom (hpL G' m')) (rnL ρ ns) (ρ k):=fun ns k hk=>hk.elim (fun h1=>.inl (h.dom h1)) (fun h1=>.inr (zi1 h1))
 refine ⟨en,fun x hx=>?_,fun k b hb=>?_,fun v' ns' hR'=>?_,fun r W hgok hsat hinj hlow=>?_⟩
 ·rw [er']
  obtain ⟨y,hy,rfl⟩:=Array.mem_map.1 hx
  exact zfj (fun k hk=>h.dom hk) (ids y hy)
 ·rw [er'] at hb ⊢
  exact ok'.closed h.gf' k b hb
 ·rw [er']
  obtain ⟨v,ns,hR,rfl,rfl⟩:=hR'
  obtain ⟨f1,f2,f3,f4⟩:=fits v ns hR
  refine ⟨zfj (hext ns) f1,fun k hk=>?_,fun k b c h1 h2=>?_,fun p hp1=>?_⟩
  ·obtain ⟨q,hq,rfl⟩:=zjh hk
   exact hnew v ns hR q hq
  ·simp only [rnL,List.mem_map,Prod.mk.injEq] at h1 h2
   obtain ⟨p,hp1,e1,rfl⟩:=h1
   obtain ⟨q,hq1,e2,rfl⟩:=h2
   have e3:=hnj v ns hR p.1 (zag.2 ⟨p,hp1,rfl⟩) q.1 (zag.2 ⟨q,hq1,rfl⟩) (e1.trans e2.symm)
   rw [f3 p.1 p.2 q.2 hp1 (by rw [e3];exact hq1)]
  ·simp only [rnL,List.mem_map] at hp1
   obtain ⟨p,hp1,rfl⟩:=hp1
   exact Blk.ids_rn (hext ns) (f4 p hp1)
 ·rw [er'] at hsat hinj hlow ⊢
  obtain ⟨s0,s1,s2,s3⟩:=h.run closed hgok hsat hinj hlow
  have hrun:=run (fun k=>r (ρ k)) W s0 s1 s2 s3
  have ha:(args.map (ren ρ)).map (ren r)=args.map (ren fun k=>r (ρ k)):=by
   rw [Array.map_map]
   exact Array.map_congr_left fun x _=>zcu r ρ x
  rw [ha]
  refine hrun.mono fun e W' ⟨v,ns,r1,hR,hr1,he,ht⟩=>?_
  obtain ⟨f1,f2,f3,f4⟩:=fits v ns hR
  let r2:Nat→Nat:=fun k'=>match (zab ns).find? (fun k=>ρ k==k') with|some k=>r1 k|none=>r k'
  have e1:∀ k∈zab ns,r2 (ρ k)=r1 k:=fun k hk=>by
   show (match (zab ns).find? (fun l=>ρ l==ρ k) with|some k=>r1 k|none=>r (ρ k))=r1 k
   cases hf:(zab ns).find? (fun l=>ρ l==ρ k) with
   | none=>have:=List.find?_eq_none.1 hf k hk;simp at this
   | some l =>
    have h1:=List.find?_some hf
    have h2:=List.mem_of_find?_eq_some hf
    simp only [beq_iff_eq] at h1
    rw [hnj v ns hR l h2 k hk h1]
  have e2:∀ k,dom (hpL G' m') k→r2 k=r k:=fun k hk=>by
   show (match (zab ns).find? (fun l=>ρ l==k) with|some k=>r1 k|none=>r k)=r k
   cases hf:(zab ns).find? (fun l=>ρ l==k) with
   | none=>rfl
   | some l =>
    have h1:=List.find?_some hf
    have h2:=List.mem_of_find?_eq_some hf
    simp only [beq_iff_eq] at h1
    exact absurd (h1▸hk) (hnew v ns hR l h2).2
  have e3:∀ k,zc0 (dom (hpL G m)) ns k→r2 (ρ k)=r1 k:=fun k hk=>hk.elim (fun h1=>by rw [e2 _ (h.dom h1),hr1 k h1]) (fun h1=>e1 k h1)
  refine ⟨ren ρ v,rnL ρ ns,r2,⟨v,ns,hR,rfl,rfl⟩,e2,?_,ht.os,ht.tape,ht.output,ht.size,fun k hk hnw=>ht.same k hk (by simp),fun p hp1=>?_,fun p hp1=>?_,fun p hp1 q hq1 hpq=>?_⟩
  ·rw [he,zcu]
   exact congrArg _ (zcx (D:=zc0 (dom (hpL G m)) ns) (fun k hk=>(e3 k hk).symm) f1)
  ·simp only [List.nil_append,rnL,List.mem_map] at hp1
   obtain ⟨p,hp1,rfl⟩:=hp1
   have hh:=ht.has p (by simpa using hp1)
   refine ⟨?_,Blk.ids_rn (hext ns) hh.2⟩
   rw [Blk.rn_obj,Blk.obj_congr e3 hh.2]
   show W'.heap[r2 (ρ p.1)]? = _
   rw [e1 _ (zag.2 ⟨p,hp1,rfl⟩)]
   exact hh.1
  ·simp only [rnL,List.mem_map] at hp1
   obtain ⟨p,hp1,rfl⟩:=hp1
   show W.heap.size≤r2 (ρ p.1)
   rw [e1 _ (zag.2 ⟨p,hp1,rfl⟩)]
   exact ht.fresh p hp1
  ·simp only [rnL,List.mem_map] at hp1 hq1
   obtain ⟨p,hp1,rfl⟩:=hp1
   obtain ⟨q,hq1,rfl⟩:=hq1
   have k1:=zag.2 ⟨p,hp1,rfl⟩
   have k2:=zag.2 ⟨q,hq1,rfl⟩
   have hpq':r2 (ρ p.1)=r2 (ρ q.1):=hpq
   rw [e1 _ k1,e1 _ k2] at hpq'
   have:=ht.apart p hp1 q hq1 hpq'
   show ρ p.1=ρ q.1
   rw [this]
end
@[simp] theorem rg1:Array.range 1=#[0]:=rfl
@[simp] theorem rg2:Array.range 2=#[0,1]:=rfl
@[simp] theorem rg3:Array.range 3=#[0,1,2]:=rfl
@[simp] theorem rg4:Array.range 4=#[0,1,2,3]:=rfl
@[simp] theorem rg5:Array.range 5=#[0,1,2,3,4]:=rfl
@[simp] theorem rg6:Array.range 6=#[0,1,2,3,4,5]:=rfl
@[simp] theorem jtn:Array.range 20=#[0,1,2,3,4,5,6,7,8,9,10,11,12,13,14,15,16,17,18,19]:=rfl
@[simp] theorem jto:Array.range 36=#[0,1,2,3,4,5,6,7,8,9,10,11,12,13,14,15,16,17,18,19,20,21,22,23,24,25,26,27,28,29,30,31,32,33,34,35]:=rfl
section
variable {P:Program} {G:Hp} {V:XV} {yc nk:Nat} {ts:Nat→Value} {hp:Hp} {C:Eff→Prop} {dst:Option Tmp} {type:TypeId} {pos:String} {after:Array Edge} {guard:Option (Nat×Bool)}
def bsZ (e len m nk:Nat) (ps:List (Nat×Value)) (z:Option Value) (C:Eff→Prop):Prop :=
 match z with
 | some z=>za2 z=true∧zav z=true∧0<len*m∧len*m≤16777216∧bsX (zf4 (.inr m) ((Array.range (len*m)).map (z.cells[·%z.cells.size]!)) ps) e len nk C
 | none=>False
@[simp] theorem jix (e len m nk:Nat) (ps:List (Nat×Value)) (z:Value) (C:Eff→Prop):bsZ e len m nk ps (some z) C=(za2 z=true∧zav z=true∧0<len*m∧len*m≤16777216∧bsX (zf4 (.inr m) ((Array.range (len*m)).map (z.cells[·%z.cells.size]!)) ps) e len nk C):=rfl
def bsM (P:Program) (e len nk:Nat) (ps:List (Nat×Value)) (m:Option Nat) (C:Eff→Prop):Prop :=
 match m with
 | some m=>bsZ e len m nk ps (zbg P e) C
 | none=>False
@[simp] theorem jiu (P:Program) (e len m nk:Nat) (ps:List (Nat×Value)) (C:Eff→Prop):bsM P e len nk ps (some m) C=bsZ e len m nk ps (zbg P e) C:=rfl
def bsU (P:Program) (len nk:Nat) (ps:List (Nat×Value)) (u:Option TypeDesc) (C:Eff→Prop):Prop :=
 match u with
 | some (.slice e)=>bsM P e len nk ps (zat P e) C
 | _=>False
@[simp] theorem jiv (P:Program) (e len nk:Nat) (ps:List (Nat×Value)) (C:Eff→Prop):bsU P len nk ps (some (.slice e)) C=bsM P e len nk ps (zat P e) C:=rfl
@[simp ↓] theorem z0j (T:TypeId) (len:Nat) (parts:Array (Nat×Operand)):opX P G V yc ⟨dst,.buildSlice T len parts,type,pos,after,guard⟩ ts hp nk C =
  ((∀ p∈parts.toList,okX ts hp p.2∧za2 (gev ts p.2)=true)∧bsU P len nk (zd7 ts parts) (P.underlying T) C):=by
 unfold opX bsU
 simp only
 cases hu:P.underlying T with
 | none=>rfl
 | some u =>
  cases u with
  | slice e =>
   simp only [bsM]
   cases hm:zat P e with
   | none=>rfl
   | some m =>
    simp only [bsZ]
    cases hz:zbg P e with
    | none=>rfl
    | some z =>
     simp only
     cases hf:zf4 (.inr m) ((Array.range (len*m)).map (z.cells[·%z.cells.size]!)) (zd7 ts parts)<;>rfl
  | _=>rfl
@[simp] theorem jmw (e m:Nat) (z:Value) (b:Nat) (l:Int) (w:Value) (C:Eff→Prop):msZ P e m nk (some z) (some b) (.int .i64 l) w C=(w=.int .i64 l∧za2 z=true∧zav z=true∧(0<l∧l≤4096)∧b≤4096∧0<m∧C ⟨.slice (some ⟨nk,0,none⟩) l.toNat l.toNat,[],[],[(nk,⟨(Array.range (l.toNat*m)).map (z.cells[·%z.cells.size]!),e⟩)],none,false⟩):=rfl
@[simp] theorem jka (e m:Nat) (v w:Value) (C:Eff→Prop):msM P e nk (some m) v w C=msZ P e m nk (zbg P e) (tyB P e) v w C:=rfl
@[simp] theorem jf9 (e:Nat) (v w:Value) (C:Eff→Prop):msU P nk (some (.slice e)) v w C=msM P e nk (zat P e) v w C:=rfl
@[simp ↓] theorem z26 (T:TypeId) (x y:Operand):opX P G V yc ⟨dst,.makeSlice T x y,type,pos,after,guard⟩ ts hp nk C=(okX ts hp x∧okX ts hp y∧msU P nk (P.underlying T) (gev ts x) (gev ts y) C):=nr rfl
end
end Go.Gy
namespace Go.Gy
set_option linter.unusedSimpArgs false
set_option linter.unusedVariables false
open Go Go.RowKit Go.Proofs Go.Proofs.Tryz
def vf (x0 x1 x2:Int):Nat→Int
 | 0=>x0
 | 1=>x1
 | _=>x2
def vf2 (x0 x1 x2 y0 y1 y2:Int):Nat→Int
 | 0=>x0
 | 1=>x1
 | 2=>x2
 | 3=>y0
 | 4=>y1
 | _=>y2
def xsV (N:Nat) (f:Nat→Int):List (Array Value):=(List.range N).map fun j=>#[.int .i64 ((j%3:Nat):Int),.int .i64 (f j)]
theorem zpc (N:Nat) (f:Nat→Int) (i:Nat) (h:i<N):(xsV N f)[i]? = some #[.int .i64 ((i%3:Nat):Int),.int .i64 (f i)]:=by simp [xsV,h]
theorem ziq (b k m c:Nat) (cs:Array Value) (hcs:∀ x∈cs,zbd x=true) (hb:100≤b) (hb2:b<100000) (hk:100≤k) (hbk:b≠k):Fun prog G0 86 #[.slice (some ⟨b,0,none⟩) m c] (hpL G0 [(b,⟨cs,.ty 31⟩)]) [b] (.new (.func (.func 113) #[] #[.pointer (some ⟨k,0,none⟩)]) [(k,⟨#[.slice (some ⟨b,0,none⟩) m c],.ty 35⟩)]):=by
 have e0:rst (hpL G0 [(b,⟨cs,.ty 31⟩)]) [b]=hpL G0 [(b,⟨cs,.ty 31⟩)]:=zdj G0F (by simp)
 have hdom:∀ j,dom (hpL G0 [(b,⟨cs,.ty 31⟩)]) j→j=b∨j<100:=fun j hj=>by
  unfold dom at hj
  cases hq:hpL G0 [(b,⟨cs,.ty 31⟩)] j with
  | none=>exact absurd hq hj
  | some q =>
   rcases za5 hq with h|h
   ·simp at h;exact .inl h.1
   ·exact .inr (G0F j q h).1
 have hdb:dom (hpL G0 [(b,⟨cs,.ty 31⟩)]) b:=by unfold dom;simp
 refine zoi (B:=100000) (fun j=>if j=k then 100000 else j) G0F (fun j hj=>za4 (by simp;omega) hj) func86 rfl call86 ?_ ?_ ?_ (by simp [ntmps86]) (by omega) ?_ (fun j hj=>?_) ?_ ?_ ?_ ?_
 ·rw [e0];simp [zan,zay,zai,zaj];exact hdb
 ·rw [e0]
  intro j q hq
  rcases za5 hq with h|h
  ·simp at h;rw [h.2];exact Blk.flat_ids hcs
  ·exact zei _ _ _ h
 ·refine ⟨by simp [zan,zay,zai,zaj,zc0,zab],by simp [zab];omega,fun q b c h1 h2=>?_⟩
  simp at h1 h2
  rw [h1.2,h2.2]
 ·rw [e0]
  intro x hx
  simp [show ¬x=b by omega,show 100≤x by omega]
 ·rw [e0] at hj
  rcases hdom j hj with h|h
  ·rw [if_neg (by omega)]
  ·rw [if_neg (by omega)]
 ·rw [e0]
  intro p hp
  simp at hp
  subst hp
  refine ⟨fun h=>?_,by simp⟩
  rcases hdom _ h with h|h<;>simp at h<;>omega
 ·simp
 ·rw [e0];simp [zai,zaj];exact hdb
 ·intro C hC hC0 hY
  rw [e0]
  have hbB:¬b=100000:=by omega
  have hBb:¬100000=b:=by omega
  repeat' (first|refine gwA ?_|(refine gwX ?_;intro Q hQ hP;simp [hC,hY,hbB,hBb,hbk];refine gwq hQ ?_;clear hQ hP Q)|(refine gwC ?_ ?_<;>(intro hb;try (cases hb;done))))
  refine ⟨.inr trivial,?_⟩
  simp [results86,ren,zax,zak,zao]
  intro j hj
  rcases hdom j hj with h|h
  ·have:¬j=100000:=by omega
   simp [this]
  ·have:¬j=100000:=by omega
   simp [this]
def zlq (x0 x1 x2:Int):List (Nat×Blk):=[(100,⟨#[.slice (some ⟨108,0,none⟩) 1 1],.ty 35⟩),(108,⟨#[.int .i64 x0,.int .i64 x1,.int .i64 x2],.ty 31⟩)]
abbrev pv1 (x0 x1 x2:Int):Hp:=hpL G0 (zlq x0 x1 x2)
theorem zhd (x0 x1 x2:Int):IterK prog G0 113 #[.pointer (some ⟨100,0,none⟩)] (pv1 x0 x1 x2) [100,108] (xsV 3 (vf x0 x1 x2)):=by
 have hL:LOk (zlq x0 x1 x2) 200:=⟨by simp [zlq],by simp [zlq,zab],by simp [zlq,zae,zai,zaj,zab]⟩
 have hlt:∀ k,dom (hpL G0 (zlq x0 x1 x2)) k→k<200:=fun k hk=>Classical.byContradiction fun h1=>hk (hL.free G0F (by omega) k (by omega))
 refine zn7 (m:=zlq x0 x1 x2) (B:=200) (v:=.tuple #[]) G0F func113 rfl call113 hL ?_ (by simp [ntmps113]) (by omega) ?_
 ·simp [zan,zay,zai,zaj,zlq,zab]
 ·intro C l stop hC hC0 hY
  have exs:xsV 3 (vf x0 x1 x2)=[#[.int .i64 0,.int .i64 x0],#[.int .i64 1,.int .i64 x1],#[.int .i64 2,.int .i64 x2]]:=rfl
  rw [exs] at hY ⊢
  by_cases h3:3≤stop
  ·have q0:(0 != stop)=true:=by simp;omega
   have q1:(1 != stop)=true:=by simp;omega
   have q2:(2 != stop)=true:=by simp;omega
   have l1:1≤stop:=by omega
   have l2:2≤stop:=by omega
   repeat' (first|refine zac ?_|refine zaf ?_|refine gwA ?_|(refine gwX ?_;intro Q hQ hP;simp [hC,hY,zlq,q0,q1,q2,l1,l2,h3];refine gwq hQ ?_;clear hQ hP Q)|(refine gwC ?_ ?_<;>(intro hb;try (cases hb;done))))
   refine ⟨by simp,by simp [results113],by first|(simp;omega)|omega,fun k hk=>?_⟩
   have hk:=hlt k hk
   simp (disch:=omega) only [zaa]
   rfl
  ·have:stop=0∨stop=1∨stop=2:=by omega
   rcases this with rfl|rfl|rfl
   all_goals
    repeat' (first|refine zac ?_|refine zaf ?_|refine gwA ?_|(refine gwX ?_;intro Q hQ hP;simp [hC,hY,zlq];refine gwq hQ ?_;clear hQ hP Q)|(refine gwC ?_ ?_<;>(intro hb;try (cases hb;done))))
   all_goals
    refine ⟨by simp,by simp [results113],by simp,fun k hk=>?_⟩
    have hk:=hlt k hk
    simp (disch:=omega) only [zaa]
    rfl
theorem zu8 (x0 x1 x2:Int):zg4 prog G0 113 #[.pointer (some ⟨100,0,none⟩)] (pv1 x0 x1 x2) [100,108] (xsV 3 (vf x0 x1 x2)):=(zhd x0 x1 x2).g
def z0m (x0 x1 x2 y0 y1 y2:Int):List (Nat×Blk):=[(100,⟨#[.slice (some ⟨108,0,none⟩) 2 2],.ty 35⟩),(108,⟨#[.int .i64 x0,.int .i64 x1,.int .i64 x2,.int .i64 y0,.int .i64 y1,.int .i64 y2],.ty 31⟩)]
abbrev pv2 (x0 x1 x2 y0 y1 y2:Int):Hp:=hpL G0 (z0m x0 x1 x2 y0 y1 y2)
set_option maxRecDepth 20000 in
set_option maxHeartbeats 4000000 in
theorem zq6 (x0 x1 x2 y0 y1 y2:Int):IterK prog G0 113 #[.pointer (some ⟨100,0,none⟩)] (pv2 x0 x1 x2 y0 y1 y2) [100,108] (xsV 6 (vf2 x0 x1 x2 y0 y1 y2)):=by
 have hL:LOk (z0m x0 x1 x2 y0 y1 y2) 200:=⟨by simp [z0m],by simp [z0m,zab],by simp [z0m,zae,zai,zaj,zab]⟩
 have hlt:∀ k,dom (hpL G0 (z0m x0 x1 x2 y0 y1 y2)) k→k<200:=fun k hk=>Classical.byContradiction fun h1=>hk (hL.free G0F (by omega) k (by omega))
 refine zn7 (m:=z0m x0 x1 x2 y0 y1 y2) (B:=200) (v:=.tuple #[]) G0F func113 rfl call113 hL ?_ (by simp [ntmps113]) (by omega) ?_
 ·simp [zan,zay,zai,zaj,z0m,zab]
 ·intro C l stop hC hC0 hY
  have exs:xsV 6 (vf2 x0 x1 x2 y0 y1 y2)=[#[.int .i64 0,.int .i64 x0],#[.int .i64 1,.int .i64 x1],#[.int .i64 2,.int .i64 x2],#[.int .i64 0,.int .i64 y0],#[.int .i64 1,.int .i64 y1],#[.int .i64 2,.int .i64 y2]]:=rfl
  rw [exs] at hY ⊢
  by_cases h6:6≤stop
  ·have q0:(0 != stop)=true:=by simp;omega
   have q1:(1 != stop)=true:=by simp;omega
   have q2:(2 != stop)=true:=by simp;omega
   have q3:(3 != stop)=true:=by simp;omega
   have q4:(4 != stop)=true:=by simp;omega
   have q5:(5 != stop)=true:=by simp;omega
   have l1:1≤stop:=by omega
   have l2:2≤stop:=by omega
   have l3:3≤stop:=by omega
   have l4:4≤stop:=by omega
   have l5:5≤stop:=by omega
   repeat' (first|refine zac ?_|refine zaf ?_|refine gwA ?_|(refine gwX ?_;intro Q hQ hP;simp [hC,hY,z0m,q0,q1,q2,q3,q4,q5,l1,l2,l3,l4,l5,h6];refine gwq hQ ?_;clear hQ hP Q)|(refine gwC ?_ ?_<;>(intro hb;try (cases hb;done))))
   refine ⟨by simp,by simp [results113],by first|(simp;omega)|omega,fun k hk=>?_⟩
   have hk:=hlt k hk
   simp (disch:=omega) only [zaa]
   rfl
  ·have:stop=0∨stop=1∨stop=2∨stop=3∨stop=4∨stop=5:=by omega
   rcases this with rfl|rfl|rfl|rfl|rfl|rfl
   all_goals
    repeat' (first|refine zac ?_|refine zaf ?_|refine gwA ?_|(refine gwX ?_;intro Q hQ hP;simp [hC,hY,z0m];refine gwq hQ ?_;clear hQ hP Q)|(refine gwC ?_ ?_<;>(intro hb;try (cases hb;done))))
   all_goals
    refine ⟨by simp,by simp [results113],by simp,fun k hk=>?_⟩
    have hk:=hlt k hk
    simp (disch:=omega) only [zaa]
    rfl
theorem zym (a b:Int):Ret prog G0 150 #[wd a,wd b] (wd (a+b)):=by
 refine zar G0F func150 rfl call150 (by simp) (by simp) (by simp [ntmps150]) ?_
 intro C hC hC0 hY
 repeat' (first|refine gwA ?_|(refine gwX ?_;intro Q hQ hP;simp [hC,hY];refine gwq hQ ?_;clear hQ hP Q)|(refine gwC ?_ ?_<;>(intro hb;try (cases hb;done))))
 refine ⟨.inr trivial,?_⟩
 simp [results150]
@[simp] theorem jrn (a b:Int) (K:Value→Prop):za0 prog G0 150 #[Value.agg #[.int .u64 (wi (a) 0),.int .u64 (wi (a) 1),.int .u64 (wi (a) 2),.int .u64 (wi (a) 3)],Value.agg #[.int .u64 (wi (b) 0),.int .u64 (wi (b) 1),.int .u64 (wi (b) 2),.int .u64 (wi (b) 3)]] K↔K (wd (a+b)):=zad G0W (by kernel_rfl) (zym a b)
theorem zyq (a b:Int):Ret prog G0 141 #[wd a,wd b] (wd (a - b)):=by
 refine zar G0F func141 rfl call141 (by simp) (by simp) (by simp [ntmps141]) ?_
 intro C hC hC0 hY
 repeat' (first|refine gwA ?_|(refine gwX ?_;intro Q hQ hP;simp [hC,hY];refine gwq hQ ?_;clear hQ hP Q)|(refine gwC ?_ ?_<;>(intro hb;try (cases hb;done))))
 refine ⟨.inr trivial,?_⟩
 simp [results141]
@[simp] theorem jrp (a b:Int) (K:Value→Prop):za0 prog G0 141 #[Value.agg #[.int .u64 (wi (a) 0),.int .u64 (wi (a) 1),.int .u64 (wi (a) 2),.int .u64 (wi (a) 3)],Value.agg #[.int .u64 (wi (b) 0),.int .u64 (wi (b) 1),.int .u64 (wi (b) 2),.int .u64 (wi (b) 3)]] K↔K (wd (a - b)):=zad G0W (by kernel_rfl) (zyq a b)
theorem zyp:Ret prog G0 142 #[] (wd 1):=by
 refine zar G0F func142 rfl call142 (by simp) (by simp) (by simp [ntmps142]) ?_
 intro C hC hC0 hY
 have i1:=zp0
 repeat' (first|refine gwA ?_|(refine gwX ?_;intro Q hQ hP;simp [hC,hY,i1];refine gwq hQ ?_;clear hQ hP Q)|(refine gwC ?_ ?_<;>(intro hb;try (cases hb;done))))
 refine ⟨.inr trivial,?_⟩
 simp [results142]
@[simp] theorem jro (K:Value→Prop):za0 prog G0 142 #[] K↔K (wd 1):=zad G0W (by kernel_rfl) zyp
theorem zqv:Ret prog G0 129 #[] (.agg #[.int .u64 0,.int .u64 0,.int .u64 0,.int .u64 9223372036854775808]):=by
 refine zar G0F func129 rfl call129 (by simp) (by simp) (by simp [ntmps129]) ?_
 intro C hC hC0 hY
 repeat' (first|refine gwA ?_|(refine gwX ?_;intro Q hQ hP;simp [hC,hY];refine gwq hQ ?_;clear hQ hP Q)|(refine gwC ?_ ?_<;>(intro hb;try (cases hb;done))))
 refine ⟨.inr trivial,?_⟩
 simp [results129]
@[simp] theorem jni (K:Value→Prop):za0 prog G0 129 #[] K↔K (.agg #[.int .u64 0,.int .u64 0,.int .u64 0,.int .u64 9223372036854775808]):=zad G0W (by kernel_rfl) zqv
end Go.Gy
namespace Go.Gy
set_option linter.unusedSimpArgs false
set_option linter.unusedVariables false
open Go Go.RowKit Go.Proofs
def wl (z:Int):List Value:=[.int .u64 (wi z 0),.int .u64 (wi z 1),.int .u64 (wi z 2),.int .u64 (wi z 3)]
@[simp] theorem jig (z:Int):(wl z).length=4:=rfl
def lc (b:Int):Nat→List Value
 | 0=>[]
 | k+1=>lc b k++wl (b*2^k)
@[simp] theorem jpp (b:Int) (k:Nat):(lc b k).length=4*k:=by
 induction k with
 | zero=>rfl
 | succ k ih=>simp [lc,ih];omega
theorem zp6 (b:Int) (k:Nat):∀ x∈lc b k,zbd x=true:=by
 induction k with
 | zero=>simp [lc]
 | succ k ih =>
  intro x hx
  simp only [lc,List.mem_append] at hx
  rcases hx with hx|hx
  ·exact ih x hx
  ·simp [wl] at hx
   rcases hx with rfl|rfl|rfl|rfl<;>simp
theorem zp7 (b:Int):∀ (k j:Nat) (rest:List Value),j<k→((lc b k++rest).drop (4*j)).take 4=wl (b*2^j)
 | 0,j,rest,h=>by omega
 | k+1,j,rest,h=>by
  by_cases hj:j<k
  ·rw [lc,List.append_assoc]
   exact zp7 b k j _ hj
  ·obtain rfl:j=k:=by omega
   rw [lc,List.append_assoc,show 4*j=(lc b j).length by simp,List.drop_left,show (4:Nat)=(wl (b*2^j)).length from rfl,List.take_left]
theorem jl6 {a b:Int} (hb:0<b) (i:Nat):(a%(b*2^(i+1))<b*2^i∧a / (b*2^i)=2*(a / (b*2^(i+1)))∧a%(b*2^i)=a%(b*2^(i+1))) ∨
  (b*2^i≤a%(b*2^(i+1))∧a / (b*2^i)=2*(a / (b*2^(i+1)))+1∧a%(b*2^i)=a%(b*2^(i+1)) - b*2^i):=by
 have e:b*2^(i+1)=2*(b*2^i):=by rw [Int.pow_succ];ac_rfl
 rw [e]
 have hm:0<b*2^i:=Int.mul_pos hb (Int.pow_pos (by decide))
 generalize b*2^i=m at *
 have h1:=Int.emod_lt_of_pos a (show 0<2*m by omega)
 have h2:=Int.emod_nonneg a (show (2*m)≠0 by omega)
 have h3:=Int.mul_ediv_add_emod a (2*m)
 generalize a / (2*m)=q at *
 generalize a%(2*m)=s at *
 have ea:a=m*(2*q)+s:=by rw [←h3,Int.mul_comm 2 m,Int.mul_assoc]
 by_cases hs:s<m
 ·left
  refine ⟨hs,?_,?_⟩
  ·rw [ea,Int.mul_add_ediv_left _ _ (by omega),Int.ediv_eq_zero_of_lt h2 hs,Int.add_zero]
  ·rw [ea,Int.mul_add_emod_self_left,Int.emod_eq_of_lt h2 hs]
 ·right
  have es:a=m*(2*q+1)+(s - m):=by rw [ea,Int.mul_add,Int.mul_one];omega
  refine ⟨by omega,?_,?_⟩
  ·rw [es,Int.mul_add_ediv_left _ _ (by omega),Int.ediv_eq_zero_of_lt (by omega) (by omega),Int.add_zero]
  ·rw [es,Int.mul_add_emod_self_left,Int.emod_eq_of_lt (by omega) (by omega)]
end Go.Gy
namespace Go.Gy
set_option linter.unusedSimpArgs false
set_option linter.unusedVariables false
def jmx (a b:Int):Int:=if b<2*(a%b)∨(2*(a%b)=b∧0≤a / b) then a / b+1 else a / b
end Go.Gy
namespace Go.Gy
set_option linter.unusedSimpArgs false
set_option linter.unusedVariables false
open Go Go.RowKit Go.Proofs
def sm (z:Int):Prop:=-1329227995784915872903807060280344576≤z∧z≤1329227995784915872903807060280344576
theorem sm.wr {z:Int} (h:sm z):wr z:=⟨Int.le_trans (by decide) h.1,Int.lt_of_le_of_lt h.2 (by decide)⟩
theorem sm.up {z:Int} (h:sm z):Gy.wr (z+1):=⟨Int.le_trans (by decide) (Int.le_trans h.1 (Int.le_add_one (Int.le_refl _))),Int.lt_of_le_of_lt (Int.add_le_add_right h.2 1) (by decide)⟩
def jb (n:Int):Blk:=⟨#[.int .i64 n],.ty 3⟩
end Go.Gy
namespace Go.Gy
set_option linter.unusedSimpArgs false
set_option linter.unusedVariables false
open Go Go.RowKit Go.Proofs Go.Proofs.Tryz
theorem jmq (p:Nat→Prop) (m:Nat):∃ N,N≤m∧(∀ i,i<N→p i)∧(N=m∨¬p N):=by
 induction m with
 | zero=>exact ⟨0,Nat.le_refl _,fun i hi=>absurd hi (Nat.not_lt_zero i),.inl rfl⟩
 | succ m ih =>
  obtain ⟨N,h1,h2,h3⟩:=ih
  rcases h3 with rfl|h3
  ·by_cases hp:p N
   ·exact ⟨N+1,Nat.le_refl _,fun i hi=>by
     by_cases e:i=N
     ·subst e;exact hp
     ·exact h2 i (by omega),.inl rfl⟩
   ·exact ⟨N,by omega,h2,.inr hp⟩
  ·exact ⟨N,by omega,h2,.inr h3⟩
def inW (m x:Int):Prop:=0≤m∧-m≤x∧x≤m
instance inWdec (m x:Int):Decidable (inW m x):=by unfold inW;infer_instance
theorem zxu {m:Int} (h:i64 m) (h0:0≤m):Int.bmod (-m) 18446744073709551616=-m:=by
 have:=h.1;have:=h.2
 rw [Int.bmod_def];omega
def jdq (x0 x1 x2 m:Int):Hp:=hpL G0 [(200,⟨#[.int .i64 x0,.int .i64 x1,.int .i64 x2],.ty 31⟩),(208,jb m),(216,⟨#[.bool false],.ty 4⟩)]
def zzq:Nat→Value:=tsL [(3,.pointer (some ⟨208,0,none⟩)),(4,.pointer (some ⟨216,0,none⟩))]
set_option maxRecDepth 8000 in
theorem zu9 (x0 x1 x2 m:Int) (hm:i64 m) (h0:i64 x0) (h1:i64 x1) (h2:i64 x2):Ret prog G0 77 #[.agg #[.int .i64 x0,.int .i64 x1,.int .i64 x2],.int .i64 m] (.bool (decide (inW m x0∧inW m x1∧inW m x2))):=by
 refine zar G0F func77 rfl call77 (by simp) (by simp) (by simp [ntmps77]) ?_
 intro C hC hC0 hY
 obtain ⟨N,hN,hlt,hend⟩:=jmq (fun i=>inW m (vf x0 x1 x2 i)) 3
 repeat' (first|refine gwA ?_|((first|refine gwR [86] ?_|refine gwD [86] ?_);intro Q hQ hP;(repeat first|simp [hC,hY,jb]|refine zbv (ziq 232 240 1 1 #[.int .i64 x0,.int .i64 x1,.int .i64 x2] (by simp) (by omega) (by omega) (by omega) (by omega)) (by simp) (fun k hk=>za4 (by simp) hk) (by simp [Res.at,zab]) ?_);refine gwq hQ ?_;clear hQ hP Q)|(refine gwC ?_ ?_<;>(intro hb;try (cases hb;done))))
 have hT:m<0∨0≤m:=by omega
 refine zgi (f:=113) (rs:=[240,232]) (xs:=xsV 3 (vf x0 x1 x2)) (caps:=#[.pointer (some ⟨240,0,none⟩)]) (by simp) ?_ (by simp [xsV]) (by simp [ntmps77]) zzq (fun _=>jdq x0 x1 x2 m) 300 N (by simp [xsV];omega) ?_ ?_ ?_ ?_ ?_
 ·rw [hC]
  refine zg4.cast (IterX.rn (fun k=>if k=100 then 240 else if k=108 then 232 else k) G0F (fun k hk=>za4 (by simp [zlq]) hk) (rs:=[100,108]) ?_ (zu8 x0 x1 x2)) (by simp [zao]) (by simp)
  refine ⟨fun k hk=>?_,?_,?_,?_⟩
  ·have h1:¬k=100:=by omega
   have h2:¬k=108:=by omega
   have h3:¬k=200:=by omega
   have h4:¬k=208:=by omega
   have h5:¬k=216:=by omega
   have h8:¬k=232:=by omega
   have h9:¬k=240:=by omega
   simp [h1,h2,h3,h4,h5,h8,h9,pv1,zlq]
  ·simp
  ·simp [zlq,Blk.rn,zak,zao]
  ·simp
 ·refine zbb _ 300 hC G0F (m0:=[]) hC0 (by omega) ?_ ?_ ?_
  ·simp [zan,zay,zai,zaj,dom]
  ·simp [zae,zai,zaj,jb]
  ·simp
 ·simp [jdq,dom]
 ·intro i hi t
  refine zes ?_ t
  simp [zan,zay,zai,zaj,dom,jdq]
 ·intro i x hi hx C1 l hC1 hh1 hY1
  have hCC:=hC
  have hC1':C1.G=G0:=hC1.trans hC
  obtain ⟨g0,g1,g2⟩:=hlt i hi
  replace hC:=hC1'
  replace hY:=hY1
  have:i=0∨i=1∨i=2:=by omega
  rcases this with rfl|rfl|rfl
  all_goals
   rw [zpc _ _ _ (by omega)] at hx
   simp only [Option.some.injEq] at hx
   subst hx
   simp only [vf] at *
   unfold jdq
  all_goals
   repeat' (first|refine gwA ?_|(refine gwX ?_;intro Q hQ hP;simp [hC,hY,zaz,zzq,jb];refine gwq hQ ?_;clear hQ hP Q)|(refine gwC ?_ ?_<;>(intro hb;try (cases hb;done))))
  all_goals
   intro C2 hC2 hh2 hY2
   replace hC:C2.G=G0:=hC2.trans hCC
   replace hY:=hY2
   have q0:¬m<0:=by omega
   have q1:=Int.not_lt.2 g1
   have q2:=Int.not_lt.2 g2
   have hbm:=zxu hm g0
   repeat' (first|refine gwA ?_|(refine gwX ?_;intro Q hQ hP;simp [hC,hY,zaz,zzq,jb,hbm,q0,q1,q2];refine gwq hQ ?_;clear hQ hP Q)|(refine gwC ?_ ?_<;>(intro hb;try (cases hb;done))))
  all_goals
   refine zbb [] 300 hC1' G0F hh1 (by omega) ?_ ?_ ?_
   ·simp
   ·simp [zae,zai,zaj,jb]
   ·simp [jb]
 ·by_cases hend':N=3
  ·subst hend'
   left
   refine ⟨by simp [xsV],?_⟩
   have e:(inW m x0∧inW m x1∧inW m x2)=True:=by
    simp only [eq_iff_iff,iff_true]
    exact ⟨hlt 0 (by omega),hlt 1 (by omega),hlt 2 (by omega)⟩
   simp only [e]
   unfold jdq zzq jb
   repeat' (first|refine gwA ?_|(refine gwX ?_;intro Q hQ hP;simp [hC,hY];refine gwq hQ ?_;clear hQ hP Q)|(refine gwC ?_ ?_<;>(intro hb;try (cases hb;done))))
   refine ⟨.inr trivial,?_⟩
   simp [results77]
  ·right
   have hN3:N<3:=by omega
   replace hend:=hend.resolve_left hend'
   refine ⟨_,zpc _ _ _ hN3,?_⟩
   have e:(inW m x0∧inW m x1∧inW m x2)=False:=by
    simp only [eq_iff_iff,iff_false]
    rintro ⟨a0,a1,a2⟩
    have:N=0∨N=1∨N=2:=by omega
    rcases this with rfl|rfl|rfl<;>contradiction
   simp only [e]
   have hor:m<0∨(¬m<0∧vf x0 x1 x2 N < -m)∨(¬m<0∧¬vf x0 x1 x2 N < -m∧m<vf x0 x1 x2 N):=by
    unfold inW at hend;omega
   intro C1 l hC1 hh1 hY1
   have hCC:=hC
   replace hC:=hC1.trans hC
   replace hY:=hY1
   clear hlt hN
   have:N=0∨N=1∨N=2:=by omega
   rcases this with rfl|rfl|rfl
   all_goals
    simp only [vf] at hor ⊢
    unfold jdq
   all_goals
    repeat' (first|refine gwA ?_|(refine gwX ?_;intro Q hQ hP;simp [hC,hY,zaz,zzq,jb];refine gwq hQ ?_;clear hQ hP Q)|(refine gwC ?_ ?_<;>(intro hb;try (cases hb;done))))
   all_goals
    intro C2 hC2 hh2 hY2
    replace hC:C2.G=G0:=hC2.trans hCC
    replace hY:=hY2
    rcases hor with q0|⟨q0,q1⟩|⟨q0,q1,q2⟩
    ·
     repeat' (first|refine gwA ?_|(refine gwX ?_;intro Q hQ hP;simp [hC,hY,zaz,zzq,jb,q0];refine gwq hQ ?_;clear hQ hP Q)|(refine gwC ?_ ?_<;>(intro hb;try (cases hb;done))))
     refine ⟨by simp [zb1],fun t=>zes (by simp [zan,zay,zai,zaj,dom]) t,.inr trivial,?_⟩
     simp [results77,zzq]
    ·have hbm:=zxu hm (Int.not_lt.1 q0)
     repeat' (first|refine gwA ?_|(refine gwX ?_;intro Q hQ hP;simp [hC,hY,zaz,zzq,jb,hbm,q0,q1];refine gwq hQ ?_;clear hQ hP Q)|(refine gwC ?_ ?_<;>(intro hb;try (cases hb;done))))
     refine ⟨by simp [zb1],fun t=>zes (by simp [zan,zay,zai,zaj,dom]) t,.inr trivial,?_⟩
     simp [results77,zzq]
    ·have hbm:=zxu hm (Int.not_lt.1 q0)
     repeat' (first|refine gwA ?_|(refine gwX ?_;intro Q hQ hP;simp [hC,hY,zaz,zzq,jb,hbm,q0,q1,q2];refine gwq hQ ?_;clear hQ hP Q)|(refine gwC ?_ ?_<;>(intro hb;try (cases hb;done))))
     refine ⟨by simp [zb1],fun t=>zes (by simp [zan,zay,zai,zaj,dom]) t,.inr trivial,?_⟩
     simp [results77,zzq]
def inV (m x0 x1 x2:Int):Bool:=decide (inW m x0∧inW m x1∧inW m x2)
@[simp] theorem jog (x0 x1 x2 m:Int) (hm:i64 m) (h0:i64 x0) (h1:i64 x1) (h2:i64 x2) (K:Value→Prop):za0 prog G0 77 #[.agg #[.int .i64 x0,.int .i64 x1,.int .i64 x2],.int .i64 m] K↔K (.bool (inV m x0 x1 x2)):=zad G0W (by kernel_rfl) (zu9 x0 x1 x2 m hm h0 h1 h2)
def fnI (x:Int):Prop:=-536870912≤x∧x≤536870912
instance fnIdec (x:Int):Decidable (fnI x):=by unfold fnI;infer_instance
theorem zrx (M m:Nat) (v:Bool) (cs:Array Value) (hcs:∀ x∈cs,zbd x=true) (f:Nat→Int) (hit:IterK prog G0 113 #[.pointer (some ⟨100,0,none⟩)] (hpL G0 [(100,⟨#[.slice (some ⟨108,0,none⟩) m m],.ty 35⟩),(108,⟨cs,.ty 31⟩)]) (zab [(100,⟨#[.slice (some ⟨108,0,none⟩) m m],.ty 35⟩),(108,⟨cs,.ty 31⟩)]) (xsV M f)) (hv:v=true↔∀ j,j<M→fnI (f j)) :
  Fun prog G0 85 #[.slice (some ⟨100,0,none⟩) m m] (hpL G0 [(100,⟨cs,.ty 31⟩)]) [100] (.ret (.bool v) []):=by
 have hfx:Blk.fx (Blk.mk cs (.ty 31)):=hcs
 have hfi:∀ D,(Blk.mk cs (.ty 31)).ids D:=fun D=>Blk.fx_ids hfx D
 refine zbn (m:=[(100,⟨cs,.ty 31⟩)]) (B:=200) G0F func85 rfl call85 ⟨by simp,by simp [zab],by simp only [List.mem_singleton,forall_eq];exact hfi _⟩ ?_ (by simp) (by simp) (by simp) (by simp [ntmps85]) (by omega) ?_
 ·simp [zan,zay,zai,zaj,zab]
 intro C hC hC0 hY
 obtain ⟨N,hN,hlt,hend⟩:=jmq (fun i=>fnI (f i)) M
 repeat' (first|refine gwA ?_|((first|refine gwR [86] ?_|refine gwD [86] ?_);intro Q hQ hP;(repeat first|simp [hC,hY,jb]|refine zbv (ziq 100 216 m m cs hcs (by omega) (by omega) (by omega) (by omega)) (by simp) (fun k hk=>za4 (by simp) hk) (by simp [Res.at,zab]) ?_);refine gwq hQ ?_;clear hQ hP Q)|(refine gwC ?_ ?_<;>(intro hb;try (cases hb;done))))
 refine zkv (G:=G0) (f:=113) (rs:=[216,100]) (xs:=xsV M f) (caps:=#[.pointer (some ⟨216,0,none⟩)]) (m0:=[(100,⟨cs,.ty 31⟩)]) [216,100] G0F hC hC0 hY (by simp) ?_ (by simp [xsV]) (by simp [ntmps85]) [(2,.pointer (some ⟨200,0,none⟩))] [] (fun _=>[(200,⟨#[.bool false],.ty 4⟩)]) 300 N (by simp [xsV];omega) (by omega) (by simp) (by simp [dom]) ?_ (by simp) (by simp) (by simp) ?_ (by simp) ?_ ?_
 ·refine zr1 (m:=[(100,⟨#[.slice (some ⟨108,0,none⟩) m m],.ty 35⟩),(108,⟨cs,.ty 31⟩)]) (B:=200) hit G0F ⟨by simp,by simp [zab],?_⟩ (fun k=>if k=100 then 216 else if k=108 then 100 else k) (fun k hk=>?_) (by simp [zao]) (by simp [zab]) (by (intro k hk;first|rfl|(simp (disch:=omega) only [zcz,List.mem_cons,List.not_mem_nil,or_false,zaa,zam,za6,if_neg,zbh]<;>done))) ?_ ?_
  ·simp only [List.mem_cons,List.not_mem_nil,or_false,forall_eq_or_imp,forall_eq]
   exact ⟨by simp [zae,zai,zaj,zab],hfi _⟩
  ·rw [if_neg (by omega),if_neg (by omega)]
  ·have hr:=fun ρ=>zj0 hcs ρ
   simp [hr,Blk.rn,zak,zao]
  ·simp [zab]
 ·intro k hk b hb
  simp only [List.mem_cons,List.not_mem_nil,or_false] at hk
  rcases hk with rfl|rfl
  ·simp at hb;subst hb;simp [zae,zai,zaj]
  ·simp at hb;subst hb;exact hfi _
 ·intro i hi
  simp [zan,zay,zai,zaj,dom,zae]
 ·intro i x hi hx C1 l hC1 hh1 hY1
  rw [zpc _ _ _ (by omega)] at hx
  simp only [Option.some.injEq] at hx
  subst hx
  obtain ⟨g1,g2⟩:=hlt i hi
  have q1:=Int.not_lt.2 g1
  have q2:=Int.not_lt.2 g2
  clear hC hY
  have hC:=hC1
  have hY:=hY1
  repeat' (first|refine gwA ?_|(refine gwX ?_;intro Q hQ hP;simp [hC,hY,zaz];refine gwq hQ ?_;clear hQ hP Q)|(refine gwC ?_ ?_<;>(intro hb;try (cases hb;done))))
  intro C2 hC2 hh2 hY2
  clear hC hY
  have hC:=hC2
  have hY:=hY2
  repeat' (first|refine gwA ?_|(refine gwX ?_;intro Q hQ hP;simp [hC,hY,zaz,q1,q2];refine gwq hQ ?_;clear hQ hP Q)|(refine gwC ?_ ?_<;>(intro hb;try (cases hb;done))))
  simp
 ·by_cases hend':N=M
  ·subst hend'
   left
   refine ⟨by simp [xsV],?_⟩
   have e:=hv.2 hlt
   subst e
   repeat' (first|refine gwA ?_|(refine gwX ?_;intro Q hQ hP;simp [hC,hY,zcz,List.cons_append,List.nil_append];refine gwq hQ ?_;clear hQ hP Q)|(refine gwC ?_ ?_<;>(intro hb;try (cases hb;done))))
   refine ⟨.inr rfl,by simp [results85],zc5 G0F (by simp [zcz]) (by (intro k hk;first|rfl|(simp (disch:=omega) only [zcz,List.mem_cons,List.not_mem_nil,or_false,zaa,zam,za6,if_neg,zbh]<;>done)))⟩
  ·right
   have hN3:N<M:=by omega
   replace hend:=hend.resolve_left hend'
   refine ⟨_,zpc _ _ _ hN3,?_⟩
   have e:v=false:=by
    cases v
    ·rfl
    ·exact absurd (hv.1 rfl N hN3) hend
   subst e
   have hor:f N < -536870912∨(¬f N < -536870912∧536870912<f N):=by
    unfold fnI at hend;omega
   intro C1 l hC1 hh1 hY1
   clear hC hY
   have hC:=hC1
   have hY:=hY1
   repeat' (first|refine gwA ?_|(refine gwX ?_;intro Q hQ hP;simp [hC,hY,zaz];refine gwq hQ ?_;clear hQ hP Q)|(refine gwC ?_ ?_<;>(intro hb;try (cases hb;done))))
   intro C2 hC2 hh2 hY2
   clear hC hY
   have hC:=hC2
   have hY:=hY2
   rcases hor with q1|⟨q1,q2⟩
   ·
    repeat' (first|refine gwA ?_|(refine gwX ?_;intro Q hQ hP;simp [hC,hY,zaz,q1];refine gwq hQ ?_;clear hQ hP Q)|(refine gwC ?_ ?_<;>(intro hb;try (cases hb;done))))
    refine ⟨by simp [zb1],by simp [zan,zay,zai,zaj,dom],by simp,.inr rfl,by simp [results85,zcz],zc5 G0F (by simp [zcz]) (by (intro k hk;first|rfl|(simp (disch:=omega) only [zcz,List.mem_cons,List.not_mem_nil,or_false,zaa,zam,za6,if_neg,zbh]<;>done)))⟩
   ·
    repeat' (first|refine gwA ?_|(refine gwX ?_;intro Q hQ hP;simp [hC,hY,zaz,q1,q2];refine gwq hQ ?_;clear hQ hP Q)|(refine gwC ?_ ?_<;>(intro hb;try (cases hb;done))))
    refine ⟨by simp [zb1],by simp [zan,zay,zai,zaj,dom],by simp,.inr rfl,by simp [results85,zcz],zc5 G0F (by simp [zcz]) (by (intro k hk;first|rfl|(simp (disch:=omega) only [zcz,List.mem_cons,List.not_mem_nil,or_false,zaa,zam,za6,if_neg,zbh]<;>done)))⟩

theorem znz (x0 x1 x2:Int) (v:Bool) (hv:v=true↔fnI x0∧fnI x1∧fnI x2):Fun prog G0 85 #[.slice (some ⟨100,0,none⟩) 1 1] (hpL G0 [(100,⟨#[.int .i64 x0,.int .i64 x1,.int .i64 x2],.ty 31⟩)]) [100] (.ret (.bool v) []):=by
 refine zrx 3 1 _ _ (by simp) _ (zhd x0 x1 x2) ?_
 rw [hv]
 refine ⟨fun ⟨h0,h1,h2⟩ j hj=>?_,fun h=>⟨h 0 (by omega),h 1 (by omega),h 2 (by omega)⟩⟩
 have:j=0∨j=1∨j=2:=by omega
 rcases this with rfl|rfl|rfl<;>assumption
theorem zn0 (x0 x1 x2 y0 y1 y2:Int) (v:Bool) (hv:v=true↔(fnI x0∧fnI x1∧fnI x2)∧fnI y0∧fnI y1∧fnI y2):Fun prog G0 85 #[.slice (some ⟨100,0,none⟩) 2 2] (hpL G0 [(100,⟨#[.int .i64 x0,.int .i64 x1,.int .i64 x2,.int .i64 y0,.int .i64 y1,.int .i64 y2],.ty 31⟩)]) [100] (.ret (.bool v) []):=by
 refine zrx 6 2 _ _ (by simp) _ (zq6 x0 x1 x2 y0 y1 y2) ?_
 rw [hv]
 refine ⟨fun ⟨⟨h0,h1,h2⟩,h3,h4,h5⟩ j hj=>?_,fun h=>⟨⟨h 0 (by omega),h 1 (by omega),h 2 (by omega)⟩,h 3 (by omega),h 4 (by omega),h 5 (by omega)⟩⟩
 have:j=0∨j=1∨j=2∨j=3∨j=4∨j=5:=by omega
 rcases this with rfl|rfl|rfl|rfl|rfl|rfl<;>assumption
@[simp] theorem jex (f:Fn):zav (.func f #[] #[])=true:=by simp [zav,ze2,zbd,Array.all]
def eaE (op:Int→Int→Int) (a0 a1 a2 b0 b1 b2:Int):Int:=if ((fnI a0∧fnI a1∧fnI a2)∧fnI b0∧fnI b1∧fnI b2)∧fnI (op a0 b0)∧fnI (op a1 b1)∧fnI (op a2 b2) then 0 else 20
def eaV (e v:Int):Int:=if e=0 then v else 0
def eaL (g:FuncId) (op:Int→Int→Int) (a0 a1 a2 b0 b1 b2:Int) (i:Nat):List (Nat×Blk):=[(200,⟨#[.int .i64 a0,.int .i64 a1,.int .i64 a2],.ty 31⟩),(208,⟨#[.int .i64 b0,.int .i64 b1,.int .i64 b2],.ty 31⟩),(216,⟨#[.func (.func g) #[] #[]],.ty 93⟩),
 (224,⟨#[.int .i64 (if 0<i then op a0 b0 else 0),.int .i64 (if 1<i then op a1 b1 else 0),.int .i64 (if 2<i then op a2 b2 else 0)],.ty 31⟩)]
set_option maxRecDepth 8000 in
theorem z1r (g:FuncId) (op:Int→Int→Int) (hop:∀ x y K,fnI x→fnI y→(za0 prog G0 g #[.int .i64 x,.int .i64 y] K↔K (.int .i64 (op x y)))) (a0 a1 a2 b0 b1 b2:Int):Ret prog G0 64 #[.agg #[.int .i64 a0,.int .i64 a1,.int .i64 a2],.agg #[.int .i64 b0,.int .i64 b1,.int .i64 b2],.func (.func g) #[] #[]]
  (.tuple #[.agg #[.int .i64 (eaV (eaE op a0 a1 a2 b0 b1 b2) (op a0 b0)),.int .i64 (eaV (eaE op a0 a1 a2 b0 b1 b2) (op a1 b1)),.int .i64 (eaV (eaE op a0 a1 a2 b0 b1 b2) (op a2 b2))],.int .i64 (eaE op a0 a1 a2 b0 b1 b2)]):=by
 refine zar G0F func64 rfl call64 (by simp) (by simp) (by simp [ntmps64]) ?_
 intro C hC hC0 hY
 obtain ⟨v,hv⟩:∃ v:Bool,v=true↔(fnI a0∧fnI a1∧fnI a2)∧fnI b0∧fnI b1∧fnI b2:=⟨decide _,decide_eq_true_iff⟩
 cases v with
 | false =>
  have e:eaE op a0 a1 a2 b0 b1 b2=20:=by unfold eaE;rw [if_neg];intro h;exact absurd (hv.2 h.1) (by simp)
  rw [e]
  repeat' (first|refine gwA ?_|((first|refine gwR [85] ?_|refine gwD [85] ?_);intro Q hQ hP;(repeat first|simp [hC,hY]|refine zah (zn0 a0 a1 a2 b0 b1 b2 _ hv) G0F (B:=200) ⟨by simp,by simp [zab],by simp [zae,zai,zaj]⟩ (fun k=>if k=100 then 256 else k) (fun k hk=>if_neg (by omega)) (by simp [ren,zax,zak,zao]) (by simp) (by simp [Blk.rn,zak,zao]) (by simp [zab]) (by simp [zab];rfl) ?_);refine gwq hQ ?_;clear hQ hP Q)|(refine gwC ?_ ?_<;>(intro hb;try (cases hb;done))))
  refine ⟨.inr trivial,?_⟩
  simp [results64,eaV]
 | true =>
  repeat' (first|refine gwA ?_|((first|refine gwR [85,86] ?_|refine gwD [85,86] ?_);intro Q hQ hP;(repeat first|simp [hC,hY]|(first|(refine zah (zn0 a0 a1 a2 b0 b1 b2 _ hv) G0F (B:=200) ⟨by simp,by simp [zab],by simp [zae,zai,zaj]⟩ (fun k=>if k=100 then 256 else k) (fun k hk=>if_neg (by omega)) (by simp [ren,zax,zak,zao]) (by simp) (by simp [Blk.rn,zak,zao]) (by simp [zab]) (by simp [zab];rfl) ?_)|refine zbv (ziq 288 296 1 1 #[.int .i64 a0,.int .i64 a1,.int .i64 a2] (by simp) (by omega) (by omega) (by omega) (by omega)) (by simp) (fun k hk=>za4 (by simp) hk) (by simp [Res.at,zab]) ?_));refine gwq hQ ?_;clear hQ hP Q)|(refine gwC ?_ ?_<;>(intro hb;try (cases hb;done))))
  obtain ⟨⟨f0,f1,f2⟩,g0,g1,g2⟩:=hv.1 rfl
  have s0:=fun K=>hop a0 b0 K f0 g0
  have s1:=fun K=>hop a1 b1 K f1 g1
  have s2:=fun K=>hop a2 b2 K f2 g2
  refine zkv (G:=G0) (f:=113) (rs:=[296,288]) (xs:=xsV 3 (vf a0 a1 a2)) (caps:=#[.pointer (some ⟨296,0,none⟩)]) (m0:=[]) [296,288] G0F hC hC0 hY (by simp) ?_ (by simp [xsV]) (by simp [ntmps64]) [(3,.pointer (some ⟨200,0,none⟩)),(4,.pointer (some ⟨208,0,none⟩)),(5,.pointer (some ⟨216,0,none⟩)),(6,.pointer (some ⟨224,0,none⟩)),(7,.int .i64 0)] [] (eaL g op a0 a1 a2 b0 b1 b2) 400 3 (by simp [xsV]) (by omega) (by simp) (by simp [dom]) ?_ (by simp) (by simp) (by simp [eaL]) ?_ (by simp) ?_ ?_
  ·refine zr1 (m:=zlq a0 a1 a2) (B:=200) (zhd a0 a1 a2) G0F ⟨by simp [zlq],by simp [zlq,zab],by simp [zlq,zae,zai,zaj,zab]⟩ (fun k=>if k=100 then 296 else if k=108 then 288 else k) (fun k hk=>?_) (by simp [zao]) (by simp [zlq,zab]) (by (intro k hk;first|rfl|(simp (disch:=omega) only [zcz,List.mem_cons,List.not_mem_nil,or_false,zaa,zam,za6,if_neg,zbh]<;>done))) ?_ ?_
   ·rw [if_neg (by omega),if_neg (by omega)]
   ·simp [zlq,Blk.rn,zak,zao]
   ·simp [zlq,zab]
  ·intro k hk b hb
   simp only [List.mem_cons,List.not_mem_nil,or_false] at hk
   rcases hk with rfl|rfl
   ·simp at hb;subst hb;simp [zae,zai,zaj]
   ·simp at hb;subst hb;simp [zae,zai,zaj]
  ·intro i hi
   simp [eaL,zan,zay,zai,zaj,dom,zae]
  ·intro i x hi hx C1 l hC1 hh1 hY1
   rw [zpc _ _ _ (by omega)] at hx
   simp only [Option.some.injEq] at hx
   subst hx
   clear hC hY
   have hC:=hC1
   have hY:=hY1
   have:i=0∨i=1∨i=2:=by omega
   rcases this with rfl|rfl|rfl
   all_goals
    simp only [vf]
    unfold eaL
   all_goals
    repeat' (first|refine gwA ?_|(refine gwX ?_;intro Q hQ hP;simp [hC,hY,zaz];refine gwq hQ ?_;clear hQ hP Q)|(refine gwC ?_ ?_<;>(intro hb;try (cases hb;done))))
   all_goals
    intro C2 hC2 hh2 hY2
    clear hC hY
    have hC:=hC2
    have hY:=hY2
    repeat' (first|refine gwA ?_|(refine gwX ?_;intro Q hQ hP;simp [hC,hY,zaz,s0,s1,s2];refine gwq hQ ?_;clear hQ hP Q)|(refine gwC ?_ ?_<;>(intro hb;try (cases hb;done))))
   all_goals simp
  ·left
   refine ⟨by simp [xsV],?_⟩
   obtain ⟨w,hw⟩:∃ w:Bool,w=true↔fnI (op a0 b0)∧fnI (op a1 b1)∧fnI (op a2 b2):=⟨decide _,decide_eq_true_iff⟩
   cases w with
   | false =>
    have e:eaE op a0 a1 a2 b0 b1 b2=20:=by unfold eaE;rw [if_neg];intro h;exact absurd (hw.2 h.2) (by simp)
    rw [e]
    unfold eaL
    repeat' (first|refine gwA ?_|((first|refine gwR [85] ?_|refine gwD [85] ?_);intro Q hQ hP;(repeat first|simp [hC,hY,zcz,List.cons_append,List.nil_append]|refine zah (znz (op a0 b0) (op a1 b1) (op a2 b2) _ hw) G0F (B:=200) ⟨by simp,by simp [zab],by simp [zae,zai,zaj]⟩ (fun k=>if k=100 then 408 else k) (fun k hk=>if_neg (by omega)) (by simp [ren,zax,zak,zao]) (by simp) (by simp [Blk.rn,zak,zao]) (by simp [zab]) (by simp [zab];rfl) ?_);refine gwq hQ ?_;clear hQ hP Q)|(refine gwC ?_ ?_<;>(intro hb;try (cases hb;done))))
    refine ⟨.inr trivial,?_⟩
    simp [results64,eaV]
   | true =>
    have e:eaE op a0 a1 a2 b0 b1 b2=0:=by unfold eaE;rw [if_pos];exact ⟨hv.1 rfl,hw.1 rfl⟩
    rw [e]
    unfold eaL
    repeat' (first|refine gwA ?_|((first|refine gwR [85] ?_|refine gwD [85] ?_);intro Q hQ hP;(repeat first|simp [hC,hY,zcz,List.cons_append,List.nil_append]|refine zah (znz (op a0 b0) (op a1 b1) (op a2 b2) _ hw) G0F (B:=200) ⟨by simp,by simp [zab],by simp [zae,zai,zaj]⟩ (fun k=>if k=100 then 408 else k) (fun k hk=>if_neg (by omega)) (by simp [ren,zax,zak,zao]) (by simp) (by simp [Blk.rn,zak,zao]) (by simp [zab]) (by simp [zab];rfl) ?_);refine gwq hQ ?_;clear hQ hP Q)|(refine gwC ?_ ?_<;>(intro hb;try (cases hb;done))))
    refine ⟨.inr trivial,?_⟩
    simp [results64,eaV]
theorem joe (g:FuncId) (op:Int→Int→Int) (hop:∀ x y K,fnI x→fnI y→(za0 prog G0 g #[.int .i64 x,.int .i64 y] K↔K (.int .i64 (op x y)))) (a0 a1 a2 b0 b1 b2:Int) (K:Value→Prop):za0 prog G0 64 #[.agg #[.int .i64 a0,.int .i64 a1,.int .i64 a2],.agg #[.int .i64 b0,.int .i64 b1,.int .i64 b2],.func (.func g) #[] #[]] K ↔
  K (.tuple #[.agg #[.int .i64 (eaV (eaE op a0 a1 a2 b0 b1 b2) (op a0 b0)),.int .i64 (eaV (eaE op a0 a1 a2 b0 b1 b2) (op a1 b1)),.int .i64 (eaV (eaE op a0 a1 a2 b0 b1 b2) (op a2 b2))],.int .i64 (eaE op a0 a1 a2 b0 b1 b2)]):=zad G0W (by kernel_rfl) (z1r g op hop a0 a1 a2 b0 b1 b2)
def zqr (a b:Int) (i:Nat) (rest:List Value):Hp:=hpL G0 [(200,wb a),(208,wb b),(216,wb 0),(224,wb 0),(240,⟨(lc b (i+1)++rest).toArray,.ty 86⟩)]
def zqs (i cap:Nat):Nat→Value:=tsL [(2,.pointer (some ⟨200,0,none⟩)),(3,.pointer (some ⟨208,0,none⟩)),(4,.pointer (some ⟨216,0,none⟩)),(5,.pointer (some ⟨224,0,none⟩)),(6,.slice (some ⟨240,0,none⟩) (i+1) cap)]
def plS (b:Int) (i cap:Nat) (rest:List Value):Prop:=i≤255∧i+1≤cap∧(lc b (i+1)++rest).length=4*cap∧∀ x∈rest,zbd x=true
def plI (a b:Int) (N m:Nat) (s:GS):Prop:=∃ i cap rest,i+m=N∧s=⟨zqs i cap,zqr a b i rest,256,0⟩∧plS b i cap rest∧(0<i→b*2^i≤a)
def plJ (C:Ctx) (a b:Int) (s:GS):Prop:=∃ i cap rest,Weak C s ⟨zqs i cap,zqr a b i rest,256,0⟩∧plS b i cap rest∧(0<i→b*2^i≤a)∧a<b*2^(i+1)
def z92 (a b:Int) (i cap:Nat) (rest:List Value) (j:Nat):GS :=
 ⟨tsL [(2,.pointer (some ⟨200,0,none⟩)),(3,.pointer (some ⟨208,0,none⟩)),(4,.pointer (some ⟨216,0,none⟩)),(5,.pointer (some ⟨224,0,none⟩)),(6,.slice (some ⟨240,0,none⟩) (i+1) cap),(9,.pointer (some ⟨256,0,none⟩)),(10,.int .i64 (i - j))],
 hpL G0 [(200,wb (a%(b*2^(i+1 - j)))),(208,wb b),(216,wb 0),(224,wb 0),(240,⟨(lc b (i+1)++rest).toArray,.ty 86⟩),(256,wb (a / (b*2^(i+1 - j))))],400,0⟩
theorem jei {b:Int} (hb0:0<b) (i:Nat) (h:b*2^i<57896044618658097711785492504343953926634992332820282019728792003956564819968):i<255:=by
 refine Classical.byContradiction fun hc=>?_
 have h1:(2:Int)^255≤2^i:=by exact_mod_cast Nat.pow_le_pow_right (by omega) (by omega:255≤i)
 have h2:(1:Int)*2^i≤b*2^i:=Int.mul_le_mul_of_nonneg_right (by omega) (Int.le_of_lt (zbe i))
 have h3:(2:Int)^255=57896044618658097711785492504343953926634992332820282019728792003956564819968:=rfl
 omega
theorem z1o (b:Int) (i:Nat):b*2^(i+1)=b*2^i+b*2^i:=by rw [Int.pow_succ,←Int.mul_assoc,Int.mul_comm,Int.two_mul]
theorem zsn {z:Int} (h0:0≤z) (h1:z<57896044618658097711785492504343953926634992332820282019728792003956564819968):ng z=false:=by
 rw [zep,zg3 h0 h1];simp;exact h0
theorem z2z {z:Int} (h0:57896044618658097711785492504343953926634992332820282019728792003956564819968≤z) (h1:z<115792089237316195423570985008687907853269984665640564039457584007913129639936):ng z=true:=by
 rw [zep];simp
 unfold sz;rw [Int.bmod_def];split<;>omega
theorem zwp {x:Value} (h:x∈(Value.agg #[.int .u64 0,.int .u64 0,.int .u64 0,.int .u64 0]).cells):zbd x=true:=by
 simp [Value.cells] at h;subst h;rfl
theorem zg9 {b:Int} {k:Nat} {rest:List Value} {T:TypeId} {D:Nat→Prop} (h:∀ x∈rest,zbd x=true):(Blk.mk (lc b k++rest).toArray T).ids D:=fun x hx=>by
 simp only [List.mem_toArray,List.mem_append] at hx
 rcases hx with hx|hx
 ·exact zen (zp6 b k x hx)
 ·exact zen (h x hx)
theorem z73 {a m:Int} (h0:0≤a) (hm:0<m):a%m≤a:=by
 have h1:=Int.mul_ediv_add_emod a m
 have h2:=Int.ediv_nonneg h0 (Int.le_of_lt hm)
 have h3:=Int.mul_nonneg (Int.le_of_lt hm) h2
 omega
theorem zsc (b:Int) (i:Nat) (rest:List Value):(lc b (i+1)++rest).take ((i+1)*4)=lc b (i+1):=by
 rw [show (i+1)*4=(lc b (i+1)).length by simp;omega,List.take_left]
theorem z86 {b Y:Int} (i:Nat) (rest:List Value) (h:b*2^(i+1)=Y):(lc b (i+1)++rest).take ((i+1)*4)++wl Y++(lc b (i+1)++rest).drop ((i+1)*4+(wl Y).length)=lc b (i+2)++rest.drop 4:=by
 rw [zsc,jig,show (i+1)*4+4=(lc b (i+1)).length+4 by simp;omega,List.drop_append]
 simp only [Nat.add_sub_cancel_left]
 rw [List.drop_eq_nil_of_le (by omega),List.nil_append,←h]
 rfl
theorem z85 {b Y:Int} (i:Nat) (rest tl:List Value) (h:b*2^(i+1)=Y):(lc b (i+1)++rest).take ((i+1)*4)++wl Y++tl=lc b (i+2)++tl:=by
 rw [zsc,←h];rfl
theorem z50 {b:Int} {k:Nat} {rest:List Value} {T:TypeId} {ρ:Nat→Nat} (h:∀ x∈rest,zbd x=true):(Blk.mk (lc b k++rest).toArray T).rn ρ=⟨(lc b k++rest).toArray,T⟩:=by
 unfold Blk.rn
 rw [zbo]
 intro x hx
 simp only [List.mem_toArray,List.mem_append] at hx
 rcases hx with hx|hx
 ·exact zco (zp6 b k x hx)
 ·exact zco (h x hx)
theorem jic (a b c d:Int) (T:TypeId) (ρ:Nat→Nat):(Blk.mk #[.int .u64 a,.int .u64 b,.int .u64 c,.int .u64 d] T).rn ρ=⟨#[.int .u64 a,.int .u64 b,.int .u64 c,.int .u64 d],T⟩:=by simp [Blk.rn,zak,zao]
set_option maxRecDepth 8000 in
set_option maxHeartbeats 1000000 in
theorem z94 (a b:Int) (ha:wr a) (h0:0≤a) (hb:wr b) (hb0:0<b):Ret prog G0 140 #[wd a,wd b] (.tuple #[wd (a / b),wd (a%b)]):=by
 refine zar G0F func140 rfl call140 (by simp) (by simp) (by simp [ntmps140]) ?_
 intro C hC hC0 hY
 repeat' (first|refine gwA ?_|(refine gwX ?_;intro Q hQ hP;simp [hC,hY];refine gwq hQ ?_;clear hQ hP Q)|(refine gwC ?_ ?_<;>(intro hb;try (cases hb;done))))
 refine z7d (plJ C a b) ?_ ?_
 ·refine zl4 (plI a b 255) (m0:=255) (s0:=⟨zqs 0 1,zqr a b 0 [],256,0⟩) ?_ ⟨0,1,[],by omega,rfl,⟨by omega,by omega,rfl,by simp⟩,by omega⟩ ?_
  ·refine zbb _ 256 hC G0F (m0:=[]) hC0 (by omega) ?_ ?_ ?_
   ·simp [zan,zay,zai,zaj,dom]
   ·simp [zae,zai,zaj,wb,lc,wl,zde]
   ·simp
  ·rintro m _ ⟨i,cap,rest,him,rfl,⟨hi255,hcap,hlen,hrf⟩,hle⟩
   have bi:Int.bmod (i:Int) 18446744073709551616=i:=bm (by omega) (by omega)
   have fit:i*4+4≤4*(i+1)+rest.length:=by omega
   have rd:List.take 4 (List.drop (i*4) (lc b (i+1)++rest))=[.int .u64 (wi (b*2^i) 0),.int .u64 (wi (b*2^i) 1),.int .u64 (wi (b*2^i) 2),.int .u64 (wi (b*2^i) 3)]:=by
    rw [Nat.mul_comm];exact zp7 b (i+1) i rest (by omega)
   have i0:(0:Int)≤i:=by omega
   have i1:(i:Int)<i+1:=by omega
   have hau:=ha.2
   have hbu:=hb.2
   have hX0:0<b*2^i:=Int.mul_pos hb0 (zbe i)
   have hX1:b*2^i<57896044618658097711785492504343953926634992332820282019728792003956564819968:=by
    by_cases hi0:i=0
    ·subst hi0;simpa using hbu
    ·exact Int.lt_of_le_of_lt (hle (by omega)) hau
   have sza:sz a=a:=zb7 ha
   have hd:=z1o b i
   have n1:ng (b*2^i)=false:=zsn (Int.le_of_lt hX0) hX1
   have hi254:=jei hb0 i hX1
   generalize hX:b*2^i=X at *
   by_cases hov:X+X<57896044618658097711785492504343953926634992332820282019728792003956564819968
   ·have n2:ng (X+X)=false:=zsn (by omega) hov
    have szd:sz (X+X)=X+X:=zg3 (by omega) hov
    by_cases hle2:X+X≤a
    ·have hcmp:¬0<zcs (sz (X+X)) (sz a):=by rw [szd,sza];unfold zcs;split<;>(try split)<;>omega
     unfold zqs zqr
     repeat' (first|refine gwA ?_|(refine gwX ?_;intro Q hQ hP;simp [hC,hY,wb,bi,fit,rd,i0,i1,n1,n2,hcmp];refine gwq hQ ?_;clear hQ hP Q)|(refine gwC ?_ ?_<;>(intro hb;try (cases hb;done))))
     refine jdt 3 rfl [] rfl (by kernel_rfl) ?_
     intro q hq
     simp [hC,hY]
     refine zv8 (c:=lc b (i+1)++rest) (c2:=wl (X+X)) (k:=240) (j:=480) (m:=1) (m':=1) (sl:=i+1) (cap:=cap) (e:=86) (T2:=.ty 86) (sz:=4) (by':=32) (z:=.agg #[.int .u64 0,.int .u64 0,.int .u64 0,.int .u64 0]) rfl (by simp) (by simp) (by simp) (by kernel_rfl) (by simp) (by omega) (by simp) ?_ (by simp) (by simp [wl]) ?_ ?_ ?_ ?_ ?_ ?_ ?_ ?_ ?_ ?_
     ·exact fun x hx=>(List.mem_append.1 hx).elim (zp6 b _ x) (hrf x)
     ·simp [wl]
     ·simp [wl,Value.oneCell']
     ·exact fun q x hx=>zwp (zl3 hx)
     ·simp
     ·rw [hlen];omega
     ·exact hcap
     ·unfold maxLen;omega
     ·omega
     ·intro hr
      rw [z86 i rest hd]
      simp [jim,zb6]
      refine hq _ _ _ _ ?_
      simp only [zfh,zdm]
      refine ⟨_,_,m - 1,zo8 (fun k=>k) _ 256 hC G0F (m0:=[]) hC0 (by omega) ?_ ?_ ?_ ?_ ?_,⟨i+1,cap,rest.drop 4,by omega,rfl,⟨by omega,hr,?_,fun x hx=>hrf x (List.mem_of_mem_drop hx)⟩,fun _=>by rw [hd];exact hle2⟩,by omega⟩
      ·simp [dom,zcj,ren,zax,zak,zao]
      ·simp [jic,z50 (fun x hx=>hrf x (List.mem_of_mem_drop hx):∀ x∈rest.drop 4,zbd x=true),zg9 (fun x hx=>hrf x (List.mem_of_mem_drop hx):∀ x∈rest.drop 4,zbd x=true),wb]
      ·simp
      ·exact fun k _=>rfl
      ·simp
      ·simp at hlen ⊢;omega
     ·intro hr cap' hc'
      rw [z85 i rest _ hd]
      have hzl:(Builtin.zeroCells (Value.agg #[.int .u64 0,.int .u64 0,.int .u64 0,.int .u64 0]).cells (cap' - (i+1+1))).toList.length=(cap' - (i+1+1))*4:=by simp [zrc,Value.cells]
      have hzf:∀ x∈(Builtin.zeroCells (Value.agg #[.int .u64 0,.int .u64 0,.int .u64 0,.int .u64 0]).cells (cap' - (i+1+1))).toList,zbd x=true:=fun x hx=>zwp (zl3 (by simpa using hx))
      generalize (Builtin.zeroCells (Value.agg #[.int .u64 0,.int .u64 0,.int .u64 0,.int .u64 0]).cells (cap' - (i+1+1))).toList=tl at *
      simp [jim,zb6]
      refine hq _ _ _ _ ?_
      simp only [zfh,zdm]
      refine ⟨_,_,m - 1,zo8 (fun k=>if k=240 then 488 else k) _ 256 hC G0F (m0:=[]) hC0 (by omega) ?_ ?_ ?_ ?_ ?_,⟨i+1,cap',tl,by omega,rfl,⟨by omega,hc',?_,hzf⟩,fun _=>by rw [hd];exact hle2⟩,by omega⟩
      ·simp [dom,zcj,ren,zax,zak,zao]
      ·simp [jic,z50 hzf,zg9 hzf,wb]
      ·simp
      ·intro k hk;simp;omega
      ·simp
      ·simp [hzl];omega
    ·have hcmp:0<zcs (sz (X+X)) (sz a):=by rw [szd,sza];unfold zcs;split<;>(try split)<;>omega
     unfold zqs zqr
     repeat' (first|refine gwA ?_|(refine gwX ?_;intro Q hQ hP;simp [hC,hY,wb,bi,fit,rd,i0,i1,n1,n2,hcmp];refine gwq hQ ?_;clear hQ hP Q)|(refine gwC ?_ ?_<;>(intro hb;try (cases hb;done))))
     rw [if_neg (by decide),if_pos trivial,zi2]
     refine ⟨i,cap,rest,?_,⟨hi255,hcap,hlen,hrf⟩,by rw [hX];exact hle,by rw [hd];omega⟩
     refine zbb _ 256 hC G0F (m0:=[]) hC0 (by omega) ?_ ?_ ?_
     ·simp [dom]
     ·simp [wb,zg9 hrf]
     ·simp
   ·have n2:ng (X+X)=true:=z2z (by omega) (by omega)
    unfold zqs zqr
    repeat' (first|refine gwA ?_|(refine gwX ?_;intro Q hQ hP;simp [hC,hY,bi,fit,rd,i0,i1,n1,n2];refine gwq hQ ?_;clear hQ hP Q)|(refine gwC ?_ ?_<;>(intro hb;try (cases hb;done))))
    rw [if_neg (by decide),if_pos trivial,zi2]
    refine ⟨i,cap,rest,?_,⟨hi255,hcap,hlen,hrf⟩,by rw [hX];exact hle,by rw [hd];omega⟩
    refine zbb _ 256 hC G0F (m0:=[]) hC0 (by omega) ?_ ?_ ?_
    ·simp [dom]
    ·simp [wb,zg9 hrf]
    ·simp
 ·rintro s' ⟨i,cap,rest,hw,⟨hi255,hcap,hlen,hrf⟩,hle,hlt⟩
  refine zvt hw ?_
  clear hw
  have bi:Int.bmod (i:Int) 18446744073709551616=i:=bm (by omega) (by omega)
  have hau:=ha.2
  have hbu:=hb.2
  have sza:sz a=a:=zb7 ha
  have hlt0:=Int.emod_eq_of_lt h0 hlt
  have hlt1:=Int.ediv_eq_zero_of_lt h0 hlt
  unfold zqs zqr
  repeat' (first|refine gwA ?_|(refine gwX ?_;intro Q hQ hP;simp [hC,hY,wb,bi];refine gwq hQ ?_;clear hQ hP Q)|(refine gwC ?_ ?_<;>(intro hb;try (cases hb;done))))
  refine zb8 (i+1) (z92 a b i cap rest) ?_ ?_ ?_
  ·refine zbb _ 400 hC G0F (m0:=[]) hC0 (by omega) ?_ ?_ ?_
   ·simp [dom]
   ·simp [wb,zg9 hrf,hlt0,hlt1,zde]
   ·simp
  ·intro j hj
   obtain ⟨n,hn⟩:∃ n:Nat,n+j=i:=⟨i - j,by omega⟩
   have e1:i+1 - j=n+1:=by omega
   have e2:i+1 - (j+1)=n:=by omega
   have e3:(i:Int) - (j:Int)=n:=by omega
   have e4:Int.bmod ((n:Int) - 1) 18446744073709551616=(i:Int) - ((j+1:Nat):Int):=by rw [bm (by omega) (by omega)];omega
   have hX0:0<b*2^n:=Int.mul_pos hb0 (zbe n)
   have hX1:b*2^n<57896044618658097711785492504343953926634992332820282019728792003956564819968:=by
    by_cases hi0:i=0
    ·obtain rfl:n=0:=by omega
     simpa using hbu
    ·have h2:(2:Int)^n≤2^i:=by exact_mod_cast Nat.pow_le_pow_right (by omega) (by omega:n≤i)
     exact Int.lt_of_le_of_lt (Int.le_trans (Int.mul_le_mul_of_nonneg_left h2 (Int.le_of_lt hb0)) (hle (by omega))) hau
   have fit:n*4+4≤4*(i+1)+rest.length:=by omega
   have rd:List.take 4 (List.drop (n*4) (lc b (i+1)++rest))=[.int .u64 (wi (b*2^n) 0),.int .u64 (wi (b*2^n) 1),.int .u64 (wi (b*2^n) 2),.int .u64 (wi (b*2^n) 3)]:=by
    rw [Nat.mul_comm];exact zp7 b (i+1) n rest (by omega)
   have i0:(0:Int)≤n:=by omega
   have i1:(n:Int)<i+1:=by omega
   have hm0:=Int.emod_nonneg a (show b*2^(n+1)≠0 by have:=Int.mul_pos hb0 (zbe (n+1));omega)
   have hm1:a%(b*2^(n+1))≤a:=z73 h0 (Int.mul_pos hb0 (zbe (n+1)))
   have hh:=jl6 (a:=a) hb0 n
   unfold z92
   rw [e1,e2,e3]
   have szX:sz (b*2^n)=b*2^n:=zg3 (Int.le_of_lt hX0) hX1
   have szR:sz (a%(b*2^(n+1)))=a%(b*2^(n+1)):=zg3 hm0 (Int.lt_of_le_of_lt hm1 hau)
   rcases hh with ⟨g1,g2,g3⟩|⟨g1,g2,g3⟩
   ·rw [g2,g3,Int.two_mul]
    have hcmp:¬zcs (sz (b*2^n)) (sz (a%(b*2^(n+1))))≤0:=by rw [szX,szR];unfold zcs;split<;>(try split)<;>omega
    clear g1 g2 g3 hm0 hm1 szX szR hlt0 hlt1
    generalize a%(b*2^(n+1))=R at *
    generalize a / (b*2^(n+1))=q at *
    generalize b*2^n=X at *
    repeat' (first|refine gwA ?_|(refine gwX ?_;intro Q hQ hP;simp [hC,hY,wb,bi,fit,rd,i0,i1,hcmp,e4];refine gwq hQ ?_;clear hQ hP Q)|(refine gwC ?_ ?_<;>(intro hb;try (cases hb;done))))
    refine zbb _ 400 hC G0F (m0:=[]) hC0 (by omega) ?_ ?_ ?_
    ·simp [dom]
    ·simp [wb,zg9 hrf]
    ·simp
   ·rw [g2,g3,Int.two_mul]
    have hcmp:zcs (sz (b*2^n)) (sz (a%(b*2^(n+1))))≤0:=by rw [szX,szR];unfold zcs;split<;>(try split)<;>omega
    clear g1 g2 g3 hm0 hm1 szX szR hlt0 hlt1
    generalize a%(b*2^(n+1))=R at *
    generalize a / (b*2^(n+1))=q at *
    generalize b*2^n=X at *
    repeat' (first|refine gwA ?_|(refine gwX ?_;intro Q hQ hP;simp [hC,hY,wb,bi,fit,rd,i0,i1,hcmp,e4];refine gwq hQ ?_;clear hQ hP Q)|(refine gwC ?_ ?_<;>(intro hb;try (cases hb;done))))
    refine zbb _ 400 hC G0F (m0:=[]) hC0 (by omega) ?_ ?_ ?_
    ·simp [dom]
    ·simp [wb,zg9 hrf]
    ·simp
  ·have e1:i+1 - (i+1)=0:=by omega
   have e3:¬(0:Int)≤(i:Int) - ((i+1:Nat):Int):=by omega
   unfold z92
   rw [e1,Int.pow_zero,Int.mul_one]
   generalize (i:Int) - ((i+1:Nat):Int)=z at *
   repeat' (first|refine gwA ?_|(refine gwX ?_;intro Q hQ hP;simp [hC,hY,wb,e3];refine gwq hQ ?_;clear hQ hP Q)|(refine gwC ?_ ?_<;>(intro hb;try (cases hb;done))))
   refine ⟨.inr trivial,?_⟩
   simp [results140]
@[simp] theorem jnj (a b:Int) (ha:wr a) (h0:0≤a) (hB:wr b) (hb0:0<b) (K:Value→Prop):za0 prog G0 140 #[Value.agg #[.int .u64 (wi (a) 0),.int .u64 (wi (a) 1),.int .u64 (wi (a) 2),.int .u64 (wi (a) 3)],Value.agg #[.int .u64 (wi (b) 0),.int .u64 (wi (b) 1),.int .u64 (wi (b) 2),.int .u64 (wi (b) 3)]] K↔K (.tuple #[wd (a / b),wd (a%b)]):=zad G0W (by kernel_rfl) (z94 a b ha h0 hB hb0)
theorem zv6 (a b:Int) (ha:wr a) (h0:0≤a) (hB:wr b) (hb0:0<b):Ret prog G0 130 #[wd a,wd b] (.tuple #[wd (a / b),wd (a%b)]):=by
 refine zar G0F func130 rfl call130 (by simp) (by simp) (by simp [ntmps130]) ?_
 intro C hC hC0 hY
 have s1:0≤zcs (sz a) 0:=by rw [zb7 ha];unfold zcs;split<;>(try split)<;>omega
 repeat' (first|refine gwA ?_|(refine gwX ?_;intro Q hQ hP;simp [hC,hY,s1,ha,h0,hB,hb0];refine gwq hQ ?_;clear hQ hP Q)|(refine gwC ?_ ?_<;>(intro hb;try (cases hb;done))))
 refine ⟨.inr trivial,?_⟩
 simp [results130]
@[simp] theorem jng (a b:Int) (ha:wr a) (h0:0≤a) (hB:wr b) (hb0:0<b) (K:Value→Prop):za0 prog G0 130 #[Value.agg #[.int .u64 (wi (a) 0),.int .u64 (wi (a) 1),.int .u64 (wi (a) 2),.int .u64 (wi (a) 3)],Value.agg #[.int .u64 (wi (b) 0),.int .u64 (wi (b) 1),.int .u64 (wi (b) 2),.int .u64 (wi (b) 3)]] K↔K (.tuple #[wd (a / b),wd (a%b)]):=zad G0W (by kernel_rfl) (zv6 a b ha h0 hB hb0)
theorem zma {p q r s:Bool} (h:(!p||(!q||(!r||!s)))=true):(p&&(q&&(r&&s)))=false:=by cases p<;>cases q<;>cases r<;>cases s<;>simp_all
theorem ztz (a b:Int) (ha:wr a) (h0:0≤a) (hB:wr b) (hb0:0<b):Ret prog G0 112 #[wd a,wd b] (.tuple #[wd (a / b),wd (a%b),.int .i64 0]):=by
 refine zar G0F func112 rfl call112 (by simp) (by simp) (by simp [ntmps112]) ?_
 intro C hC hC0 hY
 have s1:0<zcs (sz b) 0:=by rw [zb7 hB];unfold zcs;split<;>(try split)<;>omega
 have z1:=zma (zzx hB (by omega))
 have l1:=zma <| zgk a ha (fun e=>by rw [e] at h0;exact absurd h0 (by decide))
 have l2:=zma <| zgk b hB (fun e=>by rw [e] at hb0;exact absurd hb0 (by decide))
 repeat' (first|refine gwA ?_|(refine gwX ?_;intro Q hQ hP;simp [hC,hY,s1,ha,h0,hB,hb0,z1,l1,l2];refine gwq hQ ?_;clear hQ hP Q)|(refine gwC ?_ ?_<;>(intro hb;try (cases hb;done))))
 refine ⟨.inr trivial,?_⟩
 simp [results112]
@[simp] theorem jnh (a b:Int) (ha:wr a) (h0:0≤a) (hB:wr b) (hb0:0<b) (K:Value→Prop):za0 prog G0 112 #[Value.agg #[.int .u64 (wi (a) 0),.int .u64 (wi (a) 1),.int .u64 (wi (a) 2),.int .u64 (wi (a) 3)],Value.agg #[.int .u64 (wi (b) 0),.int .u64 (wi (b) 1),.int .u64 (wi (b) 2),.int .u64 (wi (b) 3)]] K↔K (.tuple #[wd (a / b),wd (a%b),.int .i64 0]):=zad G0W (by kernel_rfl) (ztz a b ha h0 hB hb0)
theorem zte (a b:Int) (ha:wr a) (h0:0≤a) (hB:wr b) (hb0:0<b):Ret prog G0 84 #[wd a,wd b] (.tuple #[wd (a / b),.int .i64 0]):=by
 refine zar G0F func84 rfl call84 (by simp) (by simp) (by simp [ntmps84]) ?_
 intro C hC hC0 hY
 repeat' (first|refine gwA ?_|(refine gwX ?_;intro Q hQ hP;simp [hC,hY,ha,h0,hB,hb0];refine gwq hQ ?_;clear hQ hP Q)|(refine gwC ?_ ?_<;>(intro hb;try (cases hb;done))))
 refine ⟨.inr trivial,?_⟩
 simp [results84]
@[simp] theorem jnf (a b:Int) (ha:wr a) (h0:0≤a) (hB:wr b) (hb0:0<b) (K:Value→Prop):za0 prog G0 84 #[Value.agg #[.int .u64 (wi (a) 0),.int .u64 (wi (a) 1),.int .u64 (wi (a) 2),.int .u64 (wi (a) 3)],Value.agg #[.int .u64 (wi (b) 0),.int .u64 (wi (b) 1),.int .u64 (wi (b) 2),.int .u64 (wi (b) 3)]] K↔K (.tuple #[wd (a / b),.int .i64 0]):=zad G0W (by kernel_rfl) (zte a b ha h0 hB hb0)
end Go.Gy
namespace Go.Gy
set_option linter.unusedSimpArgs false
set_option linter.unusedVariables false
open Go Go.RowKit Go.Proofs
def jgw (n d:Int):Bool:=decide (-2097152≤n∧n≤2097152∧1≤d∧d≤2097152)
def d1E (v n d:Int):Int:=if jgw n d=true∧-1073741824≤v∧v≤1073741824 then 0 else 2
def d1V (v n d:Int):Int:=if jgw n d=true∧-1073741824≤v∧v≤1073741824 then jmx (v*n) d else 0
end Go.Gy
namespace Go.Gy
set_option linter.unusedSimpArgs false
set_option linter.unusedVariables false
open Go Go.RowKit Go.Proofs Go.Proofs.Tryz
def wyE (v0 v1 v2 n d:Int):Int:=if d1E v0 n d=0 then (if d1E v1 n d=0 then d1E v2 n d else d1E v1 n d) else d1E v0 n d
structure SB (b:Blk) (off n:Nat) (f:Nat→Int):Prop where
 rd:rdI b off (6*n) f
 fx:b.fx
 i6:∀ j,j<6*n→i64 (f j)
 nn:n≤2932031007402
def inB (bx tp:Int) (f:Nat→Int) (i:Nat):Bool:=inV bx (f (6*i)) (f (6*i+1)) (f (6*i+2))&&inV tp (f (6*i+3)) (f (6*i+4)) (f (6*i+5))
theorem SB.body {b:Blk} {off n:Nat} {f:Nat→Int} (h:SB b off n f) {i:Nat} (hi:i<n):zdk prog 45 b (off+i*6)=some (.agg #[.int .i64 (f (6*i)),.int .i64 (f (6*i+1)),.int .i64 (f (6*i+2)),.int .i64 (f (6*i+3)),.int .i64 (f (6*i+4)),.int .i64 (f (6*i+5))]):=by
 have hbrd:=Blk.fx_rd h.fx
 have:=zji (P:=prog) (T:=45) (m:=6) (j:=6*i) (zbl isAgg45) (zal sizeOf45) (by omega) h.rd (by omega)
 rw [show off+i*6=off+6*i by omega,this,jqx]
 rfl
theorem SB.i {b:Blk} {off n:Nat} {f:Nat→Int} (h:SB b off n f) {i:Nat} (hi:i<n) (q:Nat) (hq:q<6):i64 (f (6*i+q)):=h.i6 _ (by omega)
theorem zq9 (bx tp x0 x1 x2 v0 v1 v2:Int) (hbx:i64 bx) (htp:i64 tp) (h0:i64 x0) (h1:i64 x1) (h2:i64 x2) (h3:i64 v0) (h4:i64 v1) (h5:i64 v2) :
  Fun prog G0 76 #[.agg #[.int .i64 x0,.int .i64 x1,.int .i64 x2,.int .i64 v0,.int .i64 v1,.int .i64 v2],.pointer (some ⟨100,0,none⟩),.pointer (some ⟨108,0,none⟩)] (hpL G0 [(100,jb bx),(108,jb tp)]) (zab [(100,jb bx),(108,jb tp)]) (.ret (.bool !(inV bx x0 x1 x2&&inV tp v0 v1 v2)) []):=by
 refine zbn (B:=200) G0F func76 rfl call76 ⟨by simp,by simp [zab],by simp [jb,zae,zai,zaj]⟩ ?_ (by simp) (by simp) (by simp) (by simp [ntmps76]) (by omega) ?_
 ·simp [zan,zay,zai,zaj,zab]
 intro C hC hC0 hY
 cases c0:inV bx x0 x1 x2 with
 | true =>
  cases c1:inV tp v0 v1 v2 with
  | true =>
   repeat' (first|refine gwA ?_|(refine gwX ?_;intro Q hQ hP;simp [hC,hY,jb,hbx,htp,h0,h1,h2,h3,h4,h5,c0,c1];refine gwq hQ ?_;clear hQ hP Q)|(refine gwC ?_ ?_<;>(intro hb;try (cases hb;done))))
   refine ⟨.inr rfl,by simp [results76],zc5 G0F (by simp [jb]) (by (intro k hk;first|rfl|(simp (disch:=omega) only [zcz,List.mem_cons,List.not_mem_nil,or_false,zaa,zam,za6,if_neg,zbh]<;>done)))⟩
  | false =>
   repeat' (first|refine gwA ?_|(refine gwX ?_;intro Q hQ hP;simp [hC,hY,jb,hbx,htp,h0,h1,h2,h3,h4,h5,c0,c1];refine gwq hQ ?_;clear hQ hP Q)|(refine gwC ?_ ?_<;>(intro hb;try (cases hb;done))))
   refine ⟨.inr rfl,by simp [results76],zc5 G0F (by simp [jb]) (by (intro k hk;first|rfl|(simp (disch:=omega) only [zcz,List.mem_cons,List.not_mem_nil,or_false,zaa,zam,za6,if_neg,zbh]<;>done)))⟩
 | false =>
  repeat' (first|refine gwA ?_|(refine gwX ?_;intro Q hQ hP;simp [hC,hY,jb,hbx,htp,h0,h1,h2,h3,h4,h5,c0];refine gwq hQ ?_;clear hQ hP Q)|(refine gwC ?_ ?_<;>(intro hb;try (cases hb;done))))
  refine ⟨.inr rfl,by simp [results76],zc5 G0F (by simp [jb]) (by (intro k hk;first|rfl|(simp (disch:=omega) only [zcz,List.mem_cons,List.not_mem_nil,or_false,zaa,zam,za6,if_neg,zbh]<;>done)))⟩
theorem zby {m:Int} {ρ:Nat→Nat}:(jb m).rn ρ=jb m:=by simp [jb,Blk.rn,zak,zao]
def jjx (b:Blk) (off n cap:Nat) (bx tp:Int) (i:Nat):GS :=
 ⟨tsL [(0,.slice (some ⟨100,off,none⟩) n cap),(1,.func (.func 76) #[] #[.pointer (some ⟨108,0,none⟩),.pointer (some ⟨116,0,none⟩)]),(7,.int .i64 n),(8,.int .i64 i)],
 hpL G0 [(100,b),(108,jb bx),(116,jb tp)],300,0⟩
def ixL (b:Blk) (bx tp:Int):List (Nat×Blk):=[(100,b),(108,jb bx),(116,jb tp)]
theorem zn8 {b:Blk} (hb:b.fx) (bx tp:Int):LOk (ixL b bx tp) 200:=⟨by simp [ixL],by simp [ixL,zab],by
 simp only [ixL,List.mem_cons,List.not_mem_nil,or_false,forall_eq_or_imp,forall_eq]
 exact ⟨Blk.fx_ids hb _,by simp [jb,zae,zai,zaj],by simp [jb,zae,zai,zaj]⟩⟩
theorem z5o (b:Blk) (off n cap:Nat) (f:Nat→Int) (h:SB b off n f) (bx tp:Int) (hbx:i64 bx) (htp:i64 tp) (N:Nat) (hN:N≤n) (hlt:∀ i,i<N→inB bx tp f i=true) (hend:N=n∨inB bx tp f N=false) :
  Fun prog G0 95 #[.slice (some ⟨100,off,none⟩) n cap,.func (.func 76) #[] #[.pointer (some ⟨108,0,none⟩),.pointer (some ⟨116,0,none⟩)]] (hpL G0 (ixL b bx tp)) (zab (ixL b bx tp)) (.ret (.int .i64 (if N=n then -1 else N)) []):=by
 refine zbn (B:=200) G0F func95 rfl call95 (zn8 h.fx bx tp) ?_ (by simp) (by simp) (by simp) (by simp [ntmps95]) (by omega) ?_
 ·simp [zan,zay,zai,zaj,zab,ixL]
 intro C hC hC0 hY
 have hnn:=h.nn
 unfold ixL
 repeat' (first|refine gwA ?_|(refine gwX ?_;intro Q hQ hP;simp [hC,hY];refine gwq hQ ?_;clear hQ hP Q)|(refine gwC ?_ ?_<;>(intro hb;try (cases hb;done))))
 refine zb8 N (jjx b off n cap bx tp) ?_ ?_ ?_
 ·refine zbb _ 300 hC G0F (m0:=[(100,b),(108,jb bx),(116,jb tp)]) hC0 (by omega) ?_ ?_ ?_
  ·simp [zan,zay,zai,zaj,dom]
  ·have hi:=fun D=>Blk.fx_ids h.fx D
   simp [zae,zai,zaj,jb,hi]
  ·simp
 ·intro i hi
  have hin:i<n:=by omega
  have hi':(i:Int)<n:=by omega
  have hz:(0:Int)≤i:=by omega
  have hs:Int.bmod ((i:Int)+1) 18446744073709551616=((i+1:Nat):Int):=by rw [bm (by omega) (by omega)];rfl
  have hld:=h.body hin
  have hq:=hlt i hi
  unfold inB at hq
  rw [Bool.and_eq_true] at hq
  obtain ⟨q1,q2⟩:=hq
  unfold jjx
  repeat' (first|refine gwA ?_|((first|refine gwR [76] ?_|refine gwD [76] ?_);intro Q hQ hP;(repeat first|simp [hC,hY,hi,hi',hz,hs,hld,q1,q2,jb]|refine zah (zq9 bx tp _ _ _ _ _ _ hbx htp (h.i hin 0 (by omega)) (h.i hin 1 (by omega)) (h.i hin 2 (by omega)) (h.i hin 3 (by omega)) (h.i hin 4 (by omega)) (h.i hin 5 (by omega))) G0F (B:=200) ⟨by simp,by simp [zab],by simp [jb,zae,zai,zaj]⟩ (fun k=>if k=100 then 108 else if k=108 then 116 else k) (fun k hk=>(if_neg (by omega)).trans (if_neg (by omega))) (by simp [ren,zax,zak,zao]) (by simp) (by simp [jb,Blk.rn,zak,zao]) (by simp [zab]) (by simp [zab];rfl) ?_);refine gwq hQ ?_;clear hQ hP Q)|(refine gwC ?_ ?_<;>(intro hb;try (cases hb;done))))
  refine zbb _ 300 hC G0F (m0:=[(100,b),(108,jb bx),(116,jb tp)]) hC0 (by omega) ?_ ?_ ?_
  ·simp [zan,zay,zai,zaj,dom,hs]
  ·have hi:=fun D=>Blk.fx_ids h.fx D
   simp [zae,zai,zaj,jb,hi]
  ·simp [jb]
 ·by_cases hNn:N=n
  ·subst hNn
   simp only [if_true]
   unfold jjx
   repeat' (first|refine gwA ?_|(refine gwX ?_;intro Q hQ hP;simp [hC,hY];refine gwq hQ ?_;clear hQ hP Q)|(refine gwC ?_ ?_<;>(intro hb;try (cases hb;done))))
   refine ⟨.inr rfl,by simp [results95],kpS G0F⟩
  ·have hin:N<n:=by omega
   have hi':(N:Int)<n:=by omega
   have hz:(0:Int)≤N:=by omega
   have hld:=h.body hin
   have hq:=hend.resolve_left hNn
   unfold inB at hq
   rw [if_neg hNn]
   unfold jjx
   cases q1:inV bx (f (6*N)) (f (6*N+1)) (f (6*N+2)) with
   | false =>
    repeat' (first|refine gwA ?_|((first|refine gwR [76] ?_|refine gwD [76] ?_);intro Q hQ hP;(repeat first|simp [hC,hY,hin,hi',hz,hld,q1,jb]|refine zah (zq9 bx tp _ _ _ _ _ _ hbx htp (h.i hin 0 (by omega)) (h.i hin 1 (by omega)) (h.i hin 2 (by omega)) (h.i hin 3 (by omega)) (h.i hin 4 (by omega)) (h.i hin 5 (by omega))) G0F (B:=200) ⟨by simp,by simp [zab],by simp [jb,zae,zai,zaj]⟩ (fun k=>if k=100 then 108 else if k=108 then 116 else k) (fun k hk=>(if_neg (by omega)).trans (if_neg (by omega))) (by simp [ren,zax,zak,zao]) (by simp) (by simp [jb,Blk.rn,zak,zao]) (by simp [zab]) (by simp [zab];rfl) ?_);refine gwq hQ ?_;clear hQ hP Q)|(refine gwC ?_ ?_<;>(intro hb;try (cases hb;done))))
    refine ⟨.inr rfl,by simp [results95],zc5 G0F (by simp [jb]) (by (intro k hk;first|rfl|(simp (disch:=omega) only [zcz,List.mem_cons,List.not_mem_nil,or_false,zaa,zam,za6,if_neg,zbh]<;>done)))⟩
   | true =>
    have q2:inV tp (f (6*N+3)) (f (6*N+4)) (f (6*N+5))=false:=by rw [q1] at hq;simpa using hq
    repeat' (first|refine gwA ?_|((first|refine gwR [76] ?_|refine gwD [76] ?_);intro Q hQ hP;(repeat first|simp [hC,hY,hin,hi',hz,hld,q1,q2,jb]|refine zah (zq9 bx tp _ _ _ _ _ _ hbx htp (h.i hin 0 (by omega)) (h.i hin 1 (by omega)) (h.i hin 2 (by omega)) (h.i hin 3 (by omega)) (h.i hin 4 (by omega)) (h.i hin 5 (by omega))) G0F (B:=200) ⟨by simp,by simp [zab],by simp [jb,zae,zai,zaj]⟩ (fun k=>if k=100 then 108 else if k=108 then 116 else k) (fun k hk=>(if_neg (by omega)).trans (if_neg (by omega))) (by simp [ren,zax,zak,zao]) (by simp) (by simp [jb,Blk.rn,zak,zao]) (by simp [zab]) (by simp [zab];rfl) ?_);refine gwq hQ ?_;clear hQ hP Q)|(refine gwC ?_ ?_<;>(intro hb;try (cases hb;done))))
    refine ⟨.inr rfl,by simp [results95],zc5 G0F (by simp [jb]) (by (intro k hk;first|rfl|(simp (disch:=omega) only [zcz,List.mem_cons,List.not_mem_nil,or_false,zaa,zam,za6,if_neg,zbh]<;>done)))⟩
def z01 (bx tp:Int) (f:Nat→Int) (n:Nat):Bool:=(List.range n).all (inB bx tp f)
theorem zl8 {bx tp:Int} {f:Nat→Int} {n:Nat}:z01 bx tp f n=true↔∀ i,i<n→inB bx tp f i=true:=by simp [z01]
theorem znk {bx tp:Int} {f:Nat→Int} {n N:Nat} (hN:N≤n) (hlt:∀ i,i<N→inB bx tp f i=true) (hend:N=n∨inB bx tp f N=false):z01 bx tp f n=decide (N=n):=by
 by_cases h:N=n
 ·subst h;rw [decide_eq_true rfl];exact zl8.2 hlt
 ·rw [decide_eq_false h]
  cases hb:z01 bx tp f n with
  | false=>rfl
  | true=>have:=zl8.1 hb N (by omega);rw [hend.resolve_left h] at this;cases this
theorem z2g (p:Nat→Bool) (m:Nat):∃ N,N≤m∧(∀ i,i<N→p i=true)∧(N=m∨p N=false):=by
 obtain ⟨N,h1,h2,h3⟩:=jmq (fun i=>p i=true) m
 exact ⟨N,h1,h2,h3.imp id (fun h=>by simpa using h)⟩
theorem jea (b:Blk) (off n cap:Nat) (f:Nat→Int) (h:SB b off n f) (bx tp:Int) (hbx:i64 bx) (htp:i64 tp) :
  Fun prog G0 75 #[.slice (some ⟨100,off,none⟩) n cap,.func (.func 76) #[] #[.pointer (some ⟨108,0,none⟩),.pointer (some ⟨116,0,none⟩)]] (hpL G0 (ixL b bx tp)) (zab (ixL b bx tp)) (.ret (.bool !(z01 bx tp f n)) []):=by
 refine zbn (B:=200) G0F func75 rfl call75 (zn8 h.fx bx tp) ?_ (by simp) (by simp) (by simp) (by simp [ntmps75]) (by omega) ?_
 ·simp [zan,zay,zai,zaj,zab,ixL]
 intro C hC hC0 hY
 obtain ⟨N,hN,hlt,hend⟩:=z2g (inB bx tp f) n
 rw [znk hN hlt hend]
 have hr:=fun ρ=>Blk.fx_rn h.fx ρ
 unfold ixL
 by_cases hNn:N=n
 ·have hNn':(decide (N=n))=true:=decide_eq_true hNn
  rw [hNn']
  repeat' (first|refine gwA ?_|((first|refine gwR [95] ?_|refine gwD [95] ?_);intro Q hQ hP;(repeat first|simp [hC,hY,hNn]|refine zah (z5o b off n cap f h bx tp hbx htp N hN hlt hend) G0F (B:=200) (zn8 h.fx bx tp) (fun k=>k) (fun k hk=>rfl) (by simp [ren,zax,zak,zao]) (by simp) (by simp [ixL,jb,Blk.rn_id]) (by simp [zab]) (by simp [zab,ixL];rfl) ?_);refine gwq hQ ?_;clear hQ hP Q)|(refine gwC ?_ ?_<;>(intro hb;try (cases hb;done))))
  refine ⟨.inr rfl,by simp [results75],zc5 G0F (by simp [jb]) (by (intro k hk;first|rfl|(simp (disch:=omega) only [zcz,List.mem_cons,List.not_mem_nil,or_false,zaa,zam,za6,if_neg,zbh]<;>done)))⟩
 ·have hNn':(decide (N=n))=false:=decide_eq_false hNn
  have hz:(0:Int)≤N:=by omega
  rw [hNn']
  repeat' (first|refine gwA ?_|((first|refine gwR [95] ?_|refine gwD [95] ?_);intro Q hQ hP;(repeat first|simp [hC,hY,hNn,hz]|refine zah (z5o b off n cap f h bx tp hbx htp N hN hlt hend) G0F (B:=200) (zn8 h.fx bx tp) (fun k=>k) (fun k hk=>rfl) (by simp [ren,zax,zak,zao]) (by simp) (by simp [ixL,jb,Blk.rn_id]) (by simp [zab]) (by simp [zab,ixL];rfl) ?_);refine gwq hQ ?_;clear hQ hP Q)|(refine gwC ?_ ?_<;>(intro hb;try (cases hb;done))))
  refine ⟨.inr rfl,by simp [results75],zc5 G0F (by simp [jb]) (by (intro k hk;first|rfl|(simp (disch:=omega) only [zcz,List.mem_cons,List.not_mem_nil,or_false,zaa,zam,za6,if_neg,zbh]<;>done)))⟩
theorem zap {b:Blk} (hb:b.fx):LOk [(100,b)] 200:=⟨by simp,by simp [zab],by
 simp only [List.mem_singleton,forall_eq]
 exact Blk.fx_ids hb _⟩
theorem jau (b:Blk) (off n cap:Nat) (f:Nat→Int) (h:SB b off n f) (st bx tp:Int) (hbx:i64 bx) (htp:i64 tp) :
  Fun prog G0 52 #[.agg #[.int .i64 st,.slice (some ⟨100,off,none⟩) n cap],.int .i64 bx,.int .i64 tp] (hpL G0 [(100,b)]) (zab [(100,b)]) (.ret (.bool (z01 bx tp f n)) []):=by
 refine zbn (B:=200) G0F func52 rfl call52 (zap h.fx) ?_ (by simp) (by simp) (by simp) (by simp [ntmps52]) (by omega) ?_
 ·simp [zan,zay,zai,zaj,zab]
 intro C hC hC0 hY
 have hr:=fun ρ=>Blk.fx_rn h.fx ρ
 repeat' (first|refine gwA ?_|((first|refine gwR [75] ?_|refine gwD [75] ?_);intro Q hQ hP;(repeat first|simp [hC,hY]|refine zah (jea b off n cap f h bx tp hbx htp) G0F (B:=200) (zn8 h.fx bx tp) (fun k=>if k=108 then 208 else if k=116 then 216 else k) (fun k hk=>(if_neg (by omega)).trans (if_neg (by omega))) (by simp [ren,zax,zak,zao]) (by simp) (by simp [ixL,hr,zby];simp [jb]) (by simp [zab,ixL]) (by simp [zab,ixL];rfl) ?_);refine gwq hQ ?_;clear hQ hP Q)|(refine gwC ?_ ?_<;>(intro hb;try (cases hb;done))))
 refine ⟨.inr rfl,by simp [results52],zc5 G0F (by simp [jb]) (by (intro k hk;first|rfl|(simp (disch:=omega) only [zcz,List.mem_cons,List.not_mem_nil,or_false,zaa,zam,za6,if_neg,zbh]<;>done)))⟩
def stB (st:Int):Bool:=decide (-1073741824≤st∧st≤1073741824)
theorem jas (st:Int) (hs:i64 st):stB st=(decide ((if st<Int.bmod (-st) 18446744073709551616 then Int.bmod (-st) 18446744073709551616 else st)≤1073741824)&&decide (-1073741824≤st)):=by
 have h1:=hs.1
 have h2:=hs.2
 unfold stB
 rw [Bool.eq_iff_iff]
 simp only [Bool.and_eq_true,decide_eq_true_eq]
 rw [Int.bmod_def]
 split<;>split<;>omega
def za7 (st:Int) (f:Nat→Int) (n:Nat):Bool:=stB st&&decide (1≤n∧n≤4)&&z01 1048576 65536 f n
theorem z8f:i64 1048576:=by unfold i64;omega
theorem z8g:i64 65536:=by unfold i64;omega
theorem zyy (b:Blk) (off n cap:Nat) (f:Nat→Int) (h:SB b off n f) (st:Int) (hs:i64 st) :
  Fun prog G0 33 #[.agg #[.int .i64 st,.slice (some ⟨100,off,none⟩) n cap]] (hpL G0 [(100,b)]) (zab [(100,b)]) (.ret (.bool (za7 st f n)) []):=by
 refine zbn (B:=200) G0F func33 rfl call33 (zap h.fx) ?_ (by simp) (by simp) (by simp) (by simp [ntmps33]) (by omega) ?_
 ·simp [zan,zay,zai,zaj,zab]
 intro C hC hC0 hY
 have hr:=fun ρ=>Blk.fx_rn h.fx ρ
 obtain ⟨m,hm⟩:∃ m,(if st<Int.bmod (-st) 18446744073709551616 then Int.bmod (-st) 18446744073709551616 else st)=m:=⟨_,rfl⟩
 have key:=jas st hs
 rw [hm] at key
 unfold za7
 rw [key]
 by_cases c0:m≤1073741824
 ·by_cases c1:-1073741824≤st
  ·by_cases c2:0<n
   ·by_cases c3:n≤4
    ·have c4:(n:Int)≤4:=by omega
     have e:decide (1≤n∧n≤4)=true:=decide_eq_true (by omega)
     rw [decide_eq_true c0,decide_eq_true c1,e]
     repeat' (first|refine gwA ?_|((first|refine gwR [52] ?_|refine gwD [52] ?_);intro Q hQ hP;(repeat first|simp [hC,hY,hm,c0,c1,c2,c3,c4]|refine zah (jau b off n cap f h st 1048576 65536 z8f z8g) G0F (B:=200) (zap h.fx) (fun k=>k) (fun k hk=>rfl) (by simp [ren,zax,zak,zao]) (by simp) (by simp [hr]) (by simp [zab]) (by simp [zab];rfl) ?_);refine gwq hQ ?_;clear hQ hP Q)|(refine gwC ?_ ?_<;>(intro hb;try (cases hb;done))))
     refine ⟨.inr rfl,by simp [results33],kpS G0F⟩
    ·have c4:¬(n:Int)≤4:=by omega
     have e:decide (1≤n∧n≤4)=false:=decide_eq_false (by omega)
     rw [decide_eq_true c0,decide_eq_true c1,e]
     repeat' (first|refine gwA ?_|(refine gwX ?_;intro Q hQ hP;simp [hC,hY,hm,c0,c1,c2,c3,c4];refine gwq hQ ?_;clear hQ hP Q)|(refine gwC ?_ ?_<;>(intro hb;try (cases hb;done))))
     refine ⟨.inr rfl,by simp [results33],kpS G0F⟩
   ·have e:decide (1≤n∧n≤4)=false:=decide_eq_false (by omega)
    rw [decide_eq_true c0,decide_eq_true c1,e]
    repeat' (first|refine gwA ?_|(refine gwX ?_;intro Q hQ hP;simp [hC,hY,hm,c0,c1,c2];refine gwq hQ ?_;clear hQ hP Q)|(refine gwC ?_ ?_<;>(intro hb;try (cases hb;done))))
    refine ⟨.inr rfl,by simp [results33],kpS G0F⟩
  ·rw [decide_eq_true c0,decide_eq_false c1]
   repeat' (first|refine gwA ?_|(refine gwX ?_;intro Q hQ hP;simp [hC,hY,hm,c0,c1];refine gwq hQ ?_;clear hQ hP Q)|(refine gwC ?_ ?_<;>(intro hb;try (cases hb;done))))
   refine ⟨.inr rfl,by simp [results33],kpS G0F⟩
 ·rw [decide_eq_false c0]
  repeat' (first|refine gwA ?_|(refine gwX ?_;intro Q hQ hP;simp [hC,hY,hm,c0];refine gwq hQ ?_;clear hQ hP Q)|(refine gwC ?_ ?_<;>(intro hb;try (cases hb;done))))
  refine ⟨.inr rfl,by simp [results33],kpS G0F⟩
theorem SB.int {b:Blk} {off n:Nat} {f:Nat→Int} (h:SB b off n f) {i:Nat} (hi:i<n) {q:Nat} (hq:q<6):zdk prog 3 b (off+i*6+q)=some (.int .i64 (f (6*i+q))):=by
 have hbrd:=Blk.fx_rd h.fx
 have:=zj7 (P:=prog) (T:=3) (j:=6*i+q) (zbl isAgg3) h.rd (by omega)
 rw [show off+i*6+q=off+(6*i+q) by omega,this]
def z36 (b:Blk) (off n cap:Nat) (st:Int) (i:Nat):GS :=
 ⟨tsL [(1,.int .i64 1048576),(2,.int .i64 65536),(3,.pointer (some ⟨200,0,none⟩)),(7,.int .i64 i)],
 hpL G0 [(200,⟨#[.int .i64 st,.slice (some ⟨100,off,none⟩) n cap],.ty 27⟩),(100,b)],400,0⟩
theorem zn5 {f:Nat→Int} {i:Nat}:inB 1048576 65536 f i=true↔((-1048576≤f (6*i)∧f (6*i)≤1048576)∧(-1048576≤f (6*i+1)∧f (6*i+1)≤1048576)∧(-1048576≤f (6*i+2)∧f (6*i+2)≤1048576))∧(-65536≤f (6*i+3)∧f (6*i+3)≤65536)∧(-65536≤f (6*i+4)∧f (6*i+4)≤65536)∧(-65536≤f (6*i+5)∧f (6*i+5)≤65536):=by
 unfold inB inV inW
 simp only [Bool.and_eq_true,decide_eq_true_eq]
 omega
set_option maxHeartbeats 4000000 in
set_option maxRecDepth 20000 in
theorem ja3 (b:Blk) (off n cap:Nat) (f:Nat→Int) (h:SB b off n f) (st:Int) :
  Fun prog G0 53 #[.agg #[.int .i64 st,.slice (some ⟨100,off,none⟩) n cap],.int .i64 1048576,.int .i64 65536] (hpL G0 [(100,b)]) (zab [(100,b)]) (.ret (.bool (z01 1048576 65536 f n)) []):=by
 refine zbn (B:=200) G0F func53 rfl call53 (zap h.fx) ?_ (by simp) (by simp) (by simp) (by simp [ntmps53]) (by omega) ?_
 ·simp [zan,zay,zai,zaj,zab]
 intro C hC hC0 hY
 obtain ⟨N,hN,hlt,hend⟩:=z2g (inB 1048576 65536 f) n
 have hnn:=h.nn
 rw [znk hN hlt hend]
 repeat' (first|refine gwA ?_|(refine gwX ?_;intro Q hQ hP;simp [hC,hY];refine gwq hQ ?_;clear hQ hP Q)|(refine gwC ?_ ?_<;>(intro hb;try (cases hb;done))))
 refine zb8 N (z36 b off n cap st) ?_ ?_ ?_
 ·refine zbb _ 400 hC G0F (m0:=[(100,b)]) hC0 (by omega) ?_ ?_ ?_
  ·simp [zan,zay,zai,zaj,dom]
  ·have hi:=fun D=>Blk.fx_ids h.fx D
   simp [zae,zai,zaj,hi,dom]
  ·simp
 ·intro i hi
  have hin:i<n:=by omega
  have hi':(i:Int)<n:=by omega
  have hz:(0:Int)≤i:=by omega
  have hs:Int.bmod ((i:Int)+1) 18446744073709551616=((i+1:Nat):Int):=by rw [bm (by omega) (by omega)];rfl
  have l0:=h.int hin (q:=0) (by omega)
  have l1:=h.int hin (q:=1) (by omega)
  have l2:=h.int hin (q:=2) (by omega)
  have l3:=h.int hin (q:=3) (by omega)
  have l4:=h.int hin (q:=4) (by omega)
  have l5:=h.int hin (q:=5) (by omega)
  simp only [Nat.add_zero] at l0
  obtain ⟨⟨⟨a0,b0⟩,⟨a1,b1⟩,⟨a2,b2⟩⟩,⟨a3,b3⟩,⟨a4,b4⟩,⟨a5,b5⟩⟩:=zn5.1 (hlt i hi)
  replace a0:=Int.not_lt.2 a0
  replace a1:=Int.not_lt.2 a1
  replace a2:=Int.not_lt.2 a2
  replace a3:=Int.not_lt.2 a3
  replace a4:=Int.not_lt.2 a4
  replace a5:=Int.not_lt.2 a5
  replace b0:=Int.not_lt.2 b0
  replace b1:=Int.not_lt.2 b1
  replace b2:=Int.not_lt.2 b2
  replace b3:=Int.not_lt.2 b3
  replace b4:=Int.not_lt.2 b4
  replace b5:=Int.not_lt.2 b5
  unfold z36
  repeat' (first|refine zac ?_|refine zaf ?_|refine gwA ?_|(refine gwX ?_;intro Q hQ hP;simp [hC,hY,hi,hin,hi',hz,hs,l0,l1,l2,l3,l4,l5,a0,a1,a2,a3,a4,a5,b0,b1,b2,b3,b4,b5];refine gwq hQ ?_;clear hQ hP Q)|(refine gwC ?_ ?_<;>(intro hb;try (cases hb;done))))
  refine zbb _ 400 hC G0F (m0:=[(100,b)]) hC0 (by omega) ?_ ?_ ?_
  ·simp [zan,zay,zai,zaj,dom,hs]
  ·have hi:=fun D=>Blk.fx_ids h.fx D
   simp [zae,zai,zaj,hi,dom]
  ·simp
 ·by_cases hNn:N=n
  ·rw [decide_eq_true hNn]
   subst hNn
   unfold z36
   repeat' (first|refine gwA ?_|(refine gwX ?_;intro Q hQ hP;simp [hC,hY];refine gwq hQ ?_;clear hQ hP Q)|(refine gwC ?_ ?_<;>(intro hb;try (cases hb;done))))
   refine ⟨.inr rfl,by simp [results53],kpS G0F⟩
  ·rw [decide_eq_false hNn]
   have hin:N<n:=by omega
   have hi':(N:Int)<n:=by omega
   have hz:(0:Int)≤N:=by omega
   have l0:=h.int hin (q:=0) (by omega)
   have l1:=h.int hin (q:=1) (by omega)
   have l2:=h.int hin (q:=2) (by omega)
   have l3:=h.int hin (q:=3) (by omega)
   have l4:=h.int hin (q:=4) (by omega)
   have l5:=h.int hin (q:=5) (by omega)
   simp only [Nat.add_zero] at l0
   have hbad:¬inB 1048576 65536 f N=true:=by rw [hend.resolve_left hNn];simp
   rw [zn5] at hbad
   unfold z36
   by_cases a0:f (6*N) < -1048576
   ·
    repeat' (first|refine zac ?_|refine zaf ?_|refine gwA ?_|(refine gwX ?_;intro Q hQ hP;simp [hC,hY,hin,hi',hz,l0,l1,l2,l3,l4,l5,a0];refine gwq hQ ?_;clear hQ hP Q)|(refine gwC ?_ ?_<;>(intro hb;try (cases hb;done))))
    refine ⟨.inr rfl,by simp [results53],kpS G0F⟩
   by_cases b0:1048576<f (6*N)
   ·
    repeat' (first|refine zac ?_|refine zaf ?_|refine gwA ?_|(refine gwX ?_;intro Q hQ hP;simp [hC,hY,hin,hi',hz,l0,l1,l2,l3,l4,l5,a0,b0];refine gwq hQ ?_;clear hQ hP Q)|(refine gwC ?_ ?_<;>(intro hb;try (cases hb;done))))
    refine ⟨.inr rfl,by simp [results53],kpS G0F⟩
   by_cases a3:f (6*N+3) < -65536
   ·
    repeat' (first|refine zac ?_|refine zaf ?_|refine gwA ?_|(refine gwX ?_;intro Q hQ hP;simp [hC,hY,hin,hi',hz,l0,l1,l2,l3,l4,l5,a0,b0,a3];refine gwq hQ ?_;clear hQ hP Q)|(refine gwC ?_ ?_<;>(intro hb;try (cases hb;done))))
    refine ⟨.inr rfl,by simp [results53],kpS G0F⟩
   by_cases b3:65536<f (6*N+3)
   ·
    repeat' (first|refine zac ?_|refine zaf ?_|refine gwA ?_|(refine gwX ?_;intro Q hQ hP;simp [hC,hY,hin,hi',hz,l0,l1,l2,l3,l4,l5,a0,b0,a3,b3];refine gwq hQ ?_;clear hQ hP Q)|(refine gwC ?_ ?_<;>(intro hb;try (cases hb;done))))
    refine ⟨.inr rfl,by simp [results53],kpS G0F⟩
   by_cases a1:f (6*N+1) < -1048576
   ·
    repeat' (first|refine zac ?_|refine zaf ?_|refine gwA ?_|(refine gwX ?_;intro Q hQ hP;simp [hC,hY,hin,hi',hz,l0,l1,l2,l3,l4,l5,a0,b0,a3,b3,a1];refine gwq hQ ?_;clear hQ hP Q)|(refine gwC ?_ ?_<;>(intro hb;try (cases hb;done))))
    refine ⟨.inr rfl,by simp [results53],kpS G0F⟩
   by_cases b1:1048576<f (6*N+1)
   ·
    repeat' (first|refine zac ?_|refine zaf ?_|refine gwA ?_|(refine gwX ?_;intro Q hQ hP;simp [hC,hY,hin,hi',hz,l0,l1,l2,l3,l4,l5,a0,b0,a3,b3,a1,b1];refine gwq hQ ?_;clear hQ hP Q)|(refine gwC ?_ ?_<;>(intro hb;try (cases hb;done))))
    refine ⟨.inr rfl,by simp [results53],kpS G0F⟩
   by_cases a4:f (6*N+4) < -65536
   ·
    repeat' (first|refine zac ?_|refine zaf ?_|refine gwA ?_|(refine gwX ?_;intro Q hQ hP;simp [hC,hY,hin,hi',hz,l0,l1,l2,l3,l4,l5,a0,b0,a3,b3,a1,b1,a4];refine gwq hQ ?_;clear hQ hP Q)|(refine gwC ?_ ?_<;>(intro hb;try (cases hb;done))))
    refine ⟨.inr rfl,by simp [results53],kpS G0F⟩
   by_cases b4:65536<f (6*N+4)
   ·
    repeat' (first|refine zac ?_|refine zaf ?_|refine gwA ?_|(refine gwX ?_;intro Q hQ hP;simp [hC,hY,hin,hi',hz,l0,l1,l2,l3,l4,l5,a0,b0,a3,b3,a1,b1,a4,b4];refine gwq hQ ?_;clear hQ hP Q)|(refine gwC ?_ ?_<;>(intro hb;try (cases hb;done))))
    refine ⟨.inr rfl,by simp [results53],kpS G0F⟩
   by_cases a2:f (6*N+2) < -1048576
   ·
    repeat' (first|refine zac ?_|refine zaf ?_|refine gwA ?_|(refine gwX ?_;intro Q hQ hP;simp [hC,hY,hin,hi',hz,l0,l1,l2,l3,l4,l5,a0,b0,a3,b3,a1,b1,a4,b4,a2];refine gwq hQ ?_;clear hQ hP Q)|(refine gwC ?_ ?_<;>(intro hb;try (cases hb;done))))
    refine ⟨.inr rfl,by simp [results53],kpS G0F⟩
   by_cases b2:1048576<f (6*N+2)
   ·
    repeat' (first|refine zac ?_|refine zaf ?_|refine gwA ?_|(refine gwX ?_;intro Q hQ hP;simp [hC,hY,hin,hi',hz,l0,l1,l2,l3,l4,l5,a0,b0,a3,b3,a1,b1,a4,b4,a2,b2];refine gwq hQ ?_;clear hQ hP Q)|(refine gwC ?_ ?_<;>(intro hb;try (cases hb;done))))
    refine ⟨.inr rfl,by simp [results53],kpS G0F⟩
   by_cases a5:f (6*N+5) < -65536
   ·
    repeat' (first|refine zac ?_|refine zaf ?_|refine gwA ?_|(refine gwX ?_;intro Q hQ hP;simp [hC,hY,hin,hi',hz,l0,l1,l2,l3,l4,l5,a0,b0,a3,b3,a1,b1,a4,b4,a2,b2,a5];refine gwq hQ ?_;clear hQ hP Q)|(refine gwC ?_ ?_<;>(intro hb;try (cases hb;done))))
    refine ⟨.inr rfl,by simp [results53],kpS G0F⟩
   by_cases b5:65536<f (6*N+5)
   ·
    repeat' (first|refine zac ?_|refine zaf ?_|refine gwA ?_|(refine gwX ?_;intro Q hQ hP;simp [hC,hY,hin,hi',hz,l0,l1,l2,l3,l4,l5,a0,b0,a3,b3,a1,b1,a4,b4,a2,b2,a5,b5];refine gwq hQ ?_;clear hQ hP Q)|(refine gwC ?_ ?_<;>(intro hb;try (cases hb;done))))
    refine ⟨.inr rfl,by simp [results53],kpS G0F⟩
   exfalso
   omega
theorem zyw (b:Blk) (off n cap:Nat) (f:Nat→Int) (h:SB b off n f) (st:Int) :
  Fun prog G0 34 #[.agg #[.int .i64 st,.slice (some ⟨100,off,none⟩) n cap]] (hpL G0 [(100,b)]) (zab [(100,b)]) (.ret (.bool (za7 st f n)) []):=by
 refine zbn (B:=200) G0F func34 rfl call34 (zap h.fx) ?_ (by simp) (by simp) (by simp) (by simp [ntmps34]) (by omega) ?_
 ·simp [zan,zay,zai,zaj,zab]
 intro C hC hC0 hY
 have hr:=fun ρ=>Blk.fx_rn h.fx ρ
 unfold za7
 by_cases c0:-1073741824≤st
 ·by_cases c1:st≤1073741824
  ·have es:stB st=true:=decide_eq_true ⟨c0,c1⟩
   rw [es]
   by_cases c2:1≤n
   ·have c2':(1:Int)≤n:=by omega
    have c2'':0<n:=by omega
    by_cases c3:n≤4
    ·have c4:(n:Int)≤4:=by omega
     have e:decide (1≤n∧n≤4)=true:=decide_eq_true (by omega)
     rw [e]
     repeat' (first|refine gwA ?_|((first|refine gwR [53] ?_|refine gwD [53] ?_);intro Q hQ hP;(repeat first|simp [hC,hY,c0,c1,c2,c2',c2'',c3,c4]|refine zah (ja3 b off n cap f h st) G0F (B:=200) (zap h.fx) (fun k=>k) (fun k hk=>rfl) (by simp [ren,zax,zak,zao]) (by simp) (by simp [hr]) (by simp [zab]) (by simp [zab];rfl) ?_);refine gwq hQ ?_;clear hQ hP Q)|(refine gwC ?_ ?_<;>(intro hb;try (cases hb;done))))
     refine ⟨.inr rfl,by simp [results34],kpS G0F⟩
    ·have c4:¬(n:Int)≤4:=by omega
     have e:decide (1≤n∧n≤4)=false:=decide_eq_false (by omega)
     rw [e]
     repeat' (first|refine gwA ?_|(refine gwX ?_;intro Q hQ hP;simp [hC,hY,c0,c1,c2,c2',c2'',c3,c4];refine gwq hQ ?_;clear hQ hP Q)|(refine gwC ?_ ?_<;>(intro hb;try (cases hb;done))))
     refine ⟨.inr rfl,by simp [results34],kpS G0F⟩
   ·have c2':¬(1:Int)≤n:=by omega
    have c2'':¬0<n:=by omega
    have c2''':n=0:=by omega
    have e:decide (1≤n∧n≤4)=false:=decide_eq_false (by omega)
    rw [e]
    repeat' (first|refine gwA ?_|(refine gwX ?_;intro Q hQ hP;simp [hC,hY,c0,c1,c2,c2',c2'',c2'''];refine gwq hQ ?_;clear hQ hP Q)|(refine gwC ?_ ?_<;>(intro hb;try (cases hb;done))))
    refine ⟨.inr rfl,by simp [results34],kpS G0F⟩
  ·have es:stB st=false:=decide_eq_false (by omega)
   rw [es]
   repeat' (first|refine gwA ?_|(refine gwX ?_;intro Q hQ hP;simp [hC,hY,c0,c1];refine gwq hQ ?_;clear hQ hP Q)|(refine gwC ?_ ?_<;>(intro hb;try (cases hb;done))))
   refine ⟨.inr rfl,by simp [results34],kpS G0F⟩
 ·have es:stB st=false:=decide_eq_false (by omega)
  rw [es]
  repeat' (first|refine gwA ?_|(refine gwX ?_;intro Q hQ hP;simp [hC,hY,c0];refine gwq hQ ?_;clear hQ hP Q)|(refine gwC ?_ ?_<;>(intro hb;try (cases hb;done))))
  refine ⟨.inr rfl,by simp [results34],kpS G0F⟩
theorem zyx (st:Int):Ret prog G0 34 #[.agg #[.int .i64 st,.slice none 0 0]] (.bool false):=by
 refine zar G0F func34 rfl call34 rfl (by simp) (by simp [ntmps34]) ?_
 intro C hC hC0 hY
 by_cases c0:-1073741824≤st
 ·by_cases c1:st≤1073741824
  ·(repeat' (first|refine gwA ?_|(refine gwX ?_;intro Q hQ hP;simp [hC,hY,c0,c1];refine gwq hQ ?_;clear hQ hP Q)|(refine gwC ?_ ?_<;>(intro hb;try (cases hb;done)))))
   refine ⟨.inr trivial,?_⟩
   simp [results34]
  ·(repeat' (first|refine gwA ?_|(refine gwX ?_;intro Q hQ hP;simp [hC,hY,c0,c1];refine gwq hQ ?_;clear hQ hP Q)|(refine gwC ?_ ?_<;>(intro hb;try (cases hb;done)))))
   refine ⟨.inr trivial,?_⟩
   simp [results34]
 ·(repeat' (first|refine gwA ?_|(refine gwX ?_;intro Q hQ hP;simp [hC,hY,c0];refine gwq hQ ?_;clear hQ hP Q)|(refine gwC ?_ ?_<;>(intro hb;try (cases hb;done)))))
  refine ⟨.inr trivial,?_⟩
  simp [results34]
@[simp] theorem jp9 (st:Int) (K:Value→Prop):za0 prog G0 34 #[.agg #[.int .i64 st,.slice none 0 0]] K↔K (.bool false):=zad G0W (by kernel_rfl) (zyx st)
def jdv (nk n:Nat) (f:Nat→Int) (v:Value) (ns:List (Nat×Blk)):Prop:=∃ (c M:Nat) (g:Nat→Int),n≤c∧6*n≤M∧(∀ j,j<6*n→g j=f j)∧v=.slice (some ⟨nk,0,none⟩) n c∧ns=[(nk,⟨fa M .i64 g,.ty 45⟩)]
theorem zbz (M:Nat) (g:Nat→Int) (T:TypeId):Blk.fx ⟨fa M .i64 g,.ty T⟩:=fun x hx=>by
 obtain ⟨m,rfl⟩:=zix hx;rfl
theorem z9w {b:Blk} {n:Nat} {f:Nat→Int} (v:Value) (ns:List (Nat×Blk)) (h:jdv 1000 n f v ns):zan (zc0 (fun k=>k∈zab [(100,b)]) ns) v∧(∀ p∈ns,200≤p.1∧p.2.ids (zc0 (fun k=>k∈zab [(100,b)]) ns))∧(∀ k b c,(k,b)∈ns→(k,c)∈ns→b=c):=by
 obtain ⟨c,M,g,h1,h2,h3,rfl,rfl⟩:=h
 refine ⟨by simp [zan,zay,zai,zaj,zc0,zab],?_,?_⟩
 ·simp only [List.mem_singleton,forall_eq]
  exact ⟨by omega,Blk.fx_ids (zbz _ _ _) _⟩
 ·intro k b c h1 h2
  simp at h1 h2
  rw [h1.2,h2.2]
theorem zwk (b:Blk) (off n cap:Nat) (f:Nat→Int) (h:SB b off n f) (hcap:n≤cap) :
  FunS prog G0 51 #[.slice (some ⟨100,off,none⟩) n cap] (hpL G0 [(100,b)]) (zab [(100,b)]) (jdv 1000 n f):=by
 refine zfn (B:=200) G0F func51 rfl call51 (zap h.fx) ?_ z9w (by simp [ntmps51]) (by omega) ?_
 ·simp [zan,zay,zai,zaj,zab]
 intro C hC hC0 hY
 have hnn:=h.nn
 have hbrd:=Blk.fx_rd h.fx
 repeat' (first|refine gwA ?_|(refine gwX ?_;intro Q hQ hP;simp [hC,hY];refine gwq hQ ?_;clear hQ hP Q)|(refine gwC ?_ ?_<;>(intro hb;try (cases hb;done))))
 refine zcm ?_
 simp only [Array.toList]
 refine z4p rfl (by simp) rfl underlying25 (zal sizeOf45) ?_
 refine zbc 1 [] rfl (by simp) (by kernel_rfl) ?_;intro q hq;simp [hC,hY];refine hq _ _ _ _ ?_;clear hq q
 simp only [wT,List.length_cons,List.length_nil,Nat.reduceAdd]
 by_cases hn0:n=0
 ·subst hn0
  refine zvm (p:=some (224,0)) (q:=some (100,off)) rfl (by simp) rfl underlying25 (zal sizeOf45) (by simp;rfl) (by simp;rfl) (Nat.le_refl _) ?_
  refine zbc 1 [] rfl (by simp) (by kernel_rfl) ?_;intro q hq;simp [hC,hY,zb6];refine hq _ _ _ _ ?_;clear hq q
  simp only [wT,List.length_cons,List.length_nil,Nat.reduceAdd]
  refine zc2 ?_
  repeat' (first|refine gwA ?_|(refine gwX ?_;intro Q hQ hP;simp [hC,hY];refine gwq hQ ?_;clear hQ hP Q)|(refine gwC ?_ ?_<;>(intro hb;try (cases hb;done))))
  refine ⟨.inr trivial,kpS G0F,_,_,fun k=>if k=1000 then 224 else k,⟨0,0,f,Nat.le_refl _,by omega,fun _ _=>rfl,rfl,rfl⟩,fun k hk=>if_neg (by omega),by simp,by simp,by simp [results51,ren,zax,zak,zao],?_⟩
  simp [fa,Blk.rn]
 ·refine zpf (p:=some ⟨224,0,none⟩) (j:=100) (b2:=b) (off2:=off) (m:=n) (m':=cap) (nw:=(fa (6*n) .i64 f).toList) (sz:=6) (by':=48) (z:=.agg #[.int .i64 0,.int .i64 0,.int .i64 0,.int .i64 0,.int .i64 0,.int .i64 0]) rfl (by simp) rfl underlying25 (zal sizeOf45) ?_ ?_ ?_ ?_ ?_ (z6m h.rd) zd5 (fun q x hx=>?_) (by omega) (by simp;omega) (by unfold maxLen;omega) (by omega) (fun cap' hc'=>?_)
  ·kernel_rfl
  ·kernel_rfl
  ·simp
  ·simp
  ·simp
  ·have:=zl3 hx
   simp [Value.cells] at this
   subst this
   rfl
  ·rw [zjq (k:=.i64) (by simp),zpp]
   refine zbc 1 [] rfl (by simp) (by kernel_rfl) ?_;intro q hq;simp [hC,hY,zb6];refine hq _ _ _ _ ?_;clear hq q
   simp only [wT,List.length_cons,List.length_nil,Nat.reduceAdd]
   refine zc2 ?_
   repeat' (first|refine gwA ?_|(refine gwX ?_;intro Q hQ hP;simp [hC,hY];refine gwq hQ ?_;clear hQ hP Q)|(refine gwC ?_ ?_<;>(intro hb;try (cases hb;done))))
   refine ⟨.inr trivial,kpS G0F,_,_,fun k=>if k=1000 then 224+16 else k,⟨cap',6*n+(cap' - n)*6,zz2 f (6*n) 0 f,hc',?_,?_,rfl,rfl⟩,fun k hk=>if_neg (by omega),by simp,by simp,by simp [results51,ren,zax,zak,zao],?_⟩
   ·omega
   ·intro j hj
    unfold zz2
    rw [if_pos (by omega)]
   ·simp only [List.mem_singleton,forall_eq]
    rw [zfi]
    simp
def zzz (nk:Nat) (st:Int) (n:Nat) (f:Nat→Int) (v:Value) (ns:List (Nat×Blk)):Prop:=∃ (c M:Nat) (g:Nat→Int),n≤c∧6*n≤M∧(∀ j,j<6*n→g j=f j)∧v=.agg #[.int .i64 st,.slice (some ⟨nk,0,none⟩) n c]∧ns=[(nk,⟨fa M .i64 g,.ty 45⟩)]
theorem zsr {b:Blk} {st:Int} {n:Nat} {f:Nat→Int} (v:Value) (ns:List (Nat×Blk)) (h:zzz 1000 st n f v ns):zan (zc0 (fun k=>k∈zab [(100,b)]) ns) v∧(∀ p∈ns,200≤p.1∧p.2.ids (zc0 (fun k=>k∈zab [(100,b)]) ns))∧(∀ k b c,(k,b)∈ns→(k,c)∈ns→b=c):=by
 obtain ⟨c,M,g,h1,h2,h3,rfl,rfl⟩:=h
 refine ⟨by simp [zan,zay,zai,zaj,zc0,zab],?_,?_⟩
 ·simp only [List.mem_singleton,forall_eq]
  exact ⟨by omega,Blk.fx_ids (zbz _ _ _) _⟩
 ·intro k b c h1 h2
  simp at h1 h2
  rw [h1.2,h2.2]
theorem FunS.own1 {fn:FuncId} {args:Array Value} {b:Blk} {R:Value→List (Nat×Blk)→Prop} (h:FunS prog G0 fn args (hpL G0 [(100,b)]) (zab [(100,b)]) R) (hb:b.fx) (nk:Nat) (hnk:200≤nk) (hR:∀ v ns,R v ns→∀ k∈zab ns,k=1000) (ha:args.map (ren fun k=>if k=1000 then nk else k)=args) :
  FunS prog G0 fn args (hpL G0 [(100,b)]) [100] (RR (fun k=>if k=1000 then nk else k) R):=by
 have h0:=h.rn (fun k=>if k=1000 then nk else k) G0F (zap hb).low (hp':=hpL G0 [(100,b)]) (zos (zap hb) _ (fun k hk=>if_neg (by omega)) (zap hb).low (by
  simp only [List.mem_singleton,forall_eq]
  refine ⟨by simp,?_⟩
  rw [Blk.fx_rn hb];simp) (by simp [zab])) (fun v ns hr k hk=>by
  rw [hR v ns hr k hk,if_pos rfl]
  refine ⟨by omega,fun hd=>hd ?_⟩
  simp [rst,zab,show ¬nk=100 by omega,show ¬nk<100 by omega]) (fun v ns hr k hk l hl _=>by rw [hR v ns hr k hk,hR v ns hr l hl])
 rw [ha] at h0
 simpa [zab] using h0
theorem z9u (nk n:Nat) (f:Nat→Int):RR (fun k=>if k=1000 then nk else k) (jdv 1000 n f)=jdv nk n f:=by
 funext v ns
 apply propext
 constructor
 ·rintro ⟨v0,ns0,⟨c,M,g,h1,h2,h3,rfl,rfl⟩,rfl,rfl⟩
  exact ⟨c,M,g,h1,h2,h3,by simp [ren,zax,zak,zao],by simp [rnL,zfi]⟩
 ·rintro ⟨c,M,g,h1,h2,h3,rfl,rfl⟩
  exact ⟨_,_,⟨c,M,g,h1,h2,h3,rfl,rfl⟩,by simp [ren,zax,zak,zao],by simp [rnL,zfi]⟩
theorem z1j (nk:Nat) (hnk:200≤nk) (b:Blk) (off n cap:Nat) (f:Nat→Int) (h:SB b off n f) (hcap:n≤cap) :
  FunS prog G0 51 #[.slice (some ⟨100,off,none⟩) n cap] (hpL G0 [(100,b)]) [100] (jdv nk n f):=by
 have:=(zwk b off n cap f h hcap).own1 h.fx nk hnk (fun v ns hR k hk=>by
  obtain ⟨c,M,g,h1,h2,h3,rfl,rfl⟩:=hR;simpa [zab] using hk) (by simp [ren,zax,zak,zao])
 rwa [z9u] at this
theorem z9x (b:Blk) (off n cap:Nat) (f:Nat→Int) (h:SB b off n f) (hcap:n≤cap) (st:Int) :
  FunS prog G0 31 #[.agg #[.int .i64 st,.slice (some ⟨100,off,none⟩) n cap]] (hpL G0 [(100,b)]) (zab [(100,b)]) (zzz 1000 st n f):=by
 refine zfn (B:=200) G0F func31 rfl call31 (zap h.fx) ?_ zsr (by simp [ntmps31]) (by omega) ?_
 ·simp [zan,zay,zai,zaj,zab]
 intro C hC hC0 hY
 repeat' (first|refine gwA ?_|(refine gwX ?_;intro Q hQ hP;simp [hC,hY];refine gwq hQ ?_;clear hQ hP Q)|(refine gwC ?_ ?_<;>(intro hb;try (cases hb;done))))
 refine zcm ?_
 simp only [Array.toList]
 refine zbc 2 [] rfl (by simp) (by kernel_rfl) ?_;intro q hq;simp [hC,hY];refine hq _ _ _ _ ?_;clear hq q
 simp only [wT,List.length_cons,List.length_nil,Nat.reduceAdd]
 refine zrg (f:=.func 51) (args:=#[.slice (some ⟨100,off,none⟩) n cap]) (cap:=#[]) rfl (by simp) rfl rfl (by simp [okT]) (by simp [gev]) (by simp) (by simp [okX,zcj]) (by simp [gev]) (hC.symm▸z1j 232 (by omega) b off n cap f h hcap) (by simp) (by rw [←hC];(intro k hk;first|rfl|(simp (disch:=omega) only [zcz,List.mem_cons,List.not_mem_nil,or_false,zaa,zam,za6,if_neg,zbh]<;>done))) ?_ ?_
 ·rintro v ns ⟨c,M,g,h1,h2,h3,rfl,rfl⟩
  simp [zab]
 ·rintro v ns ⟨c,M,g,h1,h2,h3,rfl,rfl⟩
  refine zbc 2 [] rfl (by simp) (by kernel_rfl) ?_;intro q hq;simp [hC,hY,zb6,zbh];refine hq _ _ _ _ ?_;clear hq q
  simp only [wT,List.length_cons,List.length_nil,Nat.reduceAdd]
  refine zc2 ?_
  repeat' (first|refine gwA ?_|(refine gwX ?_;intro Q hQ hP;simp [hC,hY];refine gwq hQ ?_;clear hQ hP Q)|(refine gwC ?_ ?_<;>(intro hb;try (cases hb;done))))
  refine ⟨.inr trivial,kpS G0F,_,_,fun k=>if k=1000 then 232 else k,⟨c,M,g,h1,h2,h3,rfl,rfl⟩,fun k hk=>if_neg (by omega),by simp,by simp,by simp [results31,ren,zax,zak,zao],?_⟩
  simp [zfi]
theorem zx6 (b:Blk) (off n cap:Nat) (f:Nat→Int) (h:SB b off n f) (hcap:n≤cap) (st:Int) :
  FunS prog G0 22 #[.agg #[.int .i64 st,.slice (some ⟨100,off,none⟩) n cap]] (hpL G0 [(100,b)]) (zab [(100,b)]) (zzz 1000 st n f):=by
 refine zfn (B:=200) G0F func22 rfl call22 (zap h.fx) ?_ zsr (by simp [ntmps22]) (by omega) ?_
 ·simp [zan,zay,zai,zaj,zab]
 intro C hC hC0 hY
 have hnn:=h.nn
 have hbrd:=Blk.fx_rd h.fx
 repeat' (first|refine gwA ?_|(refine gwX ?_;intro Q hQ hP;simp [hC,hY];refine gwq hQ ?_;clear hQ hP Q)|(refine gwC ?_ ?_<;>(intro hb;try (cases hb;done))))
 refine zcm ?_
 simp only [Array.toList]
 refine z4p rfl (by simp) rfl underlying25 (zal sizeOf45) ?_
 refine zbc 2 [] rfl (by simp) (by kernel_rfl) ?_;intro q hq;simp [hC,hY];refine hq _ _ _ _ ?_;clear hq q
 simp only [wT,List.length_cons,List.length_nil,Nat.reduceAdd]
 by_cases hn0:n=0
 ·subst hn0
  refine zvm (p:=some (216,0)) (q:=some (100,off)) rfl (by simp) rfl underlying25 (zal sizeOf45) (by simp;rfl) (by simp;rfl) (Nat.le_refl _) ?_
  refine zbc 2 [] rfl (by simp) (by kernel_rfl) ?_;intro q hq;simp [hC,hY,zb6];refine hq _ _ _ _ ?_;clear hq q
  simp only [wT,List.length_cons,List.length_nil,Nat.reduceAdd]
  refine zc2 ?_
  repeat' (first|refine gwA ?_|(refine gwX ?_;intro Q hQ hP;simp [hC,hY];refine gwq hQ ?_;clear hQ hP Q)|(refine gwC ?_ ?_<;>(intro hb;try (cases hb;done))))
  refine ⟨.inr trivial,kpS G0F,_,_,fun k=>if k=1000 then 216 else k,⟨0,0,f,Nat.le_refl _,by omega,fun _ _=>rfl,rfl,rfl⟩,fun k hk=>if_neg (by omega),by simp,by simp,by simp [results22,ren,zax,zak,zao],?_⟩
  simp [fa,Blk.rn]
 ·refine zpf (p:=some ⟨216,0,none⟩) (j:=100) (b2:=b) (off2:=off) (m:=n) (m':=cap) (nw:=(fa (6*n) .i64 f).toList) (sz:=6) (by':=48) (z:=.agg #[.int .i64 0,.int .i64 0,.int .i64 0,.int .i64 0,.int .i64 0,.int .i64 0]) rfl (by simp) rfl underlying25 (zal sizeOf45) ?_ ?_ ?_ ?_ ?_ (z6m h.rd) zd5 (fun q x hx=>?_) (by omega) (by simp;omega) (by unfold maxLen;omega) (by omega) (fun cap' hc'=>?_)
  ·kernel_rfl
  ·kernel_rfl
  ·simp
  ·simp
  ·simp
  ·have:=zl3 hx
   simp [Value.cells] at this
   subst this
   rfl
  ·rw [zjq (k:=.i64) (by simp),zpp]
   refine zbc 2 [] rfl (by simp) (by kernel_rfl) ?_;intro q hq;simp [hC,hY,zb6];refine hq _ _ _ _ ?_;clear hq q
   simp only [wT,List.length_cons,List.length_nil,Nat.reduceAdd]
   refine zc2 ?_
   repeat' (first|refine gwA ?_|(refine gwX ?_;intro Q hQ hP;simp [hC,hY];refine gwq hQ ?_;clear hQ hP Q)|(refine gwC ?_ ?_<;>(intro hb;try (cases hb;done))))
   refine ⟨.inr trivial,kpS G0F,_,_,fun k=>if k=1000 then 216+24 else k,⟨cap',6*n+(cap' - n)*6,zz2 f (6*n) 0 f,hc',?_,?_,rfl,rfl⟩,fun k hk=>if_neg (by omega),by simp,by simp,by simp [results22,ren,zax,zak,zao],?_⟩
   ·omega
   ·intro j hj
    unfold zz2
    rw [if_pos (by omega)]
   ·simp only [List.mem_singleton,forall_eq]
    rw [zfi]
    simp
theorem zqd:LOk [] 200:=⟨by simp,by simp [zab],by simp⟩
end Go.Gy
namespace Go.Gy
set_option linter.unusedSimpArgs false
set_option linter.unusedVariables false
open Go Go.RowKit Go.Proofs
def dwE (f:Nat→Int) (p q:Int) (i:Nat):Int:=wyE (f (6*i+3)) (f (6*i+4)) (f (6*i+5)) p q
def dwV (f:Nat→Int) (p q:Int) (i j:Nat):Int:=eaV (dwE f p q i) (d1V (f (6*i+3+j)) p q)
def zdn (st:Int) (k off n cap:Nat):Blk:=⟨#[.int .i64 st,.slice (some ⟨k,off,none⟩) n cap],.ty 27⟩
end Go.Gy
namespace Go.Gy
set_option linter.unusedSimpArgs false
set_option linter.unusedVariables false
open Go Go.RowKit Go.Proofs
end Go.Gy
namespace Go.Gy
open Go Go.RowKit Go.Proofs
theorem zw4 {m x y z:Int}:inV m x y z=true↔inW m x∧inW m y∧inW m z:=by unfold inV;exact decide_eq_true_iff
theorem zee {st:Int} {f:Nat→Int} {n:Nat} (h:za7 st f n=true):(-1073741824≤st∧st≤1073741824)∧(1≤n∧n≤4)∧∀ i,i<n→inB 1048576 65536 f i=true:=by
 unfold za7 stB at h
 simp only [Bool.and_eq_true,decide_eq_true_eq] at h
 exact ⟨h.1.1,h.1.2,zl8.1 h.2⟩
theorem zke {st:Int} {f:Nat→Int} {n:Nat} (h:za7 st f n=true) {i:Nat} (hi:i<n):(inW 1048576 (f (6*i))∧inW 1048576 (f (6*i+1))∧inW 1048576 (f (6*i+2)))∧(inW 65536 (f (6*i+3))∧inW 65536 (f (6*i+4))∧inW 65536 (f (6*i+5))):=by
 have:=(zee h).2.2 i hi
 unfold inB at this
 rw [Bool.and_eq_true,zw4,zw4] at this
 exact this
def mvG (g f:Nat→Int) (p q:Int) (i j:Nat):Int:=if j<6*i∧j%6<3 then f j+dwV f p q (j / 6) (j%6) else g j
end Go.Gy
namespace Go.Gy
set_option linter.unusedSimpArgs false
set_option linter.unusedVariables false
open Go Go.RowKit Go.Proofs Go.Proofs.Tryz
end Go.Gy
namespace Go.Gy
set_option linter.unusedSimpArgs false
set_option linter.unusedVariables false
open Go Go.RowKit Go.Proofs
end Go.Gy
namespace Go.Gy
set_option linter.unusedSimpArgs false
set_option linter.unusedVariables false
open Go Go.RowKit Go.Proofs Go.Proofs.Tryz
@[simp] theorem jtr:zgf prog 102=true:=by kernel_rfl
def wiB (n lo hi:Int):Bool:=decide (lo≤n∧n≤hi)
theorem z70 (n lo hi:Int):Ret prog G0 98 #[.int .i64 n,.int .i64 lo,.int .i64 hi] (.bool (wiB n lo hi)):=by
 refine zar G0F func98 rfl call98 rfl (by simp) (by simp [ntmps98]) ?_
 intro C hC hC0 hY
 unfold wiB
 by_cases c0:lo≤n
 ·by_cases c1:n≤hi
  ·rw [decide_eq_true ⟨c0,c1⟩]
   (repeat' (first|refine gwA ?_|(refine gwX ?_;intro Q hQ hP;simp [hC,hY,c0,c1];refine gwq hQ ?_;clear hQ hP Q)|(refine gwC ?_ ?_<;>(intro hb;try (cases hb;done)))))
   refine ⟨.inr trivial,?_⟩
   simp [results98]
  ·rw [decide_eq_false (by omega)]
   (repeat' (first|refine gwA ?_|(refine gwX ?_;intro Q hQ hP;simp [hC,hY,c0,c1];refine gwq hQ ?_;clear hQ hP Q)|(refine gwC ?_ ?_<;>(intro hb;try (cases hb;done)))))
   refine ⟨.inr trivial,?_⟩
   simp [results98]
 ·rw [decide_eq_false (by omega)]
  (repeat' (first|refine gwA ?_|(refine gwX ?_;intro Q hQ hP;simp [hC,hY,c0];refine gwq hQ ?_;clear hQ hP Q)|(refine gwC ?_ ?_<;>(intro hb;try (cases hb;done)))))
  refine ⟨.inr trivial,?_⟩
  simp [results98]
@[simp] theorem cwi (n lo hi:Int) (K:Value→Prop):za0 prog G0 98 #[.int .i64 n,.int .i64 lo,.int .i64 hi] K↔K (.bool (wiB n lo hi)):=zad G0W (by kernel_rfl) (z70 n lo hi)
def jbc (nk:Nat) (a m:Int) (v:Value) (ns:List (Nat×Blk)):Prop:=v=.func (.func 97) #[] #[.pointer (some ⟨nk,0,none⟩),.pointer (some ⟨nk+1,0,none⟩)]∧ns=[(nk,jb a),(nk+1,jb m)]
theorem z9m (a m:Int):FunS prog G0 96 #[.int .i64 a,.int .i64 m] (hpL G0 []) (zab []) (jbc 1000 a m):=by
 refine zfn (B:=200) G0F func96 rfl call96 ⟨by simp,by simp [zab],by simp⟩ ?_ ?_ (by simp [ntmps96]) (by omega) ?_
 ·simp [zan,zay,zai,zaj,zab]
 ·rintro v ns ⟨rfl,rfl⟩
  refine ⟨by simp [zan,zay,zai,zaj,zc0,zab],by simp [jb,zae,zai,zaj],?_⟩
  intro k b c h1 h2
  simp at h1 h2
  rcases h1 with ⟨e1,rfl⟩|⟨e1,rfl⟩<;>rcases h2 with ⟨e2,rfl⟩|⟨e2,rfl⟩<;>first|rfl|omega
 intro C hC hC0 hY
 repeat' (first|refine gwA ?_|(refine gwX ?_;intro Q hQ hP;simp [hC,hY];refine gwq hQ ?_;clear hQ hP Q)|(refine gwC ?_ ?_<;>(intro hb;try (cases hb;done))))
 refine ⟨.inr trivial,kpS G0F,_,_,fun k=>if k=1000 then 200 else if k=1001 then 208 else k,⟨rfl,rfl⟩,fun k hk=>?_,by simp,by simp,by simp [results96,ren,zax,zak,zao],?_⟩
 ·dsimp only
  rw [if_neg (by omega),if_neg (by omega)]
 ·simp [zby]
  simp [jb]
theorem z9l {nk nk':Nat} {a m:Int} {ρ:Nat→Nat} (h0:ρ nk=nk') (h1:ρ (nk+1)=nk'+1):RR ρ (jbc nk a m)=jbc nk' a m:=by
 funext v ns
 apply propext
 constructor
 ·rintro ⟨v0,ns0,⟨rfl,rfl⟩,rfl,rfl⟩
  exact ⟨by simp [ren,zax,zak,zao,h0,h1],by simp [rnL,zby,h0,h1]⟩
 ·rintro ⟨rfl,rfl⟩
  exact ⟨_,_,⟨rfl,rfl⟩,by simp [ren,zax,zak,zao,h0,h1],by simp [rnL,zby,h0,h1]⟩
def up2 (nk k:Nat):Nat:=if 1000≤k then (if k<1002 then k - 1000+nk else k) else k
theorem zg2 (nk:Nat) (hnk:200≤nk) (a m:Int):FunS prog G0 96 #[.int .i64 a,.int .i64 m] (hpL G0 []) [] (jbc nk a m):=by
 have e2:∀ j,j<2→up2 nk (1000+j)=nk+j:=fun j hj=>by unfold up2;rw [if_pos (by omega),if_pos (by omega)];omega
 have hk2:∀ v ns,jbc 1000 a m v ns→∀ k∈zab ns,∃ j,j<2∧k=1000+j:=by
  rintro v ns ⟨rfl,rfl⟩ k hk
  simp [zab] at hk
  rcases hk with rfl|rfl
  ·exact ⟨0,by omega,rfl⟩
  ·exact ⟨1,by omega,rfl⟩
 have h0:=(z9m a m).rn (up2 nk) G0F zqd.low (hp':=hpL G0 []) (zos zqd _ (fun k hk=>by unfold up2;rw [if_neg (by omega)]) zqd.low (by simp) (by simp [zab])) (fun v ns hR k hk=>by
  obtain ⟨j,hj,rfl⟩:=hk2 v ns hR k hk
  rw [e2 j hj]
  refine ⟨by omega,fun hd=>hd ?_⟩
  simp [rst,zab]
  intro h4
  omega) (fun v ns hR k hk l hl e=>by
  obtain ⟨j,hj,rfl⟩:=hk2 v ns hR k hk
  obtain ⟨i,hi,rfl⟩:=hk2 v ns hR l hl
  rw [e2 j hj,e2 i hi] at e
  omega)
 rw [z9l (e2 0 (by omega)) (e2 1 (by omega))] at h0
 simpa [zab,ren,zax,zak,zao] using h0
theorem zd3 {nk:Nat} {a m:Int} {v:Value} {ns:List (Nat×Blk)} (h:jbc nk a m v ns):∀ k∈zab ns,nk≤k∧k<nk+2:=by
 obtain ⟨rfl,rfl⟩:=h
 intro k hk
 simp [zab] at hk
 omega
theorem zbt (a m:Int):Fun prog G0 97 #[.pointer (some ⟨100,0,none⟩),.pointer (some ⟨108,0,none⟩)] (hpL G0 [(100,jb a),(108,jb m)]) (zab [(100,jb a),(108,jb m)]) (.ret (.bool (wiB a 1 m)) []):=by
 refine zbn (B:=200) G0F func97 rfl call97 ⟨by simp,by simp [zab],by simp [jb,zae,zai,zaj]⟩ ?_ (by simp) (by simp) (by simp) (by simp [ntmps97]) (by omega) ?_
 ·simp [zan,zay,zai,zaj,zab]
 intro C hC hC0 hY
 repeat' (first|refine gwA ?_|(refine gwX ?_;intro Q hQ hP;simp [hC,hY,jb];refine gwq hQ ?_;clear hQ hP Q)|(refine gwC ?_ ?_<;>(intro hb;try (cases hb;done))))
 refine ⟨.inr rfl,by simp [results97],zc5 G0F (by simp [jb]) (by (intro k hk;first|rfl|(simp (disch:=omega) only [zcz,List.mem_cons,List.not_mem_nil,or_false,zaa,zam,za6,if_neg,zbh]<;>done)))⟩
def cfB (sl:Value) (g bx tp nr md:Int):Blk:=⟨#[sl,.int .i64 g,.int .i64 bx,.int .i64 tp,.int .i64 nr,.int .i64 md],.ty 24⟩
def cfV (sl:Value) (g bx tp nr md:Int):Value:=.agg #[sl,.int .i64 g,.int .i64 bx,.int .i64 tp,.int .i64 nr,.int .i64 md]
theorem jeb (m:Int):Ret prog G0 101 #[.int .i64 m] (.bool !(wiB m 1 1024)):=by
 refine zar G0F func101 rfl call101 rfl (by simp) (by simp [ntmps101]) ?_
 intro C hC hC0 hY
 repeat' (first|refine gwA ?_|(refine gwX ?_;intro Q hQ hP;simp [hC,hY];refine gwq hQ ?_;clear hQ hP Q)|(refine gwC ?_ ?_<;>(intro hb;try (cases hb;done))))
 refine ⟨.inr trivial,?_⟩
 simp [results101]
@[simp] theorem cm1 (m:Int) (K:Value→Prop):za0 prog G0 101 #[.int .i64 m] K↔K (.bool !(wiB m 1 1024)):=zad G0W (by kernel_rfl) (jeb m)
structure MB (b:Blk) (off n:Nat) (f:Nat→Int):Prop where
 rd:rdI b off n f
 fx:b.fx
 i6:∀ j,j<n→i64 (f j)
 nn:n≤17592186044416
theorem MB.at {b:Blk} {off n:Nat} {f:Nat→Int} (h:MB b off n f) {i:Nat} (hi:i<n):zdk prog 3 b (off+i)=some (.int .i64 (f i)):=by
 have hbrd:=Blk.fx_rd h.fx
 exact zj7 (P:=prog) (T:=3) (j:=i) (zbl isAgg3) h.rd hi
def z1i (b:Blk) (off n cap:Nat) (i:Nat):GS :=
 ⟨tsL [(0,.slice (some ⟨100,off,none⟩) n cap),(1,.func (.func 101) #[] #[]),(7,.int .i64 n),(8,.int .i64 i)],hpL G0 [(100,b)],300,0⟩
def zpd (f:Nat→Int) (n:Nat):Bool:=(List.range n).all fun i=>wiB (f i) 1 1024
theorem zwj (b:Blk) (off n cap:Nat) (f:Nat→Int) (h:MB b off n f) (N:Nat) (hN:N≤n) (hlt:∀ i,i<N→wiB (f i) 1 1024=true) (hend:N=n∨wiB (f N) 1 1024=false) :
  Fun prog G0 125 #[.slice (some ⟨100,off,none⟩) n cap,.func (.func 101) #[] #[]] (hpL G0 [(100,b)]) (zab [(100,b)]) (.ret (.int .i64 (if N=n then -1 else N)) []):=by
 refine zbn (B:=200) G0F func125 rfl call125 (zap h.fx) ?_ (by simp) (by simp) (by simp) (by simp [ntmps125]) (by omega) ?_
 ·simp [zan,zay,zai,zaj,zab]
 intro C hC hC0 hY
 have hnn:=h.nn
 have hid:=fun D=>Blk.fx_ids h.fx D
 repeat' (first|refine gwA ?_|(refine gwX ?_;intro Q hQ hP;simp [hC,hY];refine gwq hQ ?_;clear hQ hP Q)|(refine gwC ?_ ?_<;>(intro hb;try (cases hb;done))))
 refine zb8 N (z1i b off n cap) ?_ ?_ ?_
 ·refine zbb _ 300 hC G0F (m0:=[(100,b)]) hC0 (by omega) ?_ ?_ ?_
  ·simp [zan,zay,zai,zaj,dom]
  ·simp [hid]
  ·simp
 ·intro i hi
  have hin:i<n:=by omega
  have hi':(i:Int)<n:=by omega
  have hz:(0:Int)≤i:=by omega
  have hs:Int.bmod ((i:Int)+1) 18446744073709551616=((i+1:Nat):Int):=by rw [bm (by omega) (by omega)];rfl
  have hld:=h.at hin
  have hq:=hlt i hi
  unfold z1i
  repeat' (first|refine gwA ?_|(refine gwX ?_;intro Q hQ hP;simp [hC,hY,hi,hin,hi',hz,hs,hld,hq];refine gwq hQ ?_;clear hQ hP Q)|(refine gwC ?_ ?_<;>(intro hb;try (cases hb;done))))
  refine zbb _ 300 hC G0F (m0:=[(100,b)]) hC0 (by omega) ?_ ?_ ?_
  ·simp [zan,zay,zai,zaj,dom,hs]
  ·simp [hid]
  ·simp
 ·by_cases hNn:N=n
  ·subst hNn
   simp only [if_true]
   unfold z1i
   repeat' (first|refine gwA ?_|(refine gwX ?_;intro Q hQ hP;simp [hC,hY];refine gwq hQ ?_;clear hQ hP Q)|(refine gwC ?_ ?_<;>(intro hb;try (cases hb;done))))
   refine ⟨.inr rfl,by simp [results125],kpS G0F⟩
  ·have hin:N<n:=by omega
   have hi':(N:Int)<n:=by omega
   have hz:(0:Int)≤N:=by omega
   have hld:=h.at hin
   have hq:=hend.resolve_left hNn
   rw [if_neg hNn]
   unfold z1i
   repeat' (first|refine gwA ?_|(refine gwX ?_;intro Q hQ hP;simp [hC,hY,hin,hi',hz,hld,hq];refine gwq hQ ?_;clear hQ hP Q)|(refine gwC ?_ ?_<;>(intro hb;try (cases hb;done))))
   refine ⟨.inr rfl,by simp [results125],kpS G0F⟩
theorem z7u (b:Blk) (off n cap:Nat) (f:Nat→Int) (h:MB b off n f) :
  Fun prog G0 100 #[.slice (some ⟨100,off,none⟩) n cap,.func (.func 101) #[] #[]] (hpL G0 [(100,b)]) (zab [(100,b)]) (.ret (.bool !(zpd f n)) []):=by
 refine zbn (B:=200) G0F func100 rfl call100 (zap h.fx) ?_ (by simp) (by simp) (by simp) (by simp [ntmps100]) (by omega) ?_
 ·simp [zan,zay,zai,zaj,zab]
 intro C hC hC0 hY
 have hr:=fun ρ=>Blk.fx_rn h.fx ρ
 obtain ⟨N,hN,hlt,hend⟩:=z2g (fun i=>wiB (f i) 1 1024) n
 by_cases hNn:N=n
 ·have e:zpd f n=true:=by unfold zpd;rw [←hNn];simpa using hlt
  rw [e]
  repeat' (first|refine gwA ?_|((first|refine gwR [125] ?_|refine gwD [125] ?_);intro Q hQ hP;(repeat first|simp [hC,hY,hNn]|refine zah (zwj b off n cap f h N hN hlt hend) G0F (B:=200) (zap h.fx) (fun k=>k) (fun k hk=>rfl) (by simp [ren,zax,zak,zao]) (by simp) (by simp [hr]) (by simp [zab]) (by simp [zab];rfl) ?_);refine gwq hQ ?_;clear hQ hP Q)|(refine gwC ?_ ?_<;>(intro hb;try (cases hb;done))))
  refine ⟨.inr rfl,by simp [results100],kpS G0F⟩
 ·have e:zpd f n=false:=by
   unfold zpd
   rw [List.all_eq_false]
   exact ⟨N,by simp;omega,by simpa using hend.resolve_left hNn⟩
  have hz:(0:Int)≤N:=by omega
  rw [e]
  repeat' (first|refine gwA ?_|((first|refine gwR [125] ?_|refine gwD [125] ?_);intro Q hQ hP;(repeat first|simp [hC,hY,hNn,hz]|refine zah (zwj b off n cap f h N hN hlt hend) G0F (B:=200) (zap h.fx) (fun k=>k) (fun k hk=>rfl) (by simp [ren,zax,zak,zao]) (by simp) (by simp [hr]) (by simp [zab]) (by simp [zab];rfl) ?_);refine gwq hQ ?_;clear hQ hP Q)|(refine gwC ?_ ?_<;>(intro hb;try (cases hb;done))))
  refine ⟨.inr rfl,by simp [results100],kpS G0F⟩
def cmL (b:Blk) (off n cap:Nat) (g bx tp nr md:Int):List (Nat×Blk):=[(100,b),(108,cfB (.slice (some ⟨100,off,none⟩) n cap) g bx tp nr md)]
theorem zf2 {b:Blk} (hb:b.fx) (off n cap:Nat) (g bx tp nr md:Int):LOk (cmL b off n cap g bx tp nr md) 200:=⟨by simp [cmL],by simp [cmL,zab],by
 simp only [cmL,List.mem_cons,List.not_mem_nil,or_false,forall_eq_or_imp,forall_eq]
 exact ⟨Blk.fx_ids hb _,by simp [cfB,zae,zai,zaj,zab]⟩⟩
theorem zg6 (b:Blk) (off n cap:Nat) (f:Nat→Int) (h:MB b off n f) (g bx tp nr md:Int) :
  Fun prog G0 99 #[.pointer (some ⟨108,0,none⟩)] (hpL G0 (cmL b off n cap g bx tp nr md)) (zab (cmL b off n cap g bx tp nr md)) (.ret (.bool (zpd f n)) []):=by
 refine zbn (B:=200) G0F func99 rfl call99 (zf2 h.fx off n cap g bx tp nr md) ?_ (by simp) (by simp) (by simp) (by simp [ntmps99]) (by omega) ?_
 ·simp [zan,zay,zai,zaj,zab,cmL]
 intro C hC hC0 hY
 have hr:=fun ρ=>Blk.fx_rn h.fx ρ
 unfold cmL cfB
 repeat' (first|refine gwA ?_|((first|refine gwR [100] ?_|refine gwD [100] ?_);intro Q hQ hP;(repeat first|simp [hC,hY]|refine zah (z7u b off n cap f h) G0F (B:=200) (zap h.fx) (fun k=>k) (fun k hk=>rfl) (by simp [ren,zax,zak,zao]) (by simp) (by simp [hr]) (by simp [zab]) (by simp [zab];rfl) ?_);refine gwq hQ ?_;clear hQ hP Q)|(refine gwC ?_ ?_<;>(intro hb;try (cases hb;done))))
 refine ⟨.inr rfl,by simp [results99],kpS G0F⟩
theorem zwl (b:Blk) (off n cap:Nat) (hb:b.fx) (g bx tp nr md:Int) :
  Fun prog G0 102 #[.pointer (some ⟨108,0,none⟩)] (hpL G0 (cmL b off n cap g bx tp nr md)) (zab (cmL b off n cap g bx tp nr md)) (.ret (.bool (wiB md 0 4)) []):=by
 refine zbn (B:=200) G0F func102 rfl call102 (zf2 hb off n cap g bx tp nr md) ?_ (by simp) (by simp) (by simp) (by simp [ntmps102]) (by omega) ?_
 ·simp [zan,zay,zai,zaj,zab,cmL]
 intro C hC hC0 hY
 unfold cmL cfB
 repeat' (first|refine gwA ?_|(refine gwX ?_;intro Q hQ hP;simp [hC,hY];refine gwq hQ ?_;clear hQ hP Q)|(refine gwC ?_ ?_<;>(intro hb;try (cases hb;done))))
 refine ⟨.inr rfl,by simp [results102],kpS G0F⟩
end Go.Gy
