/-
  Lemmas of this claim, in their order (GyY7, GyZ1, GyZ2, GyZ3, GyW1, GyU1, GyPU, GyV2, GyVA, GyRA, GyRB, GyDM, GyQA, GyVB, GyVC, GyVD, GyRC, GyRF, GyQB, GyDB, GyDC, GyWA, GyWB, GyWC, GyWD, GyWE, GyWF, GyWG, GyWH, GyWK, GyWL, GyWM, GyCA).
  Conditions: those of each theorem.
-/
import Derived.Test.YtmnknnojkhkceaaGreatDoorGz03
set_option linter.unusedSimpArgs false
set_option linter.unusedVariables false
set_option maxRecDepth 20000
set_option maxHeartbeats 4000000
namespace Go.Gy
open Go Go.RowKit Go.Proofs Go.Proofs.Tryz
theorem zhs {P:Program} {G:Hp} {f:FuncId} {args:Array Value} {v:Value} (h:zli P G f args (.ret v)):Ret P G f args v:=⟨h.1 v rfl,h.2.1,h.2.2.1,h.2.2.2⟩
@[simp] theorem jp0 (n:Int) (K:Value->Prop):za2 prog G0 133 #[.bool true,.int .i64 n] K↔K (.tuple #[]):=zaf G0W (by kernel_rfl) (zhs (z62 n))
@[simp] theorem jp3 (z:Int) (K:Value->Prop):za2 prog G0 134 #[Value.agg #[.int .u64 (wi (z) 0),.int .u64 (wi (z) 1),.int .u64 (wi (z) 2),.int .u64 (wi (z) 3)],.bool false] K↔K (wd z):=zaf G0W (by kernel_rfl) (zhs (jhd z))
def wr (z:Int):Prop:=-57896044618658097711785492504343953926634992332820282019728792003956564819968<=z/\z<57896044618658097711785492504343953926634992332820282019728792003956564819968
theorem zcg {z:Int} (h:wr z):sz z=z:=jhf h.1 h.2
theorem jhv {z:Int} (h:wr z):ng z=decide (z<0):=by rw [ze1,zcg h]
theorem z63 {z:Int} (h:wr z) (h0:0<=z):ng z=false:=by rw [jhv h];simp;exact h0
theorem joh {z:Int} (h:wr z) (h0:z<0):ng z=true:=by rw [jhv h];simp;exact h0
theorem zg2 (z:Int) (h:wr z) (h1:z ≠ -57896044618658097711785492504343953926634992332820282019728792003956564819968):(!wi z 0==0||(!wi z 1==0||(!wi z 2==0||!wi z 3==9223372036854775808)))=true:=by
 refine Classical.byContradiction λhn=>h1 ?_
 simp at hn
 obtain ⟨w0,w1,w2,w3⟩:=hn
 rw [<-zcg h,jba,w0,w1,w2,w3]
 unfold ng;rw [w3];decide
theorem z1o {z:Int} (h:wr z) (h0:z≠0):(!wi z 0==0||(!wi z 1==0||(!wi z 2==0||!wi z 3==0)))=true:=zj7 z (by rw [zcg h];exact h0)
theorem zqs:i64 1:=by decide
def lst:Int:=-57896044618658097711785492504343953926634992332820282019728792003956564819968

theorem jb4 (a:Int):zli prog G0 117 #[wd a,wd 0] (.pan (erV 30)):=by
 refine zeq G0F func117 rfl call117 (λv h=>by cases h) (by simp) (by simp [ntmps117]) ?_
 intro C hC hC0 hY
 repeat' first|refine gwZ ?_|((first|refine gwR [1000133] ?_|refine gwD [1000133] ?_);intro Q hQ hP;(repeat first|simp [hC,hY,zd9]|refine za4 (jfx 30) ?_);(first|refine gwq hQ ?_|refine hP _ _ (by kernel_rfl) λ_=>?_))|refine gwC ?_ ?_<;>intro hb
 rfl
theorem z3d (a b:Int) (ha:wr a) (hb:wr b) (h0:0<b) (ha0:0<=a):Ret prog G0 117 #[wd a,wd b] (.tuple #[wd (a.fdiv b),wd (a.fmod b)]):=by
 refine zav G0F func117 rfl call117 (by simp) (by simp) (by simp [ntmps117]) ?_
 intro C hC hC0 hY
 have hz:=z1o hb (by omega)
 have hn1:=zg2 a ha (by omega)
 have hn2:=zg2 b hb (by omega)
 have s1:¬zc2 (sz b) 0<0:=by rw [zcg hb];unfold zc2;split<;>(try split)<;>omega
 have s2:¬zc2 (sz a) 0<0:=by rw [zcg ha];unfold zc2;split<;>(try split)<;>omega
 have hbu:b<57896044618658097711785492504343953926634992332820282019728792003956564819968:=hb.2
 have hau:a<57896044618658097711785492504343953926634992332820282019728792003956564819968:=ha.2
 have e1:a.fdiv b=a / b:=Int.fdiv_eq_ediv_of_nonneg a (by omega)
 have e2:a.fmod b=a%b:=Int.fmod_eq_emod_of_nonneg a (by omega)
 repeat' first|refine gwZ ?_|(refine gwX ?_;intro Q hQ hP;simp [hC,hY,hz,hn1,hn2,s1,s2,lsB,ha0,hau,h0,hbu];(first|refine gwq hQ ?_|refine hP _ _ (by kernel_rfl) λ_=>?_))|refine gwC ?_ ?_<;>intro hb
 refine ⟨.inr trivial,?_⟩
 simp [results117,e1,e2]
theorem z38 (m b:Int) (hb:0<b):(-(m+1)).fdiv b=-(m / b) - 1/\(-(m+1)).fmod b=b - 1 - m%b:=by
 have h1:=Int.emod_add_mul_ediv m b
 have h2:=Int.emod_nonneg m (b:=b) (by omega)
 have h3:=Int.emod_lt_of_pos m hb
 have e:-(m+1)=(b - 1 - m%b)+b*(-(m / b) - 1):=by rw [Int.mul_sub,Int.mul_neg];omega
 rw [Int.fdiv_eq_ediv_of_nonneg _ (by omega),Int.fmod_eq_emod_of_nonneg _ (by omega)]
 constructor
 ·rw [e,Int.add_mul_ediv_left _ _ (by omega),Int.ediv_eq_zero_of_lt (by omega) (by omega)];omega
 ·rw [e,Int.add_mul_emod_self_left,Int.emod_eq_of_lt (by omega) (by omega)]
theorem z3c (m b:Int) (ha:wr (-(m+1))) (hal:-(m+1)≠lst) (hb:wr b) (h0:0<b) (hm0:0<=m):Ret prog G0 117 #[wd (-(m+1)),wd b] (.tuple #[wd ((-(m+1)).fdiv b),wd ((-(m+1)).fmod b)]):=by
 refine zav G0F func117 rfl call117 (by simp) (by simp) (by simp [ntmps117]) ?_
 intro C hC hC0 hY
 obtain ⟨d1,d2⟩:=z38 m b h0
 rw [d1,d2]
 generalize ea:-(m+1)=a at *
 have hz:=z1o hb (by omega)
 have hn1:=zg2 a ha hal
 have hn2:=zg2 b hb (by omega)
 have s1:¬zc2 (sz b) 0<0:=by rw [zcg hb];unfold zc2;split<;>(try split)<;>omega
 have s2:zc2 (sz a) 0<0:=by rw [zcg ha];unfold zc2;split<;>(try split)<;>omega
 have hbu:b<57896044618658097711785492504343953926634992332820282019728792003956564819968:=hb.2
 have hmu:m<57896044618658097711785492504343953926634992332820282019728792003956564819968:=by have:=ha.1;unfold lst at hal;omega
 have hq0:0<=m / b:=Int.ediv_nonneg hm0 (by omega)
 have hq1:m / b<=m:=Int.ediv_le_self b hm0
 have hr0:0<=m%b:=Int.emod_nonneg m (by omega)
 have hr1:m%b<b:=Int.emod_lt_of_pos m h0
 have em:-(a+1)=m:=by omega
 have f1:(ng a==ng 1&&ng (a+1) != ng a)=false:=by
  rw [joh ha (by omega),z63 (z:=1) (by unfold wr;omega) (by omega)];rfl
 have f2:(ng (a+1)&&ng m)=false:=by rw [z63 (z:=m) (by unfold wr;omega) hm0];simp
 have f3:(ng (m / b)&&ng (-(m / b)))=false:=by rw [z63 (z:=m / b) (by unfold wr;omega) hq0];simp
 have f4:(ng (-(m / b)) != ng 1&&ng (-(m / b) - 1) != ng (-(m / b)))=false:=by
  rw [z63 (z:=1) (by unfold wr;omega) (by omega),joh (z:=-(m / b) - 1) (by unfold wr;omega) (by omega)]
  cases ng (-(m / b))<;>rfl
 have f5:(ng b != ng 1&&ng (b - 1) != ng b)=false:=by
  rw [z63 hb (by omega),z63 (z:=1) (by unfold wr;omega) (by omega)];rfl
 have f6:(ng (b - 1) != ng (m%b)&&ng (b - 1 - m%b) != ng (b - 1))=false:=by
  rw [z63 (z:=b - 1) (by unfold wr;have:=hb.2;omega) (by omega),z63 (z:=m%b) (by unfold wr;omega) hr0];rfl
 have i1:=zqs
 repeat' first|refine gwZ ?_|(refine gwX ?_;intro Q hQ hP;simp [hC,hY,hz,hn1,hn2,s1,s2,lsB,h0,hbu,hm0,hmu,em,f1,f2,f3,f4,f5,f6,i1];(first|refine gwq hQ ?_|refine hP _ _ (by kernel_rfl) λ_=>?_))|refine gwC ?_ ?_<;>intro hb
 refine ⟨.inr trivial,?_⟩
 simp [results117]
theorem zcz {α:Type} {f:Nat->α} {x k:Nat} {v:α} (h:k<x):upd f x v k=f k:=zaa f v (by omega)
theorem zxz (a b:Int) (ha:wr a) (hal:a≠lst) (hb:wr b) (h0:0<b):Ret prog G0 117 #[wd a,wd b] (.tuple #[wd (a / b),wd (a%b)]):=by
 rw [<-Int.fdiv_eq_ediv_of_nonneg a (Int.le_of_lt h0),<-Int.fmod_eq_emod_of_nonneg a (Int.le_of_lt h0)]
 by_cases ha0:0<=a
 ·exact z3d a b ha hb h0 ha0
 ·obtain ⟨m,rfl⟩:∃ m,a=-(m+1):=⟨-a - 1,by omega⟩
  exact z3c m b ha hal hb h0 (by omega)
@[simp] theorem jop (a b:Int) (ha:wr a) (hal:a≠lst) (hb:wr b) (h0:0<b) (K:Value->Prop):za2 prog G0 117 #[Value.agg #[.int .u64 (wi (a) 0),.int .u64 (wi (a) 1),.int .u64 (wi (a) 2),.int .u64 (wi (a) 3)],Value.agg #[.int .u64 (wi (b) 0),.int .u64 (wi (b) 1),.int .u64 (wi (b) 2),.int .u64 (wi (b) 3)]] K↔K (.tuple #[wd (a / b),wd (a%b)]) :=
 zaf G0W (by kernel_rfl) (zxz a b ha hal hb h0)
def hp2 (a b:Int):Hp:=hpL G0 [(200,wb a),(208,wb b)]
theorem zgo (a b:Int):rst (hp2 a b) [200,208]=hp2 a b:=zdr G0F (by simp)
theorem zlw (a b:Int) (D:Nat->Prop) (k:Nat) (c:Blk) (h:hp2 a b k=some c):c.ids D:=by
 rcases za8 h with h|h
 ·simp at h
  rcases h with ⟨_,rfl⟩|⟨_,rfl⟩<;>simp [wb]
 ·exact zew _ _ _ h
theorem zjy (a b:Int) (x:Nat) (hx:300<=x):hp2 a b x=none:=by
 simp [hp2,show ¬x=200 by omega,show ¬x=208 by omega,show 100<=x by omega]
theorem zt4 (a b:Int) (ha:wr a) (hal:a≠lst) (hb:wr b) (h0:0<b):Fun prog G0 116 [.pointer (some ⟨200,0,none⟩),.pointer (some ⟨208,0,none⟩)].toArray (hp2 a b) [200,208] (.ret (wd (a / b)) []):=by
 refine zfn (B:=300) G0F (λk hk=>za6 (by simp) hk) func116 rfl call116 ?_ ?_ ⟨zak (by simp),by simp [zab],by simp,by simp⟩ (by simp [ntmps116]) (by omega) ?_ ?_
 ·rw [zgo];simp [hp2,dom]
 ·rw [zgo];exact zlw a b _
 ·rw [zgo];exact zjy a b
 ·intro C hC hC0 hY
  rw [zgo] at hC0 |-
  repeat' first|refine gwZ ?_|(refine gwX ?_;intro Q hQ hP;simp [hC,hY,hp2,wb,ha,hal,hb,h0];(first|refine gwq hQ ?_|refine hP _ _ (by kernel_rfl) λ_=>?_))|refine gwC ?_ ?_<;>intro hb
  refine ⟨.inr rfl,by simp [results116],λk hk=>?_⟩
  have hk3:k<300:=Classical.byContradiction λh=>hk (zjy a b k (by omega))
  simp (disch:=omega) only [zcz]
  rfl
theorem zvj (a b:Int) (ha:wr a) (hal:a≠lst) (hb:wr b) (h0:0<b):Ret prog G0 89 #[wd a,wd b] (.tuple #[wd (a / b),.int .i64 0]):=by
 refine zav G0F func89 rfl call89 (by simp) (by simp) (by simp [ntmps89]) ?_
 intro C hC hC0 hY
 repeat' first|refine gwZ ?_|((first|refine gwR [115] ?_|refine gwD [115] ?_);intro Q hQ hP;(repeat first|simp [hC,hY]|refine zb2 (hp':=hp2 a b) (zz3 (λk hk=>za6 (by simp) hk) (by simp) rfl (by simp) (zt4 a b ha hal hb h0)) (by simp [hp2,wb]) (λk hk=>za6 (by simp) hk) trivial ?_);(first|refine gwq hQ ?_|refine hP _ _ (by kernel_rfl) λ_=>?_))|refine gwC ?_ ?_<;>intro hb
 refine ⟨.inr trivial,?_⟩
 simp [results89]
@[simp] theorem joo (a b:Int) (ha:wr a) (hal:a≠lst) (hb:wr b) (h0:0<b) (K:Value->Prop):za2 prog G0 89 #[Value.agg #[.int .u64 (wi (a) 0),.int .u64 (wi (a) 1),.int .u64 (wi (a) 2),.int .u64 (wi (a) 3)],Value.agg #[.int .u64 (wi (b) 0),.int .u64 (wi (b) 1),.int .u64 (wi (b) 2),.int .u64 (wi (b) 3)]] K↔K (.tuple #[wd (a / b),.int .i64 0]) :=
 zaf G0W (by kernel_rfl) (zvj a b ha hal hb h0)
theorem jaw (n:Int):zli prog G0 93 #[.bool true,.int .i64 n] (.ret (.tuple #[])):=by
 refine zeq G0F func93 rfl call93 (λv h=>by cases h;simp) (by simp) (by simp [ntmps93]) ?_
 intro C hC hC0 hY
 repeat' (first|refine gwA ?_|(refine gwX ?_;intro Q hQ hP;simp [hC,hY];(first|refine gwq hQ ?_|refine hP _ _ (by kernel_rfl) λ_=>?_);clear hQ hP Q)|refine gwC ?_ ?_<;>intro hb<;>try (cases hb;done))
 exact ⟨.inl trivial,by simp [results93]⟩
theorem jav (n:Int):zli prog G0 93 #[.bool false,.int .i64 n] (.pan (erV n)):=by
 refine zeq G0F func93 rfl call93 (λv h=>by cases h) (by simp) (by simp [ntmps93]) ?_
 intro C hC hC0 hY
 repeat' (first|refine gwA ?_|(refine gwX ?_;intro Q hQ hP;simp [hC,hY];(first|refine gwq hQ ?_|refine hP _ _ (by kernel_rfl) λ_=>?_);clear hQ hP Q)|refine gwC ?_ ?_<;>intro hb<;>try (cases hb;done))
 rfl
@[simp] theorem jp8 (n:Int) (K:Value->Prop):za2 prog G0 93 #[.bool true,.int .i64 n] K↔K (.tuple #[]):=zaf G0W (by kernel_rfl) (zhs (jaw n))
theorem z3z (z:Int):Ret prog G0 149 #[wd z] (.int .i64 (za1 (uz z) / 2)):=by
 refine zav G0F func149 rfl call149 rfl (by simp) (by simp [ntmps149]) ?_
 intro C hC hC0 hY
 have b0:=zf0 z 0
 have b1:=zf0 z 1
 have b2:=zf0 z 2
 have b3:=zf0 z 3
 have k3:=z01 z
 have k2:=z00 z
 have k1:=z0z z
 have k0:=z0y z
 have m3:Int.bmod (192+za1 (wi z 3)) 18446744073709551616=192+za1 (wi z 3):=bm (by omega) (by omega)
 have m2:Int.bmod (128+za1 (wi z 2)) 18446744073709551616=128+za1 (wi z 2):=bm (by omega) (by omega)
 have m1:Int.bmod (64+za1 (wi z 1)) 18446744073709551616=64+za1 (wi z 1):=bm (by omega) (by omega)
 have t3:(192+za1 (wi z 3)).tdiv 2=(192+za1 (wi z 3)) / 2:=Int.tdiv_eq_ediv_of_nonneg (by omega)
 have t2:(128+za1 (wi z 2)).tdiv 2=(128+za1 (wi z 2)) / 2:=Int.tdiv_eq_ediv_of_nonneg (by omega)
 have t1:(64+za1 (wi z 1)).tdiv 2=(64+za1 (wi z 1)) / 2:=Int.tdiv_eq_ediv_of_nonneg (by omega)
 have t0:(za1 (wi z 0)).tdiv 2=za1 (wi z 0) / 2:=Int.tdiv_eq_ediv_of_nonneg (by omega)
 have u3:Int.bmod ((192+za1 (wi z 3)) / 2) 18446744073709551616=(192+za1 (wi z 3)) / 2:=bm (by omega) (by omega)
 have u2:Int.bmod ((128+za1 (wi z 2)) / 2) 18446744073709551616=(128+za1 (wi z 2)) / 2:=bm (by omega) (by omega)
 have u1:Int.bmod ((64+za1 (wi z 1)) / 2) 18446744073709551616=(64+za1 (wi z 1)) / 2:=bm (by omega) (by omega)
 have u0:Int.bmod (za1 (wi z 0) / 2) 18446744073709551616=za1 (wi z 0) / 2:=bm (by omega) (by omega)
 repeat' (first|refine zad ?_|refine zag ?_|refine gwA ?_|(refine gwX ?_;intro Q hQ hP;simp [hC,hY,zbp,zbx,m1,m2,m3,t0,t1,t2,t3,u0,u1,u2,u3];(first|refine gwq hQ ?_|refine hP _ _ (by kernel_rfl) λ_=>?_);clear hQ hP Q)|refine gwC ?_ ?_<;>intro hb<;>try (cases hb;done))
 all_goals
  refine ⟨.inr trivial,?_⟩
  simp [results149]
  simp_all
@[simp] theorem jp7 (z:Int) (K:Value->Prop):za2 prog G0 149 #[Value.agg #[.int .u64 (wi (z) 0),.int .u64 (wi (z) 1),.int .u64 (wi (z) 2),.int .u64 (wi (z) 3)]] K↔K (.int .i64 (za1 (uz z) / 2)):=zaf G0W (by kernel_rfl) (z3z z)
theorem z8b (a:Int) (k:Nat) (h100:100<=k):Fun prog G0 139 #[wd a] G0 [] (.new (.func (.func 148) #[] #[.pointer (some ⟨k,0,none⟩)]) [(k,wb a)]):=by
 have e0:rst G0 []=G0:=zjr G0F []
 refine zpa (B:=200) (λj=>if j=k then 200 else j) G0F (λ_ _=>rfl) func139 rfl call139 (by simp [zap,zau,zaj,zal]) (by rw [e0];exact zew _) ?_ (by simp [ntmps139]) (by omega) (by rw [e0];exact λx hx=>zr9 x (by omega)) (λj hj=>?_) ?_ ?_ ?_ ?_
 ·refine ⟨by simp [zap,zau,zaj,zal,zc7,zab],by simp [zab];omega,λq b c h1 h2=>?_⟩
  simp at h1 h2
  rw [h1.2,h2.2]
 ·rw [e0] at hj;have:=zlg hj;rw [if_neg (by omega)]
 ·simp [e0,dom]
 ·simp
 ·simp [wb,zae,zaj,zal]
 ·intro C hC hC0 hY
  rw [e0]
  repeat' (first|refine gwA ?_|(refine gwX ?_;intro Q hQ hP;simp [hC,hY];(first|refine gwq hQ ?_|refine hP _ _ (by kernel_rfl) λ_=>?_);clear hQ hP Q)|refine gwC ?_ ?_<;>intro hb<;>try (cases hb;done))
  refine ⟨.inr trivial,?_⟩
  simp [results139,ren,zas,zan,zao,wb]
  intro j hj hj2
  have:=zlg hj
  omega
theorem jht (t r j:Nat) (hr:r<64):wi (2^(64*t+r)) j=if j=t then 2^r else 0:=by
 by_cases h:j=t
 ·subst h
  rw [if_pos rfl]
  unfold wi
  rw [Int.pow_add,Int.mul_ediv_cancel_left _ (by have:=zbi (64*j);omega)]
  exact Int.emod_eq_of_lt (Int.le_of_lt (zbi _)) (by
   have:(2:Int)^r<2^64:=by exact_mod_cast Nat.pow_lt_pow_right (by omega) hr
   exact this)
 ·rw [if_neg h]
  have:=znw 0 t r j hr h
  simp only [Int.zero_mul,Int.zero_add] at this
  rw [this,zd9]
theorem z0s (t r:Nat) (ht:t<4) (hr:r<64):(#[.int .u64 0,.int .u64 0,.int .u64 0,.int .u64 0]:Array Value).setIfInBounds t (.int .u64 (2^r))=#[.int .u64 (wi (2^(64*t+r)) 0),.int .u64 (wi (2^(64*t+r)) 1),.int .u64 (wi (2^(64*t+r)) 2),.int .u64 (wi (2^(64*t+r)) 3)]:=by
 simp only [jht _ _ _ hr]
 have:t=0\/t=1\/t=2\/t=3:=by omega
 rcases this with rfl|rfl|rfl|rfl<;>simp
def zob (M:Int):List (Array Value):=(List.range (M+1).toNat).map λ(i:Nat)=>#[wd (2^(M - (i:Int)).toNat)]
theorem zj9 (M:Int):(zob M).length=(M+1).toNat:=by simp [zob]
theorem zmv (M:Int) (i:Nat) (h:i<(M+1).toNat):(zob M)[i]? = some #[wd (2^(M - (i:Int)).toNat)]:=by simp [zob,h]
def aHp (a:Int):Hp:=hpL G0 [(100,wb a)]
def z2i (a M:Int) (l i:Nat):GS :=
 ⟨tsL [(0,.func (.yield l) #[] #[]),(1,.pointer (some ⟨100,0,none⟩)),(3,.int .i64 (M - i))],aHp a,300,i⟩
theorem jdr (a:Int):zhl prog G0 148 #[.pointer (some ⟨100,0,none⟩)] (aHp a) [100] (zob (za1 (uz a) / 2)):=by
 have e0:rst (aHp a) [100]=aHp a:=zdr G0F (by simp)
 refine zm9 (B:=200) (v:=.tuple #[]) G0F (λk hk=>za6 (by simp) hk) func148 rfl call148 ?_ ?_ (by simp [ntmps148]) (by omega) ?_ ?_
 ·rw [e0];simp [zap,zau,zaj,zal,dom,aHp]
 ·rw [e0]
  intro k c hk
  rcases za8 hk with h|h
  ·simp at h
   rcases h with ⟨_,rfl⟩
   simp [wb,zae,zaj,zal]
  ·exact zew _ _ _ h
 ·rw [e0]
  intro x hx
  simp [aHp,show ¬x=100 by omega,show 100<=x by omega]
 ·intro C l stop hC hC0 hY
  rw [e0] at hC0 |-
  have hnb:=zfc 256 (z5b a).2
  have hM:0<=za1 (uz a) / 2/\za1 (uz a) / 2<=128:=by omega
  have hlen:=zj9 (za1 (uz a) / 2)
  repeat' (first|refine gwA ?_|(refine gwX ?_;intro Q hQ hP;simp [hC,hY,aHp,wb];(first|refine gwq hQ ?_|refine hP _ _ (by kernel_rfl) λ_=>?_);clear hQ hP Q)|refine gwC ?_ ?_<;>intro hb<;>try (cases hb;done))
  generalize hMe:za1 (uz a) / 2=M at *
  generalize hxs:zob M=xs at *
  refine zb3 (min stop xs.length) (z2i a M l) ?_ ?_ ?_
  ·refine zbc _ 300 hC G0F (m:=[(100,wb a)]) (m0:=[(100,wb a)]) hC0 (by omega) ?_ ?_ ?_
   ·simp [dom]
   ·simp [wb]
   ·simp [wb]
  ·intro i hi
   have hs:i<stop:=by omega
   have hq:(i != stop)=true:=by simp;omega
   have hle:i<=stop:=by omega
   obtain ⟨n,hn⟩:∃ n:Nat,M - (i:Int)=n:=⟨(M - i).toNat,by omega⟩
   have g1:(i:Int)<=M:=by omega
   have hx:xs[i]? = some #[wd (2^n)]:=by
    rw [<-hxs,zmv M i (by omega),hn];rfl
   simp only [jbj] at hx
   have g4:Int.bmod ((n:Int) - 1) 18446744073709551616=M - ((i+1:Nat):Int):=by rw [bm (by omega) (by omega)];omega
   obtain ⟨t,r,hr,hn'⟩:∃ t r,r<64/\n=64*t+r:=⟨n / 64,n%64,by omega,by omega⟩
   have tq:((n:Int)).tdiv 64=t:=by rw [Int.tdiv_eq_ediv_of_nonneg (by omega)];omega
   have tm:((n:Int)).tmod 64=r:=by rw [Int.tmod_eq_emod_of_nonneg (by omega)];omega
   have t4:t<4:=by omega
   have t4':(t:Int)<4:=by omega
   have t0:(0:Int)<=t:=by omega
   have tb:Int.bmod (t:Int) 18446744073709551616=t:=bm (by omega) (by omega)
   have t3:t<=3:=Nat.le_of_lt_succ t4
   have m1:min r 64=r:=by omega
   have m2:(2:Int)^r%18446744073709551616=2^r:=Int.emod_eq_of_lt (Int.le_of_lt (zbi _)) (by
    have:(2:Int)^r<2^64:=by exact_mod_cast Nat.pow_lt_pow_right (by omega) hr
    exact this)
   have hset:=z0s t r t4 hr
   rw [<-hn'] at hset
   unfold z2i
   repeat' (first|refine gwA ?_|(refine gwX ?_;intro Q hQ hP;simp [hC,hY,aHp,wb,hs,hq,hle,hn,g1,g4,hx,tq,tm,t4,t4',t0,tb,t3,m1,m2,hset];(first|refine gwq hQ ?_|refine hP _ _ (by kernel_rfl) λ_=>?_);clear hQ hP Q)|refine gwC ?_ ?_<;>intro hb<;>try (cases hb;done))
   refine zbc _ 300 hC G0F (m:=[(100,wb a)]) (m0:=[(100,wb a)]) hC0 (by omega) ?_ ?_ ?_
   ·simp [dom]
   ·simp [wb]
   ·simp [wb]
  ·by_cases h4:xs.length<=stop
   ·rw [Nat.min_eq_right h4]
    have g1:¬((xs.length:Int)<=M):=by omega
    unfold z2i
    repeat' (first|refine gwA ?_|(refine gwX ?_;intro Q hQ hP;simp [hC,hY,aHp,wb,g1];(first|refine gwq hQ ?_|refine hP _ _ (by kernel_rfl) λ_=>?_);clear hQ hP Q)|refine gwC ?_ ?_<;>intro hb<;>try (cases hb;done))
    refine ⟨.inl trivial,by simp [results148],?_⟩
    show xs.length=_
    omega
   ·rw [Nat.min_eq_left (by omega)]
    obtain ⟨n,hn⟩:∃ n:Nat,M - (stop:Int)=n:=⟨(M - stop).toNat,by omega⟩
    have g1:(stop:Int)<=M:=by omega
    have hx:xs[stop]? = some #[wd (2^n)]:=by
     rw [<-hxs,zmv M stop (by omega),hn];rfl
    simp only [jbj] at hx
    obtain ⟨t,r,hr,hn'⟩:∃ t r,r<64/\n=64*t+r:=⟨n / 64,n%64,by omega,by omega⟩
    have tq:((n:Int)).tdiv 64=t:=by rw [Int.tdiv_eq_ediv_of_nonneg (by omega)];omega
    have tm:((n:Int)).tmod 64=r:=by rw [Int.tmod_eq_emod_of_nonneg (by omega)];omega
    have t4:t<4:=by omega
    have t4':(t:Int)<4:=by omega
    have t0:(0:Int)<=t:=by omega
    have tb:Int.bmod (t:Int) 18446744073709551616=t:=bm (by omega) (by omega)
    have t3:t<=3:=Nat.le_of_lt_succ t4
    have m1:min r 64=r:=by omega
    have m2:(2:Int)^r%18446744073709551616=2^r:=Int.emod_eq_of_lt (Int.le_of_lt (zbi _)) (by
     have:(2:Int)^r<2^64:=by exact_mod_cast Nat.pow_lt_pow_right (by omega) hr
     exact this)
    have hset:=z0s t r t4 hr
    rw [<-hn'] at hset
    unfold z2i
    repeat' (first|refine gwA ?_|(refine gwX ?_;intro Q hQ hP;simp [hC,hY,aHp,wb,hn,g1,hx,tq,tm,t4,t4',t0,tb,t3,m1,m2,hset];(first|refine gwq hQ ?_|refine hP _ _ (by kernel_rfl) λ_=>?_);clear hQ hP Q)|refine gwC ?_ ?_<;>intro hb<;>try (cases hb;done))
    refine ⟨.inr trivial,by simp [results148],?_⟩
    show stop+1=_
    omega
def rp (a:Int) (K:Nat):Nat->Int
 | 0=>0
 | i+1=>if (rp a K i+2^(K - 1 - i))*(rp a K i+2^(K - 1 - i))<=a then rp a K i+2^(K - 1 - i) else rp a K i
theorem ztp (a:Int) (K:Nat) (h0:0<=a) (h:a<2^K*2^K):∀ i,i<=K->0<=rp a K i/\rp a K i*rp a K i<=a/\a<(rp a K i+2^(K - i))*(rp a K i+2^(K - i))
 | 0,_=>by simp [rp];exact ⟨h0,h⟩
 | i+1,hi=>by
  obtain ⟨h1,h2,h3⟩:=ztp a K h0 h i (by omega)
  have e1:K - i=(K - 1 - i)+1:=by omega
  have e2:K - (i+1)=K - 1 - i:=by omega
  rw [e1,Int.pow_succ] at h3
  rw [e2]
  have hp:=zbi (K - 1 - i)
  unfold rp
  split
  ·rename_i hc
   refine ⟨by omega,hc,?_⟩
   rw [Int.add_assoc,show (2:Int)^(K - 1 - i)+2^(K - 1 - i)=2^(K - 1 - i)*2 by omega]
   exact h3
  ·rename_i hc
   exact ⟨h1,h2,by omega⟩
def isq (a:Int):Int:=rp a (za1 a / 2+1).toNat (za1 a / 2+1).toNat
theorem zm8 (a:Int) (h0:0<=a):a<2^(za1 a / 2+1).toNat*2^(za1 a / 2+1).toNat:=by
 rw [<-Int.pow_add]
 by_cases h:a=0
 ·subst h;exact zbi _
 ·obtain ⟨k,hk,k1,k2⟩:=ze0 (x:=a) (by omega)
  refine Int.lt_of_lt_of_le k2 ?_
  rw [hk]
  exact_mod_cast Nat.pow_le_pow_right (by omega) (by omega)
theorem zfz (a:Int) (h0:0<=a):0<=isq a/\isq a*isq a<=a/\a<(isq a+1)*(isq a+1):=by
 have:=ztp a (za1 a / 2+1).toNat h0 (zm8 a h0) (za1 a / 2+1).toNat (Nat.le_refl _)
 simpa [isq] using this
theorem ja4 {x y:Int} (hx:0<=x) (hy:0<=y) (h:x*x<y*y):x<y:=by
 refine Classical.byContradiction λhn=>?_
 have:y*y<=x*x:=Int.mul_le_mul (by omega) (by omega) hy hx
 omega
theorem zd7 {a r:Int} (h0:0<=r) (h1:r*r<=a) (h2:a<(r+1)*(r+1)):isq a=r:=by
 have ha:0<=a:=Int.le_trans (Int.mul_nonneg h0 h0) h1
 obtain ⟨s0,s1,s2⟩:=zfz a ha
 have h3:=ja4 (x:=isq a) (y:=r+1) s0 (by omega) (by omega)
 have h4:=ja4 (x:=r) (y:=isq a+1) h0 (by omega) (by omega)
 omega
theorem z41 {x:Int} (B:Int) (hx:0<=x) (hB:0<=B) (h:x*x<B*B):x<B:=ja4 hx hB h
def jau (a r:Int):Hp:=hpL G0 [(200,wb a),(208,wb r)]
def z7g:Nat->Value:=tsL [(1,.pointer (some ⟨200,0,none⟩)),(2,.pointer (some ⟨208,0,none⟩))]
theorem jc5 (a:Int) (ha:wr a) (h0:a<0):zli prog G0 120 #[wd a] (.pan (erV 2)):=by
 refine zeq G0F func120 rfl call120 (λv h=>by cases h) (by simp) (by simp [ntmps120]) ?_
 intro C hC hC0 hY
 have s1:¬0<=zc2 (sz a) 0:=by rw [zcg ha];unfold zc2;split<;>(try split)<;>omega
 repeat' first|refine gwZ ?_|((first|refine gwR [1000093] ?_|refine gwD [1000093] ?_);intro Q hQ hP;(repeat first|simp [hC,hY,s1]|refine za4 (jav 2) ?_);(first|refine gwq hQ ?_|refine hP _ _ (by kernel_rfl) λ_=>?_))|refine gwC ?_ ?_<;>intro hb
 rfl
theorem zvr (a:Int) (ha:wr a) (h0:0<=a):Ret prog G0 120 #[wd a] (wd (isq a)):=by
 refine zav G0F func120 rfl call120 (by simp) (by simp) (by simp [ntmps120]) ?_
 intro C hC hC0 hY
 have s1:0<=zc2 (sz a) 0:=by rw [zcg ha];unfold zc2;split<;>(try split)<;>omega
 have hnb:=zfc 255 ha.2
 have hit:=jdr a
 have eu:uz a=a:=by unfold uz;have:=ha.2;omega
 rw [eu] at hit
 have hinv:=ztp a (za1 a / 2+1).toNat h0 (zm8 a h0)
 have hisq:isq a=rp a (za1 a / 2+1).toNat (za1 a / 2+1).toNat:=rfl
 have hM:0<=za1 a / 2/\za1 a / 2<=127:=by omega
 generalize za1 a / 2=M at *
 repeat' first|refine gwZ ?_|(refine gwX ?_;intro Q hQ hP;simp [hC,hY,s1];(first|refine gwq hQ ?_|refine hP _ _ (by kernel_rfl) λ_=>?_))|refine gwC ?_ ?_<;>intro hb
 refine zck [139] (by kernel_rfl) ?_;intro Q hQ hP;simp [hC,hY]
 refine zb2 (z8b a 256 (by omega)) (by simp) (λ_ _=>rfl) (by simp [Res.at]) ?_
 simp
 refine hQ _ _ _ _ ?_;clear hQ hP Q
 repeat' first|refine gwZ ?_|(refine gwX ?_;intro Q hQ hP;simp [hC,hY];(first|refine gwq hQ ?_|refine hP _ _ (by kernel_rfl) λ_=>?_))|refine gwC ?_ ?_<;>intro hb
 generalize hK:(M+1).toNat=K at *
 refine zg1 (f:=148) (rs:=[256]) (xs:=zob M) (caps:=#[.pointer (some ⟨256,0,none⟩)]) (by simp) ?_ ?_ (by simp [ntmps120]) z7g (λi=>jau a (rp a K i)) 300 K (by rw [zj9];omega) ?_ ?_ ?_ ?_ ?_
 ·rw [hC]
  refine zhl.cast (IterX.rn (λk=>if k=100 then 256 else k) G0F (λk hk=>za6 (by simp) hk) (rs:=[100]) ?_ hit) (by simp [zao]) (by simp)
  refine ⟨λk hk=>?_,?_,?_,?_⟩
  ·simp [aHp,show ¬k=100 by omega,show ¬k=200 by omega,show ¬k=208 by omega,show ¬k=256 by omega]
  ·simp
  ·simp [aHp,wb,Blk.rn,zan,zao]
  ·simp
 ·intro x hx
  simp only [zob,List.mem_map] at hx
  obtain ⟨i,_,rfl⟩:=hx
  simp
 ·refine zbc _ 300 hC G0F (m0:=[]) hC0 (by omega) ?_ ?_ ?_
  ·simp [dom]
  ·simp [wb,rp,zd9]
  ·simp
 ·simp [jau,dom]
 ·intro i hi t
  refine ze6 ?_ t
  simp [dom,jau]
 ·intro i x hi hx C1 l hC1 hh1 hY1
  have hCC:=hC
  have hC1':C1.G=G0:=hC1.trans hC
  obtain ⟨n,hn⟩:∃ n:Nat,M - (i:Int)=n:=⟨(M - i).toNat,by omega⟩
  rw [zmv M i (by omega),hn] at hx
  cases hx
  obtain ⟨r0,r1,r2⟩:=hinv i (by omega)
  have en:K - 1 - i=n:=by omega
  have hrs:rp a K (i+1)=if (rp a K i+2^n)*(rp a K i+2^n)<=a then rp a K i+2^n else rp a K i:=by
   rw [rp,en]
  generalize rp a K i=r at *
  have hau:=ha.2
  have hr:r<340282366920938463463374607431768211456:=z41 _ r0 (by decide) (by omega)
  have hn2:(2:Int)^n<=2^127:=by exact_mod_cast Nat.pow_le_pow_right (by omega) (by omega:n<=127)
  have hn0:=zbi n
  have t0:0<=r+2^n:=by omega
  have t1:r+2^n<680564733841876926926749214863536422912:=by omega
  have szt:sz (r+2^n)=r+2^n:=zhk t0 (Int.lt_trans t1 (by decide))
  have tt0:0<=(r+2^n)*(r+2^n):=Int.mul_nonneg t0 t0
  have hmul:zie (r+2^n) (r+2^n)=decide (¬((r+2^n)*(r+2^n)<57896044618658097711785492504343953926634992332820282019728792003956564819968)):=by
   unfold zie;rw [szt];congr 1
   exact propext ⟨λh1 h2=>h1 ⟨Int.le_trans (by decide) tt0,h2⟩,λh1 h2=>h1 h2.2⟩
  have sza:sz a=a:=zcg ha
  replace hC:=hC1'
  replace hY:=hY1
  simp only [hrs]
  generalize htt:(r+2^n)*(r+2^n)=T at *
  by_cases hov:T<57896044618658097711785492504343953926634992332820282019728792003956564819968
  ·have hm:zie (r+2^n) (r+2^n)=false:=by rw [hmul];simp [hov]
   have szT:sz T=T:=zhk tt0 hov
   by_cases hle:T<=a
   ·have hcmp:zc2 (sz T) (sz a)<=0:=by rw [szT,sza];unfold zc2;split<;>(try split)<;>omega
    rw [if_pos hle]
    unfold jau
    repeat' first|refine gwZ ?_|(refine gwX ?_;intro Q hQ hP;simp [hC,hY,za3,z7g];(first|refine gwq hQ ?_|refine hP _ _ (by kernel_rfl) λ_=>?_))|refine gwC ?_ ?_<;>intro hb
    intro C2 hC2 hh2 hY2
    replace hC:C2.G=G0:=hC2.trans hCC
    replace hY:=hY2
    repeat' first|refine gwZ ?_|(refine gwX ?_;intro Q hQ hP;simp [hC,hY,za3,z7g,wb,szt,htt,hm,hcmp];(first|refine gwq hQ ?_|refine hP _ _ (by kernel_rfl) λ_=>?_))|refine gwC ?_ ?_<;>intro hb
    refine zbc [] 300 hC1' G0F hh1 (by omega) ?_ ?_ ?_
    ·simp
    ·simp [wb]
    ·simp [wb]
   ·have hcmp:¬zc2 (sz T) (sz a)<=0:=by rw [szT,sza];unfold zc2;split<;>(try split)<;>omega
    rw [if_neg hle]
    unfold jau
    repeat' first|refine gwZ ?_|(refine gwX ?_;intro Q hQ hP;simp [hC,hY,za3,z7g];(first|refine gwq hQ ?_|refine hP _ _ (by kernel_rfl) λ_=>?_))|refine gwC ?_ ?_<;>intro hb
    intro C2 hC2 hh2 hY2
    replace hC:C2.G=G0:=hC2.trans hCC
    replace hY:=hY2
    repeat' first|refine gwZ ?_|(refine gwX ?_;intro Q hQ hP;simp [hC,hY,za3,z7g,wb,szt,htt,hm,hcmp];(first|refine gwq hQ ?_|refine hP _ _ (by kernel_rfl) λ_=>?_))|refine gwC ?_ ?_<;>intro hb
    refine zbc [] 300 hC1' G0F hh1 (by omega) ?_ ?_ ?_
    ·simp
    ·simp [wb]
    ·simp [wb]
  ·have hm:zie (r+2^n) (r+2^n)=true:=by rw [hmul];simp only [hov,not_false_eq_true,decide_true]
   have hle:¬T<=a:=λh=>hov (Int.lt_of_le_of_lt h hau)
   rw [if_neg hle]
   unfold jau
   repeat' first|refine gwZ ?_|(refine gwX ?_;intro Q hQ hP;simp [hC,hY,za3,z7g];(first|refine gwq hQ ?_|refine hP _ _ (by kernel_rfl) λ_=>?_))|refine gwC ?_ ?_<;>intro hb
   intro C2 hC2 hh2 hY2
   replace hC:C2.G=G0:=hC2.trans hCC
   replace hY:=hY2
   repeat' first|refine gwZ ?_|(refine gwX ?_;intro Q hQ hP;simp [hC,hY,za3,z7g,wb,szt,htt,hm];(first|refine gwq hQ ?_|refine hP _ _ (by kernel_rfl) λ_=>?_))|refine gwC ?_ ?_<;>intro hb
   refine zbc [] 300 hC1' G0F hh1 (by omega) ?_ ?_ ?_
   ·simp
   ·simp [wb]
   ·simp [wb]
 ·left
  refine ⟨by rw [zj9];omega,?_⟩
  rw [<-hisq]
  unfold jau z7g
  repeat' first|refine gwZ ?_|(refine gwX ?_;intro Q hQ hP;simp [hC,hY,wb];(first|refine gwq hQ ?_|refine hP _ _ (by kernel_rfl) λ_=>?_))|refine gwC ?_ ?_<;>intro hb
  refine ⟨.inr trivial,?_⟩
  simp [results120]
@[simp] theorem joy (a:Int) (ha:wr a) (h0:0<=a) (K:Value->Prop):za2 prog G0 120 #[Value.agg #[.int .u64 (wi (a) 0),.int .u64 (wi (a) 1),.int .u64 (wi (a) 2),.int .u64 (wi (a) 3)]] K↔K (wd (isq a)):=zaf G0W (by kernel_rfl) (zvr a ha h0)
theorem z39 (a:Int):Ret prog G0 90 #[wd a] (wd (a+1)):=by
 refine zav G0F func90 rfl call90 (by simp) (by simp) (by simp [ntmps90]) ?_
 intro C hC hC0 hY
 have i1:=zqs
 repeat' first|refine gwZ ?_|(refine gwX ?_;intro Q hQ hP;simp [hC,hY,i1];(first|refine gwq hQ ?_|refine hP _ _ (by kernel_rfl) λ_=>?_))|refine gwC ?_ ?_<;>intro hb
 refine ⟨.inr trivial,?_⟩
 simp [results90]
@[simp] theorem jp9 (a:Int) (K:Value->Prop):za2 prog G0 90 #[Value.agg #[.int .u64 (wi (a) 0),.int .u64 (wi (a) 1),.int .u64 (wi (a) 2),.int .u64 (wi (a) 3)]] K↔K (wd (a+1)):=zaf G0W (by kernel_rfl) (z39 a)
def hp1 (a:Int):Hp:=hpL G0 [(200,wb a)]
theorem z6j (a:Int) (ha:wr a) (h0:0<=a):isq a<340282366920938463463374607431768211456/\wr (isq a):=by
 obtain ⟨h1,h2,h3⟩:=zfz a h0
 have hau:=ha.2
 have h4:=z41 340282366920938463463374607431768211456 h1 (by decide) (by omega)
 exact ⟨h4,Int.le_trans (by decide) h1,Int.lt_trans h4 (by decide)⟩
theorem zsq {a b:Int} (ha:wr a) (h0:0<=a) (hb:0<b):wr (a / b)/\0<=a / b:=by
 have h1:0<=a / b:=Int.ediv_nonneg h0 (by omega)
 exact ⟨⟨Int.le_trans (by decide) h1,Int.lt_of_le_of_lt (Int.ediv_le_self b h0) ha.2⟩,h1⟩
theorem z60 {a:Int} (h0:0<=a):a≠lst:=λe=>by rw [e] at h0;exact absurd h0 (by decide)
theorem jf2 (a b:Int) (ha:wr a) (hb:wr b) (h0:0<=a) (hb0:0<b):Ret prog G0 91 #[wd a,wd b] (wd (isq (a / b))):=by
 refine zav G0F func91 rfl call91 (by simp) (by simp) (by simp [ntmps91]) ?_
 intro C hC hC0 hY
 have hz:=z1o hb (by omega)
 have s1:0<=zc2 (sz a) 0:=by rw [zcg ha];unfold zc2;split<;>(try split)<;>omega
 have s2:0<zc2 (sz b) 0:=by rw [zcg hb];unfold zc2;split<;>(try split)<;>omega
 obtain ⟨d1,d2⟩:=zsq ha h0 hb0
 have hl:=z60 h0
 repeat' first|refine gwZ ?_|(refine gwX ?_;intro Q hQ hP;simp [hC,hY,hz,s1,s2,ha,hb,hb0,hl,d1,d2];(first|refine gwq hQ ?_|refine hP _ _ (by kernel_rfl) λ_=>?_))|refine gwC ?_ ?_<;>intro hb
 refine ⟨.inr trivial,?_⟩
 simp [results91]
@[simp] theorem rof (a b:Int) (ha:wr a) (hb:wr b) (h0:0<=a) (hb0:0<b) (K:Value->Prop):za2 prog G0 91 #[Value.agg #[.int .u64 (wi (a) 0),.int .u64 (wi (a) 1),.int .u64 (wi (a) 2),.int .u64 (wi (a) 3)],Value.agg #[.int .u64 (wi (b) 0),.int .u64 (wi (b) 1),.int .u64 (wi (b) 2),.int .u64 (wi (b) 3)]] K↔K (wd (isq (a / b))):=zaf G0W (by kernel_rfl) (jf2 a b ha hb h0 hb0)
theorem z4r (a b:Int) (ha:wr a) (hb:wr b) (h0:0<=a) (hb0:0<b):Fun prog G0 88 [.pointer (some ⟨200,0,none⟩),.pointer (some ⟨208,0,none⟩)].toArray (hp2 a b) [200,208] (.ret (wd ((isq (a / b)+1) / 2)) []):=by
 refine zfn (B:=300) G0F (λk hk=>za6 (by simp) hk) func88 rfl call88 ?_ ?_ ⟨zak (by simp),by simp [zab],by simp,by simp⟩ (by simp [ntmps88]) (by omega) ?_ ?_
 ·rw [zgo];simp [hp2,dom]
 ·rw [zgo];exact zlw a b _
 ·rw [zgo];exact zjy a b
 ·intro C hC hC0 hY
  rw [zgo] at hC0 |-
  obtain ⟨d1,d2⟩:=zsq ha h0 hb0
  obtain ⟨q0,q1⟩:=z6j _ d1 d2
  have q2:=(zfz _ d2).1
  have w2:wr 2:=by unfold wr;omega
  have w1:wr (isq (a / b)+1):=⟨Int.le_trans (by decide) (by omega:0<=isq (a / b)+1),by omega⟩
  have wl:isq (a / b)+1≠lst:=z60 (by omega)
  have i2:i64 2:=by decide
  repeat' first|refine gwZ ?_|(refine gwX ?_;intro Q hQ hP;simp [hC,hY,hp2,wb,ha,hb,h0,hb0,w1,wl,w2,i2];(first|refine gwq hQ ?_|refine hP _ _ (by kernel_rfl) λ_=>?_))|refine gwC ?_ ?_<;>intro hb
  refine ⟨.inr rfl,by simp [results88],λk hk=>?_⟩
  have hk3:k<300:=Classical.byContradiction λh=>hk (zjy a _ k (by omega))
  simp (disch:=omega) only [zcz]
  rfl
theorem zrr (a b:Int) (ha:wr a) (hb:wr b) (h0:0<=a) (hb0:0<b):Ret prog G0 70 #[wd a,wd b] (.tuple #[wd ((isq (a / b)+1) / 2),.int .i64 0]):=by
 refine zav G0F func70 rfl call70 (by simp) (by simp) (by simp [ntmps70]) ?_
 intro C hC hC0 hY
 repeat' first|refine gwZ ?_|((first|refine gwR [87] ?_|refine gwD [87] ?_);intro Q hQ hP;(repeat first|simp [hC,hY]|refine zb2 (hp':=hp2 a b) (z0q (λk hk=>za6 (by simp) hk) (by simp) rfl (by simp) (z4r a b ha hb h0 hb0)) (by simp [hp2,wb]) (λk hk=>za6 (by simp) hk) trivial ?_);(first|refine gwq hQ ?_|refine hP _ _ (by kernel_rfl) λ_=>?_))|refine gwC ?_ ?_<;>intro hb
 refine ⟨.inr trivial,?_⟩
 simp [results70,zd9]
theorem zh7 {n:Int} (h:i64 n):wr n:=by unfold i64 at h;unfold wr;omega
end Go.Gy
namespace Go.Gy
open Go Go.RowKit Go.Proofs
end Go.Gy
namespace Go.Gy
open Go Go.RowKit Go.Proofs Go.Proofs.Tryz
def lmB:Blk:=⟨#[.int .i64 (-2097152),.int .i64 2097152,.int .i64 1,.int .i64 2097152,.int .i64 1,.int .i64 1048576,.int .i64 1,.int .i64 1024,.int .i64 (-2097152),.int .i64 2097152,.int .i64 0,.int .i64 13194139533312],.ty 97⟩
def G1:Hp:=hpL G0 [(0,lmB)]
theorem G1F:zbm G1:=λk b h=>by
 rcases za8 h with h|h
 ·simp at h
  obtain ⟨rfl,rfl⟩:=h
  exact ⟨by omega,by simp [lmB]⟩
 ·exact G0F k b h
@[simp] theorem zhh (k:Nat) (h:100<=k):G1 k=none:=by
 cases hb:G1 k with
 | none=>rfl
 | some b=>have:=(G1F k b hb).1;omega
@[simp] theorem zn1:G1 0=some lmB:=by simp [G1]
theorem zwn {k:Nat} (h:dom G1 k):k<100:=by
 refine Classical.byContradiction λhk=>?_
 exact h (zhh k (by omega))
theorem zex (D:Nat->Prop) (k:Nat) (b:Blk) (h:G1 k=some b):b.ids D:=Blk.flat_ids ((G1F k b h).2)
theorem G1W:∃ W,GOK G1 W:=⟨{ (default:World) with heap:=Array.ofFn (n:=100) λk=>match G1 k.1 with|some b=>b.obj0|none=>.cells #[] 0 (0,0) },λk b h=>by
 have hk:=(G1F k b h).1
 simp [hk,h]⟩
theorem zsc (W:World) (h:GOK G1 W):GOK G0 W:=λk b hk=>h k b (by
 have h0:¬k=0:=λe=>by subst e;simp [G0,G0L] at hk
 simp [G1,h0,hk])

@[simp] theorem jsd (n:Int) (h:i64 n) (K:Value->Prop):za2 prog G1 92 #[.int .i64 n] K↔K (wd n):=zaf G1W (by kernel_rfl) ((z1j n h).up zsc)
@[simp] theorem jqs (a b:Int) (K:Value->Prop):za2 prog G1 94 #[Value.agg #[.int .u64 (wi (a) 0),.int .u64 (wi (a) 1),.int .u64 (wi (a) 2),.int .u64 (wi (a) 3)],Value.agg #[.int .u64 (wi (b) 0),.int .u64 (wi (b) 1),.int .u64 (wi (b) 2),.int .u64 (wi (b) 3)]] K↔K (.tuple #[wd (sz a*sz b),.bool (zie a b)]):=zaf G1W (by kernel_rfl) ((zt1 a b).up zsc)
@[simp] theorem jqr (z:Int) (K:Value->Prop):za2 prog G1 73 #[Value.agg #[.int .u64 (wi (z) 0),.int .u64 (wi (z) 1),.int .u64 (wi (z) 2),.int .u64 (wi (z) 3)]] K↔K (.tuple #[.int .i64 (if i64 (sz z) then sz z else 0),.bool (decide (i64 (sz z)))]):=zaf G1W (by kernel_rfl) ((z5k z).up zsc)
@[simp] theorem jou (a b:Int) (ha:wr a) (hb:wr b) (h0:0<=a) (hb0:0<b) (K:Value->Prop):za2 prog G1 70 #[Value.agg #[.int .u64 (wi (a) 0),.int .u64 (wi (a) 1),.int .u64 (wi (a) 2),.int .u64 (wi (a) 3)],Value.agg #[.int .u64 (wi (b) 0),.int .u64 (wi (b) 1),.int .u64 (wi (b) 2),.int .u64 (wi (b) 3)]] K↔K (.tuple #[wd ((isq (a / b)+1) / 2),.int .i64 0]):=zaf G1W (by kernel_rfl) ((zrr a b ha hb h0 hb0).up zsc)
@[simp] theorem jrk (n:Int) (h:i64 n) (K:Value->Prop):za2 prog G1 81 #[.int .i64 n] K↔K (wd n):=zaf G1W (by kernel_rfl) ((zzj n h).up zsc)
@[simp] theorem jpr (a b:Int) (K:Value->Prop):za2 prog G1 80 #[Value.agg #[.int .u64 (wi (a) 0),.int .u64 (wi (a) 1),.int .u64 (wi (a) 2),.int .u64 (wi (a) 3)],Value.agg #[.int .u64 (wi (b) 0),.int .u64 (wi (b) 1),.int .u64 (wi (b) 2),.int .u64 (wi (b) 3)]] K↔K (.tuple #[wd (sz a*sz b),.bool (zie a b)]):=zaf G1W (by kernel_rfl) ((ztd a b).up zsc)
theorem zdk (n:Int):zli prog G1 67 #[.bool true,.int .i64 n] (.ret (.tuple #[])):=by
 refine zeq G1F func67 rfl call67 (λv h=>by cases h;simp) (by simp) (by simp [ntmps67]) ?_
 intro C hC hC0 hY
 repeat' first|refine gwZ ?_|(refine gwX ?_;intro Q hQ hP;simp [hC,hY];(first|refine gwq hQ ?_|refine hP _ _ (by kernel_rfl) λ_=>?_))|refine gwC ?_ ?_<;>intro hb
 exact ⟨.inl trivial,by simp [results67]⟩
theorem zdj (n:Int):zli prog G1 67 #[.bool false,.int .i64 n] (.pan (erV n)):=by
 refine zeq G1F func67 rfl call67 (λv h=>by cases h) (by simp) (by simp [ntmps67]) ?_
 intro C hC hC0 hY
 repeat' first|refine gwZ ?_|(refine gwX ?_;intro Q hQ hP;simp [hC,hY];(first|refine gwq hQ ?_|refine hP _ _ (by kernel_rfl) λ_=>?_))|refine gwC ?_ ?_<;>intro hb
 rfl
def z1q:Array Value:=#[.pointer (some ⟨100000,0,none⟩)]
def hpP (n:Int):Hp:=hpL G1 [(100000,eB n)]
theorem ziv (n:Int):rst (hpP n) [100000]=hpP n:=zdr G1F (by simp)
theorem zx8 (n:Int) (k:Nat) (b:Blk) (D:Nat->Prop) (h:hpP n k=some b):b.ids D:=by
 rcases za8 h with h|h
 ·simp at h
  rcases h with ⟨_,rfl⟩
  simp [eB]
 ·exact zex _ _ _ h
@[simp] theorem z7a {dst:Option Tmp} {x:Operand} {T:TypeId} {ps:String} {af:Array Edge} {g:Option (Nat×Bool)} {V:XV} {yc nk:Nat} {ts:Nat->Value} {hp:Hp} {C:Eff->Prop} (h:ifE (gev ts x)=true) (hx:okX ts hp x) :
  opX prog G1 V yc ⟨dst,.typeAssert x 20 32 false,T,ps,af,g⟩ ts hp nk C↔C (val (ifN (gev ts x)) []):=by
 obtain ⟨n,hn⟩:=zyc h
 refine zig (K:=λv=>C (val v [])) ?_ ?_ λW=>?_
 ·intro y hy
  simp [Op.operands] at hy
  subst hy
  exact ⟨hx,by rw [hn];rfl⟩
 ·rw [hn];rfl
 ·simp only [execOp,hn]
  kernel_rfl
theorem jov:Array.replicate 6 undef=#[undef,undef,undef,undef,undef,undef]:=rfl
theorem jl9 (n:Int):RecF prog G1 66 z1q (hpP 0) [100000] (erV n) [(100000,eB n)]:=by
 refine ⟨⟨_,func66⟩,call66,?_,?_⟩
 ·refine zqj (k:=1) func66 rfl λargs c₀ cs W hk hu=>?_
  obtain ⟨p0,rfl⟩:∃ p0,args=#[p0]:=by
   rcases args with ⟨l⟩
   match l,hk with
   | [a],_=>exact ⟨a,rfl⟩
  have hn:f66.ntmps=7:=ntmps66
  refine wpSIn_seq (wpSIn_region ?_)
  simp [wpOpsSIn,List.range,List.range.loop,go_sem,recoverD,hu,hn,jov]
  refine wpSIn_seq (wpSIn_region ?_)
  simp [wpOpsSIn,List.range,List.range.loop,go_sem,ztg]
  refine wpSIn_cond (t:=false) (by simp [Act.eval]) ?_
  refine wpSIn_of_wpIn rfl (wpIn_skip ?_)
  exact ⟨.inl rfl,rfl,rfl,rfl,.tuple #[],by simp [results,results66,go_sem]⟩
 ·refine zkb (B:=200000) (A:=#[.pointer (some ⟨100000,0,none⟩),erV n,erV n,undef,undef,undef,undef]) G1F (λk hk=>za6 (by simp) hk) func66 rfl (by simp [ntmps66]) ?_ ?_ ?_ ?_ ?_ ?_ (by omega) ?_ ?_
  ·rw [ziv];simp [hpP,dom]
  ·intro r c₀ cs W Q hu hQ
   have hrn:∀ v,za0 v=true->ren r v=v:=λv hv=>zax hv
   simp only [List.map_toArray,List.map_cons,List.map_nil,z1q] at hQ |-
   generalize ren r (.pointer (some ⟨100000,0,none⟩))=p0 at hQ |-
   simp only [hrn (erV n) rfl,zcp] at hQ
   have hn:f66.ntmps=7:=ntmps66
   simp [wpOpsSIn,List.range,List.range.loop,go_sem,recoverD,hu,jcv,erV,hn,jov]
   exact hQ
  ·rw [ziv];exact λk b h=>zx8 0 k b _ h
  ·rw [ziv];simp [hpP,dom]
  ·intro k b c h1 h2
   simp at h1 h2
   rw [h1.2,h2.2]
  ·simp [eB]
  ·rw [ziv];exact λx hx=>by simp [hpP,show ¬x=100000 by omega,show 100<=x by omega]
  ·intro C hC hC0 hY
   rw [ziv]
   repeat' first|refine gwZ ?_|(refine gwX ?_;intro Q hQ hP;simp [hC,hY,hpP,eB];(first|refine gwq hQ ?_|refine hP _ _ (by kernel_rfl) λ_=>?_))|refine gwC ?_ ?_<;>intro hb
   refine ⟨.inl trivial,by simp [results66],λk hk=>?_⟩
   simp [eB,hpP]
theorem zz0 {g:FuncId} {capv:List Value} {hp:Hp} {rs:List Nat} {ws:List (Nat×Blk)} (hG:∀ k,k<100->hp k=G1 k) (hrs:∀ k∈rs,k<100000) (hc:capv.isEmpty=false) (hpl:capv.all zbs=true)
  (h:Fun prog G1 g capv.toArray hp rs (.ret (.tuple #[]) ws)) :
  Fun prog G1 44 #[.func (.func g) #[] capv.toArray] hp rs (.ret (.int .i64 0) ws):=by
 have hids:∀ x∈capv,zal (dom (rst hp rs)) x:=λx hx=>(zcb (List.all_eq_true.1 hpl x hx)).1 (h.ids x (by simpa using hx))
 have hbig:∀ x,100000<=x->rst hp rs x=none:=λx hx=>by
  unfold rst;rw [if_neg];rintro (h1|h1)
  ·omega
  ·have:=hrs x h1;omega
 refine zm5 (out:=.ret (.int .i64 0) ws) (B:=100000) (B1:=100008) (id:=1) (t:=3) (ts1:=upd (λt=>[Value.func (.func g) #[] capv.toArray][t]?.getD undef) 2 (zlv 100000))
  (hp1:=upd (rst hp rs) 100000 (some (eB 0))) z1q G1F hG func44 rfl (by simp [ntmps44]) call44 ⟨_,_,_,_,jl9 0⟩ ?_ h.closed ?_ (by simp [ntmps44]) (by omega) hbig ?_ ?_ ?_ ?_ ?_ ?_
 ·simpa using hids
 ·exact ⟨zak (by simp),h.fits.2⟩
 ·intro C hC hC0 hY
  repeat' first|refine gwZ ?_|(refine gwX ?_;intro Q hQ hP;simp [hC,hY];(first|refine gwq hQ ?_|refine hP _ _ (by kernel_rfl) λ_=>?_))|refine gwC ?_ ?_<;>intro hb
  exact ⟨trivial,rfl⟩
 ·intro k hk
  have h1:¬k=100000:=λe=>hk (hbig k (by omega))
  simp [h1]
 ·simp [okT,z1q]
 ·simp [z1q]
 ·simp [z1q]
 ·intro C d hC hC0 hY
  refine zf6 ?_
  refine zck [] (by kernel_rfl) ?_;intro Q hQ hP;simp [hC,hY,hc,hpl]
  have hk1:∀ k∈zab ws,k<100000:=λk hk=>hrs k (h.fits.2.1 k hk).1
  have hk2:(100000:Nat)∉zab ws:=λhm=>by have:=hk1 _ hm;omega
  have w1:zaw (upd (rst hp rs) 100000 (some (eB 0))) ws 100000=some (eB 0):=by
   rw [zbb hk2];simp
  refine zb2 (hp':=hp) h (λk hk=>?_) hG trivial ?_
  ·have:=hrs k hk
   simp [rst,hk,show ¬k=100000 by omega]
  simp only [eB] at w1
  simp [w1,eB]
  refine hQ _ _ _ _ ?_
  repeat' first|refine gwZ ?_|(refine gwX ?_;intro Q hQ hP;simp [hC,hY,w1,eB];(first|refine gwq hQ ?_|refine hP _ _ (by kernel_rfl) λ_=>?_))|refine gwC ?_ ?_<;>intro hb
  refine ⟨.inr rfl,by simp [results44],λk hk=>?_⟩
  have h1:¬k=100000:=λe=>hk (hbig k (by omega))
  rw [zdg hk2]
  simp [h1]
theorem zzz {g:FuncId} {capv:List Value} {hp:Hp} {rs:List Nat} {n:Int} (hG:∀ k,k<100->hp k=G1 k) (hrs:∀ k∈rs,k<100000) (hc:capv.isEmpty=false) (hpl:capv.all zbs=true)
  (h:Fun prog G1 g capv.toArray hp rs (.pan (erV n))) :
  Fun prog G1 44 #[.func (.func g) #[] capv.toArray] hp rs (.ret (.int .i64 n) []):=by
 have hids:∀ x∈capv,zal (dom (rst hp rs)) x:=λx hx=>(zcb (List.all_eq_true.1 hpl x hx)).1 (h.ids x (by simpa using hx))
 have hbig:∀ x,100000<=x->rst hp rs x=none:=λx hx=>by
  unfold rst;rw [if_neg];rintro (h1|h1)
  ·omega
  ·have:=hrs x h1;omega
 refine zm5 (out:=.pan (erV n) [100000] [(100000,eB n)] (.int .i64 n)) (B:=100000) (B1:=100008) (id:=1) (t:=3) (ts1:=upd (λt=>[Value.func (.func g) #[] capv.toArray][t]?.getD undef) 2 (zlv 100000))
  (hp1:=upd (rst hp rs) 100000 (some (eB 0))) z1q G1F hG func44 rfl (by simp [ntmps44]) call44 ⟨_,_,_,_,jl9 0⟩ ?_ h.closed ?_ (by simp [ntmps44]) (by omega) hbig ?_ ?_ ?_ ?_ ?_ ?_
 ·simpa using hids
 ·exact ⟨zak (by simp),by simp [zab],by simp,by simp⟩
 ·intro C hC hC0 hY
  repeat' first|refine gwZ ?_|(refine gwX ?_;intro Q hQ hP;simp [hC,hY];(first|refine gwq hQ ?_|refine hP _ _ (by kernel_rfl) λ_=>?_))|refine gwC ?_ ?_<;>intro hb
  exact ⟨trivial,rfl⟩
 ·intro k hk
  have h1:¬k=100000:=λe=>hk (hbig k (by omega))
  simp [h1]
 ·simp [okT,z1q]
 ·simp [z1q]
 ·simp [z1q]
 ·intro C d hC hC0 hY
  refine zf6 ?_
  refine zck [] (by kernel_rfl) ?_;intro Q hQ hP;simp [hC,hY,hc,hpl]
  refine zb2 (hp':=hp) h (λk hk=>?_) hG trivial ?_
  ·have:=hrs k hk
   simp [rst,hk,show ¬k=100000 by omega]
  simp
  refine hP _ _ λyc=>?_
  simp only [zk6]
  have e:∀ k,(k<100\/k∈[100000])->hpP 0 k=upd (rst hp rs) 100000 (some (eB 0)) k:=λk hk=>by
   rcases hk with hk|hk
   ·simp [hpP,show ¬k=100000 by omega,rst,hk,hG k hk]
   ·simp at hk;subst hk;simp [hpP]
  have er:rst (upd (rst hp rs) 100000 (some (eB 0))) [100000]=hpP 0:=by rw [<-zfu e,ziv]
  refine ⟨rfl,by simp [results44,eB],λk hk=>rfl,(jl9 n).under e,λk hk=>?_,λk hk=>?_,?_⟩
  ·rw [er] at hk;unfold dom at hk |-
   by_cases h1:k=100000
   ·subst h1;simp
   ·simp only [hpP,zai,zat,h1,if_false] at hk
    have hk100:=zwn hk
    simp [h1,rst,hk100,hG k hk100];exact hk
  ·rw [er]
   simp [zab] at hk
   subst hk
   exact ⟨by simp [hpP,dom],by omega,λhd=>hd (hbig _ (by omega))⟩
  ·rw [er];exact λk b hk=>zx8 0 k b _ hk
end Go.Gy
namespace Go.Gy
open Go Go.RowKit
section
variable {P:Program} {G G':Hp}
structure LOd (G:Hp) (m:List (Nat×Blk)) (B:Nat):Prop where
 big:∀ p∈m,100<=p.1/\p.1<B
 one:(zab m).Nodup
 ids:∀ p∈m,p.2.ids (dom (hpL G m))
theorem LOk.sub' {m:List (Nat×Blk)} (h1:(zab m).Nodup) (k:Nat) (hk:k∈zab m):dom (hpL G m) k:=by
 obtain ⟨p,hp,rfl⟩:=zah.1 hk
 unfold dom;rw [LOk.at h1 p hp];simp
theorem LOd.low {m:List (Nat×Blk)} {B:Nat} (h:LOd G m B):∀ k,k<100->hpL G m k=G k:=λ_ hk=>za6 (λp hp=>(h.big p hp).1) hk
theorem LOd.sub {m:List (Nat×Blk)} {B:Nat} (h:LOd G m B) (k:Nat) (hk:k∈zab m):dom (hpL G m) k:=LOk.sub' h.one k hk
theorem LOd.closed {m:List (Nat×Blk)} {B:Nat} (hGF:zbm G) (h:LOd G m B) (k:Nat) (b:Blk) (hk:hpL G m k=some b):b.ids (dom (hpL G m)):=by
 rcases za8 hk with h1|h1
 ·exact h.ids (k,b) h1
 ·exact Blk.flat_ids (hGF k b h1).2
theorem LOd.free {m:List (Nat×Blk)} {B:Nat} (hGF:zbm G) (hB:100<=B) (h:LOd G m B) (x:Nat) (hx:B<=x):hpL G m x=none:=by
 cases hb:hpL G m x with
 | none=>rfl
 | some b =>
  rcases za8 hb with h1|h1
  ·have:=(h.big _ h1).2;simp at this;omega
  ·have:=(hGF x b h1).1;omega
theorem zbr {f:FuncId} {fn:Func} {c:Code} {args:Array Value} {m:List (Nat×Blk)} {v:Value} {ws:List (Nat×Blk)} {B:Nat} (hGF:zbm G) (hf:P.funcs[f]? = some fn) (hb:fn.body=some c) (hcall:∀ a w,(callFunc f a).run P w=.ok (.enter f a) w)
  (hm:LOk m B) (ha:∀ x∈args,zap (dom (hpL G m)) x) (hv:zap (λk=>k∈zab m) v) (hw:∀ p∈ws,p.1∈zab m/\p.2.ids (λk=>k∈zab m)) (hw1:∀ k b c,(k,b)∈ws->(k,c)∈ws->b=c) (hn:args.size<=fn.ntmps) (hB:100<=B)
  (h:∀ C:Ctx,C.G=G->C.hp0=hpL G m->C.Y=none->GW P C fn.ntmps [] none c ⟨λt=>args.getD t undef,hpL G m,B,0⟩ (jmm P fn (hpL G m) (.ret v ws))):Fun P G f args (hpL G m) (zab m) (.ret v ws):=by
 have e:=LOk.rst (m:=m) hGF
 refine zfn (B:=B) hGF hm.low hf hb hcall (by rw [e];exact ha) (by rw [e];exact hm.closed hGF) ⟨by rw [e];exact zcd (λq hq=>hm.sub q hq) hv,λk hk=>?_,hw1,λp hp=>?_⟩ hn hB (by rw [e];exact hm.free hGF hB) (by rw [e];exact h)
 ·obtain ⟨p,hp,rfl⟩:=zah.1 hk
  have:=(hw p hp).1
  obtain ⟨q,hq,e1⟩:=zah.1 this
  exact ⟨this,hm.sub _ this,by rw [<-e1];exact (hm.big q hq).1⟩
 ·rw [e];exact Blk.ids_mono (λq hq=>hm.sub q hq) (hw p hp).2
theorem zdn {f:FuncId} {fn:Func} {c:Code} {caps:Array Value} {m:List (Nat×Blk)} {xs:List (Array Value)} {B:Nat} {v:Value} (hGF:zbm G) (hf:P.funcs[f]? = some fn) (hb:fn.body=some c) (hcall:∀ a w,(callFunc f a).run P w=.ok (.enter f a) w)
  (hm:LOd G m B) (ha:∀ x∈caps,zbs x=true/\zap (λk=>k∈zab m) x) (hn:caps.size+1<=fn.ntmps) (hB:100<=B)
  (h:∀ (C:Ctx) (l stop:Nat),C.G=G->C.hp0=hpL G m->C.Y=some ⟨l,xs,stop,none⟩->GW P C fn.ntmps [] none c ⟨λt=>(#[Value.func (.yield l) #[] #[]]++caps).getD t undef,hpL G m,B,0⟩
   (λe s=>(e=.normal\/e=.ret)/\znj P fn.results.toList s.ts s.hp=some v/\s.yc=min (stop+1) xs.length/\∀ k,dom (hpL G m) k->s.hp k=hpL G m k)):IterK P G f caps (hpL G m) (zab m) xs:=by
 have e:=LOk.rst (m:=m) hGF
 exact zsz (B:=B) (v:=v) hGF hm.low hf hb hcall (by rw [e];exact λx hx=>⟨(ha x hx).1,zcd (λq hq=>hm.sub q hq) (ha x hx).2⟩) (by rw [e];exact hm.closed hGF) hn hB (by rw [e];exact hm.free hGF hB) (by rw [e];exact h)
theorem zec {f:FuncId} {fn:Func} {c:Code} {args:Array Value} {m:List (Nat×Blk)} {R:Value->List (Nat×Blk)->Prop} {B:Nat} (hGF:zbm G) (hf:P.funcs[f]? = some fn) (hb:fn.body=some c) (hcall:∀ a w,(callFunc f a).run P w=.ok (.enter f a) w)
  (hm:LOk m B) (ha:∀ x∈args,zap (dom (hpL G m)) x)
  (hfit:∀ v ns,R v ns->zap (zc7 (dom (hpL G m)) ns) v/\(∀ p∈ns,B<=p.1/\p.2.ids (zc7 (dom (hpL G m)) ns))/\(∀ k b c,(k,b)∈ns->(k,c)∈ns->b=c))
  (hn:args.size<=fn.ntmps) (hB:100<=B)
  (h:∀ C:Ctx,C.G=G->C.hp0=hpL G m->C.Y=none->GW P C fn.ntmps [] none c ⟨λt=>args.getD t undef,hpL G m,B,0⟩ λe s=>(e=.normal\/e=.ret)/\(∀ k,dom (hpL G m) k->s.hp k=hpL G m k) /\
   ∃ v ns ρ,R v ns/\(∀ k,k<B->ρ k=k)/\(∀ p∈ns,B<=ρ p.1)/\(∀ p∈ns,∀ q∈ns,ρ p.1=ρ q.1->p.1=q.1)/\znj P fn.results.toList s.ts s.hp=some (ren ρ v)/\∀ p∈ns,s.hp (ρ p.1)=some (p.2.rn ρ)):FunS P G f args (hpL G m) (zab m) R:=by
 have e:=LOk.rst (m:=m) hGF
 have hlt:∀ k,dom (hpL G m) k->k<B:=λk hk=>by
  refine Classical.byContradiction λh1=>hk (hm.free hGF hB k (by omega))
 refine zzg (B:=B) hGF hm.low hf hb hcall (by rw [e];exact ha) (by rw [e];exact hm.closed hGF) (λv ns hR=>?_) hn hB (by rw [e];exact hm.free hGF hB) (λC h1 h2 h3=>?_)
 ·rw [e]
  obtain ⟨f1,f2,f3⟩:=hfit v ns hR
  refine ⟨f1,λk hk=>?_,f3,λp hp=>(f2 p hp).2⟩
  obtain ⟨p,hp,rfl⟩:=zah.1 hk
  have:=(f2 p hp).1
  exact ⟨by omega,λhd=>by have:=hlt _ hd;omega⟩
 ·rw [e] at h2 |-
  refine zdu (h C h1 h2 h3) λe s=>λ⟨q1,q2,v,ns,ρ,q3,q4,q5,q6,q7,q8⟩=>⟨q1,q2,v,ns,ρ,q3,λk hk=>q4 k (hlt k hk),λp hp=>?_,q6,q7,q8⟩
  have:=q5 p hp
  exact ⟨λhd=>by have:=hlt _ hd;omega,by omega⟩
structure MvG (G G':Hp) (m m':List (Nat×Blk)) (ρ:Nat->Nat):Prop where
 gf:zbm G
 gf':zbm G'
 ok:∃ B,LOk m B
 ok':∃ B,LOk m' B
 sub:∀ k b,G k=some b->G' k=some b/\ρ k=k
 at':∀ p∈m,∃ c,hpL G' m' (ρ p.1)=some c/\∀ r,c.obj r=(p.2.rn ρ).obj r
 inj:∀ k∈zab m,∀ l∈zab m,ρ k=ρ l->k=l
 far:∀ k∈zab m,∀ l b,G l=some b->ρ k≠l
theorem MvG.dom {m m':List (Nat×Blk)} {ρ:Nat->Nat} (h:MvG G G' m m' ρ) {k:Nat} (hk:Gy.dom (hpL G m) k):Gy.dom (hpL G' m') (ρ k):=by
 unfold Gy.dom at hk
 cases hb:hpL G m k with
 | none=>exact absurd hb hk
 | some b =>
  rcases za8 hb with h1|h1
  ·obtain ⟨c,h2,_⟩:=h.at' (k,b) h1
   unfold Gy.dom
   rw [show hpL G' m' (ρ k)=some c from h2]
   simp
  ·obtain ⟨h2,h3⟩:=h.sub k b h1
   obtain ⟨B,ok'⟩:=h.ok'
   unfold Gy.dom
   rw [h3,ok'.low k (h.gf k b h1).1,h2]
   simp
theorem MvG.run {m m':List (Nat×Blk)} {ρ:Nat->Nat} (h:MvG G G' m m' ρ) (hcl:∀ k b,hpL G m k=some b->b.ids (Gy.dom (hpL G m))) {r:Nat->Nat} {W:World} (hg:GOK G' W) (hs:Sat r (Gy.dom (hpL G' m')) (hpL G' m') W) (hi:Inj r (Gy.dom (hpL G' m'))) (hl:∀ k,k<100->Gy.dom (hpL G' m') k->r k=k) :
  GOK G W/\Sat (λk=>r (ρ k)) (Gy.dom (hpL G m)) (hpL G m) W/\Inj (λk=>r (ρ k)) (Gy.dom (hpL G m))/\(∀ k,k<100->Gy.dom (hpL G m) k->r (ρ k)=k):=by
 obtain ⟨B',ok'⟩:=h.ok'
 obtain ⟨B,ok⟩:=h.ok
 have hG:GOK G W:=λk b hk=>hg k b (h.sub k b hk).1
 have key:∀ k,Gy.dom (hpL G m) k->(k∈zab m/\100<=k)\/(∃ b,G k=some b/\k<100/\ρ k=k):=λk hk=>by
  unfold Gy.dom at hk
  cases hb:hpL G m k with
  | none=>exact absurd hb hk
  | some b =>
   rcases za8 hb with h1|h1
   ·exact .inl ⟨zah.2 ⟨_,h1,rfl⟩,(ok.big _ h1).1⟩
   ·exact .inr ⟨b,h1,(h.gf k b h1).1,(h.sub k b h1).2⟩
 refine ⟨hG,λk b hk=>⟨?_,hcl k b hk⟩,λk l hk hl' e=>?_,λk hk hd=>?_⟩
 ·rcases za8 hk with h1|h1
  ·obtain ⟨c,h2,h3⟩:=h.at' (k,b) h1
   rw [(hs _ c h2).1,h3 r,Blk.rn_obj]
  ·obtain ⟨h2,h3⟩:=h.sub k b h1
   have h4:=(h.gf k b h1).1
   have h5:hpL G' m' k=some b:=by rw [ok'.low k h4,h2]
   have:=(hs k b h5).1
   show W.heap[r (ρ k)]? = _
   rw [h3,this]
   exact congrArg some (Blk.obj_congr (D:=λ_=>False) (λ_ hf=>hf.elim) (Blk.flat_ids (h.gf k b h1).2))
 ·have e2:ρ k=ρ l:=hi _ _ (h.dom hk) (h.dom hl') e
  rcases key k hk with ⟨k1,_⟩|⟨b,k1,_,k2⟩<;>rcases key l hl' with ⟨l1,_⟩|⟨c,l1,_,l2⟩
  ·exact h.inj k k1 l l1 e2
  ·exact absurd (e2.trans l2) (h.far k k1 l c l1)
  ·exact absurd (e2.symm.trans k2) (h.far l l1 k b k1)
  ·rw [<-k2,<-l2,e2]
 ·rcases key k hd with ⟨_,k1⟩|⟨b,k1,k3,k2⟩
  ·omega
  ·have:=hl k hk (by have:=h.dom hd;rwa [k2] at this)
   rw [k2,this]
theorem Fun.mvG {f:FuncId} {args args':Array Value} {m m' ws:List (Nat×Blk)} {v:Value} {ρ:Nat->Nat} (hi:Fun P G f args (hpL G m) (zab m) (.ret v ws)) (h:MvG G G' m m' ρ) (hw:∀ k∈zab ws,ρ k∈zab m') (ea:args.map (ren ρ)=args') :
  Fun P G' f args' (hpL G' m') (zab m') (.ret (ren ρ v) (rnL ρ ws)):=by
 subst ea
 have er:=LOk.rst (m:=m) h.gf
 have er':=LOk.rst (m:=m') h.gf'
 obtain ⟨B',ok'⟩:=h.ok'
 obtain ⟨en,ids,closed,fits,run⟩:=hi
 rw [er] at ids closed run
 obtain ⟨f1,f2,f3,f4⟩:=fits
 rw [er] at f1 f4
 refine ⟨en,λx hx=>?_,λk b hb=>?_,⟨?_,λk hk=>?_,λk b c h1 h2=>?_,λp hp1=>?_⟩,λr W hgok hsat hinj hlow=>?_⟩
 ·rw [er']
  obtain ⟨y,hy,rfl⟩:=Array.mem_map.1 hx
  exact zfy (λk hk=>h.dom hk) (ids y hy)
 ·rw [er'] at hb |-
  exact ok'.closed h.gf' k b hb
 ·rw [er'];exact zfy (λk hk=>h.dom hk) f1
 ·obtain ⟨q,hq,rfl⟩:=zjz hk
  have h1:=hw q hq
  refine ⟨h1,ok'.sub _ h1,?_⟩
  obtain ⟨p,hp,e⟩:=zah.1 h1
  rw [<-e];exact (ok'.big p hp).1
 ·simp only [rnL,List.mem_map,Prod.mk.injEq] at h1 h2
  obtain ⟨p,hp1,e1,rfl⟩:=h1
  obtain ⟨q,hq1,e2,rfl⟩:=h2
  have k1:=f2 p.1 (zah.2 ⟨p,hp1,rfl⟩)
  have k2:=f2 q.1 (zah.2 ⟨q,hq1,rfl⟩)
  have e3:=h.inj p.1 k1.1 q.1 k2.1 (e1.trans e2.symm)
  rw [f3 p.1 p.2 q.2 hp1 (by rw [e3];exact hq1)]
 ·simp only [rnL,List.mem_map] at hp1
  obtain ⟨p,hp1,rfl⟩:=hp1
  rw [er']
  exact Blk.ids_rn (λk hk=>h.dom hk) (f4 p hp1)
 ·rw [er'] at hsat hinj hlow
  obtain ⟨s0,s1,s2,s3⟩:=h.run closed hgok hsat hinj hlow
  have hrun:=run (λk=>r (ρ k)) W s0 s1 s2 s3
  have ha:(args.map (ren ρ)).map (ren r)=args.map (ren λk=>r (ρ k)):=by
   rw [Array.map_map]
   exact Array.map_congr_left λx _=>zc5 r ρ x
  rw [ha]
  refine hrun.mono λe W' ⟨he,ht⟩=>⟨?_,ht.os,ht.tape,ht.output,ht.size,λk hk hnw=>ht.same k hk λp hp1=>?_,λp hp1=>?_,by simp,by simp⟩
  ·rw [he,zc5]
  ·exact hnw (ρ p.1,p.2.rn ρ) (by simp only [rnL,List.mem_map];exact ⟨p,hp1,rfl⟩)
  ·simp only [List.append_nil,rnL,List.mem_map] at hp1
   obtain ⟨p,hp1,rfl⟩:=hp1
   have hh:=ht.has p (by simpa using hp1)
   refine ⟨by rw [Blk.rn_obj];exact hh.1,?_⟩
   rw [er']
   exact Blk.ids_rn (λk hk=>hk.elim (λh1=>.inl (h.dom h1)) (λh1=>.inr (by simp [zab] at h1))) hh.2
theorem FunS.mvG {f:FuncId} {args args':Array Value} {m m':List (Nat×Blk)} {R R':Value->List (Nat×Blk)->Prop} {ρ:Nat->Nat} (hi:FunS P G f args (hpL G m) (zab m) R) (h:MvG G G' m m' ρ) (ea:args.map (ren ρ)=args') (eR:RR ρ R=R')
  (hnew:∀ v ns,R v ns->∀ k∈zab ns,100<=ρ k/\¬dom (hpL G' m') (ρ k)) (hnj:∀ v ns,R v ns->∀ k∈zab ns,∀ l∈zab ns,ρ k=ρ l->k=l):FunS P G' f args' (hpL G' m') (zab m') R':=by
 subst ea eR
 have er:=LOk.rst (m:=m) h.gf
 have er':=LOk.rst (m:=m') h.gf'
 obtain ⟨B',ok'⟩:=h.ok'
 obtain ⟨en,ids,closed,fits,run⟩:=hi
 rw [er] at ids closed run fits
 have hext:∀ ns,∀ k,zc7 (dom (hpL G m)) ns k->zc7 (dom (hpL G' m')) (rnL ρ ns) (ρ k):=λns k hk=>hk.elim (λh1=>.inl (h.dom h1)) (λh1=>.inr (zjk h1))
 refine ⟨en,λx hx=>?_,λk b hb=>?_,λv' ns' hR'=>?_,λr W hgok hsat hinj hlow=>?_⟩
 ·rw [er']
  obtain ⟨y,hy,rfl⟩:=Array.mem_map.1 hx
  exact zfy (λk hk=>h.dom hk) (ids y hy)
 ·rw [er'] at hb |-
  exact ok'.closed h.gf' k b hb
 ·rw [er']
  obtain ⟨v,ns,hR,rfl,rfl⟩:=hR'
  obtain ⟨f1,f2,f3,f4⟩:=fits v ns hR
  refine ⟨zfy (hext ns) f1,λk hk=>?_,λk b c h1 h2=>?_,λp hp1=>?_⟩
  ·obtain ⟨q,hq,rfl⟩:=zjz hk
   exact hnew v ns hR q hq
  ·simp only [rnL,List.mem_map,Prod.mk.injEq] at h1 h2
   obtain ⟨p,hp1,e1,rfl⟩:=h1
   obtain ⟨q,hq1,e2,rfl⟩:=h2
   have e3:=hnj v ns hR p.1 (zah.2 ⟨p,hp1,rfl⟩) q.1 (zah.2 ⟨q,hq1,rfl⟩) (e1.trans e2.symm)
   rw [f3 p.1 p.2 q.2 hp1 (by rw [e3];exact hq1)]
  ·simp only [rnL,List.mem_map] at hp1
   obtain ⟨p,hp1,rfl⟩:=hp1
   exact Blk.ids_rn (hext ns) (f4 p hp1)
 ·rw [er'] at hsat hinj hlow |-
  obtain ⟨s0,s1,s2,s3⟩:=h.run closed hgok hsat hinj hlow
  have hrun:=run (λk=>r (ρ k)) W s0 s1 s2 s3
  have ha:(args.map (ren ρ)).map (ren r)=args.map (ren λk=>r (ρ k)):=by
   rw [Array.map_map]
   exact Array.map_congr_left λx _=>zc5 r ρ x
  rw [ha]
  refine hrun.mono λe W' ⟨v,ns,r1,hR,hr1,he,ht⟩=>?_
  obtain ⟨f1,f2,f3,f4⟩:=fits v ns hR
  let r2:Nat->Nat:=λk'=>match (zab ns).find? (λk=>ρ k==k') with|some k=>r1 k|none=>r k'
  have e1:∀ k∈zab ns,r2 (ρ k)=r1 k:=λk hk=>by
   show (match (zab ns).find? (λl=>ρ l==ρ k) with|some k=>r1 k|none=>r (ρ k))=r1 k
   cases hf:(zab ns).find? (λl=>ρ l==ρ k) with
   | none=>have:=List.find?_eq_none.1 hf k hk;simp at this
   | some l =>
    have h1:=List.find?_some hf
    have h2:=List.mem_of_find?_eq_some hf
    simp only [beq_iff_eq] at h1
    rw [hnj v ns hR l h2 k hk h1]
  have e2:∀ k,dom (hpL G' m') k->r2 k=r k:=λk hk=>by
   show (match (zab ns).find? (λl=>ρ l==k) with|some k=>r1 k|none=>r k)=r k
   cases hf:(zab ns).find? (λl=>ρ l==k) with
   | none=>rfl
   | some l =>
    have h1:=List.find?_some hf
    have h2:=List.mem_of_find?_eq_some hf
    simp only [beq_iff_eq] at h1
    exact absurd (h1▸hk) (hnew v ns hR l h2).2
  have e3:∀ k,zc7 (dom (hpL G m)) ns k->r2 (ρ k)=r1 k:=λk hk=>hk.elim (λh1=>by rw [e2 _ (h.dom h1),hr1 k h1]) (λh1=>e1 k h1)
  refine ⟨ren ρ v,rnL ρ ns,r2,⟨v,ns,hR,rfl,rfl⟩,e2,?_,ht.os,ht.tape,ht.output,ht.size,λk hk hnw=>ht.same k hk (by simp),λp hp1=>?_,λp hp1=>?_,λp hp1 q hq1 hpq=>?_⟩
  ·rw [he,zc5]
   exact congrArg _ (zc6 (D:=zc7 (dom (hpL G m)) ns) (λk hk=>(e3 k hk).symm) f1)
  ·simp only [List.nil_append,rnL,List.mem_map] at hp1
   obtain ⟨p,hp1,rfl⟩:=hp1
   have hh:=ht.has p (by simpa using hp1)
   refine ⟨?_,Blk.ids_rn (hext ns) hh.2⟩
   rw [Blk.rn_obj,Blk.obj_congr e3 hh.2]
   show W'.heap[r2 (ρ p.1)]? = _
   rw [e1 _ (zah.2 ⟨p,hp1,rfl⟩)]
   exact hh.1
  ·simp only [rnL,List.mem_map] at hp1
   obtain ⟨p,hp1,rfl⟩:=hp1
   show W.heap.size<=r2 (ρ p.1)
   rw [e1 _ (zah.2 ⟨p,hp1,rfl⟩)]
   exact ht.fresh p hp1
  ·simp only [rnL,List.mem_map] at hp1 hq1
   obtain ⟨p,hp1,rfl⟩:=hp1
   obtain ⟨q,hq1,rfl⟩:=hq1
   have k1:=zah.2 ⟨p,hp1,rfl⟩
   have k2:=zah.2 ⟨q,hq1,rfl⟩
   have hpq':r2 (ρ p.1)=r2 (ρ q.1):=hpq
   rw [e1 _ k1,e1 _ k2] at hpq'
   have:=ht.apart p hp1 q hq1 hpq'
   show ρ p.1=ρ q.1
   rw [this]
end
@[simp] theorem rg1:Array.range 1=#[0]:=rfl
@[simp] theorem rg2:Array.range 2=#[0,1]:=rfl
@[simp] theorem rg3:Array.range 3=#[0,1,2]:=rfl
@[simp] theorem rg4:Array.range 4=#[0,1,2,3]:=rfl
@[simp] theorem rg5:Array.range 5=#[0,1,2,3,4]:=rfl
@[simp] theorem rg6:Array.range 6=#[0,1,2,3,4,5]:=rfl
@[simp] theorem jrq:Array.range 20=#[0,1,2,3,4,5,6,7,8,9,10,11,12,13,14,15,16,17,18,19]:=rfl
@[simp] theorem jrr:Array.range 36=#[0,1,2,3,4,5,6,7,8,9,10,11,12,13,14,15,16,17,18,19,20,21,22,23,24,25,26,27,28,29,30,31,32,33,34,35]:=rfl
section
variable {P:Program} {G:Hp} {V:XV} {yc nk:Nat} {ts:Nat->Value} {hp:Hp} {C:Eff->Prop} {dst:Option Tmp} {type:TypeId} {pos:String} {after:Array Edge} {guard:Option (Nat×Bool)}
def bsZ (e len m nk:Nat) (ps:List (Nat×Value)) (z:Option Value) (C:Eff->Prop):Prop :=
 match z with
 | some z=>za9 z=true/\za0 z=true/\0<len*m/\len*m<=16777216/\bsX (zgl (.inr m) ((Array.range (len*m)).map (z.cells[·%z.cells.size]!)) ps) e len nk C
 | none=>False
@[simp] theorem jic (e len m nk:Nat) (ps:List (Nat×Value)) (z:Value) (C:Eff->Prop):bsZ e len m nk ps (some z) C=(za9 z=true/\za0 z=true/\0<len*m/\len*m<=16777216/\bsX (zgl (.inr m) ((Array.range (len*m)).map (z.cells[·%z.cells.size]!)) ps) e len nk C):=rfl
def bsM (P:Program) (e len nk:Nat) (ps:List (Nat×Value)) (m:Option Nat) (C:Eff->Prop):Prop :=
 match m with
 | some m=>bsZ e len m nk ps (zbq P e) C
 | none=>False
@[simp] theorem jh9 (P:Program) (e len m nk:Nat) (ps:List (Nat×Value)) (C:Eff->Prop):bsM P e len nk ps (some m) C=bsZ e len m nk ps (zbq P e) C:=rfl
def bsU (P:Program) (len nk:Nat) (ps:List (Nat×Value)) (u:Option TypeDesc) (C:Eff->Prop):Prop :=
 match u with
 | some (.slice e)=>bsM P e len nk ps (zaz P e) C
 | _=>False
@[simp] theorem jia (P:Program) (e len nk:Nat) (ps:List (Nat×Value)) (C:Eff->Prop):bsU P len nk ps (some (.slice e)) C=bsM P e len nk ps (zaz P e) C:=rfl
@[simp ↓] theorem z11 (T:TypeId) (len:Nat) (parts:Array (Nat×Operand)):opX P G V yc ⟨dst,.buildSlice T len parts,type,pos,after,guard⟩ ts hp nk C =
  ((∀ p∈parts.toList,okX ts hp p.2/\za9 (gev ts p.2)=true)/\bsU P len nk (zek ts parts) (P.underlying T) C):=by
 unfold opX bsU
 simp only
 cases hu:P.underlying T with
 | none=>rfl
 | some u =>
  cases u with
  | slice e =>
   simp only [bsM]
   cases hm:zaz P e with
   | none=>rfl
   | some m =>
    simp only [bsZ]
    cases hz:zbq P e with
    | none=>rfl
    | some z =>
     simp only
     cases hf:zgl (.inr m) ((Array.range (len*m)).map (z.cells[·%z.cells.size]!)) (zek ts parts)<;>rfl
  | _=>rfl
@[simp] theorem jlt (e m:Nat) (z:Value) (b:Nat) (l:Int) (w:Value) (C:Eff->Prop):msZ P e m nk (some z) (some b) (.int .i64 l) w C=(w=.int .i64 l/\za9 z=true/\za0 z=true/\(0<l/\l<=4096)/\b<=4096/\0<m/\C ⟨.slice (some ⟨nk,0,none⟩) l.toNat l.toNat,[],[],[(nk,⟨(Array.range (l.toNat*m)).map (z.cells[·%z.cells.size]!),e⟩)],none,false⟩):=rfl
@[simp] theorem jjf (e m:Nat) (v w:Value) (C:Eff->Prop):msM P e nk (some m) v w C=msZ P e m nk (zbq P e) (tyB P e) v w C:=rfl
@[simp] theorem jfw (e:Nat) (v w:Value) (C:Eff->Prop):msU P nk (some (.slice e)) v w C=msM P e nk (zaz P e) v w C:=rfl
@[simp ↓] theorem z4f (T:TypeId) (x y:Operand):opX P G V yc ⟨dst,.makeSlice T x y,type,pos,after,guard⟩ ts hp nk C=(okX ts hp x/\okX ts hp y/\msU P nk (P.underlying T) (gev ts x) (gev ts y) C):=nr rfl
end
end Go.Gy
namespace Go.Gy
open Go Go.RowKit Go.Proofs Go.Proofs.Tryz
def vf (x0 x1 x2:Int):Nat->Int
 | 0=>x0
 | 1=>x1
 | _=>x2
def vf2 (x0 x1 x2 y0 y1 y2:Int):Nat->Int
 | 0=>x0
 | 1=>x1
 | 2=>x2
 | 3=>y0
 | 4=>y1
 | _=>y2
def xsV (N:Nat) (f:Nat->Int):List (Array Value):=(List.range N).map λj=>#[.int .i64 ((j%3:Nat):Int),.int .i64 (f j)]
theorem zp5 (N:Nat) (f:Nat->Int) (i:Nat) (h:i<N):(xsV N f)[i]? = some #[.int .i64 ((i%3:Nat):Int),.int .i64 (f i)]:=by simp [xsV,h]
theorem zja (b k m c:Nat) (cs:Array Value) (hcs:∀ x∈cs,zbj x=true) (hb:100<=b) (hb2:b<100000) (hk:100<=k) (hbk:b≠k):Fun prog G0 86 #[.slice (some ⟨b,0,none⟩) m c] (hpL G0 [(b,⟨cs,.ty 31⟩)]) [b] (.new (.func (.func 113) #[] #[.pointer (some ⟨k,0,none⟩)]) [(k,⟨#[.slice (some ⟨b,0,none⟩) m c],.ty 35⟩)]):=by
 have e0:rst (hpL G0 [(b,⟨cs,.ty 31⟩)]) [b]=hpL G0 [(b,⟨cs,.ty 31⟩)]:=zdr G0F (by simp)
 have hdom:∀ j,dom (hpL G0 [(b,⟨cs,.ty 31⟩)]) j->j=b\/j<100:=λj hj=>by
  unfold dom at hj
  cases hq:hpL G0 [(b,⟨cs,.ty 31⟩)] j with
  | none=>exact absurd hq hj
  | some q =>
   rcases za8 hq with h|h
   ·simp at h;exact .inl h.1
   ·exact .inr (G0F j q h).1
 have hdb:dom (hpL G0 [(b,⟨cs,.ty 31⟩)]) b:=by unfold dom;simp
 refine zpa (B:=100000) (λj=>if j=k then 100000 else j) G0F (λj hj=>za6 (by simp;omega) hj) func86 rfl call86 ?_ ?_ ?_ (by simp [ntmps86]) (by omega) ?_ (λj hj=>?_) ?_ ?_ ?_ ?_
 ·rw [e0];simp [zap,zau,zaj,zal];exact hdb
 ·rw [e0]
  intro j q hq
  rcases za8 hq with h|h
  ·simp at h;rw [h.2];exact Blk.flat_ids hcs
  ·exact zew _ _ _ h
 ·refine ⟨by simp [zap,zau,zaj,zal,zc7,zab],by simp [zab];omega,λq b c h1 h2=>?_⟩
  simp at h1 h2
  rw [h1.2,h2.2]
 ·rw [e0]
  intro x hx
  simp [show ¬x=b by omega,show 100<=x by omega]
 ·rw [e0] at hj
  rcases hdom j hj with h|h
  ·rw [if_neg (by omega)]
  ·rw [if_neg (by omega)]
 ·rw [e0]
  intro p hp
  simp at hp
  subst hp
  refine ⟨λh=>?_,by simp⟩
  rcases hdom _ h with h|h<;>simp at h<;>omega
 ·simp
 ·rw [e0];simp [zaj,zal];exact hdb
 ·intro C hC hC0 hY
  rw [e0]
  have hbB:¬b=100000:=by omega
  have hBb:¬100000=b:=by omega
  repeat' first|refine gwZ ?_|(refine gwX ?_;intro Q hQ _;simp [hC,hY,hbB,hBb,hbk];refine gwq hQ ?_)|refine gwC ?_ ?_<;>intro hb
  refine ⟨.inr trivial,?_⟩
  simp [results86,ren,zas,zan,zao]
  intro j hj
  rcases hdom j hj with h|h
  ·have:¬j=100000:=by omega
   simp [this]
  ·have:¬j=100000:=by omega
   simp [this]
def zmd (x0 x1 x2:Int):List (Nat×Blk):=[(100,⟨#[.slice (some ⟨108,0,none⟩) 1 1],.ty 35⟩),(108,⟨#[.int .i64 x0,.int .i64 x1,.int .i64 x2],.ty 31⟩)]
abbrev pv1 (x0 x1 x2:Int):Hp:=hpL G0 (zmd x0 x1 x2)
theorem zht (x0 x1 x2:Int):IterK prog G0 113 #[.pointer (some ⟨100,0,none⟩)] (pv1 x0 x1 x2) [100,108] (xsV 3 (vf x0 x1 x2)):=by
 have hL:LOk (zmd x0 x1 x2) 200:=⟨by simp [zmd],by simp [zmd,zab],by simp [zmd,zae,zaj,zal,zab]⟩
 have hlt:∀ k,dom (hpL G0 (zmd x0 x1 x2)) k->k<200:=λk hk=>Classical.byContradiction λh1=>hk (hL.free G0F (by omega) k (by omega))
 refine zoz (m:=zmd x0 x1 x2) (B:=200) (v:=.tuple #[]) G0F func113 rfl call113 hL ?_ (by simp [ntmps113]) (by omega) ?_
 ·simp [zap,zau,zaj,zal,zmd,zab]
 ·intro C l stop hC hC0 hY
  have exs:xsV 3 (vf x0 x1 x2)=[#[.int .i64 0,.int .i64 x0],#[.int .i64 1,.int .i64 x1],#[.int .i64 2,.int .i64 x2]]:=rfl
  rw [exs] at hY |-
  by_cases h3:3<=stop
  ·have q0:(0 != stop)=true:=by simp;omega
   have q1:(1 != stop)=true:=by simp;omega
   have q2:(2 != stop)=true:=by simp;omega
   have l1:1<=stop:=by omega
   have l2:2<=stop:=by omega
   repeat' first|refine zad ?_|refine zag ?_|refine gwZ ?_|(refine gwX ?_;intro Q hQ _;simp [hC,hY,zmd,q0,q1,q2,l1,l2,h3];refine gwq hQ ?_)|refine gwC ?_ ?_<;>intro hb
   refine ⟨by simp,by simp [results113],by first|(simp;omega)|omega,λk hk=>?_⟩
   have hk:=hlt k hk
   simp (disch:=omega) only [zaa]
   rfl
  ·have:stop=0\/stop=1\/stop=2:=by omega
   rcases this with rfl|rfl|rfl
   all_goals
    repeat' first|refine zad ?_|refine zag ?_|refine gwZ ?_|(refine gwX ?_;intro Q hQ _;simp [hC,hY,zmd];refine gwq hQ ?_)|refine gwC ?_ ?_<;>intro hb
   all_goals
    refine ⟨by simp,by simp [results113],by simp,λk hk=>?_⟩
    have hk:=hlt k hk
    simp (disch:=omega) only [zaa]
    rfl
theorem zwc (x0 x1 x2:Int):zhl prog G0 113 #[.pointer (some ⟨100,0,none⟩)] (pv1 x0 x1 x2) [100,108] (xsV 3 (vf x0 x1 x2)):=(zht x0 x1 x2).g
def z13 (x0 x1 x2 y0 y1 y2:Int):List (Nat×Blk):=[(100,⟨#[.slice (some ⟨108,0,none⟩) 2 2],.ty 35⟩),(108,⟨#[.int .i64 x0,.int .i64 x1,.int .i64 x2,.int .i64 y0,.int .i64 y1,.int .i64 y2],.ty 31⟩)]
abbrev pv2 (x0 x1 x2 y0 y1 y2:Int):Hp:=hpL G0 (z13 x0 x1 x2 y0 y1 y2)
theorem zr1 (x0 x1 x2 y0 y1 y2:Int):IterK prog G0 113 #[.pointer (some ⟨100,0,none⟩)] (pv2 x0 x1 x2 y0 y1 y2) [100,108] (xsV 6 (vf2 x0 x1 x2 y0 y1 y2)):=by
 have hL:LOk (z13 x0 x1 x2 y0 y1 y2) 200:=⟨by simp [z13],by simp [z13,zab],by simp [z13,zae,zaj,zal,zab]⟩
 have hlt:∀ k,dom (hpL G0 (z13 x0 x1 x2 y0 y1 y2)) k->k<200:=λk hk=>Classical.byContradiction λh1=>hk (hL.free G0F (by omega) k (by omega))
 refine zoz (m:=z13 x0 x1 x2 y0 y1 y2) (B:=200) (v:=.tuple #[]) G0F func113 rfl call113 hL ?_ (by simp [ntmps113]) (by omega) ?_
 ·simp [zap,zau,zaj,zal,z13,zab]
 ·intro C l stop hC hC0 hY
  have exs:xsV 6 (vf2 x0 x1 x2 y0 y1 y2)=[#[.int .i64 0,.int .i64 x0],#[.int .i64 1,.int .i64 x1],#[.int .i64 2,.int .i64 x2],#[.int .i64 0,.int .i64 y0],#[.int .i64 1,.int .i64 y1],#[.int .i64 2,.int .i64 y2]]:=rfl
  rw [exs] at hY |-
  by_cases h6:6<=stop
  ·have q0:(0 != stop)=true:=by simp;omega
   have q1:(1 != stop)=true:=by simp;omega
   have q2:(2 != stop)=true:=by simp;omega
   have q3:(3 != stop)=true:=by simp;omega
   have q4:(4 != stop)=true:=by simp;omega
   have q5:(5 != stop)=true:=by simp;omega
   have l1:1<=stop:=by omega
   have l2:2<=stop:=by omega
   have l3:3<=stop:=by omega
   have l4:4<=stop:=by omega
   have l5:5<=stop:=by omega
   repeat' first|refine zad ?_|refine zag ?_|refine gwZ ?_|(refine gwX ?_;intro Q hQ _;simp [hC,hY,z13,q0,q1,q2,q3,q4,q5,l1,l2,l3,l4,l5,h6];refine gwq hQ ?_)|refine gwC ?_ ?_<;>intro hb
   refine ⟨by simp,by simp [results113],by first|(simp;omega)|omega,λk hk=>?_⟩
   have hk:=hlt k hk
   simp (disch:=omega) only [zaa]
   rfl
  ·have:stop=0\/stop=1\/stop=2\/stop=3\/stop=4\/stop=5:=by omega
   rcases this with rfl|rfl|rfl|rfl|rfl|rfl
   all_goals
    repeat' first|refine zad ?_|refine zag ?_|refine gwZ ?_|(refine gwX ?_;intro Q hQ _;simp [hC,hY,z13];refine gwq hQ ?_)|refine gwC ?_ ?_<;>intro hb
   all_goals
    refine ⟨by simp,by simp [results113],by simp,λk hk=>?_⟩
    have hk:=hlt k hk
    simp (disch:=omega) only [zaa]
    rfl
theorem zz4 (a b:Int):Ret prog G0 150 #[wd a,wd b] (wd (a+b)):=by
 refine zav G0F func150 rfl call150 (by simp) (by simp) (by simp [ntmps150]) ?_
 intro C hC hC0 hY
 repeat' first|refine gwZ ?_|refine gwW ?_|refine gwC ?_ ?_<;>intro hb
 refine ⟨.inr trivial,?_⟩
 simp [results150]
@[simp] theorem jp4 (a b:Int) (K:Value->Prop):za2 prog G0 150 #[Value.agg #[.int .u64 (wi (a) 0),.int .u64 (wi (a) 1),.int .u64 (wi (a) 2),.int .u64 (wi (a) 3)],Value.agg #[.int .u64 (wi (b) 0),.int .u64 (wi (b) 1),.int .u64 (wi (b) 2),.int .u64 (wi (b) 3)]] K↔K (wd (a+b)):=zaf G0W (by kernel_rfl) (zz4 a b)
theorem zz8 (a b:Int):Ret prog G0 141 #[wd a,wd b] (wd (a - b)):=by
 refine zav G0F func141 rfl call141 (by simp) (by simp) (by simp [ntmps141]) ?_
 intro C hC hC0 hY
 repeat' first|refine gwZ ?_|refine gwW ?_|refine gwC ?_ ?_<;>intro hb
 refine ⟨.inr trivial,?_⟩
 simp [results141]
@[simp] theorem jp6 (a b:Int) (K:Value->Prop):za2 prog G0 141 #[Value.agg #[.int .u64 (wi (a) 0),.int .u64 (wi (a) 1),.int .u64 (wi (a) 2),.int .u64 (wi (a) 3)],Value.agg #[.int .u64 (wi (b) 0),.int .u64 (wi (b) 1),.int .u64 (wi (b) 2),.int .u64 (wi (b) 3)]] K↔K (wd (a - b)):=zaf G0W (by kernel_rfl) (zz8 a b)
theorem zz7:Ret prog G0 142 #[] (wd 1):=by
 refine zav G0F func142 rfl call142 (by simp) (by simp) (by simp [ntmps142]) ?_
 intro C hC hC0 hY
 have i1:=zqs
 repeat' first|refine gwZ ?_|(refine gwX ?_;intro Q hQ _;simp [hC,hY,i1];refine gwq hQ ?_)|refine gwC ?_ ?_<;>intro hb
 refine ⟨.inr trivial,?_⟩
 simp [results142]
@[simp] theorem jp5 (K:Value->Prop):za2 prog G0 142 #[] K↔K (wd 1):=zaf G0W (by kernel_rfl) zz7
theorem zrp:Ret prog G0 129 #[] (.agg #[.int .u64 0,.int .u64 0,.int .u64 0,.int .u64 9223372036854775808]):=by
 refine zav G0F func129 rfl call129 (by simp) (by simp) (by simp [ntmps129]) ?_
 intro C hC hC0 hY
 repeat' first|refine gwZ ?_|refine gwW ?_|refine gwC ?_ ?_<;>intro hb
 refine ⟨.inr trivial,?_⟩
 simp [results129]
@[simp] theorem jmf (K:Value->Prop):za2 prog G0 129 #[] K↔K (.agg #[.int .u64 0,.int .u64 0,.int .u64 0,.int .u64 9223372036854775808]):=zaf G0W (by kernel_rfl) zrp
end Go.Gy
namespace Go.Gy
open Go Go.RowKit Go.Proofs
def wl (z:Int):List Value:=[.int .u64 (wi z 0),.int .u64 (wi z 1),.int .u64 (wi z 2),.int .u64 (wi z 3)]
@[simp] theorem jhu (z:Int):(wl z).length=4:=rfl
def lc (b:Int):Nat->List Value
 | 0=>[]
 | k+1=>lc b k++wl (b*2^k)
@[simp] theorem jod (b:Int) (k:Nat):(lc b k).length=4*k:=by
 induction k with
 | zero=>rfl
 | succ k ih=>simp [lc,ih];omega
theorem zq1 (b:Int) (k:Nat):∀ x∈lc b k,zbj x=true:=by
 induction k with
 | zero=>simp [lc]
 | succ k ih =>
  intro x hx
  simp only [lc,List.mem_append] at hx
  rcases hx with hx|hx
  ·exact ih x hx
  ·simp [wl] at hx
   rcases hx with rfl|rfl|rfl|rfl<;>simp
theorem zq2 (b:Int):∀ (k j:Nat) (rest:List Value),j<k->((lc b k++rest).drop (4*j)).take 4=wl (b*2^j)
 | 0,j,rest,h=>by omega
 | k+1,j,rest,h=>by
  by_cases hj:j<k
  ·rw [lc,List.append_assoc]
   exact zq2 b k j _ hj
  ·obtain rfl:j=k:=by omega
   rw [lc,List.append_assoc,show 4*j=(lc b j).length by simp,List.drop_left,show (4:Nat)=(wl (b*2^j)).length from rfl,List.take_left]
theorem jk7 {a b:Int} (hb:0<b) (i:Nat):(a%(b*2^(i+1))<b*2^i/\a / (b*2^i)=2*(a / (b*2^(i+1)))/\a%(b*2^i)=a%(b*2^(i+1))) \/
  (b*2^i<=a%(b*2^(i+1))/\a / (b*2^i)=2*(a / (b*2^(i+1)))+1/\a%(b*2^i)=a%(b*2^(i+1)) - b*2^i):=by
 have e:b*2^(i+1)=2*(b*2^i):=by rw [Int.pow_succ];ac_rfl
 rw [e]
 have hm:0<b*2^i:=Int.mul_pos hb (Int.pow_pos (by decide))
 generalize b*2^i=m at *
 have h1:=Int.emod_lt_of_pos a (show 0<2*m by omega)
 have h2:=Int.emod_nonneg a (show (2*m)≠0 by omega)
 have h3:=Int.mul_ediv_add_emod a (2*m)
 generalize a / (2*m)=q at *
 generalize a%(2*m)=s at *
 have ea:a=m*(2*q)+s:=by rw [<-h3,Int.mul_comm 2 m,Int.mul_assoc]
 by_cases hs:s<m
 ·left
  refine ⟨hs,?_,?_⟩
  ·rw [ea,Int.mul_add_ediv_left _ _ (by omega),Int.ediv_eq_zero_of_lt h2 hs,Int.add_zero]
  ·rw [ea,Int.mul_add_emod_self_left,Int.emod_eq_of_lt h2 hs]
 ·right
  have es:a=m*(2*q+1)+(s - m):=by rw [ea,Int.mul_add,Int.mul_one];omega
  refine ⟨by omega,?_,?_⟩
  ·rw [es,Int.mul_add_ediv_left _ _ (by omega),Int.ediv_eq_zero_of_lt (by omega) (by omega),Int.add_zero]
  ·rw [es,Int.mul_add_emod_self_left,Int.emod_eq_of_lt (by omega) (by omega)]
end Go.Gy
namespace Go.Gy
def jlu (a b:Int):Int:=if b<2*(a%b)\/(2*(a%b)=b/\0<=a / b) then a / b+1 else a / b
end Go.Gy
namespace Go.Gy
open Go Go.RowKit Go.Proofs
def sm (z:Int):Prop:=-1329227995784915872903807060280344576<=z/\z<=1329227995784915872903807060280344576
theorem sm.wr {z:Int} (h:sm z):wr z:=⟨Int.le_trans (by decide) h.1,Int.lt_of_le_of_lt h.2 (by decide)⟩
theorem sm.up {z:Int} (h:sm z):Gy.wr (z+1):=⟨Int.le_trans (by decide) (Int.le_trans h.1 (Int.le_add_one (Int.le_refl _))),Int.lt_of_le_of_lt (Int.add_le_add_right h.2 1) (by decide)⟩
def jb (n:Int):Blk:=⟨#[.int .i64 n],.ty 3⟩
end Go.Gy
namespace Go.Gy
open Go Go.RowKit Go.Proofs Go.Proofs.Tryz
theorem jlo (p:Nat->Prop) (m:Nat):∃ N,N<=m/\(∀ i,i<N->p i)/\(N=m\/¬p N):=by
 induction m with
 | zero=>exact ⟨0,Nat.le_refl _,λi hi=>absurd hi (Nat.not_lt_zero i),.inl rfl⟩
 | succ m ih =>
  obtain ⟨N,h1,h2,h3⟩:=ih
  rcases h3 with rfl|h3
  ·by_cases hp:p N
   ·exact ⟨N+1,Nat.le_refl _,λi hi=>by
     by_cases e:i=N
     ·subst e;exact hp
     ·exact h2 i (by omega),.inl rfl⟩
   ·exact ⟨N,by omega,h2,.inr hp⟩
  ·exact ⟨N,by omega,h2,.inr h3⟩
def inW (m x:Int):Prop:=0<=m/\-m<=x/\x<=m
instance inWdec (m x:Int):Decidable (inW m x):=by unfold inW;infer_instance
theorem ztf {m:Int} (h:i64 m) (h0:0<=m):Int.bmod (-m) 18446744073709551616=-m:=by
 have:=h.1;have:=h.2
 rw [Int.bmod_def];omega
def jdj (x0 x1 x2 m:Int):Hp:=hpL G0 [(200,⟨#[.int .i64 x0,.int .i64 x1,.int .i64 x2],.ty 31⟩),(208,jb m),(216,⟨#[.bool false],.ty 4⟩)]
def z1h:Nat->Value:=tsL [(3,.pointer (some ⟨208,0,none⟩)),(4,.pointer (some ⟨216,0,none⟩))]
theorem zwd (x0 x1 x2 m:Int) (hm:i64 m) (h0:i64 x0) (h1:i64 x1) (h2:i64 x2):Ret prog G0 77 #[.agg #[.int .i64 x0,.int .i64 x1,.int .i64 x2],.int .i64 m] (.bool (decide (inW m x0/\inW m x1/\inW m x2))):=by
 refine zav G0F func77 rfl call77 (by simp) (by simp) (by simp [ntmps77]) ?_
 intro C hC hC0 hY
 obtain ⟨N,hN,hlt,hend⟩:=jlo (λi=>inW m (vf x0 x1 x2 i)) 3
 repeat' first|refine gwZ ?_|((first|refine gwR [86] ?_|refine gwD [86] ?_);intro Q hQ _;(repeat first|simp [hC,hY,jb]|refine zb2 (zja 232 240 1 1 #[.int .i64 x0,.int .i64 x1,.int .i64 x2] (by simp) (by omega) (by omega) (by omega) (by omega)) (by simp) (λk hk=>za6 (by simp) hk) (by simp [Res.at,zab]) ?_);refine gwq hQ ?_)|refine gwC ?_ ?_<;>intro hb
 have hT:m<0\/0<=m:=by omega
 refine zg1 (f:=113) (rs:=[240,232]) (xs:=xsV 3 (vf x0 x1 x2)) (caps:=#[.pointer (some ⟨240,0,none⟩)]) (by simp) ?_ (by simp [xsV]) (by simp [ntmps77]) z1h (λ_=>jdj x0 x1 x2 m) 300 N (by simp [xsV];omega) ?_ ?_ ?_ ?_ ?_
 ·rw [hC]
  refine zhl.cast (IterX.rn (λk=>if k=100 then 240 else if k=108 then 232 else k) G0F (λk hk=>za6 (by simp [zmd]) hk) (rs:=[100,108]) ?_ (zwc x0 x1 x2)) (by simp [zao]) (by simp)
  refine ⟨λk hk=>?_,?_,?_,?_⟩
  ·have h1:¬k=100:=by omega
   have h2:¬k=108:=by omega
   have h3:¬k=200:=by omega
   have h4:¬k=208:=by omega
   have h5:¬k=216:=by omega
   have h8:¬k=232:=by omega
   have h9:¬k=240:=by omega
   simp [h1,h2,h3,h4,h5,h8,h9,pv1,zmd]
  ·simp
  ·simp [zmd,Blk.rn,zan,zao]
  ·simp
 ·refine zbc _ 300 hC G0F (m0:=[]) hC0 (by omega) ?_ ?_ ?_
  ·simp [zap,zau,zaj,zal,dom]
  ·simp [zae,zaj,zal,jb]
  ·simp
 ·simp [jdj,dom]
 ·intro i hi t
  refine ze6 ?_ t
  simp [zap,zau,zaj,zal,dom,jdj]
 ·intro i x hi hx C1 l hC1 hh1 hY1
  have hCC:=hC
  have hC1':C1.G=G0:=hC1.trans hC
  obtain ⟨g0,g1,g2⟩:=hlt i hi
  replace hC:=hC1'
  replace hY:=hY1
  have:i=0\/i=1\/i=2:=by omega
  rcases this with rfl|rfl|rfl
  all_goals
   rw [zp5 _ _ _ (by omega)] at hx
   simp only [Option.some.injEq] at hx
   subst hx
   simp only [vf] at *
   unfold jdj
  all_goals
   repeat' first|refine gwZ ?_|(refine gwX ?_;intro Q hQ _;simp [hC,hY,za3,z1h,jb];refine gwq hQ ?_)|refine gwC ?_ ?_<;>intro hb
  all_goals
   intro C2 hC2 hh2 hY2
   replace hC:C2.G=G0:=hC2.trans hCC
   replace hY:=hY2
   have q0:¬m<0:=by omega
   have q1:=Int.not_lt.2 g1
   have q2:=Int.not_lt.2 g2
   have hbm:=ztf hm g0
   repeat' first|refine gwZ ?_|(refine gwX ?_;intro Q hQ _;simp [hC,hY,za3,z1h,jb,hbm,q0,q1,q2];refine gwq hQ ?_)|refine gwC ?_ ?_<;>intro hb
  all_goals
   refine zbc [] 300 hC1' G0F hh1 (by omega) ?_ ?_ ?_
   ·simp
   ·simp [zae,zaj,zal,jb]
   ·simp [jb]
 ·by_cases hend':N=3
  ·subst hend'
   left
   refine ⟨by simp [xsV],?_⟩
   have e:(inW m x0/\inW m x1/\inW m x2)=True:=by
    simp only [eq_iff_iff,iff_true]
    exact ⟨hlt 0 (by omega),hlt 1 (by omega),hlt 2 (by omega)⟩
   simp only [e]
   unfold jdj z1h jb
   repeat' first|refine gwZ ?_|refine gwW ?_|refine gwC ?_ ?_<;>intro hb
   refine ⟨.inr trivial,?_⟩
   simp [results77]
  ·right
   have hN3:N<3:=by omega
   replace hend:=hend.resolve_left hend'
   refine ⟨_,zp5 _ _ _ hN3,?_⟩
   have e:(inW m x0/\inW m x1/\inW m x2)=False:=by
    simp only [eq_iff_iff,iff_false]
    rintro ⟨a0,a1,a2⟩
    have:N=0\/N=1\/N=2:=by omega
    rcases this with rfl|rfl|rfl<;>contradiction
   simp only [e]
   have hor:m<0\/(¬m<0/\vf x0 x1 x2 N < -m)\/(¬m<0/\¬vf x0 x1 x2 N < -m/\m<vf x0 x1 x2 N):=by
    unfold inW at hend;omega
   intro C1 l hC1 hh1 hY1
   have hCC:=hC
   replace hC:=hC1.trans hC
   replace hY:=hY1
   clear hlt hN
   have:N=0\/N=1\/N=2:=by omega
   rcases this with rfl|rfl|rfl
   all_goals
    simp only [vf] at hor |-
    unfold jdj
   all_goals
    repeat' first|refine gwZ ?_|(refine gwX ?_;intro Q hQ _;simp [hC,hY,za3,z1h,jb];refine gwq hQ ?_)|refine gwC ?_ ?_<;>intro hb
   all_goals
    intro C2 hC2 hh2 hY2
    replace hC:C2.G=G0:=hC2.trans hCC
    replace hY:=hY2
    rcases hor with q0|⟨q0,q1⟩|⟨q0,q1,q2⟩
    ·
     repeat' first|refine gwZ ?_|(refine gwX ?_;intro Q hQ _;simp [hC,hY,za3,z1h,jb,q0];refine gwq hQ ?_)|refine gwC ?_ ?_<;>intro hb
     refine ⟨by simp [zb7],λt=>ze6 (by simp [zap,zau,zaj,zal,dom]) t,.inr trivial,?_⟩
     simp [results77,z1h]
    ·have hbm:=ztf hm (Int.not_lt.1 q0)
     repeat' first|refine gwZ ?_|(refine gwX ?_;intro Q hQ _;simp [hC,hY,za3,z1h,jb,hbm,q0,q1];refine gwq hQ ?_)|refine gwC ?_ ?_<;>intro hb
     refine ⟨by simp [zb7],λt=>ze6 (by simp [zap,zau,zaj,zal,dom]) t,.inr trivial,?_⟩
     simp [results77,z1h]
    ·have hbm:=ztf hm (Int.not_lt.1 q0)
     repeat' first|refine gwZ ?_|(refine gwX ?_;intro Q hQ _;simp [hC,hY,za3,z1h,jb,hbm,q0,q1,q2];refine gwq hQ ?_)|refine gwC ?_ ?_<;>intro hb
     refine ⟨by simp [zb7],λt=>ze6 (by simp [zap,zau,zaj,zal,dom]) t,.inr trivial,?_⟩
     simp [results77,z1h]
def inV (m x0 x1 x2:Int):Bool:=decide (inW m x0/\inW m x1/\inW m x2)
@[simp] theorem jm8 (x0 x1 x2 m:Int) (hm:i64 m) (h0:i64 x0) (h1:i64 x1) (h2:i64 x2) (K:Value->Prop):za2 prog G0 77 #[.agg #[.int .i64 x0,.int .i64 x1,.int .i64 x2],.int .i64 m] K↔K (.bool (inV m x0 x1 x2)):=zaf G0W (by kernel_rfl) (zwd x0 x1 x2 m hm h0 h1 h2)
def fnI (x:Int):Prop:=-536870912<=x/\x<=536870912
instance fnIdec (x:Int):Decidable (fnI x):=by unfold fnI;infer_instance
theorem zsu (M m:Nat) (v:Bool) (cs:Array Value) (hcs:∀ x∈cs,zbj x=true) (f:Nat->Int) (hit:IterK prog G0 113 #[.pointer (some ⟨100,0,none⟩)] (hpL G0 [(100,⟨#[.slice (some ⟨108,0,none⟩) m m],.ty 35⟩),(108,⟨cs,.ty 31⟩)]) (zab [(100,⟨#[.slice (some ⟨108,0,none⟩) m m],.ty 35⟩),(108,⟨cs,.ty 31⟩)]) (xsV M f)) (hv:v=true↔∀ j,j<M->fnI (f j)) :
  Fun prog G0 85 #[.slice (some ⟨100,0,none⟩) m m] (hpL G0 [(100,⟨cs,.ty 31⟩)]) [100] (.ret (.bool v) []):=by
 have hfx:Blk.fx (Blk.mk cs (.ty 31)):=hcs
 have hfi:∀ D,(Blk.mk cs (.ty 31)).ids D:=λD=>Blk.fx_ids hfx D
 refine za5 (m:=[(100,⟨cs,.ty 31⟩)]) (B:=200) G0F func85 rfl call85 ⟨by simp,by simp [zab],by simp only [List.mem_singleton,forall_eq];exact hfi _⟩ ?_ (by simp) (by simp) (by simp) (by simp [ntmps85]) (by omega) ?_
 ·simp [zap,zau,zaj,zal,zab]
 intro C hC hC0 hY
 obtain ⟨N,hN,hlt,hend⟩:=jlo (λi=>fnI (f i)) M
 repeat' first|refine gwZ ?_|((first|refine gwR [86] ?_|refine gwD [86] ?_);intro Q hQ _;(repeat first|simp [hC,hY,jb]|refine zb2 (zja 100 216 m m cs hcs (by omega) (by omega) (by omega) (by omega)) (by simp) (λk hk=>za6 (by simp) hk) (by simp [Res.at,zab]) ?_);refine gwq hQ ?_)|refine gwC ?_ ?_<;>intro hb
 refine zlh (G:=G0) (f:=113) (rs:=[216,100]) (xs:=xsV M f) (caps:=#[.pointer (some ⟨216,0,none⟩)]) (m0:=[(100,⟨cs,.ty 31⟩)]) [216,100] G0F hC hC0 hY (by simp) ?_ (by simp [xsV]) (by simp [ntmps85]) [(2,.pointer (some ⟨200,0,none⟩))] [] (λ_=>[(200,⟨#[.bool false],.ty 4⟩)]) 300 N (by simp [xsV];omega) (by omega) (by simp) (by simp [dom]) ?_ (by simp) (by simp) (by simp) ?_ (by simp) ?_ ?_
 ·refine zsy (m:=[(100,⟨#[.slice (some ⟨108,0,none⟩) m m],.ty 35⟩),(108,⟨cs,.ty 31⟩)]) (B:=200) hit G0F ⟨by simp,by simp [zab],?_⟩ (λk=>if k=100 then 216 else if k=108 then 100 else k) (λk hk=>?_) (by simp [zao]) (by simp [zab]) (by (intro k hk;first|rfl|(simp (disch:=omega) only [zb9,List.mem_cons,List.not_mem_nil,or_false,zaa,zai,zat,if_neg,zaw]<;>done))) ?_ ?_
  ·simp only [List.mem_cons,List.not_mem_nil,or_false,forall_eq_or_imp,forall_eq]
   exact ⟨by simp [zae,zaj,zal,zab],hfi _⟩
  ·rw [if_neg (by omega),if_neg (by omega)]
  ·have hr:=λρ=>zfo hcs ρ
   simp [hr,Blk.rn,zan,zao]
  ·simp [zab]
 ·intro k hk b hb
  simp only [List.mem_cons,List.not_mem_nil,or_false] at hk
  rcases hk with rfl|rfl
  ·simp at hb;subst hb;simp [zae,zaj,zal]
  ·simp at hb;subst hb;exact hfi _
 ·intro i hi
  simp [zap,zau,zaj,zal,dom,zae]
 ·intro i x hi hx C1 l hC1 hh1 hY1
  rw [zp5 _ _ _ (by omega)] at hx
  simp only [Option.some.injEq] at hx
  subst hx
  obtain ⟨g1,g2⟩:=hlt i hi
  have q1:=Int.not_lt.2 g1
  have q2:=Int.not_lt.2 g2
  clear hC hY
  have hC:=hC1
  have hY:=hY1
  repeat' first|refine gwZ ?_|(refine gwX ?_;intro Q hQ _;simp [hC,hY,za3];refine gwq hQ ?_)|refine gwC ?_ ?_<;>intro hb
  intro C2 hC2 hh2 hY2
  clear hC hY
  have hC:=hC2
  have hY:=hY2
  repeat' first|refine gwZ ?_|(refine gwX ?_;intro Q hQ _;simp [hC,hY,za3,q1,q2];refine gwq hQ ?_)|refine gwC ?_ ?_<;>intro hb
  simp
 ·by_cases hend':N=M
  ·subst hend'
   left
   refine ⟨by simp [xsV],?_⟩
   have e:=hv.2 hlt
   subst e
   repeat' first|refine gwZ ?_|(refine gwX ?_;intro Q hQ _;simp [hC,hY,zb9,List.cons_append,List.nil_append];refine gwq hQ ?_)|refine gwC ?_ ?_<;>intro hb
   refine ⟨.inr rfl,by simp [results85],zdc G0F (by simp [zb9]) (by (intro k hk;first|rfl|(simp (disch:=omega) only [zb9,List.mem_cons,List.not_mem_nil,or_false,zaa,zai,zat,if_neg,zaw]<;>done)))⟩
  ·right
   have hN3:N<M:=by omega
   replace hend:=hend.resolve_left hend'
   refine ⟨_,zp5 _ _ _ hN3,?_⟩
   have e:v=false:=by
    cases v
    ·rfl
    ·exact absurd (hv.1 rfl N hN3) hend
   subst e
   have hor:f N < -536870912\/(¬f N < -536870912/\536870912<f N):=by
    unfold fnI at hend;omega
   intro C1 l hC1 hh1 hY1
   clear hC hY
   have hC:=hC1
   have hY:=hY1
   repeat' first|refine gwZ ?_|(refine gwX ?_;intro Q hQ _;simp [hC,hY,za3];refine gwq hQ ?_)|refine gwC ?_ ?_<;>intro hb
   intro C2 hC2 hh2 hY2
   clear hC hY
   have hC:=hC2
   have hY:=hY2
   rcases hor with q1|⟨q1,q2⟩
   ·
    repeat' first|refine gwZ ?_|(refine gwX ?_;intro Q hQ _;simp [hC,hY,za3,q1];refine gwq hQ ?_)|refine gwC ?_ ?_<;>intro hb
    refine ⟨by simp [zb7],by simp [zap,zau,zaj,zal,dom],by simp,.inr rfl,by simp [results85,zb9],zdc G0F (by simp [zb9]) (by (intro k hk;first|rfl|(simp (disch:=omega) only [zb9,List.mem_cons,List.not_mem_nil,or_false,zaa,zai,zat,if_neg,zaw]<;>done)))⟩
   ·
    repeat' first|refine gwZ ?_|(refine gwX ?_;intro Q hQ _;simp [hC,hY,za3,q1,q2];refine gwq hQ ?_)|refine gwC ?_ ?_<;>intro hb
    refine ⟨by simp [zb7],by simp [zap,zau,zaj,zal,dom],by simp,.inr rfl,by simp [results85,zb9],zdc G0F (by simp [zb9]) (by (intro k hk;first|rfl|(simp (disch:=omega) only [zb9,List.mem_cons,List.not_mem_nil,or_false,zaa,zai,zat,if_neg,zaw]<;>done)))⟩

theorem zoq (x0 x1 x2:Int) (v:Bool) (hv:v=true↔fnI x0/\fnI x1/\fnI x2):Fun prog G0 85 #[.slice (some ⟨100,0,none⟩) 1 1] (hpL G0 [(100,⟨#[.int .i64 x0,.int .i64 x1,.int .i64 x2],.ty 31⟩)]) [100] (.ret (.bool v) []):=by
 refine zsu 3 1 _ _ (by simp) _ (zht x0 x1 x2) ?_
 rw [hv]
 refine ⟨λ⟨h0,h1,h2⟩ j hj=>?_,λh=>⟨h 0 (by omega),h 1 (by omega),h 2 (by omega)⟩⟩
 have:j=0\/j=1\/j=2:=by omega
 rcases this with rfl|rfl|rfl<;>assumption
theorem zor (x0 x1 x2 y0 y1 y2:Int) (v:Bool) (hv:v=true↔(fnI x0/\fnI x1/\fnI x2)/\fnI y0/\fnI y1/\fnI y2):Fun prog G0 85 #[.slice (some ⟨100,0,none⟩) 2 2] (hpL G0 [(100,⟨#[.int .i64 x0,.int .i64 x1,.int .i64 x2,.int .i64 y0,.int .i64 y1,.int .i64 y2],.ty 31⟩)]) [100] (.ret (.bool v) []):=by
 refine zsu 6 2 _ _ (by simp) _ (zr1 x0 x1 x2 y0 y1 y2) ?_
 rw [hv]
 refine ⟨λ⟨⟨h0,h1,h2⟩,h3,h4,h5⟩ j hj=>?_,λh=>⟨⟨h 0 (by omega),h 1 (by omega),h 2 (by omega)⟩,h 3 (by omega),h 4 (by omega),h 5 (by omega)⟩⟩
 have:j=0\/j=1\/j=2\/j=3\/j=4\/j=5:=by omega
 rcases this with rfl|rfl|rfl|rfl|rfl|rfl<;>assumption
@[simp] theorem jep (f:Fn):za0 (.func f #[] #[])=true:=by simp [za0,zhe,zbj,Array.all]
def eaE (op:Int->Int->Int) (a0 a1 a2 b0 b1 b2:Int):Int:=if ((fnI a0/\fnI a1/\fnI a2)/\fnI b0/\fnI b1/\fnI b2)/\fnI (op a0 b0)/\fnI (op a1 b1)/\fnI (op a2 b2) then 0 else 20
def eaV (e v:Int):Int:=if e=0 then v else 0
def eaL (g:FuncId) (op:Int->Int->Int) (a0 a1 a2 b0 b1 b2:Int) (i:Nat):List (Nat×Blk):=[(200,⟨#[.int .i64 a0,.int .i64 a1,.int .i64 a2],.ty 31⟩),(208,⟨#[.int .i64 b0,.int .i64 b1,.int .i64 b2],.ty 31⟩),(216,⟨#[.func (.func g) #[] #[]],.ty 93⟩),
 (224,⟨#[.int .i64 (if 0<i then op a0 b0 else 0),.int .i64 (if 1<i then op a1 b1 else 0),.int .i64 (if 2<i then op a2 b2 else 0)],.ty 31⟩)]
theorem z25 (g:FuncId) (op:Int->Int->Int) (hop:∀ x y K,fnI x->fnI y->(za2 prog G0 g #[.int .i64 x,.int .i64 y] K↔K (.int .i64 (op x y)))) (a0 a1 a2 b0 b1 b2:Int):Ret prog G0 64 #[.agg #[.int .i64 a0,.int .i64 a1,.int .i64 a2],.agg #[.int .i64 b0,.int .i64 b1,.int .i64 b2],.func (.func g) #[] #[]]
  (.tuple #[.agg #[.int .i64 (eaV (eaE op a0 a1 a2 b0 b1 b2) (op a0 b0)),.int .i64 (eaV (eaE op a0 a1 a2 b0 b1 b2) (op a1 b1)),.int .i64 (eaV (eaE op a0 a1 a2 b0 b1 b2) (op a2 b2))],.int .i64 (eaE op a0 a1 a2 b0 b1 b2)]):=by
 refine zav G0F func64 rfl call64 (by simp) (by simp) (by simp [ntmps64]) ?_
 intro C hC hC0 hY
 obtain ⟨v,hv⟩:∃ v:Bool,v=true↔(fnI a0/\fnI a1/\fnI a2)/\fnI b0/\fnI b1/\fnI b2:=⟨decide _,decide_eq_true_iff⟩
 cases v with
 | false =>
  have e:eaE op a0 a1 a2 b0 b1 b2=20:=by unfold eaE;rw [if_neg];intro h;exact absurd (hv.2 h.1) (by simp)
  rw [e]
  repeat' first|refine gwZ ?_|((first|refine gwR [85] ?_|refine gwD [85] ?_);intro Q hQ _;(repeat first|simp [hC,hY]|refine zac (zor a0 a1 a2 b0 b1 b2 _ hv) G0F (B:=200) ⟨by simp,by simp [zab],by simp [zae,zaj,zal]⟩ (λk=>if k=100 then 256 else k) (λk hk=>if_neg (by omega)) (by simp [ren,zas,zan,zao]) (by simp) (by simp [Blk.rn,zan,zao]) (by simp [zab]) (by simp [zab];rfl) ?_);refine gwq hQ ?_)|refine gwC ?_ ?_<;>intro hb
  refine ⟨.inr trivial,?_⟩
  simp [results64,eaV]
 | true =>
  repeat' first|refine gwZ ?_|((first|refine gwR [85,86] ?_|refine gwD [85,86] ?_);intro Q hQ _;(repeat first|simp [hC,hY]|(first|(refine zac (zor a0 a1 a2 b0 b1 b2 _ hv) G0F (B:=200) ⟨by simp,by simp [zab],by simp [zae,zaj,zal]⟩ (λk=>if k=100 then 256 else k) (λk hk=>if_neg (by omega)) (by simp [ren,zas,zan,zao]) (by simp) (by simp [Blk.rn,zan,zao]) (by simp [zab]) (by simp [zab];rfl) ?_)|refine zb2 (zja 288 296 1 1 #[.int .i64 a0,.int .i64 a1,.int .i64 a2] (by simp) (by omega) (by omega) (by omega) (by omega)) (by simp) (λk hk=>za6 (by simp) hk) (by simp [Res.at,zab]) ?_));refine gwq hQ ?_)|refine gwC ?_ ?_<;>intro hb
  obtain ⟨⟨f0,f1,f2⟩,g0,g1,g2⟩:=hv.1 rfl
  have s0:=λK=>hop a0 b0 K f0 g0
  have s1:=λK=>hop a1 b1 K f1 g1
  have s2:=λK=>hop a2 b2 K f2 g2
  refine zlh (G:=G0) (f:=113) (rs:=[296,288]) (xs:=xsV 3 (vf a0 a1 a2)) (caps:=#[.pointer (some ⟨296,0,none⟩)]) (m0:=[]) [296,288] G0F hC hC0 hY (by simp) ?_ (by simp [xsV]) (by simp [ntmps64]) [(3,.pointer (some ⟨200,0,none⟩)),(4,.pointer (some ⟨208,0,none⟩)),(5,.pointer (some ⟨216,0,none⟩)),(6,.pointer (some ⟨224,0,none⟩)),(7,.int .i64 0)] [] (eaL g op a0 a1 a2 b0 b1 b2) 400 3 (by simp [xsV]) (by omega) (by simp) (by simp [dom]) ?_ (by simp) (by simp) (by simp [eaL]) ?_ (by simp) ?_ ?_
  ·refine zsy (m:=zmd a0 a1 a2) (B:=200) (zht a0 a1 a2) G0F ⟨by simp [zmd],by simp [zmd,zab],by simp [zmd,zae,zaj,zal,zab]⟩ (λk=>if k=100 then 296 else if k=108 then 288 else k) (λk hk=>?_) (by simp [zao]) (by simp [zmd,zab]) (by (intro k hk;first|rfl|(simp (disch:=omega) only [zb9,List.mem_cons,List.not_mem_nil,or_false,zaa,zai,zat,if_neg,zaw]<;>done))) ?_ ?_
   ·rw [if_neg (by omega),if_neg (by omega)]
   ·simp [zmd,Blk.rn,zan,zao]
   ·simp [zmd,zab]
  ·intro k hk b hb
   simp only [List.mem_cons,List.not_mem_nil,or_false] at hk
   rcases hk with rfl|rfl
   ·simp at hb;subst hb;simp [zae,zaj,zal]
   ·simp at hb;subst hb;simp [zae,zaj,zal]
  ·intro i hi
   simp [eaL,zap,zau,zaj,zal,dom,zae]
  ·intro i x hi hx C1 l hC1 hh1 hY1
   rw [zp5 _ _ _ (by omega)] at hx
   simp only [Option.some.injEq] at hx
   subst hx
   clear hC hY
   have hC:=hC1
   have hY:=hY1
   have:i=0\/i=1\/i=2:=by omega
   rcases this with rfl|rfl|rfl
   all_goals
    simp only [vf]
    unfold eaL
   all_goals
    repeat' first|refine gwZ ?_|(refine gwX ?_;intro Q hQ _;simp [hC,hY,za3];refine gwq hQ ?_)|refine gwC ?_ ?_<;>intro hb
   all_goals
    intro C2 hC2 hh2 hY2
    clear hC hY
    have hC:=hC2
    have hY:=hY2
    repeat' first|refine gwZ ?_|(refine gwX ?_;intro Q hQ _;simp [hC,hY,za3,s0,s1,s2];refine gwq hQ ?_)|refine gwC ?_ ?_<;>intro hb
   all_goals simp
  ·left
   refine ⟨by simp [xsV],?_⟩
   obtain ⟨w,hw⟩:∃ w:Bool,w=true↔fnI (op a0 b0)/\fnI (op a1 b1)/\fnI (op a2 b2):=⟨decide _,decide_eq_true_iff⟩
   cases w with
   | false =>
    have e:eaE op a0 a1 a2 b0 b1 b2=20:=by unfold eaE;rw [if_neg];intro h;exact absurd (hw.2 h.2) (by simp)
    rw [e]
    unfold eaL
    repeat' first|refine gwZ ?_|((first|refine gwR [85] ?_|refine gwD [85] ?_);intro Q hQ _;(repeat first|simp [hC,hY,zb9,List.cons_append,List.nil_append]|refine zac (zoq (op a0 b0) (op a1 b1) (op a2 b2) _ hw) G0F (B:=200) ⟨by simp,by simp [zab],by simp [zae,zaj,zal]⟩ (λk=>if k=100 then 408 else k) (λk hk=>if_neg (by omega)) (by simp [ren,zas,zan,zao]) (by simp) (by simp [Blk.rn,zan,zao]) (by simp [zab]) (by simp [zab];rfl) ?_);refine gwq hQ ?_)|refine gwC ?_ ?_<;>intro hb
    refine ⟨.inr trivial,?_⟩
    simp [results64,eaV]
   | true =>
    have e:eaE op a0 a1 a2 b0 b1 b2=0:=by unfold eaE;rw [if_pos];exact ⟨hv.1 rfl,hw.1 rfl⟩
    rw [e]
    unfold eaL
    repeat' first|refine gwZ ?_|((first|refine gwR [85] ?_|refine gwD [85] ?_);intro Q hQ _;(repeat first|simp [hC,hY,zb9,List.cons_append,List.nil_append]|refine zac (zoq (op a0 b0) (op a1 b1) (op a2 b2) _ hw) G0F (B:=200) ⟨by simp,by simp [zab],by simp [zae,zaj,zal]⟩ (λk=>if k=100 then 408 else k) (λk hk=>if_neg (by omega)) (by simp [ren,zas,zan,zao]) (by simp) (by simp [Blk.rn,zan,zao]) (by simp [zab]) (by simp [zab];rfl) ?_);refine gwq hQ ?_)|refine gwC ?_ ?_<;>intro hb
    refine ⟨.inr trivial,?_⟩
    simp [results64,eaV]
theorem jm6 (g:FuncId) (op:Int->Int->Int) (hop:∀ x y K,fnI x->fnI y->(za2 prog G0 g #[.int .i64 x,.int .i64 y] K↔K (.int .i64 (op x y)))) (a0 a1 a2 b0 b1 b2:Int) (K:Value->Prop):za2 prog G0 64 #[.agg #[.int .i64 a0,.int .i64 a1,.int .i64 a2],.agg #[.int .i64 b0,.int .i64 b1,.int .i64 b2],.func (.func g) #[] #[]] K ↔
  K (.tuple #[.agg #[.int .i64 (eaV (eaE op a0 a1 a2 b0 b1 b2) (op a0 b0)),.int .i64 (eaV (eaE op a0 a1 a2 b0 b1 b2) (op a1 b1)),.int .i64 (eaV (eaE op a0 a1 a2 b0 b1 b2) (op a2 b2))],.int .i64 (eaE op a0 a1 a2 b0 b1 b2)]):=zaf G0W (by kernel_rfl) (z25 g op hop a0 a1 a2 b0 b1 b2)
def zrl (a b:Int) (i:Nat) (rest:List Value):Hp:=hpL G0 [(200,wb a),(208,wb b),(216,wb 0),(224,wb 0),(240,⟨(lc b (i+1)++rest).toArray,.ty 86⟩)]
def zrm (i cap:Nat):Nat->Value:=tsL [(2,.pointer (some ⟨200,0,none⟩)),(3,.pointer (some ⟨208,0,none⟩)),(4,.pointer (some ⟨216,0,none⟩)),(5,.pointer (some ⟨224,0,none⟩)),(6,.slice (some ⟨240,0,none⟩) (i+1) cap)]
def plS (b:Int) (i cap:Nat) (rest:List Value):Prop:=i<=255/\i+1<=cap/\(lc b (i+1)++rest).length=4*cap/\∀ x∈rest,zbj x=true
def plI (a b:Int) (N m:Nat) (s:GS):Prop:=∃ i cap rest,i+m=N/\s=⟨zrm i cap,zrl a b i rest,256,0⟩/\plS b i cap rest/\(0<i->b*2^i<=a)
def plJ (C:Ctx) (a b:Int) (s:GS):Prop:=∃ i cap rest,Weak C s ⟨zrm i cap,zrl a b i rest,256,0⟩/\plS b i cap rest/\(0<i->b*2^i<=a)/\a<b*2^(i+1)
def jai (a b:Int) (i cap:Nat) (rest:List Value) (j:Nat):GS :=
 ⟨tsL [(2,.pointer (some ⟨200,0,none⟩)),(3,.pointer (some ⟨208,0,none⟩)),(4,.pointer (some ⟨216,0,none⟩)),(5,.pointer (some ⟨224,0,none⟩)),(6,.slice (some ⟨240,0,none⟩) (i+1) cap),(9,.pointer (some ⟨256,0,none⟩)),(10,.int .i64 (i - j))],
 hpL G0 [(200,wb (a%(b*2^(i+1 - j)))),(208,wb b),(216,wb 0),(224,wb 0),(240,⟨(lc b (i+1)++rest).toArray,.ty 86⟩),(256,wb (a / (b*2^(i+1 - j))))],400,0⟩
theorem jea {b:Int} (hb0:0<b) (i:Nat) (h:b*2^i<57896044618658097711785492504343953926634992332820282019728792003956564819968):i<255:=by
 refine Classical.byContradiction λhc=>?_
 have h1:(2:Int)^255<=2^i:=by exact_mod_cast Nat.pow_le_pow_right (by omega) (by omega:255<=i)
 have h2:(1:Int)*2^i<=b*2^i:=Int.mul_le_mul_of_nonneg_right (by omega) (Int.le_of_lt (zbi i))
 have h3:(2:Int)^255=57896044618658097711785492504343953926634992332820282019728792003956564819968:=rfl
 omega
theorem z22 (b:Int) (i:Nat):b*2^(i+1)=b*2^i+b*2^i:=by rw [Int.pow_succ,<-Int.mul_assoc,Int.mul_comm,Int.two_mul]
theorem zth {z:Int} (h0:0<=z) (h1:z<57896044618658097711785492504343953926634992332820282019728792003956564819968):ng z=false:=by
 rw [ze1,zhk h0 h1];simp;exact h0
theorem z4a {z:Int} (h0:57896044618658097711785492504343953926634992332820282019728792003956564819968<=z) (h1:z<115792089237316195423570985008687907853269984665640564039457584007913129639936):ng z=true:=by
 rw [ze1];simp
 unfold sz;rw [Int.bmod_def];split<;>omega
theorem zxy {x:Value} (h:x∈(Value.agg #[.int .u64 0,.int .u64 0,.int .u64 0,.int .u64 0]).cells):zbj x=true:=by
 simp [Value.cells] at h;subst h;rfl
theorem zhq {b:Int} {k:Nat} {rest:List Value} {T:TypeId} {D:Nat->Prop} (h:∀ x∈rest,zbj x=true):(Blk.mk (lc b k++rest).toArray T).ids D:=λx hx=>by
 simp only [List.mem_toArray,List.mem_append] at hx
 rcases hx with hx|hx
 ·exact zdw (zq1 b k x hx)
 ·exact zdw (h x hx)
theorem z8t {a m:Int} (h0:0<=a) (hm:0<m):a%m<=a:=by
 have h1:=Int.mul_ediv_add_emod a m
 have h2:=Int.ediv_nonneg h0 (Int.le_of_lt hm)
 have h3:=Int.mul_nonneg (Int.le_of_lt hm) h2
 omega
theorem zs5 (b:Int) (i:Nat) (rest:List Value):(lc b (i+1)++rest).take ((i+1)*4)=lc b (i+1):=by
 rw [show (i+1)*4=(lc b (i+1)).length by simp;omega,List.take_left]
theorem z9o {b Y:Int} (i:Nat) (rest:List Value) (h:b*2^(i+1)=Y):(lc b (i+1)++rest).take ((i+1)*4)++wl Y++(lc b (i+1)++rest).drop ((i+1)*4+(wl Y).length)=lc b (i+2)++rest.drop 4:=by
 rw [zs5,jhu,show (i+1)*4+4=(lc b (i+1)).length+4 by simp;omega,List.drop_append]
 simp only [Nat.add_sub_cancel_left]
 rw [List.drop_eq_nil_of_le (by omega),List.nil_append,<-h]
 rfl
theorem z9n {b Y:Int} (i:Nat) (rest tl:List Value) (h:b*2^(i+1)=Y):(lc b (i+1)++rest).take ((i+1)*4)++wl Y++tl=lc b (i+2)++tl:=by
 rw [zs5,<-h];rfl
theorem z6w {b:Int} {k:Nat} {rest:List Value} {T:TypeId} {ρ:Nat->Nat} (h:∀ x∈rest,zbj x=true):(Blk.mk (lc b k++rest).toArray T).rn ρ=⟨(lc b k++rest).toArray,T⟩:=by
 unfold Blk.rn
 rw [zbn]
 intro x hx
 simp only [List.mem_toArray,List.mem_append] at hx
 rcases hx with hx|hx
 ·exact zcc (zq1 b k x hx)
 ·exact zcc (h x hx)
theorem jhq (a b c d:Int) (T:TypeId) (ρ:Nat->Nat):(Blk.mk #[.int .u64 a,.int .u64 b,.int .u64 c,.int .u64 d] T).rn ρ=⟨#[.int .u64 a,.int .u64 b,.int .u64 c,.int .u64 d],T⟩:=by simp [Blk.rn,zan,zao]
theorem jaj (a b:Int) (ha:wr a) (h0:0<=a) (hb:wr b) (hb0:0<b):Ret prog G0 140 #[wd a,wd b] (.tuple #[wd (a / b),wd (a%b)]):=by
 refine zav G0F func140 rfl call140 (by simp) (by simp) (by simp [ntmps140]) ?_
 intro C hC hC0 hY
 repeat' first|refine gwZ ?_|refine gwW ?_|refine gwC ?_ ?_<;>intro hb
 refine z74 (plJ C a b) ?_ ?_
 ·refine zhw (plI a b 255) (m0:=255) (s0:=⟨zrm 0 1,zrl a b 0 [],256,0⟩) ?_ ⟨0,1,[],by omega,rfl,⟨by omega,by omega,rfl,by simp⟩,by omega⟩ ?_
  ·refine zbc _ 256 hC G0F (m0:=[]) hC0 (by omega) ?_ ?_ ?_
   ·simp [zap,zau,zaj,zal,dom]
   ·simp [zae,zaj,zal,wb,lc,wl,zd9]
   ·simp
  ·rintro m _ ⟨i,cap,rest,him,rfl,⟨hi255,hcap,hlen,hrf⟩,hle⟩
   have bi:Int.bmod (i:Int) 18446744073709551616=i:=bm (by omega) (by omega)
   have fit:i*4+4<=4*(i+1)+rest.length:=by omega
   have rd:List.take 4 (List.drop (i*4) (lc b (i+1)++rest))=[.int .u64 (wi (b*2^i) 0),.int .u64 (wi (b*2^i) 1),.int .u64 (wi (b*2^i) 2),.int .u64 (wi (b*2^i) 3)]:=by
    rw [Nat.mul_comm];exact zq2 b (i+1) i rest (by omega)
   have i0:(0:Int)<=i:=by omega
   have i1:(i:Int)<i+1:=by omega
   have hau:=ha.2
   have hbu:=hb.2
   have hX0:0<b*2^i:=Int.mul_pos hb0 (zbi i)
   have hX1:b*2^i<57896044618658097711785492504343953926634992332820282019728792003956564819968:=by
    by_cases hi0:i=0
    ·subst hi0;simpa using hbu
    ·exact Int.lt_of_le_of_lt (hle (by omega)) hau
   have sza:sz a=a:=zcg ha
   have hd:=z22 b i
   have n1:ng (b*2^i)=false:=zth (Int.le_of_lt hX0) hX1
   have hi254:=jea hb0 i hX1
   generalize hX:b*2^i=X at *
   by_cases hov:X+X<57896044618658097711785492504343953926634992332820282019728792003956564819968
   ·have n2:ng (X+X)=false:=zth (by omega) hov
    have szd:sz (X+X)=X+X:=zhk (by omega) hov
    by_cases hle2:X+X<=a
    ·have hcmp:¬0<zc2 (sz (X+X)) (sz a):=by rw [szd,sza];unfold zc2;split<;>(try split)<;>omega
     unfold zrm zrl
     repeat' first|refine gwZ ?_|(refine gwX ?_;intro Q hQ _;simp [hC,hY,wb,bi,fit,rd,i0,i1,n1,n2,hcmp];refine gwq hQ ?_)|refine gwC ?_ ?_<;>intro hb
     refine jdm 3 rfl [] rfl (by kernel_rfl) ?_
     intro q hq
     simp [hC,hY]
     refine zxc (c:=lc b (i+1)++rest) (c2:=wl (X+X)) (k:=240) (j:=480) (m:=1) (m':=1) (sl:=i+1) (cap:=cap) (e:=86) (T2:=.ty 86) (sz:=4) (by':=32) (z:=.agg #[.int .u64 0,.int .u64 0,.int .u64 0,.int .u64 0]) rfl (by simp) (by simp) (by simp) (by kernel_rfl) (by simp) (by omega) (by simp) ?_ (by simp) (by simp [wl]) ?_ ?_ ?_ ?_ ?_ ?_ ?_ ?_ ?_ ?_
     ·exact λx hx=>(List.mem_append.1 hx).elim (zq1 b _ x) (hrf x)
     ·simp [wl]
     ·simp [wl,Value.oneCell']
     ·exact λq x hx=>zxy (zmq hx)
     ·simp
     ·rw [hlen];omega
     ·exact hcap
     ·unfold maxLen;omega
     ·omega
     ·intro hr
      rw [z9o i rest hd]
      simp [jh0,zbl]
      refine hq _ _ _ _ ?_
      simp only [zfx,zca]
      refine ⟨_,_,m - 1,zp1 (λk=>k) _ 256 hC G0F (m0:=[]) hC0 (by omega) ?_ ?_ ?_ ?_ ?_,⟨i+1,cap,rest.drop 4,by omega,rfl,⟨by omega,hr,?_,λx hx=>hrf x (List.mem_of_mem_drop hx)⟩,λ_=>by rw [hd];exact hle2⟩,by omega⟩
      ·simp [dom,zbz,ren,zas,zan,zao]
      ·simp [jhq,z6w (λx hx=>hrf x (List.mem_of_mem_drop hx):∀ x∈rest.drop 4,zbj x=true),zhq (λx hx=>hrf x (List.mem_of_mem_drop hx):∀ x∈rest.drop 4,zbj x=true),wb]
      ·simp
      ·exact λk _=>rfl
      ·simp
      ·simp at hlen |-;omega
     ·intro hr cap' hc'
      rw [z9n i rest _ hd]
      have hzl:(Builtin.zeroCells (Value.agg #[.int .u64 0,.int .u64 0,.int .u64 0,.int .u64 0]).cells (cap' - (i+1+1))).toList.length=(cap' - (i+1+1))*4:=by simp [zr8,Value.cells]
      have hzf:∀ x∈(Builtin.zeroCells (Value.agg #[.int .u64 0,.int .u64 0,.int .u64 0,.int .u64 0]).cells (cap' - (i+1+1))).toList,zbj x=true:=λx hx=>zxy (zmq (by simpa using hx))
      generalize (Builtin.zeroCells (Value.agg #[.int .u64 0,.int .u64 0,.int .u64 0,.int .u64 0]).cells (cap' - (i+1+1))).toList=tl at *
      simp [jh0,zbl]
      refine hq _ _ _ _ ?_
      simp only [zfx,zca]
      refine ⟨_,_,m - 1,zp1 (λk=>if k=240 then 488 else k) _ 256 hC G0F (m0:=[]) hC0 (by omega) ?_ ?_ ?_ ?_ ?_,⟨i+1,cap',tl,by omega,rfl,⟨by omega,hc',?_,hzf⟩,λ_=>by rw [hd];exact hle2⟩,by omega⟩
      ·simp [dom,zbz,ren,zas,zan,zao]
      ·simp [jhq,z6w hzf,zhq hzf,wb]
      ·simp
      ·intro k hk;simp;omega
      ·simp
      ·simp [hzl];omega
    ·have hcmp:0<zc2 (sz (X+X)) (sz a):=by rw [szd,sza];unfold zc2;split<;>(try split)<;>omega
     unfold zrm zrl
     repeat' first|refine gwZ ?_|(refine gwX ?_;intro Q hQ _;simp [hC,hY,wb,bi,fit,rd,i0,i1,n1,n2,hcmp];refine gwq hQ ?_)|refine gwC ?_ ?_<;>intro hb
     rw [if_neg (by decide),if_pos trivial,zjl]
     refine ⟨i,cap,rest,?_,⟨hi255,hcap,hlen,hrf⟩,by rw [hX];exact hle,by rw [hd];omega⟩
     refine zbc _ 256 hC G0F (m0:=[]) hC0 (by omega) ?_ ?_ ?_
     ·simp [dom]
     ·simp [wb,zhq hrf]
     ·simp
   ·have n2:ng (X+X)=true:=z4a (by omega) (by omega)
    unfold zrm zrl
    repeat' first|refine gwZ ?_|(refine gwX ?_;intro Q hQ _;simp [hC,hY,bi,fit,rd,i0,i1,n1,n2];refine gwq hQ ?_)|refine gwC ?_ ?_<;>intro hb
    rw [if_neg (by decide),if_pos trivial,zjl]
    refine ⟨i,cap,rest,?_,⟨hi255,hcap,hlen,hrf⟩,by rw [hX];exact hle,by rw [hd];omega⟩
    refine zbc _ 256 hC G0F (m0:=[]) hC0 (by omega) ?_ ?_ ?_
    ·simp [dom]
    ·simp [wb,zhq hrf]
    ·simp
 ·rintro s' ⟨i,cap,rest,hw,⟨hi255,hcap,hlen,hrf⟩,hle,hlt⟩
  refine zww hw ?_
  clear hw
  have bi:Int.bmod (i:Int) 18446744073709551616=i:=bm (by omega) (by omega)
  have hau:=ha.2
  have hbu:=hb.2
  have sza:sz a=a:=zcg ha
  have hlt0:=Int.emod_eq_of_lt h0 hlt
  have hlt1:=Int.ediv_eq_zero_of_lt h0 hlt
  unfold zrm zrl
  repeat' first|refine gwZ ?_|(refine gwX ?_;intro Q hQ _;simp [hC,hY,wb,bi];refine gwq hQ ?_)|refine gwC ?_ ?_<;>intro hb
  refine zb3 (i+1) (jai a b i cap rest) ?_ ?_ ?_
  ·refine zbc _ 400 hC G0F (m0:=[]) hC0 (by omega) ?_ ?_ ?_
   ·simp [dom]
   ·simp [wb,zhq hrf,hlt0,hlt1,zd9]
   ·simp
  ·intro j hj
   obtain ⟨n,hn⟩:∃ n:Nat,n+j=i:=⟨i - j,by omega⟩
   have e1:i+1 - j=n+1:=by omega
   have e2:i+1 - (j+1)=n:=by omega
   have e3:(i:Int) - (j:Int)=n:=by omega
   have e4:Int.bmod ((n:Int) - 1) 18446744073709551616=(i:Int) - ((j+1:Nat):Int):=by rw [bm (by omega) (by omega)];omega
   have hX0:0<b*2^n:=Int.mul_pos hb0 (zbi n)
   have hX1:b*2^n<57896044618658097711785492504343953926634992332820282019728792003956564819968:=by
    by_cases hi0:i=0
    ·obtain rfl:n=0:=by omega
     simpa using hbu
    ·have h2:(2:Int)^n<=2^i:=by exact_mod_cast Nat.pow_le_pow_right (by omega) (by omega:n<=i)
     exact Int.lt_of_le_of_lt (Int.le_trans (Int.mul_le_mul_of_nonneg_left h2 (Int.le_of_lt hb0)) (hle (by omega))) hau
   have fit:n*4+4<=4*(i+1)+rest.length:=by omega
   have rd:List.take 4 (List.drop (n*4) (lc b (i+1)++rest))=[.int .u64 (wi (b*2^n) 0),.int .u64 (wi (b*2^n) 1),.int .u64 (wi (b*2^n) 2),.int .u64 (wi (b*2^n) 3)]:=by
    rw [Nat.mul_comm];exact zq2 b (i+1) n rest (by omega)
   have i0:(0:Int)<=n:=by omega
   have i1:(n:Int)<i+1:=by omega
   have hm0:=Int.emod_nonneg a (show b*2^(n+1)≠0 by have:=Int.mul_pos hb0 (zbi (n+1));omega)
   have hm1:a%(b*2^(n+1))<=a:=z8t h0 (Int.mul_pos hb0 (zbi (n+1)))
   have hh:=jk7 (a:=a) hb0 n
   unfold jai
   rw [e1,e2,e3]
   have szX:sz (b*2^n)=b*2^n:=zhk (Int.le_of_lt hX0) hX1
   have szR:sz (a%(b*2^(n+1)))=a%(b*2^(n+1)):=zhk hm0 (Int.lt_of_le_of_lt hm1 hau)
   rcases hh with ⟨g1,g2,g3⟩|⟨g1,g2,g3⟩
   ·rw [g2,g3,Int.two_mul]
    have hcmp:¬zc2 (sz (b*2^n)) (sz (a%(b*2^(n+1))))<=0:=by rw [szX,szR];unfold zc2;split<;>(try split)<;>omega
    clear g1 g2 g3 hm0 hm1 szX szR hlt0 hlt1
    generalize a%(b*2^(n+1))=R at *
    generalize a / (b*2^(n+1))=q at *
    generalize b*2^n=X at *
    repeat' first|refine gwZ ?_|(refine gwX ?_;intro Q hQ _;simp [hC,hY,wb,bi,fit,rd,i0,i1,hcmp,e4];refine gwq hQ ?_)|refine gwC ?_ ?_<;>intro hb
    refine zbc _ 400 hC G0F (m0:=[]) hC0 (by omega) ?_ ?_ ?_
    ·simp [dom]
    ·simp [wb,zhq hrf]
    ·simp
   ·rw [g2,g3,Int.two_mul]
    have hcmp:zc2 (sz (b*2^n)) (sz (a%(b*2^(n+1))))<=0:=by rw [szX,szR];unfold zc2;split<;>(try split)<;>omega
    clear g1 g2 g3 hm0 hm1 szX szR hlt0 hlt1
    generalize a%(b*2^(n+1))=R at *
    generalize a / (b*2^(n+1))=q at *
    generalize b*2^n=X at *
    repeat' first|refine gwZ ?_|(refine gwX ?_;intro Q hQ _;simp [hC,hY,wb,bi,fit,rd,i0,i1,hcmp,e4];refine gwq hQ ?_)|refine gwC ?_ ?_<;>intro hb
    refine zbc _ 400 hC G0F (m0:=[]) hC0 (by omega) ?_ ?_ ?_
    ·simp [dom]
    ·simp [wb,zhq hrf]
    ·simp
  ·have e1:i+1 - (i+1)=0:=by omega
   have e3:¬(0:Int)<=(i:Int) - ((i+1:Nat):Int):=by omega
   unfold jai
   rw [e1,Int.pow_zero,Int.mul_one]
   generalize (i:Int) - ((i+1:Nat):Int)=z at *
   repeat' first|refine gwZ ?_|(refine gwX ?_;intro Q hQ _;simp [hC,hY,wb,e3];refine gwq hQ ?_)|refine gwC ?_ ?_<;>intro hb
   refine ⟨.inr trivial,?_⟩
   simp [results140]
@[simp] theorem jmg (a b:Int) (ha:wr a) (h0:0<=a) (hB:wr b) (hb0:0<b) (K:Value->Prop):za2 prog G0 140 #[Value.agg #[.int .u64 (wi (a) 0),.int .u64 (wi (a) 1),.int .u64 (wi (a) 2),.int .u64 (wi (a) 3)],Value.agg #[.int .u64 (wi (b) 0),.int .u64 (wi (b) 1),.int .u64 (wi (b) 2),.int .u64 (wi (b) 3)]] K↔K (.tuple #[wd (a / b),wd (a%b)]):=zaf G0W (by kernel_rfl) (jaj a b ha h0 hB hb0)
theorem zw9 (a b:Int) (ha:wr a) (h0:0<=a) (hB:wr b) (hb0:0<b):Ret prog G0 130 #[wd a,wd b] (.tuple #[wd (a / b),wd (a%b)]):=by
 refine zav G0F func130 rfl call130 (by simp) (by simp) (by simp [ntmps130]) ?_
 intro C hC hC0 hY
 have s1:0<=zc2 (sz a) 0:=by rw [zcg ha];unfold zc2;split<;>(try split)<;>omega
 repeat' first|refine gwZ ?_|(refine gwX ?_;intro Q hQ _;simp [hC,hY,s1,ha,h0,hB,hb0];refine gwq hQ ?_)|refine gwC ?_ ?_<;>intro hb
 refine ⟨.inr trivial,?_⟩
 simp [results130]
@[simp] theorem jmd (a b:Int) (ha:wr a) (h0:0<=a) (hB:wr b) (hb0:0<b) (K:Value->Prop):za2 prog G0 130 #[Value.agg #[.int .u64 (wi (a) 0),.int .u64 (wi (a) 1),.int .u64 (wi (a) 2),.int .u64 (wi (a) 3)],Value.agg #[.int .u64 (wi (b) 0),.int .u64 (wi (b) 1),.int .u64 (wi (b) 2),.int .u64 (wi (b) 3)]] K↔K (.tuple #[wd (a / b),wd (a%b)]):=zaf G0W (by kernel_rfl) (zw9 a b ha h0 hB hb0)
theorem zmw {p q r s:Bool} (h:(!p||(!q||(!r||!s)))=true):(p&&(q&&(r&&s)))=false:=by cases p<;>cases q<;>cases r<;>cases s<;>simp_all
theorem zup (a b:Int) (ha:wr a) (h0:0<=a) (hB:wr b) (hb0:0<b):Ret prog G0 112 #[wd a,wd b] (.tuple #[wd (a / b),wd (a%b),.int .i64 0]):=by
 refine zav G0F func112 rfl call112 (by simp) (by simp) (by simp [ntmps112]) ?_
 intro C hC hC0 hY
 have s1:0<zc2 (sz b) 0:=by rw [zcg hB];unfold zc2;split<;>(try split)<;>omega
 have z1:=zmw (z1o hB (by omega))
 have l1:=zmw <| zg2 a ha (λe=>by rw [e] at h0;exact absurd h0 (by decide))
 have l2:=zmw <| zg2 b hB (λe=>by rw [e] at hb0;exact absurd hb0 (by decide))
 repeat' first|refine gwZ ?_|(refine gwX ?_;intro Q hQ _;simp [hC,hY,s1,ha,h0,hB,hb0,z1,l1,l2];refine gwq hQ ?_)|refine gwC ?_ ?_<;>intro hb
 refine ⟨.inr trivial,?_⟩
 simp [results112]
@[simp] theorem jme (a b:Int) (ha:wr a) (h0:0<=a) (hB:wr b) (hb0:0<b) (K:Value->Prop):za2 prog G0 112 #[Value.agg #[.int .u64 (wi (a) 0),.int .u64 (wi (a) 1),.int .u64 (wi (a) 2),.int .u64 (wi (a) 3)],Value.agg #[.int .u64 (wi (b) 0),.int .u64 (wi (b) 1),.int .u64 (wi (b) 2),.int .u64 (wi (b) 3)]] K↔K (.tuple #[wd (a / b),wd (a%b),.int .i64 0]):=zaf G0W (by kernel_rfl) (zup a b ha h0 hB hb0)
theorem zt5 (a b:Int) (ha:wr a) (h0:0<=a) (hB:wr b) (hb0:0<b):Ret prog G0 84 #[wd a,wd b] (.tuple #[wd (a / b),.int .i64 0]):=by
 refine zav G0F func84 rfl call84 (by simp) (by simp) (by simp [ntmps84]) ?_
 intro C hC hC0 hY
 repeat' first|refine gwZ ?_|(refine gwX ?_;intro Q hQ _;simp [hC,hY,ha,h0,hB,hb0];refine gwq hQ ?_)|refine gwC ?_ ?_<;>intro hb
 refine ⟨.inr trivial,?_⟩
 simp [results84]
@[simp] theorem jmc (a b:Int) (ha:wr a) (h0:0<=a) (hB:wr b) (hb0:0<b) (K:Value->Prop):za2 prog G0 84 #[Value.agg #[.int .u64 (wi (a) 0),.int .u64 (wi (a) 1),.int .u64 (wi (a) 2),.int .u64 (wi (a) 3)],Value.agg #[.int .u64 (wi (b) 0),.int .u64 (wi (b) 1),.int .u64 (wi (b) 2),.int .u64 (wi (b) 3)]] K↔K (.tuple #[wd (a / b),.int .i64 0]):=zaf G0W (by kernel_rfl) (zt5 a b ha h0 hB hb0)
end Go.Gy
namespace Go.Gy
open Go Go.RowKit Go.Proofs
def jgh (n d:Int):Bool:=decide (-2097152<=n/\n<=2097152/\1<=d/\d<=2097152)
def d1E (v n d:Int):Int:=if jgh n d=true/\-1073741824<=v/\v<=1073741824 then 0 else 2
def d1V (v n d:Int):Int:=if jgh n d=true/\-1073741824<=v/\v<=1073741824 then jlu (v*n) d else 0
end Go.Gy
namespace Go.Gy
open Go Go.RowKit Go.Proofs Go.Proofs.Tryz
def wyE (v0 v1 v2 n d:Int):Int:=if d1E v0 n d=0 then (if d1E v1 n d=0 then d1E v2 n d else d1E v1 n d) else d1E v0 n d
theorem zr5 (x0 x1 x2 m:Int) (hm:i64 m):Ret prog G0 74 #[.agg #[.int .i64 x0,.int .i64 x1,.int .i64 x2],.int .i64 m] (.bool (decide (inW m x0/\inW m x1/\inW m x2))):=by
 refine zav G0F func74 rfl call74 rfl (by simp) (by simp [ntmps74]) ?_
 intro C hC hC0 hY
 by_cases q:m<0
 ·have e:decide (inW m x0/\inW m x1/\inW m x2)=false:=decide_eq_false (by unfold inW;omega)
  rw [e]
  repeat' first|refine zad ?_|refine zag ?_|refine gwZ ?_|(refine gwX ?_;intro Q hQ _;simp [hC,hY,q];refine gwq hQ ?_)|refine gwC ?_ ?_<;>intro hb
  refine ⟨.inr trivial,?_⟩
  simp [results74]
 ·have hbm:=ztf hm (Int.not_lt.1 q)
  rcases Classical.em (m<x0) with a0|a0
  ·have e:decide (inW m x0/\inW m x1/\inW m x2)=false:=decide_eq_false (by unfold inW;omega)
   rw [e]
   repeat' first|refine zad ?_|refine zag ?_|refine gwZ ?_|(refine gwX ?_;intro Q hQ _;simp [hC,hY,q,hbm,a0];refine gwq hQ ?_)|refine gwC ?_ ?_<;>intro hb
   refine ⟨.inr trivial,?_⟩
   simp [results74]
  rcases Classical.em (x0 < -m) with b0|b0
  ·have e:decide (inW m x0/\inW m x1/\inW m x2)=false:=decide_eq_false (by unfold inW;omega)
   rw [e]
   repeat' first|refine zad ?_|refine zag ?_|refine gwZ ?_|(refine gwX ?_;intro Q hQ _;simp [hC,hY,q,hbm,a0,b0];refine gwq hQ ?_)|refine gwC ?_ ?_<;>intro hb
   refine ⟨.inr trivial,?_⟩
   simp [results74]
  rcases Classical.em (m<x1) with a1|a1
  ·have e:decide (inW m x0/\inW m x1/\inW m x2)=false:=decide_eq_false (by unfold inW;omega)
   rw [e]
   repeat' first|refine zad ?_|refine zag ?_|refine gwZ ?_|(refine gwX ?_;intro Q hQ _;simp [hC,hY,q,hbm,a0,b0,a1];refine gwq hQ ?_)|refine gwC ?_ ?_<;>intro hb
   refine ⟨.inr trivial,?_⟩
   simp [results74]
  rcases Classical.em (x1 < -m) with b1|b1
  ·have e:decide (inW m x0/\inW m x1/\inW m x2)=false:=decide_eq_false (by unfold inW;omega)
   rw [e]
   repeat' first|refine zad ?_|refine zag ?_|refine gwZ ?_|(refine gwX ?_;intro Q hQ _;simp [hC,hY,q,hbm,a0,b0,a1,b1];refine gwq hQ ?_)|refine gwC ?_ ?_<;>intro hb
   refine ⟨.inr trivial,?_⟩
   simp [results74]
  rcases Classical.em (m<x2) with a2|a2
  ·have e:decide (inW m x0/\inW m x1/\inW m x2)=false:=decide_eq_false (by unfold inW;omega)
   rw [e]
   repeat' first|refine zad ?_|refine zag ?_|refine gwZ ?_|(refine gwX ?_;intro Q hQ _;simp [hC,hY,q,hbm,a0,b0,a1,b1,a2];refine gwq hQ ?_)|refine gwC ?_ ?_<;>intro hb
   refine ⟨.inr trivial,?_⟩
   simp [results74]
  rcases Classical.em (x2 < -m) with b2|b2
  ·have e:decide (inW m x0/\inW m x1/\inW m x2)=false:=decide_eq_false (by unfold inW;omega)
   rw [e]
   repeat' first|refine zad ?_|refine zag ?_|refine gwZ ?_|(refine gwX ?_;intro Q hQ _;simp [hC,hY,q,hbm,a0,b0,a1,b1,a2,b2];refine gwq hQ ?_)|refine gwC ?_ ?_<;>intro hb
   refine ⟨.inr trivial,?_⟩
   simp [results74]
  have e:decide (inW m x0/\inW m x1/\inW m x2)=true:=decide_eq_true (by unfold inW;omega)
  rw [e]
  repeat' first|refine zad ?_|refine zag ?_|refine gwZ ?_|(refine gwX ?_;intro Q hQ _;simp [hC,hY,q,hbm,a0,b0,a1,b1,a2,b2];refine gwq hQ ?_)|refine gwC ?_ ?_<;>intro hb
  refine ⟨.inr trivial,?_⟩
  simp [results74]
@[simp] theorem jne (x0 x1 x2 m:Int) (hm:i64 m) (K:Value->Prop):za2 prog G0 74 #[.agg #[.int .i64 x0,.int .i64 x1,.int .i64 x2],.int .i64 m] K↔K (.bool (inV m x0 x1 x2)):=zaf G0W (by kernel_rfl) (zr5 x0 x1 x2 m hm)
structure SB (b:Blk) (off n:Nat) (f:Nat->Int):Prop where
 rd:rdI b off (6*n) f
 fx:b.fx
 i6:∀ j,j<6*n->i64 (f j)
 nn:n<=2932031007402
def inB (bx tp:Int) (f:Nat->Int) (i:Nat):Bool:=inV bx (f (6*i)) (f (6*i+1)) (f (6*i+2))&&inV tp (f (6*i+3)) (f (6*i+4)) (f (6*i+5))
theorem SB.body {b:Blk} {off n:Nat} {f:Nat->Int} (h:SB b off n f) {i:Nat} (hi:i<n):zds prog 45 b (off+i*6)=some (.agg #[.int .i64 (f (6*i)),.int .i64 (f (6*i+1)),.int .i64 (f (6*i+2)),.int .i64 (f (6*i+3)),.int .i64 (f (6*i+4)),.int .i64 (f (6*i+5))]):=by
 have hbrd:=Blk.fx_rd h.fx
 have:=zj0 (P:=prog) (T:=45) (m:=6) (j:=6*i) (zbv isAgg45) (zaq sizeOf45) (by omega) h.rd (by omega)
 rw [show off+i*6=off+6*i by omega,this,jpj]
 rfl
theorem SB.i {b:Blk} {off n:Nat} {f:Nat->Int} (h:SB b off n f) {i:Nat} (hi:i<n) (q:Nat) (hq:q<6):i64 (f (6*i+q)):=h.i6 _ (by omega)
theorem zr4 (bx tp x0 x1 x2 v0 v1 v2:Int) (hbx:i64 bx) (htp:i64 tp) (h0:i64 x0) (h1:i64 x1) (h2:i64 x2) (h3:i64 v0) (h4:i64 v1) (h5:i64 v2) :
  Fun prog G0 76 #[.agg #[.int .i64 x0,.int .i64 x1,.int .i64 x2,.int .i64 v0,.int .i64 v1,.int .i64 v2],.pointer (some ⟨100,0,none⟩),.pointer (some ⟨108,0,none⟩)] (hpL G0 [(100,jb bx),(108,jb tp)]) (zab [(100,jb bx),(108,jb tp)]) (.ret (.bool !(inV bx x0 x1 x2&&inV tp v0 v1 v2)) []):=by
 refine za5 (B:=200) G0F func76 rfl call76 ⟨by simp,by simp [zab],by simp [jb,zae,zaj,zal]⟩ ?_ (by simp) (by simp) (by simp) (by simp [ntmps76]) (by omega) ?_
 ·simp [zap,zau,zaj,zal,zab]
 intro C hC hC0 hY
 cases c0:inV bx x0 x1 x2 with
 | true =>
  cases c1:inV tp v0 v1 v2 with
  | true =>
   repeat' first|refine gwZ ?_|(refine gwX ?_;intro Q hQ _;simp [hC,hY,jb,hbx,htp,h0,h1,h2,h3,h4,h5,c0,c1];refine gwq hQ ?_)|refine gwC ?_ ?_<;>intro hb
   refine ⟨.inr rfl,by simp [results76],zdc G0F (by simp [jb]) (by (intro k hk;first|rfl|(simp (disch:=omega) only [zb9,List.mem_cons,List.not_mem_nil,or_false,zaa,zai,zat,if_neg,zaw]<;>done)))⟩
  | false =>
   repeat' first|refine gwZ ?_|(refine gwX ?_;intro Q hQ _;simp [hC,hY,jb,hbx,htp,h0,h1,h2,h3,h4,h5,c0,c1];refine gwq hQ ?_)|refine gwC ?_ ?_<;>intro hb
   refine ⟨.inr rfl,by simp [results76],zdc G0F (by simp [jb]) (by (intro k hk;first|rfl|(simp (disch:=omega) only [zb9,List.mem_cons,List.not_mem_nil,or_false,zaa,zai,zat,if_neg,zaw]<;>done)))⟩
 | false =>
  repeat' first|refine gwZ ?_|(refine gwX ?_;intro Q hQ _;simp [hC,hY,jb,hbx,htp,h0,h1,h2,h3,h4,h5,c0];refine gwq hQ ?_)|refine gwC ?_ ?_<;>intro hb
  refine ⟨.inr rfl,by simp [results76],zdc G0F (by simp [jb]) (by (intro k hk;first|rfl|(simp (disch:=omega) only [zb9,List.mem_cons,List.not_mem_nil,or_false,zaa,zai,zat,if_neg,zaw]<;>done)))⟩
theorem zb5 {m:Int} {ρ:Nat->Nat}:(jb m).rn ρ=jb m:=by simp [jb,Blk.rn,zan,zao]
def ji8 (b:Blk) (off n cap:Nat) (bx tp:Int) (i:Nat):GS :=
 ⟨tsL [(0,.slice (some ⟨100,off,none⟩) n cap),(1,.func (.func 76) #[] #[.pointer (some ⟨108,0,none⟩),.pointer (some ⟨116,0,none⟩)]),(7,.int .i64 n),(8,.int .i64 i)],
 hpL G0 [(100,b),(108,jb bx),(116,jb tp)],300,0⟩
def ixL (b:Blk) (bx tp:Int):List (Nat×Blk):=[(100,b),(108,jb bx),(116,jb tp)]
theorem zo0 {b:Blk} (hb:b.fx) (bx tp:Int):LOk (ixL b bx tp) 200:=⟨by simp [ixL],by simp [ixL,zab],by
 simp only [ixL,List.mem_cons,List.not_mem_nil,or_false,forall_eq_or_imp,forall_eq]
 exact ⟨Blk.fx_ids hb _,by simp [jb,zae,zaj,zal],by simp [jb,zae,zaj,zal]⟩⟩
theorem z6k (b:Blk) (off n cap:Nat) (f:Nat->Int) (h:SB b off n f) (bx tp:Int) (hbx:i64 bx) (htp:i64 tp) (N:Nat) (hN:N<=n) (hlt:∀ i,i<N->inB bx tp f i=true) (hend:N=n\/inB bx tp f N=false) :
  Fun prog G0 95 #[.slice (some ⟨100,off,none⟩) n cap,.func (.func 76) #[] #[.pointer (some ⟨108,0,none⟩),.pointer (some ⟨116,0,none⟩)]] (hpL G0 (ixL b bx tp)) (zab (ixL b bx tp)) (.ret (.int .i64 (if N=n then -1 else N)) []):=by
 refine za5 (B:=200) G0F func95 rfl call95 (zo0 h.fx bx tp) ?_ (by simp) (by simp) (by simp) (by simp [ntmps95]) (by omega) ?_
 ·simp [zap,zau,zaj,zal,zab,ixL]
 intro C hC hC0 hY
 have hnn:=h.nn
 unfold ixL
 repeat' first|refine gwZ ?_|refine gwW ?_|refine gwC ?_ ?_<;>intro hb
 refine zb3 N (ji8 b off n cap bx tp) ?_ ?_ ?_
 ·refine zbc _ 300 hC G0F (m0:=[(100,b),(108,jb bx),(116,jb tp)]) hC0 (by omega) ?_ ?_ ?_
  ·simp [zap,zau,zaj,zal,dom]
  ·have hi:=λD=>Blk.fx_ids h.fx D
   simp [zae,zaj,zal,jb,hi]
  ·simp
 ·intro i hi
  have hin:i<n:=by omega
  have hi':(i:Int)<n:=by omega
  have hz:(0:Int)<=i:=by omega
  have hs:Int.bmod ((i:Int)+1) 18446744073709551616=((i+1:Nat):Int):=by rw [bm (by omega) (by omega)];rfl
  have hld:=h.body hin
  have hq:=hlt i hi
  unfold inB at hq
  rw [Bool.and_eq_true] at hq
  obtain ⟨q1,q2⟩:=hq
  unfold ji8
  repeat' first|refine gwZ ?_|((first|refine gwR [76] ?_|refine gwD [76] ?_);intro Q hQ _;(repeat first|simp [hC,hY,hi,hi',hz,hs,hld,q1,q2,jb]|refine zac (zr4 bx tp _ _ _ _ _ _ hbx htp (h.i hin 0 (by omega)) (h.i hin 1 (by omega)) (h.i hin 2 (by omega)) (h.i hin 3 (by omega)) (h.i hin 4 (by omega)) (h.i hin 5 (by omega))) G0F (B:=200) ⟨by simp,by simp [zab],by simp [jb,zae,zaj,zal]⟩ (λk=>if k=100 then 108 else if k=108 then 116 else k) (λk hk=>(if_neg (by omega)).trans (if_neg (by omega))) (by simp [ren,zas,zan,zao]) (by simp) (by simp [jb,Blk.rn,zan,zao]) (by simp [zab]) (by simp [zab];rfl) ?_);refine gwq hQ ?_)|refine gwC ?_ ?_<;>intro hb
  refine zbc _ 300 hC G0F (m0:=[(100,b),(108,jb bx),(116,jb tp)]) hC0 (by omega) ?_ ?_ ?_
  ·simp [zap,zau,zaj,zal,dom,hs]
  ·have hi:=λD=>Blk.fx_ids h.fx D
   simp [zae,zaj,zal,jb,hi]
  ·simp [jb]
 ·by_cases hNn:N=n
  ·subst hNn
   simp only [if_true]
   unfold ji8
   repeat' first|refine gwZ ?_|refine gwW ?_|refine gwC ?_ ?_<;>intro hb
   refine ⟨.inr rfl,by simp [results95],kpS G0F⟩
  ·have hin:N<n:=by omega
   have hi':(N:Int)<n:=by omega
   have hz:(0:Int)<=N:=by omega
   have hld:=h.body hin
   have hq:=hend.resolve_left hNn
   unfold inB at hq
   rw [if_neg hNn]
   unfold ji8
   cases q1:inV bx (f (6*N)) (f (6*N+1)) (f (6*N+2)) with
   | false =>
    repeat' first|refine gwZ ?_|((first|refine gwR [76] ?_|refine gwD [76] ?_);intro Q hQ _;(repeat first|simp [hC,hY,hin,hi',hz,hld,q1,jb]|refine zac (zr4 bx tp _ _ _ _ _ _ hbx htp (h.i hin 0 (by omega)) (h.i hin 1 (by omega)) (h.i hin 2 (by omega)) (h.i hin 3 (by omega)) (h.i hin 4 (by omega)) (h.i hin 5 (by omega))) G0F (B:=200) ⟨by simp,by simp [zab],by simp [jb,zae,zaj,zal]⟩ (λk=>if k=100 then 108 else if k=108 then 116 else k) (λk hk=>(if_neg (by omega)).trans (if_neg (by omega))) (by simp [ren,zas,zan,zao]) (by simp) (by simp [jb,Blk.rn,zan,zao]) (by simp [zab]) (by simp [zab];rfl) ?_);refine gwq hQ ?_)|refine gwC ?_ ?_<;>intro hb
    refine ⟨.inr rfl,by simp [results95],zdc G0F (by simp [jb]) (by (intro k hk;first|rfl|(simp (disch:=omega) only [zb9,List.mem_cons,List.not_mem_nil,or_false,zaa,zai,zat,if_neg,zaw]<;>done)))⟩
   | true =>
    have q2:inV tp (f (6*N+3)) (f (6*N+4)) (f (6*N+5))=false:=by rw [q1] at hq;simpa using hq
    repeat' first|refine gwZ ?_|((first|refine gwR [76] ?_|refine gwD [76] ?_);intro Q hQ _;(repeat first|simp [hC,hY,hin,hi',hz,hld,q1,q2,jb]|refine zac (zr4 bx tp _ _ _ _ _ _ hbx htp (h.i hin 0 (by omega)) (h.i hin 1 (by omega)) (h.i hin 2 (by omega)) (h.i hin 3 (by omega)) (h.i hin 4 (by omega)) (h.i hin 5 (by omega))) G0F (B:=200) ⟨by simp,by simp [zab],by simp [jb,zae,zaj,zal]⟩ (λk=>if k=100 then 108 else if k=108 then 116 else k) (λk hk=>(if_neg (by omega)).trans (if_neg (by omega))) (by simp [ren,zas,zan,zao]) (by simp) (by simp [jb,Blk.rn,zan,zao]) (by simp [zab]) (by simp [zab];rfl) ?_);refine gwq hQ ?_)|refine gwC ?_ ?_<;>intro hb
    refine ⟨.inr rfl,by simp [results95],zdc G0F (by simp [jb]) (by (intro k hk;first|rfl|(simp (disch:=omega) only [zb9,List.mem_cons,List.not_mem_nil,or_false,zaa,zai,zat,if_neg,zaw]<;>done)))⟩
def z2g (bx tp:Int) (f:Nat->Int) (n:Nat):Bool:=(List.range n).all (inB bx tp f)
theorem zmu {bx tp:Int} {f:Nat->Int} {n:Nat}:z2g bx tp f n=true↔∀ i,i<n->inB bx tp f i=true:=by simp [z2g]
theorem zoa {bx tp:Int} {f:Nat->Int} {n N:Nat} (hN:N<=n) (hlt:∀ i,i<N->inB bx tp f i=true) (hend:N=n\/inB bx tp f N=false):z2g bx tp f n=decide (N=n):=by
 by_cases h:N=n
 ·subst h;rw [decide_eq_true rfl];exact zmu.2 hlt
 ·rw [decide_eq_false h]
  cases hb:z2g bx tp f n with
  | false=>rfl
  | true=>have:=zmu.1 hb N (by omega);rw [hend.resolve_left h] at this;cases this
theorem zy6 (p:Nat->Bool) (m:Nat):∃ N,N<=m/\(∀ i,i<N->p i=true)/\(N=m\/p N=false):=by
 obtain ⟨N,h1,h2,h3⟩:=jlo (λi=>p i=true) m
 exact ⟨N,h1,h2,h3.imp id (λh=>by simpa using h)⟩
theorem jd2 (b:Blk) (off n cap:Nat) (f:Nat->Int) (h:SB b off n f) (bx tp:Int) (hbx:i64 bx) (htp:i64 tp) :
  Fun prog G0 75 #[.slice (some ⟨100,off,none⟩) n cap,.func (.func 76) #[] #[.pointer (some ⟨108,0,none⟩),.pointer (some ⟨116,0,none⟩)]] (hpL G0 (ixL b bx tp)) (zab (ixL b bx tp)) (.ret (.bool !(z2g bx tp f n)) []):=by
 refine za5 (B:=200) G0F func75 rfl call75 (zo0 h.fx bx tp) ?_ (by simp) (by simp) (by simp) (by simp [ntmps75]) (by omega) ?_
 ·simp [zap,zau,zaj,zal,zab,ixL]
 intro C hC hC0 hY
 obtain ⟨N,hN,hlt,hend⟩:=zy6 (inB bx tp f) n
 rw [zoa hN hlt hend]
 have hr:=λρ=>Blk.fx_rn h.fx ρ
 unfold ixL
 by_cases hNn:N=n
 ·have hNn':(decide (N=n))=true:=decide_eq_true hNn
  rw [hNn']
  repeat' first|refine gwZ ?_|((first|refine gwR [95] ?_|refine gwD [95] ?_);intro Q hQ _;(repeat first|simp [hC,hY,hNn]|refine zac (z6k b off n cap f h bx tp hbx htp N hN hlt hend) G0F (B:=200) (zo0 h.fx bx tp) (λk=>k) (λk hk=>rfl) (by simp [ren,zas,zan,zao]) (by simp) (by simp [ixL,jb,Blk.rn_id]) (by simp [zab]) (by simp [zab,ixL];rfl) ?_);refine gwq hQ ?_)|refine gwC ?_ ?_<;>intro hb
  refine ⟨.inr rfl,by simp [results75],zdc G0F (by simp [jb]) (by (intro k hk;first|rfl|(simp (disch:=omega) only [zb9,List.mem_cons,List.not_mem_nil,or_false,zaa,zai,zat,if_neg,zaw]<;>done)))⟩
 ·have hNn':(decide (N=n))=false:=decide_eq_false hNn
  have hz:(0:Int)<=N:=by omega
  rw [hNn']
  repeat' first|refine gwZ ?_|((first|refine gwR [95] ?_|refine gwD [95] ?_);intro Q hQ _;(repeat first|simp [hC,hY,hNn,hz]|refine zac (z6k b off n cap f h bx tp hbx htp N hN hlt hend) G0F (B:=200) (zo0 h.fx bx tp) (λk=>k) (λk hk=>rfl) (by simp [ren,zas,zan,zao]) (by simp) (by simp [ixL,jb,Blk.rn_id]) (by simp [zab]) (by simp [zab,ixL];rfl) ?_);refine gwq hQ ?_)|refine gwC ?_ ?_<;>intro hb
  refine ⟨.inr rfl,by simp [results75],zdc G0F (by simp [jb]) (by (intro k hk;first|rfl|(simp (disch:=omega) only [zb9,List.mem_cons,List.not_mem_nil,or_false,zaa,zai,zat,if_neg,zaw]<;>done)))⟩
theorem zam {b:Blk} (hb:b.fx):LOk [(100,b)] 200:=⟨by simp,by simp [zab],by
 simp only [List.mem_singleton,forall_eq]
 exact Blk.fx_ids hb _⟩
theorem ja9 (b:Blk) (off n cap:Nat) (f:Nat->Int) (h:SB b off n f) (st bx tp:Int) (hbx:i64 bx) (htp:i64 tp) :
  Fun prog G0 52 #[.agg #[.int .i64 st,.slice (some ⟨100,off,none⟩) n cap],.int .i64 bx,.int .i64 tp] (hpL G0 [(100,b)]) (zab [(100,b)]) (.ret (.bool (z2g bx tp f n)) []):=by
 refine za5 (B:=200) G0F func52 rfl call52 (zam h.fx) ?_ (by simp) (by simp) (by simp) (by simp [ntmps52]) (by omega) ?_
 ·simp [zap,zau,zaj,zal,zab]
 intro C hC hC0 hY
 have hr:=λρ=>Blk.fx_rn h.fx ρ
 repeat' first|refine gwZ ?_|((first|refine gwR [75] ?_|refine gwD [75] ?_);intro Q hQ _;(repeat first|simp [hC,hY]|refine zac (jd2 b off n cap f h bx tp hbx htp) G0F (B:=200) (zo0 h.fx bx tp) (λk=>if k=108 then 208 else if k=116 then 216 else k) (λk hk=>(if_neg (by omega)).trans (if_neg (by omega))) (by simp [ren,zas,zan,zao]) (by simp) (by simp [ixL,hr,zb5];simp [jb]) (by simp [zab,ixL]) (by simp [zab,ixL];rfl) ?_);refine gwq hQ ?_)|refine gwC ?_ ?_<;>intro hb
 refine ⟨.inr rfl,by simp [results52],zdc G0F (by simp [jb]) (by (intro k hk;first|rfl|(simp (disch:=omega) only [zb9,List.mem_cons,List.not_mem_nil,or_false,zaa,zai,zat,if_neg,zaw]<;>done)))⟩
def stB (st:Int):Bool:=decide (-1073741824<=st/\st<=1073741824)
theorem ja6 (st:Int) (hs:i64 st):stB st=(decide ((if st<Int.bmod (-st) 18446744073709551616 then Int.bmod (-st) 18446744073709551616 else st)<=1073741824)&&decide (-1073741824<=st)):=by
 have h1:=hs.1
 have h2:=hs.2
 unfold stB
 rw [Bool.eq_iff_iff]
 simp only [Bool.and_eq_true,decide_eq_true_eq]
 rw [Int.bmod_def]
 split<;>split<;>omega
def zay (st:Int) (f:Nat->Int) (n:Nat):Bool:=stB st&&decide (1<=n/\n<=4)&&z2g 1048576 65536 f n
theorem z83:i64 1048576:=by unfold i64;omega
theorem z84:i64 65536:=by unfold i64;omega
theorem z0f (b:Blk) (off n cap:Nat) (f:Nat->Int) (h:SB b off n f) (st:Int) (hs:i64 st) :
  Fun prog G0 33 #[.agg #[.int .i64 st,.slice (some ⟨100,off,none⟩) n cap]] (hpL G0 [(100,b)]) (zab [(100,b)]) (.ret (.bool (zay st f n)) []):=by
 refine za5 (B:=200) G0F func33 rfl call33 (zam h.fx) ?_ (by simp) (by simp) (by simp) (by simp [ntmps33]) (by omega) ?_
 ·simp [zap,zau,zaj,zal,zab]
 intro C hC hC0 hY
 have hr:=λρ=>Blk.fx_rn h.fx ρ
 obtain ⟨m,hm⟩:∃ m,(if st<Int.bmod (-st) 18446744073709551616 then Int.bmod (-st) 18446744073709551616 else st)=m:=⟨_,rfl⟩
 have key:=ja6 st hs
 rw [hm] at key
 unfold zay
 rw [key]
 by_cases c0:m<=1073741824
 ·by_cases c1:-1073741824<=st
  ·by_cases c2:0<n
   ·by_cases c3:n<=4
    ·have c4:(n:Int)<=4:=by omega
     have e:decide (1<=n/\n<=4)=true:=decide_eq_true (by omega)
     rw [decide_eq_true c0,decide_eq_true c1,e]
     repeat' first|refine gwZ ?_|((first|refine gwR [52] ?_|refine gwD [52] ?_);intro Q hQ _;(repeat first|simp [hC,hY,hm,c0,c1,c2,c3,c4]|refine zac (ja9 b off n cap f h st 1048576 65536 z83 z84) G0F (B:=200) (zam h.fx) (λk=>k) (λk hk=>rfl) (by simp [ren,zas,zan,zao]) (by simp) (by simp [hr]) (by simp [zab]) (by simp [zab];rfl) ?_);refine gwq hQ ?_)|refine gwC ?_ ?_<;>intro hb
     refine ⟨.inr rfl,by simp [results33],kpS G0F⟩
    ·have c4:¬(n:Int)<=4:=by omega
     have e:decide (1<=n/\n<=4)=false:=decide_eq_false (by omega)
     rw [decide_eq_true c0,decide_eq_true c1,e]
     repeat' first|refine gwZ ?_|(refine gwX ?_;intro Q hQ _;simp [hC,hY,hm,c0,c1,c2,c3,c4];refine gwq hQ ?_)|refine gwC ?_ ?_<;>intro hb
     refine ⟨.inr rfl,by simp [results33],kpS G0F⟩
   ·have e:decide (1<=n/\n<=4)=false:=decide_eq_false (by omega)
    rw [decide_eq_true c0,decide_eq_true c1,e]
    repeat' first|refine gwZ ?_|(refine gwX ?_;intro Q hQ _;simp [hC,hY,hm,c0,c1,c2];refine gwq hQ ?_)|refine gwC ?_ ?_<;>intro hb
    refine ⟨.inr rfl,by simp [results33],kpS G0F⟩
  ·rw [decide_eq_true c0,decide_eq_false c1]
   repeat' first|refine gwZ ?_|(refine gwX ?_;intro Q hQ _;simp [hC,hY,hm,c0,c1];refine gwq hQ ?_)|refine gwC ?_ ?_<;>intro hb
   refine ⟨.inr rfl,by simp [results33],kpS G0F⟩
 ·rw [decide_eq_false c0]
  repeat' first|refine gwZ ?_|(refine gwX ?_;intro Q hQ _;simp [hC,hY,hm,c0];refine gwq hQ ?_)|refine gwC ?_ ?_<;>intro hb
  refine ⟨.inr rfl,by simp [results33],kpS G0F⟩
theorem SB.int {b:Blk} {off n:Nat} {f:Nat->Int} (h:SB b off n f) {i:Nat} (hi:i<n) {q:Nat} (hq:q<6):zds prog 3 b (off+i*6+q)=some (.int .i64 (f (6*i+q))):=by
 have hbrd:=Blk.fx_rd h.fx
 have:=zkq (P:=prog) (T:=3) (j:=6*i+q) (zbv isAgg3) h.rd (by omega)
 rw [show off+i*6+q=off+(6*i+q) by omega,this]
def z5d (b:Blk) (off n cap:Nat) (st:Int) (i:Nat):GS :=
 ⟨tsL [(1,.int .i64 1048576),(2,.int .i64 65536),(3,.pointer (some ⟨200,0,none⟩)),(7,.int .i64 i)],
 hpL G0 [(200,⟨#[.int .i64 st,.slice (some ⟨100,off,none⟩) n cap],.ty 27⟩),(100,b)],400,0⟩
theorem zox {f:Nat->Int} {i:Nat}:inB 1048576 65536 f i=true↔((-1048576<=f (6*i)/\f (6*i)<=1048576)/\(-1048576<=f (6*i+1)/\f (6*i+1)<=1048576)/\(-1048576<=f (6*i+2)/\f (6*i+2)<=1048576))/\(-65536<=f (6*i+3)/\f (6*i+3)<=65536)/\(-65536<=f (6*i+4)/\f (6*i+4)<=65536)/\(-65536<=f (6*i+5)/\f (6*i+5)<=65536):=by
 unfold inB inV inW
 simp only [Bool.and_eq_true,decide_eq_true_eq]
 omega
theorem jbg (b:Blk) (off n cap:Nat) (f:Nat->Int) (h:SB b off n f) (st:Int) :
  Fun prog G0 53 #[.agg #[.int .i64 st,.slice (some ⟨100,off,none⟩) n cap],.int .i64 1048576,.int .i64 65536] (hpL G0 [(100,b)]) (zab [(100,b)]) (.ret (.bool (z2g 1048576 65536 f n)) []):=by
 refine za5 (B:=200) G0F func53 rfl call53 (zam h.fx) ?_ (by simp) (by simp) (by simp) (by simp [ntmps53]) (by omega) ?_
 ·simp [zap,zau,zaj,zal,zab]
 intro C hC hC0 hY
 obtain ⟨N,hN,hlt,hend⟩:=zy6 (inB 1048576 65536 f) n
 have hnn:=h.nn
 rw [zoa hN hlt hend]
 repeat' first|refine gwZ ?_|refine gwW ?_|refine gwC ?_ ?_<;>intro hb
 refine zb3 N (z5d b off n cap st) ?_ ?_ ?_
 ·refine zbc _ 400 hC G0F (m0:=[(100,b)]) hC0 (by omega) ?_ ?_ ?_
  ·simp [zap,zau,zaj,zal,dom]
  ·have hi:=λD=>Blk.fx_ids h.fx D
   simp [zae,zaj,zal,hi,dom]
  ·simp
 ·intro i hi
  have hin:i<n:=by omega
  have hi':(i:Int)<n:=by omega
  have hz:(0:Int)<=i:=by omega
  have hs:Int.bmod ((i:Int)+1) 18446744073709551616=((i+1:Nat):Int):=by rw [bm (by omega) (by omega)];rfl
  have l0:=h.int hin (q:=0) (by omega)
  have l1:=h.int hin (q:=1) (by omega)
  have l2:=h.int hin (q:=2) (by omega)
  have l3:=h.int hin (q:=3) (by omega)
  have l4:=h.int hin (q:=4) (by omega)
  have l5:=h.int hin (q:=5) (by omega)
  simp only [Nat.add_zero] at l0
  obtain ⟨⟨⟨a0,b0⟩,⟨a1,b1⟩,⟨a2,b2⟩⟩,⟨a3,b3⟩,⟨a4,b4⟩,⟨a5,b5⟩⟩:=zox.1 (hlt i hi)
  replace a0:=Int.not_lt.2 a0
  replace a1:=Int.not_lt.2 a1
  replace a2:=Int.not_lt.2 a2
  replace a3:=Int.not_lt.2 a3
  replace a4:=Int.not_lt.2 a4
  replace a5:=Int.not_lt.2 a5
  replace b0:=Int.not_lt.2 b0
  replace b1:=Int.not_lt.2 b1
  replace b2:=Int.not_lt.2 b2
  replace b3:=Int.not_lt.2 b3
  replace b4:=Int.not_lt.2 b4
  replace b5:=Int.not_lt.2 b5
  unfold z5d
  repeat' first|refine zad ?_|refine zag ?_|refine gwZ ?_|(refine gwX ?_;intro Q hQ _;simp [hC,hY,hi,hin,hi',hz,hs,l0,l1,l2,l3,l4,l5,a0,a1,a2,a3,a4,a5,b0,b1,b2,b3,b4,b5];refine gwq hQ ?_)|refine gwC ?_ ?_<;>intro hb
  refine zbc _ 400 hC G0F (m0:=[(100,b)]) hC0 (by omega) ?_ ?_ ?_
  ·simp [zap,zau,zaj,zal,dom,hs]
  ·have hi:=λD=>Blk.fx_ids h.fx D
   simp [zae,zaj,zal,hi,dom]
  ·simp
 ·by_cases hNn:N=n
  ·rw [decide_eq_true hNn]
   subst hNn
   unfold z5d
   repeat' first|refine gwZ ?_|refine gwW ?_|refine gwC ?_ ?_<;>intro hb
   refine ⟨.inr rfl,by simp [results53],kpS G0F⟩
  ·rw [decide_eq_false hNn]
   have hin:N<n:=by omega
   have hi':(N:Int)<n:=by omega
   have hz:(0:Int)<=N:=by omega
   have l0:=h.int hin (q:=0) (by omega)
   have l1:=h.int hin (q:=1) (by omega)
   have l2:=h.int hin (q:=2) (by omega)
   have l3:=h.int hin (q:=3) (by omega)
   have l4:=h.int hin (q:=4) (by omega)
   have l5:=h.int hin (q:=5) (by omega)
   simp only [Nat.add_zero] at l0
   have hbad:¬inB 1048576 65536 f N=true:=by rw [hend.resolve_left hNn];simp
   rw [zox] at hbad
   unfold z5d
   by_cases a0:f (6*N) < -1048576
   ·
    repeat' first|refine zad ?_|refine zag ?_|refine gwZ ?_|(refine gwX ?_;intro Q hQ _;simp [hC,hY,hin,hi',hz,l0,l1,l2,l3,l4,l5,a0];refine gwq hQ ?_)|refine gwC ?_ ?_<;>intro hb
    refine ⟨.inr rfl,by simp [results53],kpS G0F⟩
   by_cases b0:1048576<f (6*N)
   ·
    repeat' first|refine zad ?_|refine zag ?_|refine gwZ ?_|(refine gwX ?_;intro Q hQ _;simp [hC,hY,hin,hi',hz,l0,l1,l2,l3,l4,l5,a0,b0];refine gwq hQ ?_)|refine gwC ?_ ?_<;>intro hb
    refine ⟨.inr rfl,by simp [results53],kpS G0F⟩
   by_cases a3:f (6*N+3) < -65536
   ·
    repeat' first|refine zad ?_|refine zag ?_|refine gwZ ?_|(refine gwX ?_;intro Q hQ _;simp [hC,hY,hin,hi',hz,l0,l1,l2,l3,l4,l5,a0,b0,a3];refine gwq hQ ?_)|refine gwC ?_ ?_<;>intro hb
    refine ⟨.inr rfl,by simp [results53],kpS G0F⟩
   by_cases b3:65536<f (6*N+3)
   ·
    repeat' first|refine zad ?_|refine zag ?_|refine gwZ ?_|(refine gwX ?_;intro Q hQ _;simp [hC,hY,hin,hi',hz,l0,l1,l2,l3,l4,l5,a0,b0,a3,b3];refine gwq hQ ?_)|refine gwC ?_ ?_<;>intro hb
    refine ⟨.inr rfl,by simp [results53],kpS G0F⟩
   by_cases a1:f (6*N+1) < -1048576
   ·
    repeat' first|refine zad ?_|refine zag ?_|refine gwZ ?_|(refine gwX ?_;intro Q hQ _;simp [hC,hY,hin,hi',hz,l0,l1,l2,l3,l4,l5,a0,b0,a3,b3,a1];refine gwq hQ ?_)|refine gwC ?_ ?_<;>intro hb
    refine ⟨.inr rfl,by simp [results53],kpS G0F⟩
   by_cases b1:1048576<f (6*N+1)
   ·
    repeat' first|refine zad ?_|refine zag ?_|refine gwZ ?_|(refine gwX ?_;intro Q hQ _;simp [hC,hY,hin,hi',hz,l0,l1,l2,l3,l4,l5,a0,b0,a3,b3,a1,b1];refine gwq hQ ?_)|refine gwC ?_ ?_<;>intro hb
    refine ⟨.inr rfl,by simp [results53],kpS G0F⟩
   by_cases a4:f (6*N+4) < -65536
   ·
    repeat' first|refine zad ?_|refine zag ?_|refine gwZ ?_|(refine gwX ?_;intro Q hQ _;simp [hC,hY,hin,hi',hz,l0,l1,l2,l3,l4,l5,a0,b0,a3,b3,a1,b1,a4];refine gwq hQ ?_)|refine gwC ?_ ?_<;>intro hb
    refine ⟨.inr rfl,by simp [results53],kpS G0F⟩
   by_cases b4:65536<f (6*N+4)
   ·
    repeat' first|refine zad ?_|refine zag ?_|refine gwZ ?_|(refine gwX ?_;intro Q hQ _;simp [hC,hY,hin,hi',hz,l0,l1,l2,l3,l4,l5,a0,b0,a3,b3,a1,b1,a4,b4];refine gwq hQ ?_)|refine gwC ?_ ?_<;>intro hb
    refine ⟨.inr rfl,by simp [results53],kpS G0F⟩
   by_cases a2:f (6*N+2) < -1048576
   ·
    repeat' first|refine zad ?_|refine zag ?_|refine gwZ ?_|(refine gwX ?_;intro Q hQ _;simp [hC,hY,hin,hi',hz,l0,l1,l2,l3,l4,l5,a0,b0,a3,b3,a1,b1,a4,b4,a2];refine gwq hQ ?_)|refine gwC ?_ ?_<;>intro hb
    refine ⟨.inr rfl,by simp [results53],kpS G0F⟩
   by_cases b2:1048576<f (6*N+2)
   ·
    repeat' first|refine zad ?_|refine zag ?_|refine gwZ ?_|(refine gwX ?_;intro Q hQ _;simp [hC,hY,hin,hi',hz,l0,l1,l2,l3,l4,l5,a0,b0,a3,b3,a1,b1,a4,b4,a2,b2];refine gwq hQ ?_)|refine gwC ?_ ?_<;>intro hb
    refine ⟨.inr rfl,by simp [results53],kpS G0F⟩
   by_cases a5:f (6*N+5) < -65536
   ·
    repeat' first|refine zad ?_|refine zag ?_|refine gwZ ?_|(refine gwX ?_;intro Q hQ _;simp [hC,hY,hin,hi',hz,l0,l1,l2,l3,l4,l5,a0,b0,a3,b3,a1,b1,a4,b4,a2,b2,a5];refine gwq hQ ?_)|refine gwC ?_ ?_<;>intro hb
    refine ⟨.inr rfl,by simp [results53],kpS G0F⟩
   by_cases b5:65536<f (6*N+5)
   ·
    repeat' first|refine zad ?_|refine zag ?_|refine gwZ ?_|(refine gwX ?_;intro Q hQ _;simp [hC,hY,hin,hi',hz,l0,l1,l2,l3,l4,l5,a0,b0,a3,b3,a1,b1,a4,b4,a2,b2,a5,b5];refine gwq hQ ?_)|refine gwC ?_ ?_<;>intro hb
    refine ⟨.inr rfl,by simp [results53],kpS G0F⟩
   exfalso
   omega
theorem zky (b:Blk) (off n cap:Nat) (f:Nat->Int) (h:SB b off n f) (st:Int) :
  Fun prog G0 34 #[.agg #[.int .i64 st,.slice (some ⟨100,off,none⟩) n cap]] (hpL G0 [(100,b)]) (zab [(100,b)]) (.ret (.bool (zay st f n)) []):=by
 refine za5 (B:=200) G0F func34 rfl call34 (zam h.fx) ?_ (by simp) (by simp) (by simp) (by simp [ntmps34]) (by omega) ?_
 ·simp [zap,zau,zaj,zal,zab]
 intro C hC hC0 hY
 have hr:=λρ=>Blk.fx_rn h.fx ρ
 unfold zay
 by_cases c0:-1073741824<=st
 ·by_cases c1:st<=1073741824
  ·have es:stB st=true:=decide_eq_true ⟨c0,c1⟩
   rw [es]
   by_cases c2:1<=n
   ·have c2':(1:Int)<=n:=by omega
    have c2'':0<n:=by omega
    by_cases c3:n<=4
    ·have c4:(n:Int)<=4:=by omega
     have e:decide (1<=n/\n<=4)=true:=decide_eq_true (by omega)
     rw [e]
     repeat' first|refine gwZ ?_|((first|refine gwR [53] ?_|refine gwD [53] ?_);intro Q hQ _;(repeat first|simp [hC,hY,c0,c1,c2,c2',c2'',c3,c4]|refine zac (jbg b off n cap f h st) G0F (B:=200) (zam h.fx) (λk=>k) (λk hk=>rfl) (by simp [ren,zas,zan,zao]) (by simp) (by simp [hr]) (by simp [zab]) (by simp [zab];rfl) ?_);refine gwq hQ ?_)|refine gwC ?_ ?_<;>intro hb
     refine ⟨.inr rfl,by simp [results34],kpS G0F⟩
    ·have c4:¬(n:Int)<=4:=by omega
     have e:decide (1<=n/\n<=4)=false:=decide_eq_false (by omega)
     rw [e]
     repeat' first|refine gwZ ?_|(refine gwX ?_;intro Q hQ _;simp [hC,hY,c0,c1,c2,c2',c2'',c3,c4];refine gwq hQ ?_)|refine gwC ?_ ?_<;>intro hb
     refine ⟨.inr rfl,by simp [results34],kpS G0F⟩
   ·have c2':¬(1:Int)<=n:=by omega
    have c2'':¬0<n:=by omega
    have c2''':n=0:=by omega
    have e:decide (1<=n/\n<=4)=false:=decide_eq_false (by omega)
    rw [e]
    repeat' first|refine gwZ ?_|(refine gwX ?_;intro Q hQ _;simp [hC,hY,c0,c1,c2,c2',c2'',c2'''];refine gwq hQ ?_)|refine gwC ?_ ?_<;>intro hb
    refine ⟨.inr rfl,by simp [results34],kpS G0F⟩
  ·have es:stB st=false:=decide_eq_false (by omega)
   rw [es]
   repeat' first|refine gwZ ?_|(refine gwX ?_;intro Q hQ _;simp [hC,hY,c0,c1];refine gwq hQ ?_)|refine gwC ?_ ?_<;>intro hb
   refine ⟨.inr rfl,by simp [results34],kpS G0F⟩
 ·have es:stB st=false:=decide_eq_false (by omega)
  rw [es]
  repeat' first|refine gwZ ?_|(refine gwX ?_;intro Q hQ _;simp [hC,hY,c0];refine gwq hQ ?_)|refine gwC ?_ ?_<;>intro hb
  refine ⟨.inr rfl,by simp [results34],kpS G0F⟩
theorem z0e (st:Int):Ret prog G0 34 #[.agg #[.int .i64 st,.slice none 0 0]] (.bool false):=by
 refine zav G0F func34 rfl call34 rfl (by simp) (by simp [ntmps34]) ?_
 intro C hC hC0 hY
 by_cases c0:-1073741824<=st
 ·by_cases c1:st<=1073741824
  ·(repeat' (first|refine gwZ ?_|(refine gwX ?_;intro Q hQ _;simp [hC,hY,c0,c1];refine gwq hQ ?_)|refine gwC ?_ ?_<;>intro hb))
   refine ⟨.inr trivial,?_⟩
   simp [results34]
  ·(repeat' (first|refine gwZ ?_|(refine gwX ?_;intro Q hQ _;simp [hC,hY,c0,c1];refine gwq hQ ?_)|refine gwC ?_ ?_<;>intro hb))
   refine ⟨.inr trivial,?_⟩
   simp [results34]
 ·(repeat' (first|refine gwZ ?_|(refine gwX ?_;intro Q hQ _;simp [hC,hY,c0];refine gwq hQ ?_)|refine gwC ?_ ?_<;>intro hb))
  refine ⟨.inr trivial,?_⟩
  simp [results34]
@[simp] theorem joz (st:Int) (K:Value->Prop):za2 prog G0 34 #[.agg #[.int .i64 st,.slice none 0 0]] K↔K (.bool false):=zaf G0W (by kernel_rfl) (z0e st)
def jdo (nk n:Nat) (f:Nat->Int) (v:Value) (ns:List (Nat×Blk)):Prop:=∃ (c M:Nat) (g:Nat->Int),n<=c/\6*n<=M/\(∀ j,j<6*n->g j=f j)/\v=.slice (some ⟨nk,0,none⟩) n c/\ns=[(nk,⟨fa M .i64 g,.ty 45⟩)]
theorem zba (M:Nat) (g:Nat->Int) (T:TypeId):Blk.fx ⟨fa M .i64 g,.ty T⟩:=λx hx=>by
 obtain ⟨m,rfl⟩:=zjf hx;rfl
theorem jab {b:Blk} {n:Nat} {f:Nat->Int} (v:Value) (ns:List (Nat×Blk)) (h:jdo 1000 n f v ns):zap (zc7 (λk=>k∈zab [(100,b)]) ns) v/\(∀ p∈ns,200<=p.1/\p.2.ids (zc7 (λk=>k∈zab [(100,b)]) ns))/\(∀ k b c,(k,b)∈ns->(k,c)∈ns->b=c):=by
 obtain ⟨c,M,g,h1,h2,h3,rfl,rfl⟩:=h
 refine ⟨by simp [zap,zau,zaj,zal,zc7,zab],?_,?_⟩
 ·simp only [List.mem_singleton,forall_eq]
  exact ⟨by omega,Blk.fx_ids (zba _ _ _) _⟩
 ·intro k b c h1 h2
  simp at h1 h2
  rw [h1.2,h2.2]
theorem zxq (b:Blk) (off n cap:Nat) (f:Nat->Int) (h:SB b off n f) (hcap:n<=cap) :
  FunS prog G0 51 #[.slice (some ⟨100,off,none⟩) n cap] (hpL G0 [(100,b)]) (zab [(100,b)]) (jdo 1000 n f):=by
 refine zdz (B:=200) G0F func51 rfl call51 (zam h.fx) ?_ jab (by simp [ntmps51]) (by omega) ?_
 ·simp [zap,zau,zaj,zal,zab]
 intro C hC hC0 hY
 have hnn:=h.nn
 have hbrd:=Blk.fx_rd h.fx
 repeat' first|refine gwZ ?_|refine gwW ?_|refine gwC ?_ ?_<;>intro hb
 refine za7 ?_
 simp only [Array.toList]
 refine zwp rfl (by simp) rfl underlying25 (zaq sizeOf45) ?_
 refine gwl 1 ?_;intro Q hQ;simp [hC,hY];apply hQ
 simp only [wT,wM,Nat.reduceAdd]
 by_cases hn0:n=0
 ·subst hn0
  refine zqa (p:=some (224,0)) (q:=some (100,off)) rfl (by simp) rfl underlying25 (zaq sizeOf45) (by simp;rfl) (by simp;rfl) (Nat.le_refl _) ?_
  refine gwl 1 ?_;intro Q hQ;simp [hC,hY,zbl];apply hQ
  simp only [wT,wM,Nat.reduceAdd]
  refine zbh ?_
  repeat' first|refine gwZ ?_|refine gwW ?_|refine gwC ?_ ?_<;>intro hb
  refine ⟨.inr trivial,kpS G0F,_,_,λk=>if k=1000 then 224 else k,⟨0,0,f,Nat.le_refl _,by omega,λ_ _=>rfl,rfl,rfl⟩,λk hk=>if_neg (by omega),by simp,by simp,by simp [results51,ren,zas,zan,zao],?_⟩
  simp [fa,Blk.rn]
 ·refine zp9 (p:=some ⟨224,0,none⟩) (j:=100) (b2:=b) (off2:=off) (m:=n) (m':=cap) (nw:=(fa (6*n) .i64 f).toList) (sz:=6) (by':=48) (z:=.agg #[.int .i64 0,.int .i64 0,.int .i64 0,.int .i64 0,.int .i64 0,.int .i64 0]) rfl (by simp) rfl underlying25 (zaq sizeOf45) ?_ ?_ ?_ ?_ ?_ (z7f h.rd) zei (λq x hx=>?_) (by omega) (by simp;omega) (by unfold maxLen;omega) (by omega) (λcap' hc'=>?_)
  ·kernel_rfl
  ·kernel_rfl
  ·simp
  ·simp
  ·simp
  ·have:=zmq hx
   simp [Value.cells] at this
   subst this
   rfl
  ·rw [zj8 (k:=.i64) (by simp),zqi]
   refine gwl 1 ?_;intro Q hQ;simp [hC,hY,zbl];apply hQ
   simp only [wT,wM,Nat.reduceAdd]
   refine zbh ?_
   repeat' first|refine gwZ ?_|refine gwW ?_|refine gwC ?_ ?_<;>intro hb
   refine ⟨.inr trivial,kpS G0F,_,_,λk=>if k=1000 then 224+16 else k,⟨cap',6*n+(cap' - n)*6,z1r f (6*n) 0 f,hc',?_,?_,rfl,rfl⟩,λk hk=>if_neg (by omega),by simp,by simp,by simp [results51,ren,zas,zan,zao],?_⟩
   ·omega
   ·intro j hj
    unfold z1r
    rw [if_pos (by omega)]
   ·simp only [List.mem_singleton,forall_eq]
    rw [zd3]
    simp
def zwh (nk:Nat) (st:Int) (n:Nat) (f:Nat->Int) (v:Value) (ns:List (Nat×Blk)):Prop:=∃ (c M:Nat) (g:Nat->Int),n<=c/\6*n<=M/\(∀ j,j<6*n->g j=f j)/\v=.agg #[.int .i64 st,.slice (some ⟨nk,0,none⟩) n c]/\ns=[(nk,⟨fa M .i64 g,.ty 45⟩)]
theorem ztj {b:Blk} {st:Int} {n:Nat} {f:Nat->Int} (v:Value) (ns:List (Nat×Blk)) (h:zwh 1000 st n f v ns):zap (zc7 (λk=>k∈zab [(100,b)]) ns) v/\(∀ p∈ns,200<=p.1/\p.2.ids (zc7 (λk=>k∈zab [(100,b)]) ns))/\(∀ k b c,(k,b)∈ns->(k,c)∈ns->b=c):=by
 obtain ⟨c,M,g,h1,h2,h3,rfl,rfl⟩:=h
 refine ⟨by simp [zap,zau,zaj,zal,zc7,zab],?_,?_⟩
 ·simp only [List.mem_singleton,forall_eq]
  exact ⟨by omega,Blk.fx_ids (zba _ _ _) _⟩
 ·intro k b c h1 h2
  simp at h1 h2
  rw [h1.2,h2.2]
theorem FunS.own1 {fn:FuncId} {args:Array Value} {b:Blk} {R:Value->List (Nat×Blk)->Prop} (h:FunS prog G0 fn args (hpL G0 [(100,b)]) (zab [(100,b)]) R) (hb:b.fx) (nk:Nat) (hnk:200<=nk) (hR:∀ v ns,R v ns->∀ k∈zab ns,k=1000) (ha:args.map (ren λk=>if k=1000 then nk else k)=args) :
  FunS prog G0 fn args (hpL G0 [(100,b)]) [100] (RR (λk=>if k=1000 then nk else k) R):=by
 have h0:=h.rn (λk=>if k=1000 then nk else k) G0F (zam hb).low (hp':=hpL G0 [(100,b)]) (zpl (zam hb) _ (λk hk=>if_neg (by omega)) (zam hb).low (by
  simp only [List.mem_singleton,forall_eq]
  refine ⟨by simp,?_⟩
  rw [Blk.fx_rn hb];simp) (by simp [zab])) (λv ns hr k hk=>by
  rw [hR v ns hr k hk,if_pos rfl]
  refine ⟨by omega,λhd=>hd ?_⟩
  simp [rst,zab,show ¬nk=100 by omega,show ¬nk<100 by omega]) (λv ns hr k hk l hl _=>by rw [hR v ns hr k hk,hR v ns hr l hl])
 rw [ha] at h0
 simpa [zab] using h0
theorem jaa (nk n:Nat) (f:Nat->Int):RR (λk=>if k=1000 then nk else k) (jdo 1000 n f)=jdo nk n f:=by
 funext v ns
 apply propext
 constructor
 ·rintro ⟨v0,ns0,⟨c,M,g,h1,h2,h3,rfl,rfl⟩,rfl,rfl⟩
  exact ⟨c,M,g,h1,h2,h3,by simp [ren,zas,zan,zao],by simp [rnL,zd3]⟩
 ·rintro ⟨c,M,g,h1,h2,h3,rfl,rfl⟩
  exact ⟨_,_,⟨c,M,g,h1,h2,h3,rfl,rfl⟩,by simp [ren,zas,zan,zao],by simp [rnL,zd3]⟩
theorem z2x (nk:Nat) (hnk:200<=nk) (b:Blk) (off n cap:Nat) (f:Nat->Int) (h:SB b off n f) (hcap:n<=cap) :
  FunS prog G0 51 #[.slice (some ⟨100,off,none⟩) n cap] (hpL G0 [(100,b)]) [100] (jdo nk n f):=by
 have:=(zxq b off n cap f h hcap).own1 h.fx nk hnk (λv ns hR k hk=>by
  obtain ⟨c,M,g,h1,h2,h3,rfl,rfl⟩:=hR;simpa [zab] using hk) (by simp [ren,zas,zan,zao])
 rwa [jaa] at this
theorem jac (b:Blk) (off n cap:Nat) (f:Nat->Int) (h:SB b off n f) (hcap:n<=cap) (st:Int) :
  FunS prog G0 31 #[.agg #[.int .i64 st,.slice (some ⟨100,off,none⟩) n cap]] (hpL G0 [(100,b)]) (zab [(100,b)]) (zwh 1000 st n f):=by
 refine zdz (B:=200) G0F func31 rfl call31 (zam h.fx) ?_ ztj (by simp [ntmps31]) (by omega) ?_
 ·simp [zap,zau,zaj,zal,zab]
 intro C hC hC0 hY
 repeat' first|refine gwZ ?_|refine gwW ?_|refine gwC ?_ ?_<;>intro hb
 refine za7 ?_
 simp only [Array.toList]
 refine gwl 2 ?_;intro Q hQ;simp [hC,hY];apply hQ
 simp only [wT,wM,Nat.reduceAdd]
 refine zsd (f:=.func 51) (args:=#[.slice (some ⟨100,off,none⟩) n cap]) (cap:=#[]) rfl (by simp) rfl rfl (by simp [okT]) (by simp [gev]) (by simp) (by simp [okX,zbz]) (by simp [gev]) (hC.symm▸z2x 232 (by omega) b off n cap f h hcap) (by simp) (by rw [<-hC];(intro k hk;first|rfl|(simp (disch:=omega) only [zb9,List.mem_cons,List.not_mem_nil,or_false,zaa,zai,zat,if_neg,zaw]<;>done))) ?_ ?_
 ·rintro v ns ⟨c,M,g,h1,h2,h3,rfl,rfl⟩
  simp [zab]
 ·rintro v ns ⟨c,M,g,h1,h2,h3,rfl,rfl⟩
  refine gwl 2 ?_;intro Q hQ;simp [hC,hY,zbl,zaw];apply hQ
  simp only [wT,wM,Nat.reduceAdd]
  refine zbh ?_
  repeat' first|refine gwZ ?_|refine gwW ?_|refine gwC ?_ ?_<;>intro hb
  refine ⟨.inr trivial,kpS G0F,_,_,λk=>if k=1000 then 232 else k,⟨c,M,g,h1,h2,h3,rfl,rfl⟩,λk hk=>if_neg (by omega),by simp,by simp,by simp [results31,ren,zas,zan,zao],?_⟩
  simp [zd3]
theorem zzn (b:Blk) (off n cap:Nat) (f:Nat->Int) (h:SB b off n f) (hcap:n<=cap) (st:Int) :
  FunS prog G0 22 #[.agg #[.int .i64 st,.slice (some ⟨100,off,none⟩) n cap]] (hpL G0 [(100,b)]) (zab [(100,b)]) (zwh 1000 st n f):=by
 refine zdz (B:=200) G0F func22 rfl call22 (zam h.fx) ?_ ztj (by simp [ntmps22]) (by omega) ?_
 ·simp [zap,zau,zaj,zal,zab]
 intro C hC hC0 hY
 have hnn:=h.nn
 have hbrd:=Blk.fx_rd h.fx
 repeat' first|refine gwZ ?_|refine gwW ?_|refine gwC ?_ ?_<;>intro hb
 refine za7 ?_
 simp only [Array.toList]
 refine zwp rfl (by simp) rfl underlying25 (zaq sizeOf45) ?_
 refine gwl 2 ?_;intro Q hQ;simp [hC,hY];apply hQ
 simp only [wT,wM,Nat.reduceAdd]
 by_cases hn0:n=0
 ·subst hn0
  refine zqa (p:=some (216,0)) (q:=some (100,off)) rfl (by simp) rfl underlying25 (zaq sizeOf45) (by simp;rfl) (by simp;rfl) (Nat.le_refl _) ?_
  refine gwl 2 ?_;intro Q hQ;simp [hC,hY,zbl];apply hQ
  simp only [wT,wM,Nat.reduceAdd]
  refine zbh ?_
  repeat' first|refine gwZ ?_|refine gwW ?_|refine gwC ?_ ?_<;>intro hb
  refine ⟨.inr trivial,kpS G0F,_,_,λk=>if k=1000 then 216 else k,⟨0,0,f,Nat.le_refl _,by omega,λ_ _=>rfl,rfl,rfl⟩,λk hk=>if_neg (by omega),by simp,by simp,by simp [results22,ren,zas,zan,zao],?_⟩
  simp [fa,Blk.rn]
 ·refine zp9 (p:=some ⟨216,0,none⟩) (j:=100) (b2:=b) (off2:=off) (m:=n) (m':=cap) (nw:=(fa (6*n) .i64 f).toList) (sz:=6) (by':=48) (z:=.agg #[.int .i64 0,.int .i64 0,.int .i64 0,.int .i64 0,.int .i64 0,.int .i64 0]) rfl (by simp) rfl underlying25 (zaq sizeOf45) ?_ ?_ ?_ ?_ ?_ (z7f h.rd) zei (λq x hx=>?_) (by omega) (by simp;omega) (by unfold maxLen;omega) (by omega) (λcap' hc'=>?_)
  ·kernel_rfl
  ·kernel_rfl
  ·simp
  ·simp
  ·simp
  ·have:=zmq hx
   simp [Value.cells] at this
   subst this
   rfl
  ·rw [zj8 (k:=.i64) (by simp),zqi]
   refine gwl 2 ?_;intro Q hQ;simp [hC,hY,zbl];apply hQ
   simp only [wT,wM,Nat.reduceAdd]
   refine zbh ?_
   repeat' first|refine gwZ ?_|refine gwW ?_|refine gwC ?_ ?_<;>intro hb
   refine ⟨.inr trivial,kpS G0F,_,_,λk=>if k=1000 then 216+24 else k,⟨cap',6*n+(cap' - n)*6,z1r f (6*n) 0 f,hc',?_,?_,rfl,rfl⟩,λk hk=>if_neg (by omega),by simp,by simp,by simp [results22,ren,zas,zan,zao],?_⟩
   ·omega
   ·intro j hj
    unfold z1r
    rw [if_pos (by omega)]
   ·simp only [List.mem_singleton,forall_eq]
    rw [zd3]
    simp
theorem zxr:Ret prog G0 51 #[.slice none 0 0] (.slice none 0 0):=by
 refine zav G0F func51 rfl call51 (by simp) (by simp) (by simp [ntmps51]) ?_
 intro C hC hC0 hY
 repeat' first|refine gwZ ?_|refine gwW ?_|refine gwC ?_ ?_<;>intro hb
 refine ⟨.inr trivial,?_⟩
 simp [results51]
@[simp] theorem jno (K:Value->Prop):za2 prog G0 51 #[.slice none 0 0] K↔K (.slice none 0 0):=zaf G0W (by kernel_rfl) zxr
theorem jad (st:Int):Ret prog G0 31 #[.agg #[.int .i64 st,.slice none 0 0]] (.agg #[.int .i64 st,.slice none 0 0]):=by
 refine zav G0F func31 rfl call31 (by simp) (by simp) (by simp [ntmps31]) ?_
 intro C hC hC0 hY
 repeat' first|refine gwZ ?_|refine gwW ?_|refine gwC ?_ ?_<;>intro hb
 refine ⟨.inr trivial,?_⟩
 simp [results31]
theorem znd:LOk [] 200:=⟨by simp,by simp [zab],by simp⟩
theorem zzo (st:Int):FunS prog G0 22 #[.agg #[.int .i64 st,.slice none 0 0]] (hpL G0 []) (zab []) (zwh 1000 st 0 λ_=>0):=by
 refine zdz (B:=200) G0F func22 rfl call22 znd ?_ ?_ (by simp [ntmps22]) (by omega) ?_
 ·simp [zap,zau,zaj,zal,zab]
 ·intro v ns h
  obtain ⟨c,M,g,h1,h2,h3,rfl,rfl⟩:=h
  refine ⟨by simp [zap,zau,zaj,zal,zc7,zab],?_,?_⟩
  ·simp only [List.mem_singleton,forall_eq]
   exact ⟨by omega,Blk.fx_ids (zba _ _ _) _⟩
  ·intro k b c h1 h2
   simp at h1 h2
   rw [h1.2,h2.2]
 intro C hC hC0 hY
 repeat' first|refine gwZ ?_|refine gwW ?_|refine gwC ?_ ?_<;>intro hb
 refine za7 ?_
 simp only [Array.toList]
 refine zwp rfl (by simp) rfl underlying25 (zaq sizeOf45) ?_
 refine gwl 2 ?_;intro Q hQ;simp [hC,hY];apply hQ
 simp only [wT,wM,Nat.reduceAdd]
 refine zqa (p:=some (216,0)) (q:=none) rfl (by simp) rfl underlying25 (zaq sizeOf45) (by simp;rfl) (by simp;rfl) (Nat.le_refl _) ?_
 refine gwl 2 ?_;intro Q hQ;simp [hC,hY,zbl];apply hQ
 simp only [wT,wM,Nat.reduceAdd]
 refine zbh ?_
 repeat' first|refine gwZ ?_|refine gwW ?_|refine gwC ?_ ?_<;>intro hb
 refine ⟨.inr trivial,kpS G0F,_,_,λk=>if k=1000 then 216 else k,⟨0,0,λ_=>0,Nat.le_refl _,by omega,λ_ _=>rfl,rfl,rfl⟩,λk hk=>if_neg (by omega),by simp,by simp,by simp [results22,ren,zas,zan,zao],?_⟩
 simp [fa,Blk.rn]
end Go.Gy
namespace Go.Gy
open Go Go.RowKit Go.Proofs
def dwE (f:Nat->Int) (p q:Int) (i:Nat):Int:=wyE (f (6*i+3)) (f (6*i+4)) (f (6*i+5)) p q
def dwV (f:Nat->Int) (p q:Int) (i j:Nat):Int:=eaV (dwE f p q i) (d1V (f (6*i+3+j)) p q)
def zcu (st:Int) (k off n cap:Nat):Blk:=⟨#[.int .i64 st,.slice (some ⟨k,off,none⟩) n cap],.ty 27⟩
end Go.Gy
namespace Go.Gy
open Go Go.RowKit Go.Proofs
end Go.Gy
namespace Go.Gy
open Go Go.RowKit Go.Proofs
theorem zqu {m x y z:Int}:inV m x y z=true↔inW m x/\inW m y/\inW m z:=by unfold inV;exact decide_eq_true_iff
theorem zcs {st:Int} {f:Nat->Int} {n:Nat} (h:zay st f n=true):(-1073741824<=st/\st<=1073741824)/\(1<=n/\n<=4)/\∀ i,i<n->inB 1048576 65536 f i=true:=by
 unfold zay stB at h
 simp only [Bool.and_eq_true,decide_eq_true_eq] at h
 exact ⟨h.1.1,h.1.2,zmu.1 h.2⟩
theorem ze3 {st:Int} {f:Nat->Int} {n:Nat} (h:zay st f n=true) {i:Nat} (hi:i<n):(inW 1048576 (f (6*i))/\inW 1048576 (f (6*i+1))/\inW 1048576 (f (6*i+2)))/\(inW 65536 (f (6*i+3))/\inW 65536 (f (6*i+4))/\inW 65536 (f (6*i+5))):=by
 have:=(zcs h).2.2 i hi
 unfold inB at this
 rw [Bool.and_eq_true,zqu,zqu] at this
 exact this
def mvG (g f:Nat->Int) (p q:Int) (i j:Nat):Int:=if j<6*i/\j%6<3 then f j+dwV f p q (j / 6) (j%6) else g j
end Go.Gy
namespace Go.Gy
open Go Go.RowKit Go.Proofs Go.Proofs.Tryz
end Go.Gy
namespace Go.Gy
open Go Go.RowKit Go.Proofs
end Go.Gy
namespace Go.Gy
open Go Go.RowKit Go.Proofs Go.Proofs.Tryz
@[simp] theorem jru:zgz prog 102=true:=by kernel_rfl
def wiB (n lo hi:Int):Bool:=decide (lo<=n/\n<=hi)
theorem z8q (n lo hi:Int):Ret prog G0 98 #[.int .i64 n,.int .i64 lo,.int .i64 hi] (.bool (wiB n lo hi)):=by
 refine zav G0F func98 rfl call98 rfl (by simp) (by simp [ntmps98]) ?_
 intro C hC hC0 hY
 unfold wiB
 by_cases c0:lo<=n
 ·by_cases c1:n<=hi
  ·rw [decide_eq_true ⟨c0,c1⟩]
   (repeat' (first|refine gwZ ?_|(refine gwX ?_;intro Q hQ _;simp [hC,hY,c0,c1];refine gwq hQ ?_)|refine gwC ?_ ?_<;>intro hb))
   refine ⟨.inr trivial,?_⟩
   simp [results98]
  ·rw [decide_eq_false (by omega)]
   (repeat' (first|refine gwZ ?_|(refine gwX ?_;intro Q hQ _;simp [hC,hY,c0,c1];refine gwq hQ ?_)|refine gwC ?_ ?_<;>intro hb))
   refine ⟨.inr trivial,?_⟩
   simp [results98]
 ·rw [decide_eq_false (by omega)]
  (repeat' (first|refine gwZ ?_|(refine gwX ?_;intro Q hQ _;simp [hC,hY,c0];refine gwq hQ ?_)|refine gwC ?_ ?_<;>intro hb))
  refine ⟨.inr trivial,?_⟩
  simp [results98]
@[simp] theorem cwi (n lo hi:Int) (K:Value->Prop):za2 prog G0 98 #[.int .i64 n,.int .i64 lo,.int .i64 hi] K↔K (.bool (wiB n lo hi)):=zaf G0W (by kernel_rfl) (z8q n lo hi)
def jbo (nk:Nat) (a m:Int) (v:Value) (ns:List (Nat×Blk)):Prop:=v=.func (.func 97) #[] #[.pointer (some ⟨nk,0,none⟩),.pointer (some ⟨nk+1,0,none⟩)]/\ns=[(nk,jb a),(nk+1,jb m)]
theorem z92 (a m:Int):FunS prog G0 96 #[.int .i64 a,.int .i64 m] (hpL G0 []) (zab []) (jbo 1000 a m):=by
 refine zdz (B:=200) G0F func96 rfl call96 ⟨by simp,by simp [zab],by simp⟩ ?_ ?_ (by simp [ntmps96]) (by omega) ?_
 ·simp [zap,zau,zaj,zal,zab]
 ·rintro v ns ⟨rfl,rfl⟩
  refine ⟨by simp [zap,zau,zaj,zal,zc7,zab],by simp [jb,zae,zaj,zal],?_⟩
  intro k b c h1 h2
  simp at h1 h2
  rcases h1 with ⟨e1,rfl⟩|⟨e1,rfl⟩<;>rcases h2 with ⟨e2,rfl⟩|⟨e2,rfl⟩<;>first|rfl|omega
 intro C hC hC0 hY
 repeat' first|refine gwZ ?_|refine gwW ?_|refine gwC ?_ ?_<;>intro hb
 refine ⟨.inr trivial,kpS G0F,_,_,λk=>if k=1000 then 200 else if k=1001 then 208 else k,⟨rfl,rfl⟩,λk hk=>?_,by simp,by simp,by simp [results96,ren,zas,zan,zao],?_⟩
 ·dsimp only
  rw [if_neg (by omega),if_neg (by omega)]
 ·simp [zb5]
  simp [jb]
theorem z91 {nk nk':Nat} {a m:Int} {ρ:Nat->Nat} (h0:ρ nk=nk') (h1:ρ (nk+1)=nk'+1):RR ρ (jbo nk a m)=jbo nk' a m:=by
 funext v ns
 apply propext
 constructor
 ·rintro ⟨v0,ns0,⟨rfl,rfl⟩,rfl,rfl⟩
  exact ⟨by simp [ren,zas,zan,zao,h0,h1],by simp [rnL,zb5,h0,h1]⟩
 ·rintro ⟨rfl,rfl⟩
  exact ⟨_,_,⟨rfl,rfl⟩,by simp [ren,zas,zan,zao,h0,h1],by simp [rnL,zb5,h0,h1]⟩
def up2 (nk k:Nat):Nat:=if 1000<=k then (if k<1002 then k - 1000+nk else k) else k
theorem zhj (nk:Nat) (hnk:200<=nk) (a m:Int):FunS prog G0 96 #[.int .i64 a,.int .i64 m] (hpL G0 []) [] (jbo nk a m):=by
 have e2:∀ j,j<2->up2 nk (1000+j)=nk+j:=λj hj=>by unfold up2;rw [if_pos (by omega),if_pos (by omega)];omega
 have hk2:∀ v ns,jbo 1000 a m v ns->∀ k∈zab ns,∃ j,j<2/\k=1000+j:=by
  rintro v ns ⟨rfl,rfl⟩ k hk
  simp [zab] at hk
  rcases hk with rfl|rfl
  ·exact ⟨0,by omega,rfl⟩
  ·exact ⟨1,by omega,rfl⟩
 have h0:=(z92 a m).rn (up2 nk) G0F znd.low (hp':=hpL G0 []) (zpl znd _ (λk hk=>by unfold up2;rw [if_neg (by omega)]) znd.low (by simp) (by simp [zab])) (λv ns hR k hk=>by
  obtain ⟨j,hj,rfl⟩:=hk2 v ns hR k hk
  rw [e2 j hj]
  refine ⟨by omega,λhd=>hd ?_⟩
  simp [rst,zab]
  intro h4
  omega) (λv ns hR k hk l hl e=>by
  obtain ⟨j,hj,rfl⟩:=hk2 v ns hR k hk
  obtain ⟨i,hi,rfl⟩:=hk2 v ns hR l hl
  rw [e2 j hj,e2 i hi] at e
  omega)
 rw [z91 (e2 0 (by omega)) (e2 1 (by omega))] at h0
 simpa [zab,ren,zas,zan,zao] using h0
theorem zed {nk:Nat} {a m:Int} {v:Value} {ns:List (Nat×Blk)} (h:jbo nk a m v ns):∀ k∈zab ns,nk<=k/\k<nk+2:=by
 obtain ⟨rfl,rfl⟩:=h
 intro k hk
 simp [zab] at hk
 omega
theorem zb0 (a m:Int):Fun prog G0 97 #[.pointer (some ⟨100,0,none⟩),.pointer (some ⟨108,0,none⟩)] (hpL G0 [(100,jb a),(108,jb m)]) (zab [(100,jb a),(108,jb m)]) (.ret (.bool (wiB a 1 m)) []):=by
 refine za5 (B:=200) G0F func97 rfl call97 ⟨by simp,by simp [zab],by simp [jb,zae,zaj,zal]⟩ ?_ (by simp) (by simp) (by simp) (by simp [ntmps97]) (by omega) ?_
 ·simp [zap,zau,zaj,zal,zab]
 intro C hC hC0 hY
 repeat' first|refine gwZ ?_|(refine gwX ?_;intro Q hQ _;simp [hC,hY,jb];refine gwq hQ ?_)|refine gwC ?_ ?_<;>intro hb
 refine ⟨.inr rfl,by simp [results97],zdc G0F (by simp [jb]) (by (intro k hk;first|rfl|(simp (disch:=omega) only [zb9,List.mem_cons,List.not_mem_nil,or_false,zaa,zai,zat,if_neg,zaw]<;>done)))⟩
def cfB (sl:Value) (g bx tp nr md:Int):Blk:=⟨#[sl,.int .i64 g,.int .i64 bx,.int .i64 tp,.int .i64 nr,.int .i64 md],.ty 24⟩
def cfV (sl:Value) (g bx tp nr md:Int):Value:=.agg #[sl,.int .i64 g,.int .i64 bx,.int .i64 tp,.int .i64 nr,.int .i64 md]
theorem jd3 (m:Int):Ret prog G0 101 #[.int .i64 m] (.bool !(wiB m 1 1024)):=by
 refine zav G0F func101 rfl call101 rfl (by simp) (by simp [ntmps101]) ?_
 intro C hC hC0 hY
 repeat' first|refine gwZ ?_|refine gwW ?_|refine gwC ?_ ?_<;>intro hb
 refine ⟨.inr trivial,?_⟩
 simp [results101]
@[simp] theorem cm1 (m:Int) (K:Value->Prop):za2 prog G0 101 #[.int .i64 m] K↔K (.bool !(wiB m 1 1024)):=zaf G0W (by kernel_rfl) (jd3 m)
structure MB (b:Blk) (off n:Nat) (f:Nat->Int):Prop where
 rd:rdI b off n f
 fx:b.fx
 i6:∀ j,j<n->i64 (f j)
 nn:n<=17592186044416
theorem MB.at {b:Blk} {off n:Nat} {f:Nat->Int} (h:MB b off n f) {i:Nat} (hi:i<n):zds prog 3 b (off+i)=some (.int .i64 (f i)):=by
 have hbrd:=Blk.fx_rd h.fx
 exact zkq (P:=prog) (T:=3) (j:=i) (zbv isAgg3) h.rd hi
def z2w (b:Blk) (off n cap:Nat) (i:Nat):GS :=
 ⟨tsL [(0,.slice (some ⟨100,off,none⟩) n cap),(1,.func (.func 101) #[] #[]),(7,.int .i64 n),(8,.int .i64 i)],hpL G0 [(100,b)],300,0⟩
def zp6 (f:Nat->Int) (n:Nat):Bool:=(List.range n).all λi=>wiB (f i) 1 1024
theorem zxp (b:Blk) (off n cap:Nat) (f:Nat->Int) (h:MB b off n f) (N:Nat) (hN:N<=n) (hlt:∀ i,i<N->wiB (f i) 1 1024=true) (hend:N=n\/wiB (f N) 1 1024=false) :
  Fun prog G0 125 #[.slice (some ⟨100,off,none⟩) n cap,.func (.func 101) #[] #[]] (hpL G0 [(100,b)]) (zab [(100,b)]) (.ret (.int .i64 (if N=n then -1 else N)) []):=by
 refine za5 (B:=200) G0F func125 rfl call125 (zam h.fx) ?_ (by simp) (by simp) (by simp) (by simp [ntmps125]) (by omega) ?_
 ·simp [zap,zau,zaj,zal,zab]
 intro C hC hC0 hY
 have hnn:=h.nn
 have hid:=λD=>Blk.fx_ids h.fx D
 repeat' first|refine gwZ ?_|refine gwW ?_|refine gwC ?_ ?_<;>intro hb
 refine zb3 N (z2w b off n cap) ?_ ?_ ?_
 ·refine zbc _ 300 hC G0F (m0:=[(100,b)]) hC0 (by omega) ?_ ?_ ?_
  ·simp [zap,zau,zaj,zal,dom]
  ·simp [hid]
  ·simp
 ·intro i hi
  have hin:i<n:=by omega
  have hi':(i:Int)<n:=by omega
  have hz:(0:Int)<=i:=by omega
  have hs:Int.bmod ((i:Int)+1) 18446744073709551616=((i+1:Nat):Int):=by rw [bm (by omega) (by omega)];rfl
  have hld:=h.at hin
  have hq:=hlt i hi
  unfold z2w
  repeat' first|refine gwZ ?_|(refine gwX ?_;intro Q hQ _;simp [hC,hY,hi,hin,hi',hz,hs,hld,hq];refine gwq hQ ?_)|refine gwC ?_ ?_<;>intro hb
  refine zbc _ 300 hC G0F (m0:=[(100,b)]) hC0 (by omega) ?_ ?_ ?_
  ·simp [zap,zau,zaj,zal,dom,hs]
  ·simp [hid]
  ·simp
 ·by_cases hNn:N=n
  ·subst hNn
   simp only [if_true]
   unfold z2w
   repeat' first|refine gwZ ?_|refine gwW ?_|refine gwC ?_ ?_<;>intro hb
   refine ⟨.inr rfl,by simp [results125],kpS G0F⟩
  ·have hin:N<n:=by omega
   have hi':(N:Int)<n:=by omega
   have hz:(0:Int)<=N:=by omega
   have hld:=h.at hin
   have hq:=hend.resolve_left hNn
   rw [if_neg hNn]
   unfold z2w
   repeat' first|refine gwZ ?_|(refine gwX ?_;intro Q hQ _;simp [hC,hY,hin,hi',hz,hld,hq];refine gwq hQ ?_)|refine gwC ?_ ?_<;>intro hb
   refine ⟨.inr rfl,by simp [results125],kpS G0F⟩
theorem z8l (b:Blk) (off n cap:Nat) (f:Nat->Int) (h:MB b off n f) :
  Fun prog G0 100 #[.slice (some ⟨100,off,none⟩) n cap,.func (.func 101) #[] #[]] (hpL G0 [(100,b)]) (zab [(100,b)]) (.ret (.bool !(zp6 f n)) []):=by
 refine za5 (B:=200) G0F func100 rfl call100 (zam h.fx) ?_ (by simp) (by simp) (by simp) (by simp [ntmps100]) (by omega) ?_
 ·simp [zap,zau,zaj,zal,zab]
 intro C hC hC0 hY
 have hr:=λρ=>Blk.fx_rn h.fx ρ
 obtain ⟨N,hN,hlt,hend⟩:=zy6 (λi=>wiB (f i) 1 1024) n
 by_cases hNn:N=n
 ·have e:zp6 f n=true:=by unfold zp6;rw [<-hNn];simpa using hlt
  rw [e]
  repeat' first|refine gwZ ?_|((first|refine gwR [125] ?_|refine gwD [125] ?_);intro Q hQ _;(repeat first|simp [hC,hY,hNn]|refine zac (zxp b off n cap f h N hN hlt hend) G0F (B:=200) (zam h.fx) (λk=>k) (λk hk=>rfl) (by simp [ren,zas,zan,zao]) (by simp) (by simp [hr]) (by simp [zab]) (by simp [zab];rfl) ?_);refine gwq hQ ?_)|refine gwC ?_ ?_<;>intro hb
  refine ⟨.inr rfl,by simp [results100],kpS G0F⟩
 ·have e:zp6 f n=false:=by
   unfold zp6
   rw [List.all_eq_false]
   exact ⟨N,by simp;omega,by simpa using hend.resolve_left hNn⟩
  have hz:(0:Int)<=N:=by omega
  rw [e]
  repeat' first|refine gwZ ?_|((first|refine gwR [125] ?_|refine gwD [125] ?_);intro Q hQ _;(repeat first|simp [hC,hY,hNn,hz]|refine zac (zxp b off n cap f h N hN hlt hend) G0F (B:=200) (zam h.fx) (λk=>k) (λk hk=>rfl) (by simp [ren,zas,zan,zao]) (by simp) (by simp [hr]) (by simp [zab]) (by simp [zab];rfl) ?_);refine gwq hQ ?_)|refine gwC ?_ ?_<;>intro hb
  refine ⟨.inr rfl,by simp [results100],kpS G0F⟩
def cmL (b:Blk) (off n cap:Nat) (g bx tp nr md:Int):List (Nat×Blk):=[(100,b),(108,cfB (.slice (some ⟨100,off,none⟩) n cap) g bx tp nr md)]
theorem zgj {b:Blk} (hb:b.fx) (off n cap:Nat) (g bx tp nr md:Int):LOk (cmL b off n cap g bx tp nr md) 200:=⟨by simp [cmL],by simp [cmL,zab],by
 simp only [cmL,List.mem_cons,List.not_mem_nil,or_false,forall_eq_or_imp,forall_eq]
 exact ⟨Blk.fx_ids hb _,by simp [cfB,zae,zaj,zal,zab]⟩⟩
theorem zhn (b:Blk) (off n cap:Nat) (f:Nat->Int) (h:MB b off n f) (g bx tp nr md:Int) :
  Fun prog G0 99 #[.pointer (some ⟨108,0,none⟩)] (hpL G0 (cmL b off n cap g bx tp nr md)) (zab (cmL b off n cap g bx tp nr md)) (.ret (.bool (zp6 f n)) []):=by
 refine za5 (B:=200) G0F func99 rfl call99 (zgj h.fx off n cap g bx tp nr md) ?_ (by simp) (by simp) (by simp) (by simp [ntmps99]) (by omega) ?_
 ·simp [zap,zau,zaj,zal,zab,cmL]
 intro C hC hC0 hY
 have hr:=λρ=>Blk.fx_rn h.fx ρ
 unfold cmL cfB
 repeat' first|refine gwZ ?_|((first|refine gwR [100] ?_|refine gwD [100] ?_);intro Q hQ _;(repeat first|simp [hC,hY]|refine zac (z8l b off n cap f h) G0F (B:=200) (zam h.fx) (λk=>k) (λk hk=>rfl) (by simp [ren,zas,zan,zao]) (by simp) (by simp [hr]) (by simp [zab]) (by simp [zab];rfl) ?_);refine gwq hQ ?_)|refine gwC ?_ ?_<;>intro hb
 refine ⟨.inr rfl,by simp [results99],kpS G0F⟩
theorem zxs (b:Blk) (off n cap:Nat) (hb:b.fx) (g bx tp nr md:Int) :
  Fun prog G0 102 #[.pointer (some ⟨108,0,none⟩)] (hpL G0 (cmL b off n cap g bx tp nr md)) (zab (cmL b off n cap g bx tp nr md)) (.ret (.bool (wiB md 0 4)) []):=by
 refine za5 (B:=200) G0F func102 rfl call102 (zgj hb off n cap g bx tp nr md) ?_ (by simp) (by simp) (by simp) (by simp [ntmps102]) (by omega) ?_
 ·simp [zap,zau,zaj,zal,zab,cmL]
 intro C hC hC0 hY
 unfold cmL cfB
 repeat' first|refine gwZ ?_|refine gwW ?_|refine gwC ?_ ?_<;>intro hb
 refine ⟨.inr rfl,by simp [results102],kpS G0F⟩
end Go.Gy
