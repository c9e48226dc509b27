/-
  Lemmas of this claim, in their order (GyY1, GyY2, GyY3, GyY4, GyY5, GyY6, GyY7, GyZ1, GyZ2, GyZ3, GyRA, GyRB, GyDM, GyQA, GyVB, GyVC, GyVD, GyNA, GyJL, GyRC, GyRF, GyQB, GyDB, GyDC, GyWA, GyWB, GyLB, GyWC, GyWD, GyWE, GyWK, GyEP, GyEQ, GyER, GyEE, GyWF, GyWG, GyWH, GyLC, GyWL, GyWM, GyCA, GyLD).
  Conditions: those of each theorem.
-/
import Derived.Test.YtamodcpmplmaoaaGreatDoorGz03
set_option linter.unusedSimpArgs false
set_option linter.unusedVariables false
set_option maxRecDepth 8000
set_option maxHeartbeats 4000000
namespace Go.Gy
open Go Go.RowKit Go.Proofs Go.Proofs.Tryz

def za3 (x:Int):Int:=if x<=0 then 0 else (Nat.log2 x.toNat:Int)+1
theorem zev {x:Int} (h:0<x):∃ k:Nat,za3 x=k+1/\2^k<=x/\x<2^(k+1):=by
 refine ⟨Nat.log2 x.toNat,by unfold za3;rw [if_neg (by omega)],?_,?_⟩
 ·have:=Nat.log2_self_le (n:=x.toNat) (by omega)
  have h2:((2^Nat.log2 x.toNat:Nat):Int)<=(x.toNat:Int):=by exact_mod_cast this
  rw [Int.toNat_of_nonneg (by omega)] at h2
  exact_mod_cast h2
 ·have:=Nat.lt_log2_self (n:=x.toNat)
  have h2:(x.toNat:Int)<((2^(Nat.log2 x.toNat+1):Nat):Int):=by exact_mod_cast this
  rw [Int.toNat_of_nonneg (by omega)] at h2
  exact_mod_cast h2
theorem z01 {x:Int} {k:Nat} (h1:2^k<=x) (h2:x<2^(k+1)):za3 x=k+1:=by
 have hp:(0:Int)<2^k:=Int.pow_pos (by omega)
 unfold za3
 rw [if_neg (by omega)]
 have:Nat.log2 x.toNat=k:=(Nat.log2_eq_iff (by omega)).2 ⟨by
  have:((2^k:Nat):Int)<=(x.toNat:Int):=by rw [Int.toNat_of_nonneg (by omega)];exact_mod_cast h1
  exact_mod_cast this,by
  have:(x.toNat:Int)<((2^(k+1):Nat):Int):=by rw [Int.toNat_of_nonneg (by omega)];exact_mod_cast h2
  exact_mod_cast this⟩
 rw [this]
theorem zeu {x:Int} (j:Nat) (h:2^j<=x):za3 x=j+za3 (x / 2^j):=by
 have hp:(0:Int)<2^j:=Int.pow_pos (by omega)
 have h1:0<x / 2^j:=by
  have:=(Int.le_ediv_iff_mul_le hp (a:=1) (b:=x)).2 (by omega);omega
 obtain ⟨k,e,l1,l2⟩:=zev h1
 rw [e]
 have:=z01 (x:=x) (k:=j+k) (by
  have:=(Int.le_ediv_iff_mul_le hp).1 l1
  rw [Int.pow_add,Int.mul_comm];exact this) (by
  have:=(Int.ediv_lt_iff_lt_mul hp).1 l2
  rw [Nat.add_assoc,Int.pow_add,Int.mul_comm];exact this)
 rw [this];omega
theorem zz6 {s:ByteArray} {m:Int} {C:Eff->Prop} (h0:0<=m) (h1:m<256) (ht:∀ k:Fin 256,(s[k.1]?).map (λb=>b.toNat)=some (if k.1=0 then 0 else Nat.log2 k.1+1)) (h:C (val (.int .u8 (za3 m)) [])):z21 s m C:=by
 have h2:=ht ⟨m.toNat,by omega⟩
 cases hb:s[m.toNat]? with
 | none=>simp [hb] at h2
 | some b =>
  simp only [hb,Option.map_some,Option.some.injEq] at h2
  rw [z5n h0 hb,h2]
  have:((if m.toNat=0 then 0 else Nat.log2 m.toNat+1:Nat):Int)=za3 m:=by
   unfold za3
   by_cases e:m<=0
   ·rw [if_pos e,if_pos (by omega)];rfl
   ·rw [if_neg e,if_neg (by omega)];rfl
  exact this▸h
theorem zeh {x:Int} (h:x<256):0<=za3 x/\za3 x<=8:=by
 by_cases h0:0<x
 ·obtain ⟨k,e,l1,l2⟩:=zev h0
  rw [e]
  have:k<8:=Classical.byContradiction λhk=>by
   have:(2:Int)^8<=2^k:=by exact_mod_cast Nat.pow_le_pow_right (by omega) (by omega:8<=k)
   omega
  omega
 ·unfold za3;rw [if_pos (by omega)];omega
@[simp] theorem jj1 (z:Int):IntKind.u8.wrap z=z%256:=rfl
theorem zv3 (x:Int) (h0:0<=x) (h1:x<18446744073709551616):Ret prog G0 203 #[.int .u64 x] (.int .i64 (za3 x)):=by
 refine za2 G0F func203 rfl call203 rfl (by simp) (by simp [ntmps203]) ?_
 intro C hC hC0 hY
 have f32:∀ z:Int,z.fdiv 4294967296=z / 4294967296:=λz=>Int.fdiv_eq_ediv_of_nonneg z (by omega)
 have f16:∀ z:Int,z.fdiv 65536=z / 65536:=λz=>Int.fdiv_eq_ediv_of_nonneg z (by omega)
 have f8:∀ z:Int,z.fdiv 256=z / 256:=λz=>Int.fdiv_eq_ediv_of_nonneg z (by omega)
 have n32:4294967296<=x->za3 x=32+za3 (x / 4294967296):=zeu 32
 have n16:∀ y:Int,65536<=y->za3 y=16+za3 (y / 65536):=λy=>zeu 16
 have n8:∀ y:Int,256<=y->za3 y=8+za3 (y / 256):=λy=>zeu 8
 repeat' (first|refine gwA ?_|(refine gwX ?_;intro Q hQ hP;simp [hC,hY,f32,f16,f8];refine gwq hQ ?_;clear hQ hP Q)|refine gwC ?_ ?_<;>intro hb<;>try (cases hb;done))
 all_goals
  rename_i c1 c2
  simp at c1 c2 hb
  refine zct [] (by kernel_rfl) ?_;intro Q hQ hP;simp [hC,hY]
  refine zz6 (by omega) (by omega) (by decide +kernel) ?_
  simp
  refine hQ _ _ _ _ ?_
  repeat' (first|refine gwA ?_|(refine gwX ?_;intro Q hQ hP;simp [hC,hY];refine gwq hQ ?_;clear hQ hP Q)|refine gwC ?_ ?_<;>intro hb<;>try (cases hb;done))
  refine ⟨.inr trivial,?_⟩
  simp [results203]
  rw [Int.emod_eq_of_lt (by omega) (by omega)]
  have k2:=n16 x
  have k3:=n16 (x / 4294967296)
  have k4:=n8 x
  have k5:=n8 (x / 4294967296)
  have k6:=n8 (x / 65536)
  have k7:=n8 (x / 4294967296 / 65536)
  have b1:=zeh (x:=x)
  have b2:=zeh (x:=x / 256)
  have b3:=zeh (x:=x / 65536)
  have b4:=zeh (x:=x / 65536 / 256)
  have b5:=zeh (x:=x / 4294967296)
  have b6:=zeh (x:=x / 4294967296 / 256)
  have b7:=zeh (x:=x / 4294967296 / 65536)
  have b8:=zeh (x:=x / 4294967296 / 65536 / 256)
  rw [bm (by omega) (by omega)]
  try omega
@[simp] theorem jl9 (x:Int) (h0:0<=x) (h1:x<18446744073709551616) (K:Value->Prop):zbe prog G0 203 #[.int .u64 x] K↔K (.int .i64 (za3 x)):=zaf G0W (by kernel_rfl) (zv3 x h0 h1)
def uz (z:Int):Int:=z%115792089237316195423570985008687907853269984665640564039457584007913129639936
theorem ze5 {x:Int} (j:Nat) (h:x<2^j):0<=za3 x/\za3 x<=j:=by
 by_cases h0:0<x
 ·obtain ⟨k,e,l1,l2⟩:=zev h0
  rw [e]
  have:k<j:=Classical.byContradiction λhk=>by
   have:(2:Int)^j<=2^k:=by exact_mod_cast Nat.pow_le_pow_right (by omega) (by omega:j<=k)
   omega
  omega
 ·unfold za3;rw [if_pos (by omega)];omega
theorem zfw (z:Int) (k:Nat):0<=za3 (wi z k)/\za3 (wi z k)<=64:=ze5 64 (by have:=zbp z k;omega)
theorem z3v (z:Int) (h:¬wi z 3=0):za3 (uz z)=192+za3 (wi z 3):=by
 have h0:=zbk z 3
 have e:uz z / 2^192=wi z 3:=by unfold uz wi;omega
 have:=zeu (x:=uz z) 192 (by unfold wi at h h0;unfold uz;omega)
 rw [this,e];rfl
theorem z3u (z:Int) (h3:wi z 3=0) (h:¬wi z 2=0):za3 (uz z)=128+za3 (wi z 2):=by
 have h0:=zbk z 2
 have e:uz z / 2^128=wi z 2:=by unfold wi at h3;unfold uz wi;omega
 have:=zeu (x:=uz z) 128 (by unfold wi at h h0;unfold uz;omega)
 rw [this,e];rfl
theorem z3t (z:Int) (h3:wi z 3=0) (h2:wi z 2=0) (h:¬wi z 1=0):za3 (uz z)=64+za3 (wi z 1):=by
 have h0:=zbk z 1
 have e:uz z / 2^64=wi z 1:=by unfold wi at h3 h2;unfold uz wi;omega
 have:=zeu (x:=uz z) 64 (by unfold wi at h h0;unfold uz;omega)
 rw [this,e];rfl
theorem z3s (z:Int) (h3:wi z 3=0) (h2:wi z 2=0) (h1:wi z 1=0):uz z=wi z 0:=by
 unfold wi at h3 h2 h1;unfold uz wi;omega
theorem z3c (n:Int):zmz prog G0 191 #[.bool true,.int .i64 n] (.ret (.tuple #[])):=by
 refine ze6 G0F func191 rfl call191 (λv h=>by cases h;simp) (by simp) (by simp [ntmps191]) ?_
 intro C hC hC0 hY
 repeat' (first|refine gwA ?_|(refine gwX ?_;intro Q hQ hP;simp [hC,hY];(first|refine gwq hQ ?_|refine hP _ _ (by kernel_rfl) λ_=>?_);clear hQ hP Q)|refine gwC ?_ ?_<;>intro hb<;>try (cases hb;done))
 exact ⟨.inl trivial,by simp [results191]⟩
theorem jce (n:Int):zmz prog G0 191 #[.bool false,.int .i64 n] (.pan (erV n)):=by
 refine ze6 G0F func191 rfl call191 (λv h=>by cases h) (by simp) (by simp [ntmps191]) ?_
 intro C hC hC0 hY
 repeat' (first|refine gwA ?_|(refine gwX ?_;intro Q hQ hP;simp [hC,hY];(first|refine gwq hQ ?_|refine hP _ _ (by kernel_rfl) λ_=>?_);clear hQ hP Q)|refine gwC ?_ ?_<;>intro hb<;>try (cases hb;done))
 rfl
theorem jdr (z:Int):zmz prog G0 192 #[wd z,.bool false] (.ret (wd z)):=by
 refine ze6 G0F func192 rfl call192 (λv h=>by cases h;simp) (by simp) (by simp [ntmps192]) ?_
 intro C hC hC0 hY
 repeat' (first|refine gwA ?_|((first|refine gwR [1000191] ?_|refine gwD [1000191] ?_);intro Q hQ hP;(repeat first|simp [hC,hY]|refine zdl (z3c 20) ?_);(first|refine gwq hQ ?_|refine hP _ _ (by kernel_rfl) λ_=>?_);clear hQ hP Q)|refine gwC ?_ ?_<;>intro hb<;>try (cases hb;done))
 exact ⟨.inr trivial,by simp [results192]⟩
theorem z1g (z:Int):Ret prog G0 209 #[wd z] (.int .i64 (za3 (uz z))):=by
 refine za2 G0F func209 rfl call209 rfl (by simp) (by simp [ntmps209]) ?_
 intro C hC hC0 hY
 have b0:=zfw z 0
 have b1:=zfw z 1
 have b2:=zfw z 2
 have b3:=zfw z 3
 have k3:=z3v z
 have k2:=z3u z
 have k1:=z3t z
 have k0:=z3s z
 have m3:Int.bmod (192+za3 (wi z 3)) 18446744073709551616=192+za3 (wi z 3):=bm (by omega) (by omega)
 have m2:Int.bmod (128+za3 (wi z 2)) 18446744073709551616=128+za3 (wi z 2):=bm (by omega) (by omega)
 have m1:Int.bmod (64+za3 (wi z 1)) 18446744073709551616=64+za3 (wi z 1):=bm (by omega) (by omega)
 repeat' (first|refine zat ?_|refine zaw ?_|refine gwA ?_|(refine gwX ?_;intro Q hQ hP;simp [hC,hY,zbk,zbp,m1,m2,m3];(first|refine gwq hQ ?_|refine hP _ _ (by kernel_rfl) λ_=>?_);clear hQ hP Q)|refine gwC ?_ ?_<;>intro hb<;>try (cases hb;done))
 all_goals
  refine ⟨.inr trivial,?_⟩
  simp [results209]
  simp_all
@[simp] theorem jme (z:Int) (K:Value->Prop):zbe prog G0 209 #[Value.agg #[.int .u64 (wi (z) 0),.int .u64 (wi (z) 1),.int .u64 (wi (z) 2),.int .u64 (wi (z) 3)]] K↔K (.int .i64 (za3 (uz z))):=zaf G0W (by kernel_rfl) (z1g z)

theorem emm (a p m:Int):a%m*p%m=a*p%m:=by rw [Int.mul_emod,Int.emod_emod_of_dvd _ (Int.dvd_refl _),<-Int.mul_emod]
theorem z3h {x y:Int} {R:Nat} (hx0:0<=x) (hx:x<18446744073709551616) (hd:x%2^R=0) (hy0:0<=y) (hy:y<2^R) (hR:R<=64):zdr .or .u64 x y=x+y:=by
 have hp:(2:Int)^R<=2^64:=by exact_mod_cast Nat.pow_le_pow_right (by omega) (by omega:R<=64)
 have e:zdr .or .u64 x y=((BitVec.ofInt 64 x ||| BitVec.ofInt 64 y:BitVec 64).toNat:Int)%18446744073709551616:=by
  unfold zdr
  show IntKind.u64.wrap ((BitVec.ofInt 64 x ||| BitVec.ofInt 64 y:BitVec 64).toNat:Int)=_
  rw [zmn]
 have hx':(BitVec.ofInt 64 x).toNat=x.toNat:=by
  rw [BitVec.toNat_ofInt];congr 1;exact Int.emod_eq_of_lt hx0 hx
 have hy':(BitVec.ofInt 64 y).toNat=y.toNat:=by
  rw [BitVec.toNat_ofInt];congr 1;exact Int.emod_eq_of_lt hy0 (by omega)
 obtain ⟨X,rfl⟩:=Int.eq_ofNat_of_zero_le hx0
 obtain ⟨Y,rfl⟩:=Int.eq_ofNat_of_zero_le hy0
 have hd':X%2^R=0:=by exact_mod_cast hd
 have hY:Y<2^R:=by exact_mod_cast hy
 have hX:X=(X / 2^R) <<< R:=by rw [Nat.shiftLeft_eq];exact (Nat.div_mul_cancel (Nat.dvd_of_mod_eq_zero hd')).symm
 have hor:X ||| Y=X+Y:=by
  rw [hX];exact (Nat.shiftLeft_add_eq_or_of_lt hY _).symm
 have hp':2^R<=2^64:=Nat.pow_le_pow_right (by omega) (by omega:R<=64)
 have hb:X+Y<18446744073709551616:=by
  rw [<-hor];exact Nat.or_lt_two_pow (n:=64) (by omega) (by omega)
 rw [e,BitVec.toNat_or,hx',hy']
 simp only [Int.toNat_natCast,hor]
 omega
theorem zxn {R:Nat} (hR:R<64):(2:Int)^R*2^(64 - R)=18446744073709551616:=by
 rw [<-Int.pow_add,show R+(64 - R)=64 by omega];rfl
theorem z7l (z:Int) (R:Nat):wi (z*2^R) 0=(wi z 0*2^R)%18446744073709551616:=by
 simp only [wi,Nat.mul_zero,Int.pow_zero,Int.ediv_one]
 rw [emm]
theorem z7m (z:Int) (R:Nat) (hR:R<64) (k:Nat):wi (z*2^R) (k+1)=(wi z (k+1)*2^R)%18446744073709551616+wi z k / 2^(64 - R)/\0<=wi z k / 2^(64 - R)/\wi z k / 2^(64 - R)<2^R/\(wi z (k+1)*2^R)%18446744073709551616%2^R=0:=by
 have hM:=zxn hR
 have hPp:(0:Int)<2^R:=Int.pow_pos (by omega)
 have hSp:(0:Int)<2^(64 - R):=Int.pow_pos (by omega)
 have e1:(2:Int)^(64*(k+1))=2^(64*k)*18446744073709551616:=by
  rw [show 64*(k+1)=64*k+64 by omega,Int.pow_add];rfl
 have hKp:(0:Int)<2^(64*k):=Int.pow_pos (by omega)
 unfold wi
 rw [e1]
 generalize (2:Int)^R=P at *
 generalize (2:Int)^(64 - R)=S at *
 generalize (2:Int)^(64*k)=K at *
 have eu:z*P / (K*18446744073709551616)=z / K / S:=by
  rw [<-hM,show K*(P*S)=(K*S)*P by rw [Int.mul_comm P S,Int.mul_assoc],Int.mul_ediv_mul_of_pos_left _ _ hPp,Int.ediv_ediv_of_nonneg (by omega)]
 rw [eu,<-Int.ediv_ediv_of_nonneg (Int.le_of_lt hKp)]
 generalize z / K=u at *
 have hdvd:P ∣ 18446744073709551616:=⟨S,hM.symm⟩
 have h1:0<=u%18446744073709551616 / S:=Int.ediv_nonneg (Int.emod_nonneg _ (by omega)) (by omega)
 have h2:u%18446744073709551616 / S<P:=by
  have:=Int.emod_lt_of_pos u (b:=18446744073709551616) (by omega)
  exact (Int.ediv_lt_iff_lt_mul hSp).2 (by rw [hM];exact this)
 have h3:(u / 18446744073709551616%18446744073709551616*P)%18446744073709551616%P=0:=by
  rw [Int.emod_emod_of_dvd _ hdvd,Int.mul_emod_left]
 refine ⟨?_,h1,h2,h3⟩
 have e2:u / S=(u / 18446744073709551616)*P+u%18446744073709551616 / S:=by
  have:=Int.emod_add_mul_ediv u 18446744073709551616
  have h4:u=u%18446744073709551616+S*(u / 18446744073709551616*P):=by
   have:S*(u / 18446744073709551616*P)=18446744073709551616*(u / 18446744073709551616):=by
    rw [<-hM,Int.mul_comm P S,Int.mul_assoc,Int.mul_comm _ P]
   omega
  conv=>lhs;rw [h4]
  rw [Int.add_mul_ediv_left _ _ (by omega)]
  omega
 rw [e2,emm]
 have h5:(u / 18446744073709551616*P)%18446744073709551616%P=0:=by rw [Int.emod_emod_of_dvd _ hdvd,Int.mul_emod_left]
 have h6:=Int.emod_nonneg (u / 18446744073709551616*P) (b:=18446744073709551616) (by omega)
 have h7:=Int.emod_lt_of_pos (u / 18446744073709551616*P) (b:=18446744073709551616) (by omega)
 have h8:(u / 18446744073709551616*P)%18446744073709551616<=18446744073709551616 - P:=by
  obtain ⟨c,hc⟩:=Int.dvd_of_emod_eq_zero h5
  rw [hc] at h7 |-
  rw [<-hM] at h7 |-
  have:c<S:=Int.lt_of_mul_lt_mul_left h7 (by omega)
  have:P*c<=P*(S - 1):=Int.mul_le_mul_of_nonneg_left (by omega) (by omega)
  rw [Int.mul_sub,Int.mul_one] at this
  exact this
 rw [Int.add_emod,Int.emod_eq_of_lt h1 (by omega),Int.emod_eq_of_lt (by omega) (by omega)]
theorem jjy (z:Int) (q i R:Nat) (h:q<=i):wi (z*2^(64*q+R)) i=wi (z*2^R) (i - q):=by
 unfold wi
 obtain ⟨j,rfl⟩:∃ j,i=q+j:=⟨i - q,by omega⟩
 rw [show q+j - q=j by omega,Int.pow_add,show z*(2^(64*q)*2^R)=(z*2^R)*2^(64*q) by rw [Int.mul_comm (2^(64*q)),Int.mul_assoc],show 64*(q+j)=64*j+64*q by omega,Int.pow_add,
  Int.mul_ediv_mul_of_pos_left _ _ (Int.pow_pos (by omega))]
theorem jjw (z:Int) (q i R:Nat) (h:i<q):wi (z*2^(64*q+R)) i=0:=by
 unfold wi
 obtain ⟨j,rfl⟩:∃ j,q=i+1+j:=⟨q - (i+1),by omega⟩
 rw [show 64*(i+1+j)+R=64*i+(64+(64*j+R)) by omega,Int.pow_add,Int.pow_add,show z*(2^(64*i)*(2^64*2^(64*j+R)))=(z*2^(64*j+R)*2^64)*2^(64*i) by
  rw [Int.mul_comm (2^(64*i)),Int.mul_comm (2^64) (2^(64*j+R))];simp only [Int.mul_assoc],Int.mul_ediv_cancel _ (by have:(0:Int)<2^(64*i):=Int.pow_pos (by omega);omega)]
 exact Int.mul_emod_left _ _
theorem zxd (z:Int) (q R:Nat) (hq:q<4) (hR:R<64):Ret prog G0 210 #[wd z,.int .i64 (64*q+R)] (wd (z*2^(64*q+R))):=by
 refine za2 G0F func210 rfl call210 (by simp) (by simp) (by simp [ntmps210]) ?_
 intro C hC hC0 hY
 have t1:(64*(q:Int)+R).tdiv 64=q:=by rw [Int.tdiv_eq_ediv_of_nonneg (by omega)];omega
 have t2:(64*(q:Int)+R).tmod 64=R:=by rw [Int.tmod_eq_emod_of_nonneg (by omega)];omega
 have m1:min R 64=R:=by omega
 have m2:Int.bmod (64 - (R:Int)) 18446744073709551616=64 - R:=bm (by omega) (by omega)
 have m3:(64 - (R:Int)).toNat=64 - R:=by omega
 have m4:min (64 - R) 64=64 - R:=by omega
 have m5:(R:Int)<=64:=by omega
 have m6:(0:Int)<=64 - R:=by omega
 have fd:∀ x:Int,x.fdiv (2^(64 - R))=x / 2^(64 - R):=λx=>Int.fdiv_eq_ediv_of_nonneg x (Int.le_of_lt (Int.pow_pos (by omega)))
 have OR:∀ k,zdr .or .u64 ((wi z (k+1)*2^R)%18446744073709551616) (wi z k / 2^(64 - R))=wi (z*2^R) (k+1):=λk=>by
  obtain ⟨e,h1,h2,h3⟩:=z7m z R hR k
  rw [z3h (R:=R) (Int.emod_nonneg _ (by omega)) (Int.emod_lt_of_pos _ (by omega)) h3 h1 h2 (by omega),e]
 have o0:=OR 0
 have o1:=OR 1
 have o2:=OR 2
 have s0:=z7l z R
 have:q=0\/q=1\/q=2\/q=3:=by omega
 have up:=jjy z
 have dn:=jjw z
 rcases this with rfl|rfl|rfl|rfl
 ·simp at t1 t2
  repeat' first|refine zat ?_|refine zaw ?_|refine gwZ ?_|(refine gwX ?_;intro Q hQ _;simp [hC,hY,t1,t2,m1,m2,m3,m4,m5,m6,fd,zbk,zbp];refine gwq hQ ?_)|refine gwC ?_ ?_<;>intro hb
  refine ⟨.inr trivial,?_⟩
  simp [results210,o0,o1,o2,s0]
 ·simp at t1 t2
  repeat' first|refine zat ?_|refine zaw ?_|refine gwZ ?_|(refine gwX ?_;intro Q hQ _;simp [hC,hY,t1,t2,m1,m2,m3,m4,m5,m6,fd,zbk,zbp];refine gwq hQ ?_)|refine gwC ?_ ?_<;>intro hb
  refine ⟨.inr trivial,?_⟩
  simp [results210,o0,o1,o2,s0]
  exact ⟨(dn 1 0 R (by omega)).symm,((up 1 1 R (by omega)).trans s0).symm,(up 1 2 R (by omega)).symm,(up 1 3 R (by omega)).symm⟩
 ·simp at t1 t2
  repeat' first|refine zat ?_|refine zaw ?_|refine gwZ ?_|(refine gwX ?_;intro Q hQ _;simp [hC,hY,t1,t2,m1,m2,m3,m4,m5,m6,fd,zbk,zbp];refine gwq hQ ?_)|refine gwC ?_ ?_<;>intro hb
  refine ⟨.inr trivial,?_⟩
  simp [results210,o0,o1,o2,s0]
  exact ⟨(dn 2 0 R (by omega)).symm,(dn 2 1 R (by omega)).symm,((up 2 2 R (by omega)).trans s0).symm,(up 2 3 R (by omega)).symm⟩
 ·simp at t1 t2
  repeat' first|refine zat ?_|refine zaw ?_|refine gwZ ?_|(refine gwX ?_;intro Q hQ _;simp [hC,hY,t1,t2,m1,m2,m3,m4,m5,m6,fd,zbk,zbp];refine gwq hQ ?_)|refine gwC ?_ ?_<;>intro hb
  refine ⟨.inr trivial,?_⟩
  simp [results210,o0,o1,o2,s0]
  exact ⟨(dn 3 0 R (by omega)).symm,(dn 3 1 R (by omega)).symm,(dn 3 2 R (by omega)).symm,((up 3 3 R (by omega)).trans s0).symm⟩
theorem z64 (z n:Int) (h0:0<=n) (h1:n<256):Ret prog G0 210 #[wd z,.int .i64 n] (wd (z*2^n.toNat)):=by
 have h:=zxd z (n / 64).toNat (n%64).toNat (by omega) (by omega)
 have e:64*(n / 64).toNat+(n%64).toNat=n.toNat:=by omega
 have e':(64*((n / 64).toNat:Int)+((n%64).toNat:Int))=n:=by omega
 rw [e,e'] at h
 exact h
@[simp] theorem jle (z n:Int) (h0:0<=n) (h1:n<256) (K:Value->Prop):zbe prog G0 210 #[Value.agg #[.int .u64 (wi (z) 0),.int .u64 (wi (z) 1),.int .u64 (wi (z) 2),.int .u64 (wi (z) 3)],.int .i64 n] K↔K (wd (z*2^n.toNat)):=zaf G0W (by kernel_rfl) (z64 z n h0 h1)

theorem ztm (a b:Int) (k:Nat) (h100:100<=k):Fun prog G0 202 #[wd a,wd b] G0 [] (.new (.func (.func 208) #[] #[.pointer (some ⟨k,0,none⟩),.pointer (some ⟨k+1,0,none⟩)]) [(k,wb a),(k+1,wb b)]):=by
 have e0:rst G0 []=G0:=zjn G0F []
 refine zq8 (B:=200) (λj=>if j=k then 200 else if j=k+1 then 208 else j) G0F (λ_ _=>rfl) func202 rfl call202 (by simp [zan,za0,zah,zal]) (by rw [e0];exact zd4 _) ?_ (by simp [ntmps202]) (by omega) (by rw [e0];exact λx hx=>zff x (by omega)) (λj hj=>?_) ?_ ?_ ?_ ?_
 ·refine ⟨by simp [zan,za0,zah,zal,zcu,zab],by simp [zab];omega,λq b c h1 h2=>?_⟩
  simp at h1 h2
  rcases h1 with ⟨e1,rfl⟩|⟨e1,rfl⟩<;>rcases h2 with ⟨e2,rfl⟩|⟨e2,rfl⟩<;>first|rfl|omega
 ·rw [e0] at hj;have:=zif hj;rw [if_neg (by omega),if_neg (by omega)]
 ·simp [e0,dom]
 ·simp
 ·simp [wb,zac,zah,zal]
 ·intro C hC hC0 hY
  rw [e0]
  repeat' first|refine gwZ ?_|refine gwW ?_|refine gwC ?_ ?_<;>intro hb
  refine ⟨.inr trivial,?_⟩
  simp [results202,ren,zay,zaj,zam,wb]
  intro j hj
  have:=zif hj
  rw [if_neg (by omega),if_neg (by omega)]
theorem z1q (z:Int):0<=uz z/\uz z<2^256:=by unfold uz;omega
def shN (a b:Int):Int:=za3 (uz a) - za3 (uz b)
theorem z3q (a b:Int):-256<=shN a b/\shN a b<=256:=by
 have h1:=ze5 256 (z1q a).2
 have h2:=ze5 256 (z1q b).2
 unfold shN;omega
def z3r (b N:Int):List (Array Value):=(List.range (N+1).toNat).map λ(i:Nat)=>#[.int .i64 (N - (i:Int)),wd (b*2^(N - (i:Int)).toNat)]
theorem zl8 (b N:Int):(z3r b N).length=(N+1).toNat:=by simp [z3r]
theorem zxc (b N:Int) (i:Nat) (h:i<(N+1).toNat):(z3r b N)[i]? = some #[.int .i64 (N - i),wd (b*2^(N - i).toNat)]:=by
 simp [z3r,h]
def z9b (a b N:Int) (l i:Nat):GS :=
 ⟨tsL [(0,.func (.yield l) #[] #[]),(1,.pointer (some ⟨100,0,none⟩)),(2,.pointer (some ⟨101,0,none⟩)),(4,.int .i64 (N - i))],wHp a b,300,i⟩
theorem zxe (a b:Int) (hlt:shN a b<256):zg2 prog G0 208 #[.pointer (some ⟨100,0,none⟩),.pointer (some ⟨101,0,none⟩)] (wHp a b) [100,101] (z3r b (shN a b)):=by
 have e0:rst (wHp a b) [100,101]=wHp a b:=zfs G0F (by simp)
 refine zpf (B:=200) (v:=.tuple #[]) G0F (λk hk=>za7 (by simp) hk) func208 rfl call208 ?_ ?_ (by simp [ntmps208]) (by omega) ?_ ?_
 ·rw [e0];simp [zan,za0,zah,zal,dom,wHp]
 ·rw [e0]
  intro k c hk
  rcases za5 hk with h|h
  ·simp at h
   rcases h with ⟨_,rfl⟩|⟨_,rfl⟩<;>simp [wb,zac,zah,zal]
  ·exact Blk.flat_ids ((G0F k c h).2)
 ·rw [e0]
  intro x hx
  have h1:¬x=100:=by omega
  have h2:¬x=101:=by omega
  have h3:100<=x:=by omega
  simp [wHp,h1,h2,h3]
 ·intro C l stop hC hC0 hY
  rw [e0] at hC0 |-
  have hbd:=z3q a b
  have hN:Int.bmod (za3 (uz a) - za3 (uz b)) 18446744073709551616=shN a b:=bm (by unfold shN at hbd;omega) (by unfold shN at hbd;omega)
  have hlen:=zl8 b (shN a b)
  generalize hn:shN a b=N at *
  generalize hxs:z3r b N=xs at *
  refine zer 0 (λm s=>∃ i,i<=stop/\i+m=xs.length/\s=z9b a b N l i) rfl ?_ ?_
  ·rintro m _ ⟨i,hi,him,rfl⟩
   have hi256:(i:Int)<=257:=by omega
   by_cases hl:i<xs.length
   ·have g1:(i:Int)<=N:=by omega
    have g2:N - (i:Int)<256:=by omega
    have g4:Int.bmod (N - (i:Int) - 1) 18446744073709551616=N - ((i+1:Nat):Int):=by rw [bm (by omega) (by omega)];omega
    have hx:xs[i]? = some #[.int .i64 (N - (i:Int)),wd (b*2^(N - (i:Int)).toNat)]:=by
     rw [<-hxs];exact zxc b N i (by omega)
    simp only [z7k] at hx
    by_cases hs:i=stop
    ·have q1:(i != stop)=false:=by simp [hs]
     unfold z9b
     repeat' first|refine gwZ ?_|(refine gwX ?_;intro Q hQ _;simp [hC,hY,wHp,wb,hi,g1,g2,hx,q1];refine gwq hQ ?_)|refine gwC ?_ ?_<;>intro hb
     refine ⟨.inl trivial,by simp [results208],?_⟩
     show i+1=_
     omega
    ·have q1:(i != stop)=true:=by simp [hs]
     unfold z9b
     repeat' first|refine gwZ ?_|(refine gwX ?_;intro Q hQ _;simp [hC,hY,wHp,wb,hi,g1,g2,g4,hx,q1];refine gwq hQ ?_)|refine gwC ?_ ?_<;>intro hb
     refine ⟨rfl,z9b a b N l (i+1),xs.length - (i+1),zbi _ 300 hC G0F (m:=[(100,wb a),(101,wb b)]) (m0:=[(100,wb a),(101,wb b)]) hC0 (by omega) ?_ ?_ ?_,⟨i+1,by omega,by omega,rfl⟩,by omega⟩
     ·simp [dom]
     ·simp [wb]
     ·simp [wb]
   ·have g1:¬(i:Int)<=N:=by omega
    unfold z9b
    repeat' first|refine gwZ ?_|(refine gwX ?_;intro Q hQ _;simp [hC,hY,wHp,wb,g1];refine gwq hQ ?_)|refine gwC ?_ ?_<;>intro hb
    refine ⟨.inl trivial,by simp [results208],?_⟩
    show i=_
    omega
  ·intro pass
   refine zgm ?_
   (refine gwX ?_;intro Q hQ hP;simp [hC,hY,wHp,wb,hN];refine gwq hQ ?_;clear hQ hP Q)
   simp only [wN,wM,Nat.reduceAdd,Nat.reduceMul]
   refine zgm (zqa ?_)
   simp only [zca]
   refine pass xs.length (z9b a b N l 0) _ ?_ ⟨0,by omega,by omega,rfl⟩
   refine zbi _ 300 hC G0F (m:=[(100,wb a),(101,wb b)]) (m0:=[(100,wb a),(101,wb b)]) hC0 (by omega) ?_ ?_ ?_
   ·simp [dom]
   ·simp [wb]
   ·simp [wb]
end Go.Gy
namespace Go.Gy
open Go Go.RowKit Go.Proofs

theorem zd7 {z:Int} (h0:-57896044618658097711785492504343953926634992332820282019728792003956564819968<=z) (h1:z<57896044618658097711785492504343953926634992332820282019728792003956564819968):sz z=z:=by
 unfold sz;rw [Int.bmod_def];split<;>omega
theorem zrg {z:Int} (h0:0<=z) (h1:z<57896044618658097711785492504343953926634992332820282019728792003956564819968):sz z=z:=zd7 (Int.le_trans (by decide) h0) h1
theorem zzj (a M:Int) (hM:0<M):(M<=a%(2*M)->a%M=a%(2*M) - M/\a / M=2*(a / (2*M))+1)/\(a%(2*M)<M->a%M=a%(2*M)/\a / M=2*(a / (2*M))):=by
 have h1:=Int.emod_add_mul_ediv a (2*M)
 have h2:=Int.emod_nonneg a (b:=2*M) (by omega)
 have h3:=Int.emod_lt_of_pos a (b:=2*M) (by omega)
 have e:2*M*(a / (2*M))=M*(2*(a / (2*M))):=by rw [Int.mul_comm 2 M,Int.mul_assoc]
 rw [e] at h1
 generalize a%(2*M)=r at *
 generalize 2*(a / (2*M))=k at *
 constructor
 ·intro h
  have ea:a=(r - M)+M*(k+1):=by rw [Int.mul_add];omega
  constructor
  ·rw [ea,Int.add_mul_emod_self_left,Int.emod_eq_of_lt (by omega) (by omega)]
  ·rw [ea,Int.add_mul_ediv_left _ _ (by omega),Int.ediv_eq_zero_of_lt (by omega) (by omega)];omega
 ·intro h
  have ea:a=r+M*k:=by omega
  constructor
  ·rw [ea,Int.add_mul_emod_self_left,Int.emod_eq_of_lt (by omega) (by omega)]
  ·rw [ea,Int.add_mul_ediv_left _ _ (by omega),Int.ediv_eq_zero_of_lt (by omega) (by omega)];omega
theorem zbl (k:Nat):(0:Int)<2^k:=Int.pow_pos (by omega)
theorem jd6 (c:Int) (t r:Nat) (hr:r<64):zdr .or .u64 (wi (c*2^(64*t+r+1)) t) (2^r)=wi (c*2^(64*t+r+1)+2^(64*t+r)) t:=by
 have e1:c*2^(64*t+r+1) / 2^(64*t)=c*2^(r+1):=by
  rw [show 64*t+r+1=(r+1)+64*t by omega,Int.pow_add,<-Int.mul_assoc,Int.mul_ediv_cancel _ (by have:=zbl (64*t);omega)]
 have e2:(c*2^(64*t+r+1)+2^(64*t+r)) / 2^(64*t)=c*2^(r+1)+2^r:=by
  have x1:(2:Int)^(64*t+r+1)=2^(r+1)*2^(64*t):=by rw [<-Int.pow_add];congr 1;omega
  have x2:(2:Int)^(64*t+r)=2^r*2^(64*t):=by rw [<-Int.pow_add];congr 1;omega
  rw [x1,x2,<-Int.mul_assoc,<-Int.add_mul,Int.mul_ediv_cancel _ (by have:=zbl (64*t);omega)]
 have hM:(18446744073709551616:Int)=2^(63 - r)*2^(r+1):=by rw [<-Int.pow_add,show 63 - r+(r+1)=64 by omega];rfl
 have hdvd:(2:Int)^(r+1) ∣ 18446744073709551616:=⟨2^(63 - r),by rw [hM,Int.mul_comm]⟩
 have hp:=zbl r
 have hp1:(2:Int)^(r+1)=2*2^r:=by rw [Int.pow_succ,Int.mul_comm]
 have h5:(c*2^(r+1))%18446744073709551616%2^(r+1)=0:=by rw [Int.emod_emod_of_dvd _ hdvd,Int.mul_emod_left]
 have h6:=Int.emod_nonneg (c*2^(r+1)) (b:=18446744073709551616) (by omega)
 have h7:=Int.emod_lt_of_pos (c*2^(r+1)) (b:=18446744073709551616) (by omega)
 have h8:(c*2^(r+1))%18446744073709551616<=18446744073709551616 - 2^(r+1):=by
  obtain ⟨d,hd⟩:=Int.dvd_of_emod_eq_zero h5
  rw [hd] at h7 |-
  have hs:=zbl (63 - r)
  have hq:=zbl (r+1)
  rw [hM] at h7 |-
  generalize (2:Int)^(r+1)=P at *
  generalize (2:Int)^(63 - r)=S at *
  rw [Int.mul_comm S P] at h7 |-
  have:d<S:=Int.lt_of_mul_lt_mul_left h7 (by omega)
  have:P*d<=P*(S - 1):=Int.mul_le_mul_of_nonneg_left (by omega) (by omega)
  rw [Int.mul_sub,Int.mul_one] at this
  exact this
 unfold wi
 rw [e1,e2,z3h (R:=r+1) h6 h7 h5 (by omega) (by omega) (by omega),Int.add_emod (c*2^(r+1)),Int.emod_eq_of_lt (a:=2^r) (by omega) (by omega),Int.emod_eq_of_lt (a:=c*2^(r+1)%18446744073709551616+2^r) (by omega) (by omega)]
theorem zro (c:Int) (t r j:Nat) (hr:r<64) (h:j≠t):wi (c*2^(64*t+r+1)+2^(64*t+r)) j=wi (c*2^(64*t+r+1)) j:=by
 unfold wi
 by_cases hj:j<t
 ·obtain ⟨m,rfl⟩:∃ m,t=j+1+m:=⟨t - (j+1),by omega⟩
  have e:(2:Int)^(64*(j+1+m)+r)=(2^(64*m+r)*18446744073709551616)*2^(64*j):=by
   rw [show 64*(j+1+m)+r=64*m+r+64+64*j by omega,Int.pow_add,Int.pow_add];rfl
  rw [Int.pow_succ,e,show c*(2^(64*m+r)*18446744073709551616*2^(64*j)*2)=(c*2*2^(64*m+r)*18446744073709551616)*2^(64*j) by
   simp only [Int.mul_assoc,Int.mul_comm,Int.mul_left_comm],<-Int.add_mul,Int.mul_ediv_cancel _ (by have:=zbl (64*j);omega),Int.mul_ediv_cancel _ (by have:=zbl (64*j);omega),<-Int.add_mul,Int.mul_emod_left,Int.mul_emod_left]
 ·obtain ⟨m,rfl⟩:∃ m,j=t+1+m:=⟨j - (t+1),by omega⟩
  have e:(2:Int)^(64*(t+1+m))=2^(64*t+r+1)*2^(64*m+(63 - r)):=by
   rw [<-Int.pow_add];congr 1;omega
  have hp:=zbl (64*t+r)
  have hq:(2:Int)^(64*t+r+1)=2*2^(64*t+r):=by rw [Int.pow_succ,Int.mul_comm]
  have hc:(c*2^(64*t+r+1)+2^(64*t+r)) / 2^(64*t+r+1)=c:=by
   rw [Int.add_comm,Int.add_mul_ediv_right _ _ (by omega),Int.ediv_eq_zero_of_lt (by omega) (by omega)];omega
  rw [e,<-Int.ediv_ediv_of_nonneg (Int.le_of_lt (zbl _)),<-Int.ediv_ediv_of_nonneg (Int.le_of_lt (zbl _)),hc,Int.mul_ediv_cancel _ (by omega)]
def rA (a b:Int) (k:Nat):Int:=a%(b*2^k)
def qA (a b:Int) (k:Nat):Int:=a / (b*2^k)*2^k
theorem z42 (a b:Int) (hb:0<b) (k:Nat):(b*2^k<=rA a b (k+1)->rA a b k=rA a b (k+1) - b*2^k/\qA a b k=qA a b (k+1)+2^k)/\(rA a b (k+1)<b*2^k->rA a b k=rA a b (k+1)/\qA a b k=qA a b (k+1)):=by
 have hp:=zbl k
 have e:b*2^(k+1)=2*(b*2^k):=by rw [Int.pow_succ,<-Int.mul_assoc,Int.mul_comm]
 have e2:∀ x:Int,x*2^(k+1)=2*x*2^k:=λx=>by rw [Int.pow_succ,Int.mul_comm (2^k),<-Int.mul_assoc,Int.mul_comm x 2]
 have h:=zzj a (b*2^k) (Int.mul_pos hb hp)
 unfold rA qA
 rw [e,e2]
 refine ⟨λh1=>?_,λh1=>?_⟩
 ·obtain ⟨h2,h3⟩:=h.1 h1
  exact ⟨h2,by rw [h3,Int.add_mul,Int.one_mul]⟩
 ·obtain ⟨h2,h3⟩:=h.2 h1
  exact ⟨h2,by rw [h3]⟩
theorem jad (a b:Int):rA a b 0=a%b/\qA a b 0=a / b:=by simp [rA,qA]
theorem zzi (a b:Int) (k:Nat) (h0:0<=a) (h:a<b*2^k):rA a b k=a/\qA a b k=0:=by
 unfold rA qA
 rw [Int.emod_eq_of_lt h0 h,Int.ediv_eq_zero_of_lt h0 h]
 simp
theorem jdm (a b:Int) (ha0:0<=a) (hb0:0<b) (ha:a<2^256) (hb:b<2^256):a<b*2^(shN a b+1).toNat/\(0<=shN a b->b*2^(shN a b).toNat<2^(za3 a).toNat):=by
 have ea:uz a=a:=by unfold uz;omega
 have eb:uz b=b:=by unfold uz;omega
 unfold shN
 rw [ea,eb]
 obtain ⟨j,hj,j1,j2⟩:=zev hb0
 by_cases h0:a=0
 ·subst h0
  have e0:za3 0=0:=rfl
  rw [e0,hj]
  exact ⟨Int.mul_pos hb0 (zbl _),λh=>by omega⟩
 ·obtain ⟨k,hk,k1,k2⟩:=zev (x:=a) (by omega)
  rw [hk,hj]
  refine ⟨?_,λh=>?_⟩
  ·by_cases hkj:j<=k+1
   ·have e:((k:Int)+1 - (j+1)+1).toNat=k+1 - j:=by omega
    rw [e]
    refine Int.lt_of_lt_of_le k2 ?_
    have h3:(2:Int)^(k+1)=2^j*2^(k+1 - j):=by rw [<-Int.pow_add];congr 1;omega
    rw [h3]
    exact Int.mul_le_mul_of_nonneg_right j1 (Int.le_of_lt (zbl _))
   ·have e:((k:Int)+1 - (j+1)+1).toNat=0:=by omega
    rw [e,Int.pow_zero,Int.mul_one]
    refine Int.lt_of_lt_of_le k2 (Int.le_trans ?_ j1)
    exact_mod_cast Nat.pow_le_pow_right (by omega) (by omega:k+1<=j)
  ·have e:((k:Int)+1 - (j+1)).toNat=k - j:=by omega
   have e':((k:Int)+1).toNat=k+1:=by omega
   rw [e,e']
   have h3:(2:Int)^(k+1)=2^(j+1)*2^(k - j):=by rw [<-Int.pow_add];congr 1;omega
   rw [h3]
   exact Int.mul_lt_mul_of_pos_right j2 (zbl _)
end Go.Gy
namespace Go.Gy
open Go Go.RowKit Go.Proofs Go.Proofs.Tryz

def z83 (a b:Int) (k:Nat):Hp:=hpL G0 [(200,wb (rA a b k)),(208,wb b),(216,⟨fa 4 .u64 (wi (qA a b k)),.ty 30⟩),(224,zB)]
def z84:Nat->Value:=tsL [(2,.pointer (some ⟨200,0,none⟩)),(3,.pointer (some ⟨208,0,none⟩)),(4,.pointer (some ⟨216,0,none⟩)),(5,.pointer (some ⟨224,0,none⟩))]
theorem zws (a b:Int) (ha0:0<=a) (ha:a<57896044618658097711785492504343953926634992332820282019728792003956564819968) (hb0:0<b) (hb1:b<57896044618658097711785492504343953926634992332820282019728792003956564819968) :
  Ret prog G0 193 #[wd a,wd b] (.tuple #[wd (a / b),wd (a%b)]):=by
 refine za2 G0F func193 rfl call193 (by simp) (by simp) (by simp [ntmps193]) ?_
 intro C hC hC0 hY
 have hup:=jdm a b ha0 hb0 (by omega) (by omega)
 have hbd:=z3q a b
 have hna:za3 a<=255:=(ze5 255 (by omega)).2
 have hlt:shN a b<256:=by
  have ea:uz a=a:=by unfold uz;omega
  have hnb:=ze5 256 (z1q b).2
  unfold shN;rw [ea];omega
 have hit:=zxe a b hlt
 generalize shN a b=N at *
 repeat' first|refine gwZ ?_|refine gwW ?_|refine gwC ?_ ?_<;>intro hb
 refine zct [202] (by kernel_rfl) ?_;intro Q hQ hP;simp [hC,hY]
 refine zb7 (ztm a b 248 (by omega)) (by simp) (λ_ _=>rfl) (by simp [Res.at]) ?_
 simp
 refine hQ _ _ _ _ ?_;clear hQ hP Q
 repeat' first|refine gwZ ?_|refine gwW ?_|refine gwC ?_ ?_<;>intro hb
 refine ziq (f:=208) (rs:=[248,249]) (xs:=z3r b N) (caps:=#[.pointer (some ⟨248,0,none⟩),.pointer (some ⟨249,0,none⟩)]) (by simp) ?_ ?_ (by simp [ntmps193]) z84 (λi=>z83 a b (N+1 - (i:Int)).toNat) 300 (N+1).toNat (by rw [zl8];omega) ?_ ?_ ?_ ?_ ?_
 ·rw [hC]
  refine zg2.cast (IterX.rn (λk=>if k=100 then 248 else if k=101 then 249 else k) G0F (λk hk=>za7 (by simp) hk) (rs:=[100,101]) ?_ hit) (by simp [zam]) (by simp)
  refine ⟨λk hk=>?_,?_,?_,?_⟩
  ·have h1:¬k=100:=by omega
   have h2:¬k=101:=by omega
   have h3:¬k=200:=by omega
   have h4:¬k=208:=by omega
   have h5:¬k=216:=by omega
   have h6:¬k=224:=by omega
   have h8:¬k=248:=by omega
   have h9:¬k=249:=by omega
   simp [h1,h2,h3,h4,h5,h6,h8,h9,wHp]
  ·simp
  ·simp [wHp,wb,Blk.rn,zaj,zam]
  ·simp
 ·intro x hx
  simp only [z3r,List.mem_map] at hx
  obtain ⟨i,_,rfl⟩:=hx
  simp
 ·have e:=zzi a b (N+1).toNat ha0 hup.1
  refine zbi _ 300 hC G0F (m0:=[]) hC0 (by omega) ?_ ?_ ?_
  ·simp [dom]
  ·simp [zB,wb,e.1,e.2,zjt,zar]
  ·simp
 ·simp [z83,dom]
 ·intro i hi t
  refine zgz ?_ t
  simp [dom,z83]
 ·intro i x hi hx C1 l hC1 hh1 hY1
  have hCC:=hC
  have hC1':C1.G=G0:=hC1.trans hC
  obtain ⟨n,hn⟩:∃ n:Nat,N - (i:Int)=n:=⟨(N - i).toNat,by omega⟩
  rw [zxc b N i hi,hn] at hx
  have e1:(N+1 - (i:Int)).toNat=n+1:=by omega
  have e2:(N+1 - ((i+1:Nat):Int)).toNat=n:=by omega
  simp only [e1,e2]
  cases hx
  have hD:b*2^n<57896044618658097711785492504343953926634992332820282019728792003956564819968:=by
   have h1:=hup.2 (by omega)
   have h2:(2:Int)^n<=2^N.toNat:=by exact_mod_cast Nat.pow_le_pow_right (by omega) (by omega:n<=N.toNat)
   have h3:b*2^n<=b*2^N.toNat:=Int.mul_le_mul_of_nonneg_left h2 (by omega)
   have h4:(2:Int)^(za3 a).toNat<=2^255:=by exact_mod_cast Nat.pow_le_pow_right (by omega) (by omega:(za3 a).toNat<=255)
   omega
  have hD0:0<b*2^n:=Int.mul_pos hb0 (zbl _)
  have hM0:0<b*2^(n+1):=Int.mul_pos hb0 (zbl _)
  have hA0:0<=rA a b (n+1):=Int.emod_nonneg _ (by omega)
  have hA1:rA a b (n+1)<=a:=by
   have h1:=Int.emod_add_mul_ediv a (b*2^(n+1))
   have h2:0<=b*2^(n+1)*(a / (b*2^(n+1))):=Int.mul_nonneg (by omega) (Int.ediv_nonneg ha0 (by omega))
   unfold rA;omega
  have szD:sz (b*2^n)=b*2^n:=zrg (Int.le_of_lt hD0) hD
  have szA:sz (rA a b (n+1))=rA a b (n+1):=zrg hA0 (Int.lt_of_le_of_lt hA1 ha)
  obtain ⟨t,r,hr,hn'⟩:∃ t r,r<64/\n=64*t+r:=⟨n / 64,n%64,by omega,by omega⟩
  have tq:((n:Int)).tdiv 64=t:=by rw [Int.tdiv_eq_ediv_of_nonneg (by omega)];omega
  have tm:((n:Int)).tmod 64=r:=by rw [Int.tmod_eq_emod_of_nonneg (by omega)];omega
  have t4:t<4:=by omega
  have t4':(t:Int)<4:=by omega
  have t0:(0:Int)<=t:=by omega
  have tb:Int.bmod (t:Int) 18446744073709551616=t:=bm (by omega) (by omega)
  have t3:t<=3:=Nat.le_of_lt_succ t4
  have t3':(t:Int)<=3:=Int.le_of_lt_add_one t4'
  have m1:min r 64=r:=by omega
  have m2:(2:Int)^r%18446744073709551616=2^r:=Int.emod_eq_of_lt (Int.le_of_lt (zbl _)) (by
   have:(2:Int)^r<2^64:=by exact_mod_cast Nat.pow_lt_pow_right (by omega) hr
   exact this)
  have hst:=z42 a b hb0 n
  replace hC:=hC1'
  replace hY:=hY1
  by_cases hle:b*2^n<=rA a b (n+1)
  ·have hcmp:zch (sz (b*2^n)) (sz (rA a b (n+1)))<=0:=by rw [szD,szA];unfold zch;split<;>(try split)<;>omega
   obtain ⟨s1,s2⟩:=hst.1 hle
   have hb1:=jd6 (a / (b*2^(64*t+r+1))) t r hr
   have hb2:=zro (a / (b*2^(64*t+r+1))) t r
   rw [<-hn'] at hb1 hb2
   replace hb1:zdr .or .u64 (wi (qA a b (n+1)) t) (2^r)=wi (qA a b n) t:=by rw [s2];exact hb1
   replace hb2:∀ j,j≠t->wi (qA a b n) j=wi (qA a b (n+1)) j:=λj hj=>by rw [s2];exact hb2 j hr hj
   have hq:fa 4 .u64 (upd (wi (qA a b (n+1))) t (wi (qA a b n) t))=fa 4 .u64 (wi (qA a b n)):=zcv λj _=>by
    unfold upd;split
    ·rename_i h;rw [h]
    ·rename_i h;rw [hb2 j h]
   unfold z83
   repeat' first|refine gwZ ?_|(refine gwX ?_;intro Q hQ _;simp [hC,hY,zao,z84];refine gwq hQ ?_)|refine gwC ?_ ?_<;>intro hb
   intro C2 hC2 hh2 hY2
   replace hC:C2.G=G0:=hC2.trans hCC
   replace hY:=hY2
   repeat' first|refine gwZ ?_|(refine gwX ?_;intro Q hQ _;simp [hC,hY,zao,z84,wb,hcmp,tq,tm,t4,t4',t0,t3,t3',tb,m1,m2,zdx,zg7,hb1];refine gwq hQ ?_)|refine gwC ?_ ?_<;>intro hb
   refine zbi [] 300 hC1' G0F hh1 (by omega) ?_ ?_ ?_
   ·simp
   ·simp [zdd,zac,wb,zB,hq,s1]
   ·simp [wb,zB,hq,s1]
  ·have hcmp:¬zch (sz (b*2^n)) (sz (rA a b (n+1)))<=0:=by rw [szD,szA];unfold zch;split<;>(try split)<;>omega
   obtain ⟨s1,s2⟩:=hst.2 (by omega)
   unfold z83
   repeat' first|refine gwZ ?_|(refine gwX ?_;intro Q hQ _;simp [hC,hY,zao,z84];refine gwq hQ ?_)|refine gwC ?_ ?_<;>intro hb
   intro C2 hC2 hh2 hY2
   replace hC:C2.G=G0:=hC2.trans hCC
   replace hY:=hY2
   repeat' first|refine gwZ ?_|(refine gwX ?_;intro Q hQ _;simp [hC,hY,zao,z84,wb,hcmp];refine gwq hQ ?_)|refine gwC ?_ ?_<;>intro hb
   refine zbi [] 300 hC1' G0F hh1 (by omega) ?_ ?_ ?_
   ·simp
   ·simp [zdd,zac,wb,zB,s1,s2]
   ·simp [wb,zB,s1,s2]
 ·left
  refine ⟨by rw [zl8],?_⟩
  have e:(N+1 - ((N+1).toNat:Int)).toNat=0:=by omega
  have ed:=jad a b
  rw [e]
  unfold z83 z84
  rw [ed.1,ed.2]
  repeat' first|refine gwZ ?_|(refine gwX ?_;intro Q hQ _;simp [hC,hY,wb,zjt,zB];refine gwq hQ ?_)|refine gwC ?_ ?_<;>intro hb
  refine ⟨.inr trivial,?_⟩
  simp [results193]
@[simp] theorem jld (a b:Int) (ha0:0<=a) (ha:a<57896044618658097711785492504343953926634992332820282019728792003956564819968) (hb0:0<b) (hb1:b<57896044618658097711785492504343953926634992332820282019728792003956564819968) (K:Value->Prop) :
  zbe prog G0 193 #[Value.agg #[.int .u64 (wi (a) 0),.int .u64 (wi (a) 1),.int .u64 (wi (a) 2),.int .u64 (wi (a) 3)],Value.agg #[.int .u64 (wi (b) 0),.int .u64 (wi (b) 1),.int .u64 (wi (b) 2),.int .u64 (wi (b) 3)]] K↔K (.tuple #[wd (a / b),wd (a%b)]):=zaf G0W (by kernel_rfl) (zws a b ha0 ha hb0 hb1)
theorem zgw {P:Program} {G:Hp} {f:FuncId} {args:Array Value} {v:Value} (h:zmz P G f args (.ret v)):Ret P G f args v:=⟨h.1 v rfl,h.2.1,h.2.2.1,h.2.2.2⟩
@[simp] theorem jmd (n:Int) (K:Value->Prop):zbe prog G0 191 #[.bool true,.int .i64 n] K↔K (.tuple #[]):=zaf G0W (by kernel_rfl) (zgw (z3c n))
@[simp] theorem jmf (z:Int) (K:Value->Prop):zbe prog G0 192 #[Value.agg #[.int .u64 (wi (z) 0),.int .u64 (wi (z) 1),.int .u64 (wi (z) 2),.int .u64 (wi (z) 3)],.bool false] K↔K (wd z):=zaf G0W (by kernel_rfl) (zgw (jdr z))
def wr (z:Int):Prop:=-57896044618658097711785492504343953926634992332820282019728792003956564819968<=z/\z<57896044618658097711785492504343953926634992332820282019728792003956564819968
theorem zdb {z:Int} (h:wr z):sz z=z:=zd7 h.1 h.2
theorem z18 {z:Int} (h:wr z):ng z=decide (z<0):=by rw [zfx,zdb h]
theorem zt4 {z:Int} (h:wr z) (h0:0<=z):ng z=false:=by rw [z18 h];simp;exact h0
theorem jk6 {z:Int} (h:wr z) (h0:z<0):ng z=true:=by rw [z18 h];simp;exact h0
theorem zix (z:Int) (h:wr z) (h1:z ≠ -57896044618658097711785492504343953926634992332820282019728792003956564819968):(!wi z 0==0||(!wi z 1==0||(!wi z 2==0||!wi z 3==9223372036854775808)))=true:=by
 refine Classical.byContradiction λhn=>h1 ?_
 simp at hn
 obtain ⟨w0,w1,w2,w3⟩:=hn
 rw [<-zdb h,z7b,w0,w1,w2,w3]
 unfold ng;rw [w3];decide
theorem z17 {z:Int} (h:wr z) (h0:z≠0):(!wi z 0==0||(!wi z 1==0||(!wi z 2==0||!wi z 3==0)))=true:=zml z (by rw [zdb h];exact h0)
theorem jh5:i64 1:=by decide
def lst:Int:=-57896044618658097711785492504343953926634992332820282019728792003956564819968

theorem z79 (a:Int):zmz prog G0 181 #[wd a,wd 0] (.pan (erV 30)):=by
 refine ze6 G0F func181 rfl call181 (λv h=>by cases h) (by simp) (by simp [ntmps181]) ?_
 intro C hC hC0 hY
 repeat' first|refine gwZ ?_|((first|refine gwR [1000191] ?_|refine gwD [1000191] ?_);intro Q hQ hP;(repeat first|simp [hC,hY,zar]|refine zdl (jce 30) ?_);(first|refine gwq hQ ?_|refine hP _ _ (by kernel_rfl) λ_=>?_))|refine gwC ?_ ?_<;>intro hb
 rfl
theorem zzz (a b:Int) (ha:wr a) (hb:wr b) (h0:0<b) (ha0:0<=a):Ret prog G0 181 #[wd a,wd b] (.tuple #[wd (a.fdiv b),wd (a.fmod b)]):=by
 refine za2 G0F func181 rfl call181 (by simp) (by simp) (by simp [ntmps181]) ?_
 intro C hC hC0 hY
 have hz:=z17 hb (by omega)
 have hn1:=zix a ha (by omega)
 have hn2:=zix b hb (by omega)
 have s1:¬zch (sz b) 0<0:=by rw [zdb hb];unfold zch;split<;>(try split)<;>omega
 have s2:¬zch (sz a) 0<0:=by rw [zdb ha];unfold zch;split<;>(try split)<;>omega
 have hbu:b<57896044618658097711785492504343953926634992332820282019728792003956564819968:=hb.2
 have hau:a<57896044618658097711785492504343953926634992332820282019728792003956564819968:=ha.2
 have e1:a.fdiv b=a / b:=Int.fdiv_eq_ediv_of_nonneg a (by omega)
 have e2:a.fmod b=a%b:=Int.fmod_eq_emod_of_nonneg a (by omega)
 repeat' first|refine gwZ ?_|(refine gwX ?_;intro Q hQ hP;simp [hC,hY,hz,hn1,hn2,s1,s2,lsB,ha0,hau,h0,hbu];(first|refine gwq hQ ?_|refine hP _ _ (by kernel_rfl) λ_=>?_))|refine gwC ?_ ?_<;>intro hb
 refine ⟨.inr trivial,?_⟩
 simp [results181,e1,e2]
theorem z03 (m b:Int) (hb:0<b):(-(m+1)).fdiv b=-(m / b) - 1/\(-(m+1)).fmod b=b - 1 - m%b:=by
 have h1:=Int.emod_add_mul_ediv m b
 have h2:=Int.emod_nonneg m (b:=b) (by omega)
 have h3:=Int.emod_lt_of_pos m hb
 have e:-(m+1)=(b - 1 - m%b)+b*(-(m / b) - 1):=by rw [Int.mul_sub,Int.mul_neg];omega
 rw [Int.fdiv_eq_ediv_of_nonneg _ (by omega),Int.fmod_eq_emod_of_nonneg _ (by omega)]
 constructor
 ·rw [e,Int.add_mul_ediv_left _ _ (by omega),Int.ediv_eq_zero_of_lt (by omega) (by omega)];omega
 ·rw [e,Int.add_mul_emod_self_left,Int.emod_eq_of_lt (by omega) (by omega)]
theorem zzy (m b:Int) (ha:wr (-(m+1))) (hal:-(m+1)≠lst) (hb:wr b) (h0:0<b) (hm0:0<=m):Ret prog G0 181 #[wd (-(m+1)),wd b] (.tuple #[wd ((-(m+1)).fdiv b),wd ((-(m+1)).fmod b)]):=by
 refine za2 G0F func181 rfl call181 (by simp) (by simp) (by simp [ntmps181]) ?_
 intro C hC hC0 hY
 obtain ⟨d1,d2⟩:=z03 m b h0
 rw [d1,d2]
 generalize ea:-(m+1)=a at *
 have hz:=z17 hb (by omega)
 have hn1:=zix a ha hal
 have hn2:=zix b hb (by omega)
 have s1:¬zch (sz b) 0<0:=by rw [zdb hb];unfold zch;split<;>(try split)<;>omega
 have s2:zch (sz a) 0<0:=by rw [zdb ha];unfold zch;split<;>(try split)<;>omega
 have hbu:b<57896044618658097711785492504343953926634992332820282019728792003956564819968:=hb.2
 have hmu:m<57896044618658097711785492504343953926634992332820282019728792003956564819968:=by have:=ha.1;unfold lst at hal;omega
 have hq0:0<=m / b:=Int.ediv_nonneg hm0 (by omega)
 have hq1:m / b<=m:=Int.ediv_le_self b hm0
 have hr0:0<=m%b:=Int.emod_nonneg m (by omega)
 have hr1:m%b<b:=Int.emod_lt_of_pos m h0
 have em:-(a+1)=m:=by omega
 have f1:(ng a==ng 1&&ng (a+1) != ng a)=false:=by
  rw [jk6 ha (by omega),zt4 (z:=1) (by unfold wr;omega) (by omega)];rfl
 have f2:(ng (a+1)&&ng m)=false:=by rw [zt4 (z:=m) (by unfold wr;omega) hm0];simp
 have f3:(ng (m / b)&&ng (-(m / b)))=false:=by rw [zt4 (z:=m / b) (by unfold wr;omega) hq0];simp
 have f4:(ng (-(m / b)) != ng 1&&ng (-(m / b) - 1) != ng (-(m / b)))=false:=by
  rw [zt4 (z:=1) (by unfold wr;omega) (by omega),jk6 (z:=-(m / b) - 1) (by unfold wr;omega) (by omega)]
  cases ng (-(m / b))<;>rfl
 have f5:(ng b != ng 1&&ng (b - 1) != ng b)=false:=by
  rw [zt4 hb (by omega),zt4 (z:=1) (by unfold wr;omega) (by omega)];rfl
 have f6:(ng (b - 1) != ng (m%b)&&ng (b - 1 - m%b) != ng (b - 1))=false:=by
  rw [zt4 (z:=b - 1) (by unfold wr;have:=hb.2;omega) (by omega),zt4 (z:=m%b) (by unfold wr;omega) hr0];rfl
 have i1:=jh5
 repeat' first|refine gwZ ?_|(refine gwX ?_;intro Q hQ hP;simp [hC,hY,hz,hn1,hn2,s1,s2,lsB,h0,hbu,hm0,hmu,em,f1,f2,f3,f4,f5,f6,i1];(first|refine gwq hQ ?_|refine hP _ _ (by kernel_rfl) λ_=>?_))|refine gwC ?_ ?_<;>intro hb
 refine ⟨.inr trivial,?_⟩
 simp [results181]
theorem zmh {α:Type} {f:Nat->α} {x k:Nat} {v:α} (h:k<x):upd f x v k=f k:=zaa f v (by omega)
theorem zvh (a b:Int) (ha:wr a) (hal:a≠lst) (hb:wr b) (h0:0<b):Ret prog G0 181 #[wd a,wd b] (.tuple #[wd (a / b),wd (a%b)]):=by
 rw [<-Int.fdiv_eq_ediv_of_nonneg a (Int.le_of_lt h0),<-Int.fmod_eq_emod_of_nonneg a (Int.le_of_lt h0)]
 by_cases ha0:0<=a
 ·exact zzz a b ha hb h0 ha0
 ·obtain ⟨m,rfl⟩:∃ m,a=-(m+1):=⟨-a - 1,by omega⟩
  exact zzy m b ha hal hb h0 (by omega)
@[simp] theorem jlc (a b:Int) (ha:wr a) (hal:a≠lst) (hb:wr b) (h0:0<b) (K:Value->Prop):zbe prog G0 181 #[Value.agg #[.int .u64 (wi (a) 0),.int .u64 (wi (a) 1),.int .u64 (wi (a) 2),.int .u64 (wi (a) 3)],Value.agg #[.int .u64 (wi (b) 0),.int .u64 (wi (b) 1),.int .u64 (wi (b) 2),.int .u64 (wi (b) 3)]] K↔K (.tuple #[wd (a / b),wd (a%b)]) :=
 zaf G0W (by kernel_rfl) (zvh a b ha hal hb h0)
def hp2 (a b:Int):Hp:=hpL G0 [(200,wb a),(208,wb b)]
theorem zcw (a b:Int):rst (hp2 a b) [200,208]=hp2 a b:=zfs G0F (by simp)
theorem zf8 (a b:Int) (D:Nat->Prop) (k:Nat) (c:Blk) (h:hp2 a b k=some c):c.ids D:=by
 rcases za5 h with h|h
 ·simp at h
  rcases h with ⟨_,rfl⟩|⟨_,rfl⟩<;>simp [wb]
 ·exact zd4 _ _ _ h
theorem zee (a b:Int) (x:Nat) (hx:300<=x):hp2 a b x=none:=by
 simp [hp2,show ¬x=200 by omega,show ¬x=208 by omega,show 100<=x by omega]
theorem zrv (a b:Int) (ha:wr a) (hal:a≠lst) (hb:wr b) (h0:0<b):Fun prog G0 180 [.pointer (some ⟨200,0,none⟩),.pointer (some ⟨208,0,none⟩)].toArray (hp2 a b) [200,208] (.ret (wd (a / b)) []):=by
 refine zjd (B:=300) G0F (λk hk=>za7 (by simp) hk) func180 rfl call180 ?_ ?_ ⟨zak (by simp),by simp [zab],by simp,by simp⟩ (by simp [ntmps180]) (by omega) ?_ ?_
 ·rw [zcw];simp [hp2,dom]
 ·rw [zcw];exact zf8 a b _
 ·rw [zcw];exact zee a b
 ·intro C hC hC0 hY
  rw [zcw] at hC0 |-
  repeat' first|refine gwZ ?_|(refine gwX ?_;intro Q hQ hP;simp [hC,hY,hp2,wb,ha,hal,hb,h0];(first|refine gwq hQ ?_|refine hP _ _ (by kernel_rfl) λ_=>?_))|refine gwC ?_ ?_<;>intro hb
  refine ⟨.inr rfl,by simp [results180],λk hk=>?_⟩
  have hk3:k<300:=Classical.byContradiction λh=>hk (zee a b k (by omega))
  simp (disch:=omega) only [zmh]
  rfl
theorem ztc (a b:Int) (ha:wr a) (hal:a≠lst) (hb:wr b) (h0:0<b):Ret prog G0 168 #[wd a,wd b] (.tuple #[wd (a / b),.int .i64 0]):=by
 refine za2 G0F func168 rfl call168 (by simp) (by simp) (by simp [ntmps168]) ?_
 intro C hC hC0 hY
 repeat' first|refine gwZ ?_|((first|refine gwR [179] ?_|refine gwD [179] ?_);intro Q hQ hP;(repeat first|simp [hC,hY]|refine zb7 (hp':=hp2 a b) (zwv (λk hk=>za7 (by simp) hk) (by simp) rfl (by simp) (zrv a b ha hal hb h0)) (by simp [hp2,wb]) (λk hk=>za7 (by simp) hk) trivial ?_);(first|refine gwq hQ ?_|refine hP _ _ (by kernel_rfl) λ_=>?_))|refine gwC ?_ ?_<;>intro hb
 refine ⟨.inr trivial,?_⟩
 simp [results168]
@[simp] theorem jlb (a b:Int) (ha:wr a) (hal:a≠lst) (hb:wr b) (h0:0<b) (K:Value->Prop):zbe prog G0 168 #[Value.agg #[.int .u64 (wi (a) 0),.int .u64 (wi (a) 1),.int .u64 (wi (a) 2),.int .u64 (wi (a) 3)],Value.agg #[.int .u64 (wi (b) 0),.int .u64 (wi (b) 1),.int .u64 (wi (b) 2),.int .u64 (wi (b) 3)]] K↔K (.tuple #[wd (a / b),.int .i64 0]) :=
 zaf G0W (by kernel_rfl) (ztc a b ha hal hb h0)
theorem zpv (n:Int):zmz prog G0 166 #[.bool true,.int .i64 n] (.ret (.tuple #[])):=by
 refine ze6 G0F func166 rfl call166 (λv h=>by cases h;simp) (by simp) (by simp [ntmps166]) ?_
 intro C hC hC0 hY
 repeat' (first|refine gwA ?_|(refine gwX ?_;intro Q hQ hP;simp [hC,hY];(first|refine gwq hQ ?_|refine hP _ _ (by kernel_rfl) λ_=>?_);clear hQ hP Q)|refine gwC ?_ ?_<;>intro hb<;>try (cases hb;done))
 exact ⟨.inl trivial,by simp [results166]⟩
theorem zl3 (n:Int):zmz prog G0 166 #[.bool false,.int .i64 n] (.pan (erV n)):=by
 refine ze6 G0F func166 rfl call166 (λv h=>by cases h) (by simp) (by simp [ntmps166]) ?_
 intro C hC hC0 hY
 repeat' (first|refine gwA ?_|(refine gwX ?_;intro Q hQ hP;simp [hC,hY];(first|refine gwq hQ ?_|refine hP _ _ (by kernel_rfl) λ_=>?_);clear hQ hP Q)|refine gwC ?_ ?_<;>intro hb<;>try (cases hb;done))
 rfl
@[simp] theorem jmi (n:Int) (K:Value->Prop):zbe prog G0 166 #[.bool true,.int .i64 n] K↔K (.tuple #[]):=zaf G0W (by kernel_rfl) (zgw (zpv n))
theorem z0u (z:Int):Ret prog G0 195 #[wd z] (.int .i64 (za3 (uz z) / 2)):=by
 refine za2 G0F func195 rfl call195 rfl (by simp) (by simp [ntmps195]) ?_
 intro C hC hC0 hY
 have b0:=zfw z 0
 have b1:=zfw z 1
 have b2:=zfw z 2
 have b3:=zfw z 3
 have k3:=z3v z
 have k2:=z3u z
 have k1:=z3t z
 have k0:=z3s z
 have m3:Int.bmod (192+za3 (wi z 3)) 18446744073709551616=192+za3 (wi z 3):=bm (by omega) (by omega)
 have m2:Int.bmod (128+za3 (wi z 2)) 18446744073709551616=128+za3 (wi z 2):=bm (by omega) (by omega)
 have m1:Int.bmod (64+za3 (wi z 1)) 18446744073709551616=64+za3 (wi z 1):=bm (by omega) (by omega)
 have t3:(192+za3 (wi z 3)).tdiv 2=(192+za3 (wi z 3)) / 2:=Int.tdiv_eq_ediv_of_nonneg (by omega)
 have t2:(128+za3 (wi z 2)).tdiv 2=(128+za3 (wi z 2)) / 2:=Int.tdiv_eq_ediv_of_nonneg (by omega)
 have t1:(64+za3 (wi z 1)).tdiv 2=(64+za3 (wi z 1)) / 2:=Int.tdiv_eq_ediv_of_nonneg (by omega)
 have t0:(za3 (wi z 0)).tdiv 2=za3 (wi z 0) / 2:=Int.tdiv_eq_ediv_of_nonneg (by omega)
 have u3:Int.bmod ((192+za3 (wi z 3)) / 2) 18446744073709551616=(192+za3 (wi z 3)) / 2:=bm (by omega) (by omega)
 have u2:Int.bmod ((128+za3 (wi z 2)) / 2) 18446744073709551616=(128+za3 (wi z 2)) / 2:=bm (by omega) (by omega)
 have u1:Int.bmod ((64+za3 (wi z 1)) / 2) 18446744073709551616=(64+za3 (wi z 1)) / 2:=bm (by omega) (by omega)
 have u0:Int.bmod (za3 (wi z 0) / 2) 18446744073709551616=za3 (wi z 0) / 2:=bm (by omega) (by omega)
 repeat' (first|refine zat ?_|refine zaw ?_|refine gwA ?_|(refine gwX ?_;intro Q hQ hP;simp [hC,hY,zbk,zbp,m1,m2,m3,t0,t1,t2,t3,u0,u1,u2,u3];(first|refine gwq hQ ?_|refine hP _ _ (by kernel_rfl) λ_=>?_);clear hQ hP Q)|refine gwC ?_ ?_<;>intro hb<;>try (cases hb;done))
 all_goals
  refine ⟨.inr trivial,?_⟩
  simp [results195]
  simp_all
@[simp] theorem jmh (z:Int) (K:Value->Prop):zbe prog G0 195 #[Value.agg #[.int .u64 (wi (z) 0),.int .u64 (wi (z) 1),.int .u64 (wi (z) 2),.int .u64 (wi (z) 3)]] K↔K (.int .i64 (za3 (uz z) / 2)):=zaf G0W (by kernel_rfl) (z0u z)
theorem z4j (a:Int) (k:Nat) (h100:100<=k):Fun prog G0 182 #[wd a] G0 [] (.new (.func (.func 194) #[] #[.pointer (some ⟨k,0,none⟩)]) [(k,wb a)]):=by
 have e0:rst G0 []=G0:=zjn G0F []
 refine zq8 (B:=200) (λj=>if j=k then 200 else j) G0F (λ_ _=>rfl) func182 rfl call182 (by simp [zan,za0,zah,zal]) (by rw [e0];exact zd4 _) ?_ (by simp [ntmps182]) (by omega) (by rw [e0];exact λx hx=>zff x (by omega)) (λj hj=>?_) ?_ ?_ ?_ ?_
 ·refine ⟨by simp [zan,za0,zah,zal,zcu,zab],by simp [zab];omega,λq b c h1 h2=>?_⟩
  simp at h1 h2
  rw [h1.2,h2.2]
 ·rw [e0] at hj;have:=zif hj;rw [if_neg (by omega)]
 ·simp [e0,dom]
 ·simp
 ·simp [wb,zac,zah,zal]
 ·intro C hC hC0 hY
  rw [e0]
  repeat' (first|refine gwA ?_|(refine gwX ?_;intro Q hQ hP;simp [hC,hY];(first|refine gwq hQ ?_|refine hP _ _ (by kernel_rfl) λ_=>?_);clear hQ hP Q)|refine gwC ?_ ?_<;>intro hb<;>try (cases hb;done))
  refine ⟨.inr trivial,?_⟩
  simp [results182,ren,zay,zaj,zam,wb]
  intro j hj hj2
  have:=zif hj
  omega
theorem jd9 (t r j:Nat) (hr:r<64):wi (2^(64*t+r)) j=if j=t then 2^r else 0:=by
 by_cases h:j=t
 ·subst h
  rw [if_pos rfl]
  unfold wi
  rw [Int.pow_add,Int.mul_ediv_cancel_left _ (by have:=zbl (64*j);omega)]
  exact Int.emod_eq_of_lt (Int.le_of_lt (zbl _)) (by
   have:(2:Int)^r<2^64:=by exact_mod_cast Nat.pow_lt_pow_right (by omega) hr
   exact this)
 ·rw [if_neg h]
  have:=zro 0 t r j hr h
  simp only [Int.zero_mul,Int.zero_add] at this
  rw [this,zar]
theorem zxb (t r:Nat) (ht:t<4) (hr:r<64):(#[.int .u64 0,.int .u64 0,.int .u64 0,.int .u64 0]:Array Value).setIfInBounds t (.int .u64 (2^r))=#[.int .u64 (wi (2^(64*t+r)) 0),.int .u64 (wi (2^(64*t+r)) 1),.int .u64 (wi (2^(64*t+r)) 2),.int .u64 (wi (2^(64*t+r)) 3)]:=by
 simp only [jd9 _ _ _ hr]
 have:t=0\/t=1\/t=2\/t=3:=by omega
 rcases this with rfl|rfl|rfl|rfl<;>simp
def zm1 (M:Int):List (Array Value):=(List.range (M+1).toNat).map λ(i:Nat)=>#[wd (2^(M - (i:Int)).toNat)]
theorem zi4 (M:Int):(zm1 M).length=(M+1).toNat:=by simp [zm1]
theorem zlg (M:Int) (i:Nat) (h:i<(M+1).toNat):(zm1 M)[i]? = some #[wd (2^(M - (i:Int)).toNat)]:=by simp [zm1,h]
def aHp (a:Int):Hp:=hpL G0 [(100,wb a)]
def zyw (a M:Int) (l i:Nat):GS :=
 ⟨tsL [(0,.func (.yield l) #[] #[]),(1,.pointer (some ⟨100,0,none⟩)),(3,.int .i64 (M - i))],aHp a,300,i⟩
theorem z9t (a:Int):zg2 prog G0 194 #[.pointer (some ⟨100,0,none⟩)] (aHp a) [100] (zm1 (za3 (uz a) / 2)):=by
 have e0:rst (aHp a) [100]=aHp a:=zfs G0F (by simp)
 refine zpf (B:=200) (v:=.tuple #[]) G0F (λk hk=>za7 (by simp) hk) func194 rfl call194 ?_ ?_ (by simp [ntmps194]) (by omega) ?_ ?_
 ·rw [e0];simp [zan,za0,zah,zal,dom,aHp]
 ·rw [e0]
  intro k c hk
  rcases za5 hk with h|h
  ·simp at h
   rcases h with ⟨_,rfl⟩
   simp [wb,zac,zah,zal]
  ·exact zd4 _ _ _ h
 ·rw [e0]
  intro x hx
  simp [aHp,show ¬x=100 by omega,show 100<=x by omega]
 ·intro C l stop hC hC0 hY
  rw [e0] at hC0 |-
  have hnb:=ze5 256 (z1q a).2
  have hM:0<=za3 (uz a) / 2/\za3 (uz a) / 2<=128:=by omega
  have hlen:=zi4 (za3 (uz a) / 2)
  repeat' (first|refine gwA ?_|(refine gwX ?_;intro Q hQ hP;simp [hC,hY,aHp,wb];(first|refine gwq hQ ?_|refine hP _ _ (by kernel_rfl) λ_=>?_);clear hQ hP Q)|refine gwC ?_ ?_<;>intro hb<;>try (cases hb;done))
  generalize hMe:za3 (uz a) / 2=M at *
  generalize hxs:zm1 M=xs at *
  refine zc3 (min stop xs.length) (zyw a M l) ?_ ?_ ?_
  ·refine zbi _ 300 hC G0F (m:=[(100,wb a)]) (m0:=[(100,wb a)]) hC0 (by omega) ?_ ?_ ?_
   ·simp [dom]
   ·simp [wb]
   ·simp [wb]
  ·intro i hi
   have hs:i<stop:=by omega
   have hq:(i != stop)=true:=by simp;omega
   have hle:i<=stop:=by omega
   obtain ⟨n,hn⟩:∃ n:Nat,M - (i:Int)=n:=⟨(M - i).toNat,by omega⟩
   have g1:(i:Int)<=M:=by omega
   have hx:xs[i]? = some #[wd (2^n)]:=by
    rw [<-hxs,zlg M i (by omega),hn];rfl
   simp only [z7k] at hx
   have g4:Int.bmod ((n:Int) - 1) 18446744073709551616=M - ((i+1:Nat):Int):=by rw [bm (by omega) (by omega)];omega
   obtain ⟨t,r,hr,hn'⟩:∃ t r,r<64/\n=64*t+r:=⟨n / 64,n%64,by omega,by omega⟩
   have tq:((n:Int)).tdiv 64=t:=by rw [Int.tdiv_eq_ediv_of_nonneg (by omega)];omega
   have tm:((n:Int)).tmod 64=r:=by rw [Int.tmod_eq_emod_of_nonneg (by omega)];omega
   have t4:t<4:=by omega
   have t4':(t:Int)<4:=by omega
   have t0:(0:Int)<=t:=by omega
   have tb:Int.bmod (t:Int) 18446744073709551616=t:=bm (by omega) (by omega)
   have t3:t<=3:=Nat.le_of_lt_succ t4
   have m1:min r 64=r:=by omega
   have m2:(2:Int)^r%18446744073709551616=2^r:=Int.emod_eq_of_lt (Int.le_of_lt (zbl _)) (by
    have:(2:Int)^r<2^64:=by exact_mod_cast Nat.pow_lt_pow_right (by omega) hr
    exact this)
   have hset:=zxb t r t4 hr
   rw [<-hn'] at hset
   unfold zyw
   repeat' (first|refine gwA ?_|(refine gwX ?_;intro Q hQ hP;simp [hC,hY,aHp,wb,hs,hq,hle,hn,g1,g4,hx,tq,tm,t4,t4',t0,tb,t3,m1,m2,hset];(first|refine gwq hQ ?_|refine hP _ _ (by kernel_rfl) λ_=>?_);clear hQ hP Q)|refine gwC ?_ ?_<;>intro hb<;>try (cases hb;done))
   refine zbi _ 300 hC G0F (m:=[(100,wb a)]) (m0:=[(100,wb a)]) hC0 (by omega) ?_ ?_ ?_
   ·simp [dom]
   ·simp [wb]
   ·simp [wb]
  ·by_cases h4:xs.length<=stop
   ·rw [Nat.min_eq_right h4]
    have g1:¬((xs.length:Int)<=M):=by omega
    unfold zyw
    repeat' (first|refine gwA ?_|(refine gwX ?_;intro Q hQ hP;simp [hC,hY,aHp,wb,g1];(first|refine gwq hQ ?_|refine hP _ _ (by kernel_rfl) λ_=>?_);clear hQ hP Q)|refine gwC ?_ ?_<;>intro hb<;>try (cases hb;done))
    refine ⟨.inl trivial,by simp [results194],?_⟩
    show xs.length=_
    omega
   ·rw [Nat.min_eq_left (by omega)]
    obtain ⟨n,hn⟩:∃ n:Nat,M - (stop:Int)=n:=⟨(M - stop).toNat,by omega⟩
    have g1:(stop:Int)<=M:=by omega
    have hx:xs[stop]? = some #[wd (2^n)]:=by
     rw [<-hxs,zlg M stop (by omega),hn];rfl
    simp only [z7k] at hx
    obtain ⟨t,r,hr,hn'⟩:∃ t r,r<64/\n=64*t+r:=⟨n / 64,n%64,by omega,by omega⟩
    have tq:((n:Int)).tdiv 64=t:=by rw [Int.tdiv_eq_ediv_of_nonneg (by omega)];omega
    have tm:((n:Int)).tmod 64=r:=by rw [Int.tmod_eq_emod_of_nonneg (by omega)];omega
    have t4:t<4:=by omega
    have t4':(t:Int)<4:=by omega
    have t0:(0:Int)<=t:=by omega
    have tb:Int.bmod (t:Int) 18446744073709551616=t:=bm (by omega) (by omega)
    have t3:t<=3:=Nat.le_of_lt_succ t4
    have m1:min r 64=r:=by omega
    have m2:(2:Int)^r%18446744073709551616=2^r:=Int.emod_eq_of_lt (Int.le_of_lt (zbl _)) (by
     have:(2:Int)^r<2^64:=by exact_mod_cast Nat.pow_lt_pow_right (by omega) hr
     exact this)
    have hset:=zxb t r t4 hr
    rw [<-hn'] at hset
    unfold zyw
    repeat' (first|refine gwA ?_|(refine gwX ?_;intro Q hQ hP;simp [hC,hY,aHp,wb,hn,g1,hx,tq,tm,t4,t4',t0,tb,t3,m1,m2,hset];(first|refine gwq hQ ?_|refine hP _ _ (by kernel_rfl) λ_=>?_);clear hQ hP Q)|refine gwC ?_ ?_<;>intro hb<;>try (cases hb;done))
    refine ⟨.inr trivial,by simp [results194],?_⟩
    show stop+1=_
    omega
def rp (a:Int) (K:Nat):Nat->Int
 | 0=>0
 | i+1=>if (rp a K i+2^(K - 1 - i))*(rp a K i+2^(K - 1 - i))<=a then rp a K i+2^(K - 1 - i) else rp a K i
theorem zw6 (a:Int) (K:Nat) (h0:0<=a) (h:a<2^K*2^K):∀ i,i<=K->0<=rp a K i/\rp a K i*rp a K i<=a/\a<(rp a K i+2^(K - i))*(rp a K i+2^(K - i))
 | 0,_=>by simp [rp];exact ⟨h0,h⟩
 | i+1,hi=>by
  obtain ⟨h1,h2,h3⟩:=zw6 a K h0 h i (by omega)
  have e1:K - i=(K - 1 - i)+1:=by omega
  have e2:K - (i+1)=K - 1 - i:=by omega
  rw [e1,Int.pow_succ] at h3
  rw [e2]
  have hp:=zbl (K - 1 - i)
  unfold rp
  split
  ·rename_i hc
   refine ⟨by omega,hc,?_⟩
   rw [Int.add_assoc,show (2:Int)^(K - 1 - i)+2^(K - 1 - i)=2^(K - 1 - i)*2 by omega]
   exact h3
  ·rename_i hc
   exact ⟨h1,h2,by omega⟩
def isq (a:Int):Int:=rp a (za3 a / 2+1).toNat (za3 a / 2+1).toNat
theorem zqx (a:Int) (h0:0<=a):a<2^(za3 a / 2+1).toNat*2^(za3 a / 2+1).toNat:=by
 rw [<-Int.pow_add]
 by_cases h:a=0
 ·subst h;exact zbl _
 ·obtain ⟨k,hk,k1,k2⟩:=zev (x:=a) (by omega)
  refine Int.lt_of_lt_of_le k2 ?_
  rw [hk]
  exact_mod_cast Nat.pow_le_pow_right (by omega) (by omega)
theorem z0a (a:Int) (h0:0<=a):0<=isq a/\isq a*isq a<=a/\a<(isq a+1)*(isq a+1):=by
 have:=zw6 a (za3 a / 2+1).toNat h0 (zqx a h0) (za3 a / 2+1).toNat (Nat.le_refl _)
 simpa [isq] using this
theorem jji {x y:Int} (hx:0<=x) (hy:0<=y) (h:x*x<y*y):x<y:=by
 refine Classical.byContradiction λhn=>?_
 have:y*y<=x*x:=Int.mul_le_mul (by omega) (by omega) hy hx
 omega
theorem jjh {x:Int} (B:Int) (hx:0<=x) (hB:0<=B) (h:x*x<B*B):x<B:=jji hx hB h
def z6x (a r:Int):Hp:=hpL G0 [(200,wb a),(208,wb r)]
def z3n:Nat->Value:=tsL [(1,.pointer (some ⟨200,0,none⟩)),(2,.pointer (some ⟨208,0,none⟩))]
theorem z88 (a:Int) (ha:wr a) (h0:a<0):zmz prog G0 169 #[wd a] (.pan (erV 2)):=by
 refine ze6 G0F func169 rfl call169 (λv h=>by cases h) (by simp) (by simp [ntmps169]) ?_
 intro C hC hC0 hY
 have s1:¬0<=zch (sz a) 0:=by rw [zdb ha];unfold zch;split<;>(try split)<;>omega
 repeat' first|refine gwZ ?_|((first|refine gwR [1000166] ?_|refine gwD [1000166] ?_);intro Q hQ hP;(repeat first|simp [hC,hY,s1]|refine zdl (zl3 2) ?_);(first|refine gwq hQ ?_|refine hP _ _ (by kernel_rfl) λ_=>?_))|refine gwC ?_ ?_<;>intro hb
 rfl
theorem zth (a:Int) (ha:wr a) (h0:0<=a):Ret prog G0 169 #[wd a] (wd (isq a)):=by
 refine za2 G0F func169 rfl call169 (by simp) (by simp) (by simp [ntmps169]) ?_
 intro C hC hC0 hY
 have s1:0<=zch (sz a) 0:=by rw [zdb ha];unfold zch;split<;>(try split)<;>omega
 have hnb:=ze5 255 ha.2
 have hit:=z9t a
 have eu:uz a=a:=by unfold uz;have:=ha.2;omega
 rw [eu] at hit
 have hinv:=zw6 a (za3 a / 2+1).toNat h0 (zqx a h0)
 have hisq:isq a=rp a (za3 a / 2+1).toNat (za3 a / 2+1).toNat:=rfl
 have hM:0<=za3 a / 2/\za3 a / 2<=127:=by omega
 generalize za3 a / 2=M at *
 repeat' first|refine gwZ ?_|(refine gwX ?_;intro Q hQ hP;simp [hC,hY,s1];(first|refine gwq hQ ?_|refine hP _ _ (by kernel_rfl) λ_=>?_))|refine gwC ?_ ?_<;>intro hb
 refine zct [182] (by kernel_rfl) ?_;intro Q hQ hP;simp [hC,hY]
 refine zb7 (z4j a 256 (by omega)) (by simp) (λ_ _=>rfl) (by simp [Res.at]) ?_
 simp
 refine hQ _ _ _ _ ?_;clear hQ hP Q
 repeat' first|refine gwZ ?_|(refine gwX ?_;intro Q hQ hP;simp [hC,hY];(first|refine gwq hQ ?_|refine hP _ _ (by kernel_rfl) λ_=>?_))|refine gwC ?_ ?_<;>intro hb
 generalize hK:(M+1).toNat=K at *
 refine ziq (f:=194) (rs:=[256]) (xs:=zm1 M) (caps:=#[.pointer (some ⟨256,0,none⟩)]) (by simp) ?_ ?_ (by simp [ntmps169]) z3n (λi=>z6x a (rp a K i)) 300 K (by rw [zi4];omega) ?_ ?_ ?_ ?_ ?_
 ·rw [hC]
  refine zg2.cast (IterX.rn (λk=>if k=100 then 256 else k) G0F (λk hk=>za7 (by simp) hk) (rs:=[100]) ?_ hit) (by simp [zam]) (by simp)
  refine ⟨λk hk=>?_,?_,?_,?_⟩
  ·simp [aHp,show ¬k=100 by omega,show ¬k=200 by omega,show ¬k=208 by omega,show ¬k=256 by omega]
  ·simp
  ·simp [aHp,wb,Blk.rn,zaj,zam]
  ·simp
 ·intro x hx
  simp only [zm1,List.mem_map] at hx
  obtain ⟨i,_,rfl⟩:=hx
  simp
 ·refine zbi _ 300 hC G0F (m0:=[]) hC0 (by omega) ?_ ?_ ?_
  ·simp [dom]
  ·simp [wb,rp,zar]
  ·simp
 ·simp [z6x,dom]
 ·intro i hi t
  refine zgz ?_ t
  simp [dom,z6x]
 ·intro i x hi hx C1 l hC1 hh1 hY1
  have hCC:=hC
  have hC1':C1.G=G0:=hC1.trans hC
  obtain ⟨n,hn⟩:∃ n:Nat,M - (i:Int)=n:=⟨(M - i).toNat,by omega⟩
  rw [zlg M i (by omega),hn] at hx
  cases hx
  obtain ⟨r0,r1,r2⟩:=hinv i (by omega)
  have en:K - 1 - i=n:=by omega
  have hrs:rp a K (i+1)=if (rp a K i+2^n)*(rp a K i+2^n)<=a then rp a K i+2^n else rp a K i:=by
   rw [rp,en]
  generalize rp a K i=r at *
  have hau:=ha.2
  have hr:r<340282366920938463463374607431768211456:=jjh _ r0 (by decide) (by omega)
  have hn2:(2:Int)^n<=2^127:=by exact_mod_cast Nat.pow_le_pow_right (by omega) (by omega:n<=127)
  have hn0:=zbl n
  have t0:0<=r+2^n:=by omega
  have t1:r+2^n<680564733841876926926749214863536422912:=by omega
  have szt:sz (r+2^n)=r+2^n:=zrg t0 (Int.lt_trans t1 (by decide))
  have tt0:0<=(r+2^n)*(r+2^n):=Int.mul_nonneg t0 t0
  have hmul:zot (r+2^n) (r+2^n)=decide (¬((r+2^n)*(r+2^n)<57896044618658097711785492504343953926634992332820282019728792003956564819968)):=by
   unfold zot;rw [szt];congr 1
   exact propext ⟨λh1 h2=>h1 ⟨Int.le_trans (by decide) tt0,h2⟩,λh1 h2=>h1 h2.2⟩
  have sza:sz a=a:=zdb ha
  replace hC:=hC1'
  replace hY:=hY1
  simp only [hrs]
  generalize htt:(r+2^n)*(r+2^n)=T at *
  by_cases hov:T<57896044618658097711785492504343953926634992332820282019728792003956564819968
  ·have hm:zot (r+2^n) (r+2^n)=false:=by rw [hmul];simp [hov]
   have szT:sz T=T:=zrg tt0 hov
   by_cases hle:T<=a
   ·have hcmp:zch (sz T) (sz a)<=0:=by rw [szT,sza];unfold zch;split<;>(try split)<;>omega
    rw [if_pos hle]
    unfold z6x
    repeat' first|refine gwZ ?_|(refine gwX ?_;intro Q hQ hP;simp [hC,hY,zao,z3n];(first|refine gwq hQ ?_|refine hP _ _ (by kernel_rfl) λ_=>?_))|refine gwC ?_ ?_<;>intro hb
    intro C2 hC2 hh2 hY2
    replace hC:C2.G=G0:=hC2.trans hCC
    replace hY:=hY2
    repeat' first|refine gwZ ?_|(refine gwX ?_;intro Q hQ hP;simp [hC,hY,zao,z3n,wb,szt,htt,hm,hcmp];(first|refine gwq hQ ?_|refine hP _ _ (by kernel_rfl) λ_=>?_))|refine gwC ?_ ?_<;>intro hb
    refine zbi [] 300 hC1' G0F hh1 (by omega) ?_ ?_ ?_
    ·simp
    ·simp [wb]
    ·simp [wb]
   ·have hcmp:¬zch (sz T) (sz a)<=0:=by rw [szT,sza];unfold zch;split<;>(try split)<;>omega
    rw [if_neg hle]
    unfold z6x
    repeat' first|refine gwZ ?_|(refine gwX ?_;intro Q hQ hP;simp [hC,hY,zao,z3n];(first|refine gwq hQ ?_|refine hP _ _ (by kernel_rfl) λ_=>?_))|refine gwC ?_ ?_<;>intro hb
    intro C2 hC2 hh2 hY2
    replace hC:C2.G=G0:=hC2.trans hCC
    replace hY:=hY2
    repeat' first|refine gwZ ?_|(refine gwX ?_;intro Q hQ hP;simp [hC,hY,zao,z3n,wb,szt,htt,hm,hcmp];(first|refine gwq hQ ?_|refine hP _ _ (by kernel_rfl) λ_=>?_))|refine gwC ?_ ?_<;>intro hb
    refine zbi [] 300 hC1' G0F hh1 (by omega) ?_ ?_ ?_
    ·simp
    ·simp [wb]
    ·simp [wb]
  ·have hm:zot (r+2^n) (r+2^n)=true:=by rw [hmul];simp only [hov,not_false_eq_true,decide_true]
   have hle:¬T<=a:=λh=>hov (Int.lt_of_le_of_lt h hau)
   rw [if_neg hle]
   unfold z6x
   repeat' first|refine gwZ ?_|(refine gwX ?_;intro Q hQ hP;simp [hC,hY,zao,z3n];(first|refine gwq hQ ?_|refine hP _ _ (by kernel_rfl) λ_=>?_))|refine gwC ?_ ?_<;>intro hb
   intro C2 hC2 hh2 hY2
   replace hC:C2.G=G0:=hC2.trans hCC
   replace hY:=hY2
   repeat' first|refine gwZ ?_|(refine gwX ?_;intro Q hQ hP;simp [hC,hY,zao,z3n,wb,szt,htt,hm];(first|refine gwq hQ ?_|refine hP _ _ (by kernel_rfl) λ_=>?_))|refine gwC ?_ ?_<;>intro hb
   refine zbi [] 300 hC1' G0F hh1 (by omega) ?_ ?_ ?_
   ·simp
   ·simp [wb]
   ·simp [wb]
 ·left
  refine ⟨by rw [zi4];omega,?_⟩
  rw [<-hisq]
  unfold z6x z3n
  repeat' first|refine gwZ ?_|(refine gwX ?_;intro Q hQ hP;simp [hC,hY,wb];(first|refine gwq hQ ?_|refine hP _ _ (by kernel_rfl) λ_=>?_))|refine gwC ?_ ?_<;>intro hb
  refine ⟨.inr trivial,?_⟩
  simp [results169]
@[simp] theorem jlk (a:Int) (ha:wr a) (h0:0<=a) (K:Value->Prop):zbe prog G0 169 #[Value.agg #[.int .u64 (wi (a) 0),.int .u64 (wi (a) 1),.int .u64 (wi (a) 2),.int .u64 (wi (a) 3)]] K↔K (wd (isq a)):=zaf G0W (by kernel_rfl) (zth a ha h0)
def hp1 (a:Int):Hp:=hpL G0 [(200,wb a)]
theorem z6k (a:Int):zmz prog G0 144 #[wd a,wd 0] (.pan (erV 30)):=by
 refine ze6 G0F func144 rfl call144 (λv h=>by cases h) (by simp) (by simp [ntmps144]) ?_
 intro C hC hC0 hY
 repeat' first|refine gwZ ?_|((first|refine gwR [1000166] ?_|refine gwD [1000166] ?_);intro Q hQ hP;(repeat first|simp [hC,hY,zar]|refine zdl (zl3 30) ?_);(first|refine gwq hQ ?_|refine hP _ _ (by kernel_rfl) λ_=>?_))|refine gwC ?_ ?_<;>intro hb
 rfl
theorem jch (a b:Int) (ha:wr a) (hb:wr b) (hb0:b≠0) (h:a<0\/b<0):zmz prog G0 144 #[wd a,wd b] (.pan (erV 2)):=by
 refine ze6 G0F func144 rfl call144 (λv h=>by cases h) (by simp) (by simp [ntmps144]) ?_
 intro C hC hC0 hY
 have hz:=z17 hb hb0
 by_cases h0:0<=a
 ·have s1:0<=zch (sz a) 0:=by rw [zdb ha];unfold zch;split<;>(try split)<;>omega
  have s2:¬0<zch (sz b) 0:=by rw [zdb hb];unfold zch;split<;>(try split)<;>omega
  repeat' first|refine gwZ ?_|((first|refine gwR [1000166] ?_|refine gwD [1000166] ?_);intro Q hQ hP;(repeat first|simp [hC,hY,hz,s1,s2]|refine zdl (zpv 30) ?_|refine zdl (zl3 2) ?_);(first|refine gwq hQ ?_|refine hP _ _ (by kernel_rfl) λ_=>?_))|refine gwC ?_ ?_<;>intro hb
  rfl
 ·have s1:¬0<=zch (sz a) 0:=by rw [zdb ha];unfold zch;split<;>(try split)<;>omega
  repeat' first|refine gwZ ?_|((first|refine gwR [1000166] ?_|refine gwD [1000166] ?_);intro Q hQ hP;(repeat first|simp [hC,hY,hz,s1]|refine zdl (zpv 30) ?_|refine zdl (zl3 2) ?_);(first|refine gwq hQ ?_|refine hP _ _ (by kernel_rfl) λ_=>?_))|refine gwC ?_ ?_<;>intro hb
  rfl
theorem jae {a b:Int} (ha:wr a) (h0:0<=a) (hb:0<b):wr (a / b)/\0<=a / b:=by
 have h1:0<=a / b:=Int.ediv_nonneg h0 (by omega)
 exact ⟨⟨Int.le_trans (by decide) h1,Int.lt_of_le_of_lt (Int.ediv_le_self b h0) ha.2⟩,h1⟩
theorem jb1 {a:Int} (h0:0<=a):a≠lst:=λe=>by rw [e] at h0;exact absurd h0 (by decide)
theorem jci (a b:Int) (ha:wr a) (hb:wr b) (h0:0<=a) (hb0:0<b):Ret prog G0 144 #[wd a,wd b] (wd (isq (a / b))):=by
 refine za2 G0F func144 rfl call144 (by simp) (by simp) (by simp [ntmps144]) ?_
 intro C hC hC0 hY
 have hz:=z17 hb (by omega)
 have s1:0<=zch (sz a) 0:=by rw [zdb ha];unfold zch;split<;>(try split)<;>omega
 have s2:0<zch (sz b) 0:=by rw [zdb hb];unfold zch;split<;>(try split)<;>omega
 obtain ⟨d1,d2⟩:=jae ha h0 hb0
 have hl:=jb1 h0
 repeat' first|refine gwZ ?_|(refine gwX ?_;intro Q hQ hP;simp [hC,hY,hz,s1,s2,ha,hb,hb0,hl,d1,d2];(first|refine gwq hQ ?_|refine hP _ _ (by kernel_rfl) λ_=>?_))|refine gwC ?_ ?_<;>intro hb
 refine ⟨.inr trivial,?_⟩
 simp [results144]
@[simp] theorem rof (a b:Int) (ha:wr a) (hb:wr b) (h0:0<=a) (hb0:0<b) (K:Value->Prop):zbe prog G0 144 #[Value.agg #[.int .u64 (wi (a) 0),.int .u64 (wi (a) 1),.int .u64 (wi (a) 2),.int .u64 (wi (a) 3)],Value.agg #[.int .u64 (wi (b) 0),.int .u64 (wi (b) 1),.int .u64 (wi (b) 2),.int .u64 (wi (b) 3)]] K↔K (wd (isq (a / b))):=zaf G0W (by kernel_rfl) (jci a b ha hb h0 hb0)
theorem jc7 (a b:Int) (ha:wr a) (hb:wr b) (h0:0<=a) (hb0:0<b):Fun prog G0 143 [.pointer (some ⟨200,0,none⟩),.pointer (some ⟨208,0,none⟩)].toArray (hp2 a b) [200,208] (.ret (wd (isq (a / b))) []):=by
 refine zjd (B:=300) G0F (λk hk=>za7 (by simp) hk) func143 rfl call143 ?_ ?_ ⟨zak (by simp),by simp [zab],by simp,by simp⟩ (by simp [ntmps143]) (by omega) ?_ ?_
 ·rw [zcw];simp [hp2,dom]
 ·rw [zcw];exact zf8 a b _
 ·rw [zcw];exact zee a b
 ·intro C hC hC0 hY
  rw [zcw] at hC0 |-
  repeat' first|refine gwZ ?_|(refine gwX ?_;intro Q hQ hP;simp [hC,hY,hp2,wb,ha,hb,h0,hb0];(first|refine gwq hQ ?_|refine hP _ _ (by kernel_rfl) λ_=>?_))|refine gwC ?_ ?_<;>intro hb
  refine ⟨.inr rfl,by simp [results143],λk hk=>?_⟩
  have hk3:k<300:=Classical.byContradiction λh=>hk (zee a _ k (by omega))
  simp (disch:=omega) only [zmh]
  rfl
theorem jlf (a b:Int) (ha:wr a) (hb:wr b) (hb0:b≠0) (h:a<0\/b<0):Fun prog G0 143 [.pointer (some ⟨200,0,none⟩),.pointer (some ⟨208,0,none⟩)].toArray (hp2 a b) [200,208] (.pan (erV 2)):=by
 refine zjd (B:=300) G0F (λk hk=>za7 (by simp) hk) func143 rfl call143 ?_ ?_ trivial (by simp [ntmps143]) (by omega) ?_ ?_
 ·rw [zcw];simp [hp2,dom]
 ·rw [zcw];exact zf8 a b _
 ·rw [zcw];exact zee a b
 ·intro C hC hC0 hY
  rw [zcw] at hC0 |-
  repeat' first|refine gwZ ?_|((first|refine gwR [1000144] ?_|refine gwD [1000144] ?_);intro Q hQ hP;(repeat first|simp [hC,hY,hp2,wb]|refine zdl (jch a b ha hb hb0 h) ?_);(first|refine gwq hQ ?_|refine hP _ _ (by kernel_rfl) λ_=>?_))|refine gwC ?_ ?_<;>intro hb
  refine ⟨rfl,λk hk=>?_⟩
  have hk3:k<300:=Classical.byContradiction λh=>hk (zee a _ k (by omega))
  simp (disch:=omega) only [zmh]
  rfl
theorem jc8 (a b:Int) (hz:b=0):Fun prog G0 143 [.pointer (some ⟨200,0,none⟩),.pointer (some ⟨208,0,none⟩)].toArray (hp2 a b) [200,208] (.pan (erV 30)):=by
 refine zjd (B:=300) G0F (λk hk=>za7 (by simp) hk) func143 rfl call143 ?_ ?_ trivial (by simp [ntmps143]) (by omega) ?_ ?_
 ·rw [zcw];simp [hp2,dom]
 ·rw [zcw];exact zf8 a b _
 ·rw [zcw];exact zee a b
 ·intro C hC hC0 hY
  rw [zcw] at hC0 |-
  subst hz
  repeat' first|refine gwZ ?_|((first|refine gwR [1000144] ?_|refine gwD [1000144] ?_);intro Q hQ hP;(repeat first|simp [hC,hY,hp2,wb]|refine zdl (z6k a) ?_);(first|refine gwq hQ ?_|refine hP _ _ (by kernel_rfl) λ_=>?_))|refine gwC ?_ ?_<;>intro hb
  refine ⟨rfl,λk hk=>?_⟩
  have hk3:k<300:=Classical.byContradiction λh=>hk (zee a _ k (by omega))
  simp (disch:=omega) only [zmh]
  rfl
theorem zww (a b:Int) (ha:wr a) (hb:wr b) (h0:0<=a) (hb0:0<b):Ret prog G0 122 #[wd a,wd b] (.tuple #[wd (isq (a / b)),.int .i64 0]):=by
 refine za2 G0F func122 rfl call122 (by simp) (by simp) (by simp [ntmps122]) ?_
 intro C hC hC0 hY
 repeat' first|refine gwZ ?_|((first|refine gwR [142] ?_|refine gwD [142] ?_);intro Q hQ hP;(repeat first|simp [hC,hY]|refine zb7 (hp':=hp2 a b) (zw8 (λk hk=>za7 (by simp) hk) (by simp) rfl (by simp) (jc7 a b ha hb h0 hb0)) (by simp [hp2,wb]) (λk hk=>za7 (by simp) hk) trivial ?_);(first|refine gwq hQ ?_|refine hP _ _ (by kernel_rfl) λ_=>?_))|refine gwC ?_ ?_<;>intro hb
 refine ⟨.inr trivial,?_⟩
 simp [results122,zar]
@[simp] theorem jmg (a b:Int) (ha:wr a) (hb:wr b) (h0:0<=a) (hb0:0<b) (K:Value->Prop):zbe prog G0 122 #[Value.agg #[.int .u64 (wi (a) 0),.int .u64 (wi (a) 1),.int .u64 (wi (a) 2),.int .u64 (wi (a) 3)],Value.agg #[.int .u64 (wi (b) 0),.int .u64 (wi (b) 1),.int .u64 (wi (b) 2),.int .u64 (wi (b) 3)]] K↔K (.tuple #[wd (isq (a / b)),.int .i64 0]):=zaf G0W (by kernel_rfl) (zww a b ha hb h0 hb0)
theorem zwx (a b:Int) (hz:b=0):Ret prog G0 122 #[wd a,wd b] (.tuple #[wd 0,.int .i64 30]):=by
 refine za2 G0F func122 rfl call122 (by simp) (by simp) (by simp [ntmps122]) ?_
 intro C hC hC0 hY
 repeat' first|refine gwZ ?_|((first|refine gwR [142] ?_|refine gwD [142] ?_);intro Q hQ hP;(repeat first|simp [hC,hY]|refine zb7 (hp':=hp2 a b) (zw7 (λk hk=>za7 (by simp) hk) (by simp) rfl (by simp) (jc8 a b hz)) (by simp [hp2,wb]) (λk hk=>za7 (by simp) hk) trivial ?_);(first|refine gwq hQ ?_|refine hP _ _ (by kernel_rfl) λ_=>?_))|refine gwC ?_ ?_<;>intro hb
 refine ⟨.inr trivial,?_⟩
 simp [results122,zar]
@[simp] theorem ji8 (a b:Int) (hz:b=0) (K:Value->Prop):zbe prog G0 122 #[Value.agg #[.int .u64 (wi (a) 0),.int .u64 (wi (a) 1),.int .u64 (wi (a) 2),.int .u64 (wi (a) 3)],Value.agg #[.int .u64 (wi (b) 0),.int .u64 (wi (b) 1),.int .u64 (wi (b) 2),.int .u64 (wi (b) 3)]] K↔K (.tuple #[wd 0,.int .i64 30]):=zaf G0W (by kernel_rfl) (zwx a b hz)
theorem zdn {n:Int} (h:i64 n):wr n:=by unfold i64 at h;unfold wr;omega
end Go.Gy
namespace Go.Gy
open Go Go.RowKit Go.Proofs
def wl (z:Int):List Value:=[.int .u64 (wi z 0),.int .u64 (wi z 1),.int .u64 (wi z 2),.int .u64 (wi z 3)]
@[simp] theorem jlq (z:Int):(wl z).length=4:=rfl
end Go.Gy
namespace Go.Gy
def jis (a b:Int):Int:=if b<2*(a%b)\/(2*(a%b)=b/\0<=a / b) then a / b+1 else a / b
end Go.Gy
namespace Go.Gy
open Go Go.RowKit Go.Proofs
def sm (z:Int):Prop:=-1329227995784915872903807060280344576<=z/\z<=1329227995784915872903807060280344576
theorem sm.wr {z:Int} (h:sm z):wr z:=⟨Int.le_trans (by decide) h.1,Int.lt_of_le_of_lt h.2 (by decide)⟩
theorem sm.sz {z:Int} (h:sm z):sz z=z:=zdb h.wr
theorem sm.up {z:Int} (h:sm z):Gy.wr (z+1):=⟨Int.le_trans (by decide) (Int.le_trans h.1 (Int.le_add_one (Int.le_refl _))),Int.lt_of_le_of_lt (Int.add_le_add_right h.2 1) (by decide)⟩
def jb (n:Int):Blk:=⟨#[.int .i64 n],.ty 3⟩
end Go.Gy
namespace Go.Gy
open Go Go.RowKit Go.Proofs Go.Proofs.Tryz
theorem jie (p:Nat->Prop) (m:Nat):∃ N,N<=m/\(∀ i,i<N->p i)/\(N=m\/¬p N):=by
 induction m with
 | zero=>exact ⟨0,Nat.le_refl _,λi hi=>absurd hi (Nat.not_lt_zero i),.inl rfl⟩
 | succ m ih =>
  obtain ⟨N,h1,h2,h3⟩:=ih
  rcases h3 with rfl|h3
  ·by_cases hp:p N
   ·exact ⟨N+1,Nat.le_refl _,λi hi=>by
     by_cases e:i=N
     ·subst e;exact hp
     ·exact h2 i (by omega),.inl rfl⟩
   ·exact ⟨N,by omega,h2,.inr hp⟩
  ·exact ⟨N,by omega,h2,.inr h3⟩
def inW (m x:Int):Prop:=0<=m/\-m<=x/\x<=m
instance inWdec (m x:Int):Decidable (inW m x):=by unfold inW;infer_instance
theorem zwn {m:Int} (h:i64 m) (h0:0<=m):Int.bmod (-m) 18446744073709551616=-m:=by
 have:=h.1;have:=h.2
 rw [Int.bmod_def];omega
def z9k (x0 x1 x2 m:Int):Hp:=hpL G0 [(200,⟨#[.int .i64 x0,.int .i64 x1,.int .i64 x2],.ty 70⟩),(208,jb m),(216,⟨#[.bool false],.ty 4⟩)]
def zxz:Nat->Value:=tsL [(3,.pointer (some ⟨208,0,none⟩)),(4,.pointer (some ⟨216,0,none⟩))]
theorem ztv (x0 x1 x2 m:Int) (hm:i64 m) (h0:i64 x0) (h1:i64 x1) (h2:i64 x2):Ret prog G0 162 #[.agg #[.int .i64 x0,.int .i64 x1,.int .i64 x2],.int .i64 m] (.bool (decide (inW m x0/\inW m x1/\inW m x2))):=by
 refine za2 G0F func162 rfl call162 (by simp) (by simp) (by simp [ntmps162]) ?_
 intro C hC hC0 hY
 obtain ⟨N,hN,hlt,hend⟩:=jie (λi=>inW m (vf x0 x1 x2 i)) 3
 repeat' first|refine gwZ ?_|((first|refine gwR [125] ?_|refine gwD [125] ?_);intro Q hQ _;(repeat first|simp [hC,hY,jb]|refine zb7 (zgd 232 240 1 1 #[.int .i64 x0,.int .i64 x1,.int .i64 x2] (by simp) (by omega) (by omega) (by omega) (by omega)) (by simp) (λk hk=>za7 (by simp) hk) (by simp [Res.at,zab]) ?_);refine gwq hQ ?_)|refine gwC ?_ ?_<;>intro hb
 have hT:m<0\/0<=m:=by omega
 refine ziq (f:=145) (rs:=[240,232]) (xs:=xsV 3 (vf x0 x1 x2)) (caps:=#[.pointer (some ⟨240,0,none⟩)]) (by simp) ?_ (by simp [xsV]) (by simp [ntmps162]) zxz (λ_=>z9k x0 x1 x2 m) 300 N (by simp [xsV];omega) ?_ ?_ ?_ ?_ ?_
 ·rw [hC]
  refine zg2.cast (IterX.rn (λk=>if k=100 then 240 else if k=108 then 232 else k) G0F (λk hk=>za7 (by simp [zh7]) hk) (rs:=[100,108]) ?_ (ztu x0 x1 x2)) (by simp [zam]) (by simp)
  refine ⟨λk hk=>?_,?_,?_,?_⟩
  ·have h1:¬k=100:=by omega
   have h2:¬k=108:=by omega
   have h3:¬k=200:=by omega
   have h4:¬k=208:=by omega
   have h5:¬k=216:=by omega
   have h8:¬k=232:=by omega
   have h9:¬k=240:=by omega
   simp [h1,h2,h3,h4,h5,h8,h9,pv1,zh7]
  ·simp
  ·simp [zh7,Blk.rn,zaj,zam]
  ·simp
 ·refine zbi _ 300 hC G0F (m0:=[]) hC0 (by omega) ?_ ?_ ?_
  ·simp [zan,za0,zah,zal,dom]
  ·simp [zac,zah,zal,jb]
  ·simp
 ·simp [z9k,dom]
 ·intro i hi t
  refine zgz ?_ t
  simp [zan,za0,zah,zal,dom,z9k]
 ·intro i x hi hx C1 l hC1 hh1 hY1
  have hCC:=hC
  have hC1':C1.G=G0:=hC1.trans hC
  obtain ⟨g0,g1,g2⟩:=hlt i hi
  replace hC:=hC1'
  replace hY:=hY1
  have:i=0\/i=1\/i=2:=by omega
  rcases this with rfl|rfl|rfl
  all_goals
   rw [zk6 _ _ _ (by omega)] at hx
   simp only [Option.some.injEq] at hx
   subst hx
   simp only [vf] at *
   unfold z9k
  all_goals
   repeat' first|refine gwZ ?_|(refine gwX ?_;intro Q hQ _;simp [hC,hY,zao,zxz,jb];refine gwq hQ ?_)|refine gwC ?_ ?_<;>intro hb
  all_goals
   intro C2 hC2 hh2 hY2
   replace hC:C2.G=G0:=hC2.trans hCC
   replace hY:=hY2
   have q0:¬m<0:=by omega
   have q1:=Int.not_lt.2 g1
   have q2:=Int.not_lt.2 g2
   have hbm:=zwn hm g0
   repeat' first|refine gwZ ?_|(refine gwX ?_;intro Q hQ _;simp [hC,hY,zao,zxz,jb,hbm,q0,q1,q2];refine gwq hQ ?_)|refine gwC ?_ ?_<;>intro hb
  all_goals
   refine zbi [] 300 hC1' G0F hh1 (by omega) ?_ ?_ ?_
   ·simp
   ·simp [zac,zah,zal,jb]
   ·simp [jb]
 ·by_cases hend':N=3
  ·subst hend'
   left
   refine ⟨by simp [xsV],?_⟩
   have e:(inW m x0/\inW m x1/\inW m x2)=True:=by
    simp only [eq_iff_iff,iff_true]
    exact ⟨hlt 0 (by omega),hlt 1 (by omega),hlt 2 (by omega)⟩
   simp only [e]
   unfold z9k zxz jb
   repeat' first|refine gwZ ?_|refine gwW ?_|refine gwC ?_ ?_<;>intro hb
   refine ⟨.inr trivial,?_⟩
   simp [results162]
  ·right
   have hN3:N<3:=by omega
   replace hend:=hend.resolve_left hend'
   refine ⟨_,zk6 _ _ _ hN3,?_⟩
   have e:(inW m x0/\inW m x1/\inW m x2)=False:=by
    simp only [eq_iff_iff,iff_false]
    rintro ⟨a0,a1,a2⟩
    have:N=0\/N=1\/N=2:=by omega
    rcases this with rfl|rfl|rfl<;>contradiction
   simp only [e]
   have hor:m<0\/(¬m<0/\vf x0 x1 x2 N < -m)\/(¬m<0/\¬vf x0 x1 x2 N < -m/\m<vf x0 x1 x2 N):=by
    unfold inW at hend;omega
   intro C1 l hC1 hh1 hY1
   have hCC:=hC
   replace hC:=hC1.trans hC
   replace hY:=hY1
   clear hlt hN
   have:N=0\/N=1\/N=2:=by omega
   rcases this with rfl|rfl|rfl
   all_goals
    simp only [vf] at hor |-
    unfold z9k
   all_goals
    repeat' first|refine gwZ ?_|(refine gwX ?_;intro Q hQ _;simp [hC,hY,zao,zxz,jb];refine gwq hQ ?_)|refine gwC ?_ ?_<;>intro hb
   all_goals
    intro C2 hC2 hh2 hY2
    replace hC:C2.G=G0:=hC2.trans hCC
    replace hY:=hY2
    rcases hor with q0|⟨q0,q1⟩|⟨q0,q1,q2⟩
    ·
     repeat' first|refine gwZ ?_|(refine gwX ?_;intro Q hQ _;simp [hC,hY,zao,zxz,jb,q0];refine gwq hQ ?_)|refine gwC ?_ ?_<;>intro hb
     refine ⟨by simp [zbc],λt=>zgz (by simp [zan,za0,zah,zal,dom]) t,.inr trivial,?_⟩
     simp [results162,zxz]
    ·have hbm:=zwn hm (Int.not_lt.1 q0)
     repeat' first|refine gwZ ?_|(refine gwX ?_;intro Q hQ _;simp [hC,hY,zao,zxz,jb,hbm,q0,q1];refine gwq hQ ?_)|refine gwC ?_ ?_<;>intro hb
     refine ⟨by simp [zbc],λt=>zgz (by simp [zan,za0,zah,zal,dom]) t,.inr trivial,?_⟩
     simp [results162,zxz]
    ·have hbm:=zwn hm (Int.not_lt.1 q0)
     repeat' first|refine gwZ ?_|(refine gwX ?_;intro Q hQ _;simp [hC,hY,zao,zxz,jb,hbm,q0,q1,q2];refine gwq hQ ?_)|refine gwC ?_ ?_<;>intro hb
     refine ⟨by simp [zbc],λt=>zgz (by simp [zan,za0,zah,zal,dom]) t,.inr trivial,?_⟩
     simp [results162,zxz]
def inV (m x0 x1 x2:Int):Bool:=decide (inW m x0/\inW m x1/\inW m x2)
@[simp] theorem jjv (x0 x1 x2 m:Int) (hm:i64 m) (h0:i64 x0) (h1:i64 x1) (h2:i64 x2) (K:Value->Prop):zbe prog G0 162 #[.agg #[.int .i64 x0,.int .i64 x1,.int .i64 x2],.int .i64 m] K↔K (.bool (inV m x0 x1 x2)):=zaf G0W (by kernel_rfl) (ztv x0 x1 x2 m hm h0 h1 h2)
def fnI (x:Int):Prop:=-536870912<=x/\x<=536870912
instance fnIdec (x:Int):Decidable (fnI x):=by unfold fnI;infer_instance
theorem zqp (M m:Nat) (v:Bool) (cs:Array Value) (hcs:∀ x∈cs,za9 x=true) (f:Nat->Int) (hit:IterK prog G0 145 #[.pointer (some ⟨100,0,none⟩)] (hpL G0 [(100,⟨#[.slice (some ⟨108,0,none⟩) m m],.ty 167⟩),(108,⟨cs,.ty 70⟩)]) (zab [(100,⟨#[.slice (some ⟨108,0,none⟩) m m],.ty 167⟩),(108,⟨cs,.ty 70⟩)]) (xsV M f)) (hv:v=true↔∀ j,j<M->fnI (f j)) :
  Fun prog G0 106 #[.slice (some ⟨100,0,none⟩) m m] (hpL G0 [(100,⟨cs,.ty 70⟩)]) [100] (.ret (.bool v) []):=by
 have hfx:Blk.fx (Blk.mk cs (.ty 70)):=hcs
 have hfi:∀ D,(Blk.mk cs (.ty 70)).ids D:=λD=>Blk.fx_ids hfx D
 refine zaz (m:=[(100,⟨cs,.ty 70⟩)]) (B:=200) G0F func106 rfl call106 ⟨by simp,by simp [zab],by simp only [List.mem_singleton,forall_eq];exact hfi _⟩ ?_ (by simp) (by simp) (by simp) (by simp [ntmps106]) (by omega) ?_
 ·simp [zan,za0,zah,zal,zab]
 intro C hC hC0 hY
 obtain ⟨N,hN,hlt,hend⟩:=jie (λi=>fnI (f i)) M
 repeat' first|refine gwZ ?_|((first|refine gwR [125] ?_|refine gwD [125] ?_);intro Q hQ _;(repeat first|simp [hC,hY,jb]|refine zb7 (zgd 100 216 m m cs hcs (by omega) (by omega) (by omega) (by omega)) (by simp) (λk hk=>za7 (by simp) hk) (by simp [Res.at,zab]) ?_);refine gwq hQ ?_)|refine gwC ?_ ?_<;>intro hb
 refine zf5 (G:=G0) (f:=145) (rs:=[216,100]) (xs:=xsV M f) (caps:=#[.pointer (some ⟨216,0,none⟩)]) (m0:=[(100,⟨cs,.ty 70⟩)]) [216,100] G0F hC hC0 hY (by simp) ?_ (by simp [xsV]) (by simp [ntmps106]) [(2,.pointer (some ⟨200,0,none⟩))] [] (λ_=>[(200,⟨#[.bool false],.ty 4⟩)]) 300 N (by simp [xsV];omega) (by omega) (by simp) (by simp [dom]) ?_ (by simp) (by simp) (by simp) ?_ (by simp) ?_ ?_
 ·refine zef (m:=[(100,⟨#[.slice (some ⟨108,0,none⟩) m m],.ty 167⟩),(108,⟨cs,.ty 70⟩)]) (B:=200) hit G0F ⟨by simp,by simp [zab],?_⟩ (λk=>if k=100 then 216 else if k=108 then 100 else k) (λk hk=>?_) (by simp [zam]) (by simp [zab]) (by (intro k hk;first|rfl|(simp (disch:=omega) only [zbw,List.mem_cons,List.not_mem_nil,or_false,zaa,zag,zaq,if_neg,zbb]<;>done))) ?_ ?_
  ·simp only [List.mem_cons,List.not_mem_nil,or_false,forall_eq_or_imp,forall_eq]
   exact ⟨by simp [zac,zah,zal,zab],hfi _⟩
  ·rw [if_neg (by omega),if_neg (by omega)]
  ·have hr:=λρ=>zqr hcs ρ
   simp [hr,Blk.rn,zaj,zam]
  ·simp [zab]
 ·intro k hk b hb
  simp only [List.mem_cons,List.not_mem_nil,or_false] at hk
  rcases hk with rfl|rfl
  ·simp at hb;subst hb;simp [zac,zah,zal]
  ·simp at hb;subst hb;exact hfi _
 ·intro i hi
  simp [zan,za0,zah,zal,dom,zac]
 ·intro i x hi hx C1 l hC1 hh1 hY1
  rw [zk6 _ _ _ (by omega)] at hx
  simp only [Option.some.injEq] at hx
  subst hx
  obtain ⟨g1,g2⟩:=hlt i hi
  have q1:=Int.not_lt.2 g1
  have q2:=Int.not_lt.2 g2
  clear hC hY
  have hC:=hC1
  have hY:=hY1
  repeat' first|refine gwZ ?_|(refine gwX ?_;intro Q hQ _;simp [hC,hY,zao];refine gwq hQ ?_)|refine gwC ?_ ?_<;>intro hb
  intro C2 hC2 hh2 hY2
  clear hC hY
  have hC:=hC2
  have hY:=hY2
  repeat' first|refine gwZ ?_|(refine gwX ?_;intro Q hQ _;simp [hC,hY,zao,q1,q2];refine gwq hQ ?_)|refine gwC ?_ ?_<;>intro hb
  simp
 ·by_cases hend':N=M
  ·subst hend'
   left
   refine ⟨by simp [xsV],?_⟩
   have e:=hv.2 hlt
   subst e
   repeat' first|refine gwZ ?_|(refine gwX ?_;intro Q hQ _;simp [hC,hY,zbw,List.cons_append,List.nil_append];refine gwq hQ ?_)|refine gwC ?_ ?_<;>intro hb
   refine ⟨.inr rfl,by simp [results106],zbz G0F (by simp [zbw]) (by (intro k hk;first|rfl|(simp (disch:=omega) only [zbw,List.mem_cons,List.not_mem_nil,or_false,zaa,zag,zaq,if_neg,zbb]<;>done)))⟩
  ·right
   have hN3:N<M:=by omega
   replace hend:=hend.resolve_left hend'
   refine ⟨_,zk6 _ _ _ hN3,?_⟩
   have e:v=false:=by
    cases v
    ·rfl
    ·exact absurd (hv.1 rfl N hN3) hend
   subst e
   have hor:f N < -536870912\/(¬f N < -536870912/\536870912<f N):=by
    unfold fnI at hend;omega
   intro C1 l hC1 hh1 hY1
   clear hC hY
   have hC:=hC1
   have hY:=hY1
   repeat' first|refine gwZ ?_|(refine gwX ?_;intro Q hQ _;simp [hC,hY,zao];refine gwq hQ ?_)|refine gwC ?_ ?_<;>intro hb
   intro C2 hC2 hh2 hY2
   clear hC hY
   have hC:=hC2
   have hY:=hY2
   rcases hor with q1|⟨q1,q2⟩
   ·
    repeat' first|refine gwZ ?_|(refine gwX ?_;intro Q hQ _;simp [hC,hY,zao,q1];refine gwq hQ ?_)|refine gwC ?_ ?_<;>intro hb
    refine ⟨by simp [zbc],by simp [zan,za0,zah,zal,dom],by simp,.inr rfl,by simp [results106,zbw],zbz G0F (by simp [zbw]) (by (intro k hk;first|rfl|(simp (disch:=omega) only [zbw,List.mem_cons,List.not_mem_nil,or_false,zaa,zag,zaq,if_neg,zbb]<;>done)))⟩
   ·
    repeat' first|refine gwZ ?_|(refine gwX ?_;intro Q hQ _;simp [hC,hY,zao,q1,q2];refine gwq hQ ?_)|refine gwC ?_ ?_<;>intro hb
    refine ⟨by simp [zbc],by simp [zan,za0,zah,zal,dom],by simp,.inr rfl,by simp [results106,zbw],zbz G0F (by simp [zbw]) (by (intro k hk;first|rfl|(simp (disch:=omega) only [zbw,List.mem_cons,List.not_mem_nil,or_false,zaa,zag,zaq,if_neg,zbb]<;>done)))⟩

theorem znl (x0 x1 x2:Int) (v:Bool) (hv:v=true↔fnI x0/\fnI x1/\fnI x2):Fun prog G0 106 #[.slice (some ⟨100,0,none⟩) 1 1] (hpL G0 [(100,⟨#[.int .i64 x0,.int .i64 x1,.int .i64 x2],.ty 70⟩)]) [100] (.ret (.bool v) []):=by
 refine zqp 3 1 _ _ (by simp) _ (zfb x0 x1 x2) ?_
 rw [hv]
 refine ⟨λ⟨h0,h1,h2⟩ j hj=>?_,λh=>⟨h 0 (by omega),h 1 (by omega),h 2 (by omega)⟩⟩
 have:j=0\/j=1\/j=2:=by omega
 rcases this with rfl|rfl|rfl<;>assumption
theorem zfq (x0 x1 x2 y0 y1 y2:Int) (v:Bool) (hv:v=true↔(fnI x0/\fnI x1/\fnI x2)/\fnI y0/\fnI y1/\fnI y2):Fun prog G0 106 #[.slice (some ⟨100,0,none⟩) 2 2] (hpL G0 [(100,⟨#[.int .i64 x0,.int .i64 x1,.int .i64 x2,.int .i64 y0,.int .i64 y1,.int .i64 y2],.ty 70⟩)]) [100] (.ret (.bool v) []):=by
 refine zqp 6 2 _ _ (by simp) _ (zp0 x0 x1 x2 y0 y1 y2) ?_
 rw [hv]
 refine ⟨λ⟨⟨h0,h1,h2⟩,h3,h4,h5⟩ j hj=>?_,λh=>⟨⟨h 0 (by omega),h 1 (by omega),h 2 (by omega)⟩,h 3 (by omega),h 4 (by omega),h 5 (by omega)⟩⟩
 have:j=0\/j=1\/j=2\/j=3\/j=4\/j=5:=by omega
 rcases this with rfl|rfl|rfl|rfl|rfl|rfl<;>assumption
@[simp] theorem jax (f:Fn):zau (.func f #[] #[])=true:=by simp [zau,zgk,za9,Array.all]
def eaE (op:Int->Int->Int) (a0 a1 a2 b0 b1 b2:Int):Int:=if ((fnI a0/\fnI a1/\fnI a2)/\fnI b0/\fnI b1/\fnI b2)/\fnI (op a0 b0)/\fnI (op a1 b1)/\fnI (op a2 b2) then 0 else 20
def eaV (e v:Int):Int:=if e=0 then v else 0
def eaL (g:FuncId) (op:Int->Int->Int) (a0 a1 a2 b0 b1 b2:Int) (i:Nat):List (Nat×Blk):=[(200,⟨#[.int .i64 a0,.int .i64 a1,.int .i64 a2],.ty 70⟩),(208,⟨#[.int .i64 b0,.int .i64 b1,.int .i64 b2],.ty 70⟩),(216,⟨#[.func (.func g) #[] #[]],.ty 194⟩),
 (224,⟨#[.int .i64 (if 0<i then op a0 b0 else 0),.int .i64 (if 1<i then op a1 b1 else 0),.int .i64 (if 2<i then op a2 b2 else 0)],.ty 70⟩)]
theorem zzk (g:FuncId) (op:Int->Int->Int) (hop:∀ x y K,fnI x->fnI y->(zbe prog G0 g #[.int .i64 x,.int .i64 y] K↔K (.int .i64 (op x y)))) (a0 a1 a2 b0 b1 b2:Int):Ret prog G0 163 #[.agg #[.int .i64 a0,.int .i64 a1,.int .i64 a2],.agg #[.int .i64 b0,.int .i64 b1,.int .i64 b2],.func (.func g) #[] #[]]
  (.tuple #[.agg #[.int .i64 (eaV (eaE op a0 a1 a2 b0 b1 b2) (op a0 b0)),.int .i64 (eaV (eaE op a0 a1 a2 b0 b1 b2) (op a1 b1)),.int .i64 (eaV (eaE op a0 a1 a2 b0 b1 b2) (op a2 b2))],.int .i64 (eaE op a0 a1 a2 b0 b1 b2)]):=by
 refine za2 G0F func163 rfl call163 (by simp) (by simp) (by simp [ntmps163]) ?_
 intro C hC hC0 hY
 obtain ⟨v,hv⟩:∃ v:Bool,v=true↔(fnI a0/\fnI a1/\fnI a2)/\fnI b0/\fnI b1/\fnI b2:=⟨decide _,decide_eq_true_iff⟩
 cases v with
 | false =>
  have e:eaE op a0 a1 a2 b0 b1 b2=20:=by unfold eaE;rw [if_neg];intro h;exact absurd (hv.2 h.1) (by simp)
  rw [e]
  repeat' first|refine gwZ ?_|((first|refine gwR [106] ?_|refine gwD [106] ?_);intro Q hQ _;(repeat first|simp [hC,hY]|refine zae (zfq a0 a1 a2 b0 b1 b2 _ hv) G0F (B:=200) ⟨by simp,by simp [zab],by simp [zac,zah,zal]⟩ (λk=>if k=100 then 256 else k) (λk hk=>if_neg (by omega)) (by simp [ren,zay,zaj,zam]) (by simp) (by simp [Blk.rn,zaj,zam]) (by simp [zab]) (by simp [zab];rfl) ?_);refine gwq hQ ?_)|refine gwC ?_ ?_<;>intro hb
  refine ⟨.inr trivial,?_⟩
  simp [results163,eaV]
 | true =>
  repeat' first|refine gwZ ?_|((first|refine gwR [106,125] ?_|refine gwD [106,125] ?_);intro Q hQ _;(repeat first|simp [hC,hY]|(first|(refine zae (zfq a0 a1 a2 b0 b1 b2 _ hv) G0F (B:=200) ⟨by simp,by simp [zab],by simp [zac,zah,zal]⟩ (λk=>if k=100 then 256 else k) (λk hk=>if_neg (by omega)) (by simp [ren,zay,zaj,zam]) (by simp) (by simp [Blk.rn,zaj,zam]) (by simp [zab]) (by simp [zab];rfl) ?_)|refine zb7 (zgd 288 296 1 1 #[.int .i64 a0,.int .i64 a1,.int .i64 a2] (by simp) (by omega) (by omega) (by omega) (by omega)) (by simp) (λk hk=>za7 (by simp) hk) (by simp [Res.at,zab]) ?_));refine gwq hQ ?_)|refine gwC ?_ ?_<;>intro hb
  obtain ⟨⟨f0,f1,f2⟩,g0,g1,g2⟩:=hv.1 rfl
  have s0:=λK=>hop a0 b0 K f0 g0
  have s1:=λK=>hop a1 b1 K f1 g1
  have s2:=λK=>hop a2 b2 K f2 g2
  refine zf5 (G:=G0) (f:=145) (rs:=[296,288]) (xs:=xsV 3 (vf a0 a1 a2)) (caps:=#[.pointer (some ⟨296,0,none⟩)]) (m0:=[]) [296,288] G0F hC hC0 hY (by simp) ?_ (by simp [xsV]) (by simp [ntmps163]) [(3,.pointer (some ⟨200,0,none⟩)),(4,.pointer (some ⟨208,0,none⟩)),(5,.pointer (some ⟨216,0,none⟩)),(6,.pointer (some ⟨224,0,none⟩)),(7,.int .i64 0)] [] (eaL g op a0 a1 a2 b0 b1 b2) 400 3 (by simp [xsV]) (by omega) (by simp) (by simp [dom]) ?_ (by simp) (by simp) (by simp [eaL]) ?_ (by simp) ?_ ?_
  ·refine zef (m:=zh7 a0 a1 a2) (B:=200) (zfb a0 a1 a2) G0F ⟨by simp [zh7],by simp [zh7,zab],by simp [zh7,zac,zah,zal,zab]⟩ (λk=>if k=100 then 296 else if k=108 then 288 else k) (λk hk=>?_) (by simp [zam]) (by simp [zh7,zab]) (by (intro k hk;first|rfl|(simp (disch:=omega) only [zbw,List.mem_cons,List.not_mem_nil,or_false,zaa,zag,zaq,if_neg,zbb]<;>done))) ?_ ?_
   ·rw [if_neg (by omega),if_neg (by omega)]
   ·simp [zh7,Blk.rn,zaj,zam]
   ·simp [zh7,zab]
  ·intro k hk b hb
   simp only [List.mem_cons,List.not_mem_nil,or_false] at hk
   rcases hk with rfl|rfl
   ·simp at hb;subst hb;simp [zac,zah,zal]
   ·simp at hb;subst hb;simp [zac,zah,zal]
  ·intro i hi
   simp [eaL,zan,za0,zah,zal,dom,zac]
  ·intro i x hi hx C1 l hC1 hh1 hY1
   rw [zk6 _ _ _ (by omega)] at hx
   simp only [Option.some.injEq] at hx
   subst hx
   clear hC hY
   have hC:=hC1
   have hY:=hY1
   have:i=0\/i=1\/i=2:=by omega
   rcases this with rfl|rfl|rfl
   all_goals
    simp only [vf]
    unfold eaL
   all_goals
    repeat' first|refine gwZ ?_|(refine gwX ?_;intro Q hQ _;simp [hC,hY,zao];refine gwq hQ ?_)|refine gwC ?_ ?_<;>intro hb
   all_goals
    intro C2 hC2 hh2 hY2
    clear hC hY
    have hC:=hC2
    have hY:=hY2
    repeat' first|refine gwZ ?_|(refine gwX ?_;intro Q hQ _;simp [hC,hY,zao,s0,s1,s2];refine gwq hQ ?_)|refine gwC ?_ ?_<;>intro hb
   all_goals simp
  ·left
   refine ⟨by simp [xsV],?_⟩
   obtain ⟨w,hw⟩:∃ w:Bool,w=true↔fnI (op a0 b0)/\fnI (op a1 b1)/\fnI (op a2 b2):=⟨decide _,decide_eq_true_iff⟩
   cases w with
   | false =>
    have e:eaE op a0 a1 a2 b0 b1 b2=20:=by unfold eaE;rw [if_neg];intro h;exact absurd (hw.2 h.2) (by simp)
    rw [e]
    unfold eaL
    repeat' first|refine gwZ ?_|((first|refine gwR [106] ?_|refine gwD [106] ?_);intro Q hQ _;(repeat first|simp [hC,hY,zbw,List.cons_append,List.nil_append]|refine zae (znl (op a0 b0) (op a1 b1) (op a2 b2) _ hw) G0F (B:=200) ⟨by simp,by simp [zab],by simp [zac,zah,zal]⟩ (λk=>if k=100 then 408 else k) (λk hk=>if_neg (by omega)) (by simp [ren,zay,zaj,zam]) (by simp) (by simp [Blk.rn,zaj,zam]) (by simp [zab]) (by simp [zab];rfl) ?_);refine gwq hQ ?_)|refine gwC ?_ ?_<;>intro hb
    refine ⟨.inr trivial,?_⟩
    simp [results163,eaV]
   | true =>
    have e:eaE op a0 a1 a2 b0 b1 b2=0:=by unfold eaE;rw [if_pos];exact ⟨hv.1 rfl,hw.1 rfl⟩
    rw [e]
    unfold eaL
    repeat' first|refine gwZ ?_|((first|refine gwR [106] ?_|refine gwD [106] ?_);intro Q hQ _;(repeat first|simp [hC,hY,zbw,List.cons_append,List.nil_append]|refine zae (znl (op a0 b0) (op a1 b1) (op a2 b2) _ hw) G0F (B:=200) ⟨by simp,by simp [zab],by simp [zac,zah,zal]⟩ (λk=>if k=100 then 408 else k) (λk hk=>if_neg (by omega)) (by simp [ren,zay,zaj,zam]) (by simp) (by simp [Blk.rn,zaj,zam]) (by simp [zab]) (by simp [zab];rfl) ?_);refine gwq hQ ?_)|refine gwC ?_ ?_<;>intro hb
    refine ⟨.inr trivial,?_⟩
    simp [results163,eaV]
theorem jjt (g:FuncId) (op:Int->Int->Int) (hop:∀ x y K,fnI x->fnI y->(zbe prog G0 g #[.int .i64 x,.int .i64 y] K↔K (.int .i64 (op x y)))) (a0 a1 a2 b0 b1 b2:Int) (K:Value->Prop):zbe prog G0 163 #[.agg #[.int .i64 a0,.int .i64 a1,.int .i64 a2],.agg #[.int .i64 b0,.int .i64 b1,.int .i64 b2],.func (.func g) #[] #[]] K ↔
  K (.tuple #[.agg #[.int .i64 (eaV (eaE op a0 a1 a2 b0 b1 b2) (op a0 b0)),.int .i64 (eaV (eaE op a0 a1 a2 b0 b1 b2) (op a1 b1)),.int .i64 (eaV (eaE op a0 a1 a2 b0 b1 b2) (op a2 b2))],.int .i64 (eaE op a0 a1 a2 b0 b1 b2)]):=zaf G0W (by kernel_rfl) (zzk g op hop a0 a1 a2 b0 b1 b2)
theorem z1j (x y:Int):Ret prog G0 164 #[.int .i64 x,.int .i64 y] (.int .i64 (Int.bmod (x - y) 18446744073709551616)):=by
 refine za2 G0F func164 rfl call164 (by simp) (by simp) (by simp [ntmps164]) ?_
 intro C hC hC0 hY
 repeat' first|refine gwZ ?_|refine gwW ?_|refine gwC ?_ ?_<;>intro hb
 refine ⟨.inr trivial,?_⟩
 simp [results164]
@[simp] theorem jju (x y:Int) (K:Value->Prop):zbe prog G0 164 #[.int .i64 x,.int .i64 y] K↔K (.int .i64 (Int.bmod (x - y) 18446744073709551616)):=zaf G0W (by kernel_rfl) (z1j x y)
def zgl (a b:Int):Int:=a - b
theorem jho {a b:Int} (h1:fnI a) (h2:fnI b):Int.bmod (a - b) 18446744073709551616=a - b:=by
 obtain ⟨h1,h3⟩:=h1
 obtain ⟨h2,h4⟩:=h2
 exact bm (by omega) (by omega)
theorem z69 (a0 a1 a2 b0 b1 b2:Int):Ret prog G0 141 #[.agg #[.int .i64 a0,.int .i64 a1,.int .i64 a2],.agg #[.int .i64 b0,.int .i64 b1,.int .i64 b2]]
  (.tuple #[.agg #[.int .i64 (eaV (eaE zgl a0 a1 a2 b0 b1 b2) (zgl a0 b0)),.int .i64 (eaV (eaE zgl a0 a1 a2 b0 b1 b2) (zgl a1 b1)),.int .i64 (eaV (eaE zgl a0 a1 a2 b0 b1 b2) (zgl a2 b2))],.int .i64 (eaE zgl a0 a1 a2 b0 b1 b2)]):=by
 refine za2 G0F func141 rfl call141 (by simp) (by simp) (by simp [ntmps141]) ?_
 intro C hC hC0 hY
 have he:=λK=>jjt 164 zgl (λx y K hx hy=>by rw [jju,jho hx hy];rfl) a0 a1 a2 b0 b1 b2 K
 repeat' first|refine gwZ ?_|(refine gwX ?_;intro Q hQ _;simp [hC,hY,he];refine gwq hQ ?_)|refine gwC ?_ ?_<;>intro hb
 refine ⟨.inr trivial,?_⟩
 simp [results141]
@[simp] theorem joq (a0 a1 a2 b0 b1 b2:Int) (K:Value->Prop):zbe prog G0 141 #[.agg #[.int .i64 a0,.int .i64 a1,.int .i64 a2],.agg #[.int .i64 b0,.int .i64 b1,.int .i64 b2]] K ↔
  K (.tuple #[.agg #[.int .i64 (eaV (eaE zgl a0 a1 a2 b0 b1 b2) (zgl a0 b0)),.int .i64 (eaV (eaE zgl a0 a1 a2 b0 b1 b2) (zgl a1 b1)),.int .i64 (eaV (eaE zgl a0 a1 a2 b0 b1 b2) (zgl a2 b2))],.int .i64 (eaE zgl a0 a1 a2 b0 b1 b2)]):=zaf G0W (by kernel_rfl) (z69 a0 a1 a2 b0 b1 b2)
def dtE (a0 a1 a2 b0 b1 b2:Int):Int:=if (fnI a0/\fnI a1/\fnI a2)/\fnI b0/\fnI b1/\fnI b2 then 0 else 20
def dtV (a0 a1 a2 b0 b1 b2:Int):Int:=if (fnI a0/\fnI a1/\fnI a2)/\fnI b0/\fnI b1/\fnI b2 then a0*b0+a1*b1+a2*b2 else 0
theorem zha {a b:Int} (h1:fnI a) (h2:fnI b):-288230376151711744<=a*b/\a*b<=288230376151711744:=by
 obtain ⟨h1,h3⟩:=h1
 obtain ⟨h2,h4⟩:=h2
 have h5:(a*b).natAbs<=536870912*536870912:=by
  rw [Int.natAbs_mul]
  exact Nat.mul_le_mul (by omega) (by omega)
 omega
def dtS (a0 a1 a2 b0 b1 b2:Int):Nat->Int
 | 0=>0
 | 1=>a0*b0
 | 2=>a0*b0+a1*b1
 | _=>a0*b0+a1*b1+a2*b2
def dtL (a0 a1 a2 b0 b1 b2:Int) (i:Nat):List (Nat×Blk):=[(200,⟨#[.int .i64 a0,.int .i64 a1,.int .i64 a2],.ty 70⟩),(208,⟨#[.int .i64 b0,.int .i64 b1,.int .i64 b2],.ty 70⟩),(216,jb (dtS a0 a1 a2 b0 b1 b2 i))]
theorem z43 (a0 a1 a2 b0 b1 b2:Int):Ret prog G0 98 #[.agg #[.int .i64 a0,.int .i64 a1,.int .i64 a2],.agg #[.int .i64 b0,.int .i64 b1,.int .i64 b2]]
  (.tuple #[.int .i64 (dtV a0 a1 a2 b0 b1 b2),.int .i64 (dtE a0 a1 a2 b0 b1 b2)]):=by
 refine za2 G0F func98 rfl call98 (by simp) (by simp) (by simp [ntmps98]) ?_
 intro C hC hC0 hY
 obtain ⟨v,hv⟩:∃ v:Bool,v=true↔(fnI a0/\fnI a1/\fnI a2)/\fnI b0/\fnI b1/\fnI b2:=⟨decide _,decide_eq_true_iff⟩
 cases v with
 | false =>
  have e:dtE a0 a1 a2 b0 b1 b2=20:=by unfold dtE;rw [if_neg];intro h;exact absurd (hv.2 h) (by simp)
  have e2:dtV a0 a1 a2 b0 b1 b2=0:=by unfold dtV;rw [if_neg];intro h;exact absurd (hv.2 h) (by simp)
  rw [e,e2]
  repeat' first|refine gwZ ?_|((first|refine gwR [106] ?_|refine gwD [106] ?_);intro Q hQ _;(repeat first|simp [hC,hY]|refine zae (zfq a0 a1 a2 b0 b1 b2 _ hv) G0F (B:=200) ⟨by simp,by simp [zab],by simp [zac,zah,zal]⟩ (λk=>if k=100 then 248 else k) (λk hk=>if_neg (by omega)) (by simp [ren,zay,zaj,zam]) (by simp) (by simp [Blk.rn,zaj,zam]) (by simp [zab]) (by simp [zab];rfl) ?_);refine gwq hQ ?_)|refine gwC ?_ ?_<;>intro hb
  refine ⟨.inr trivial,?_⟩
  simp [results98]
 | true =>
  have e:dtE a0 a1 a2 b0 b1 b2=0:=by unfold dtE;rw [if_pos];exact hv.1 rfl
  have e2:dtV a0 a1 a2 b0 b1 b2=a0*b0+a1*b1+a2*b2:=by unfold dtV;rw [if_pos];exact hv.1 rfl
  rw [e,e2]
  repeat' first|refine gwZ ?_|((first|refine gwR [106,125] ?_|refine gwD [106,125] ?_);intro Q hQ _;(repeat first|simp [hC,hY]|(first|(refine zae (zfq a0 a1 a2 b0 b1 b2 _ hv) G0F (B:=200) ⟨by simp,by simp [zab],by simp [zac,zah,zal]⟩ (λk=>if k=100 then 248 else k) (λk hk=>if_neg (by omega)) (by simp [ren,zay,zaj,zam]) (by simp) (by simp [Blk.rn,zaj,zam]) (by simp [zab]) (by simp [zab];rfl) ?_)|refine zb7 (zgd 280 288 1 1 #[.int .i64 a0,.int .i64 a1,.int .i64 a2] (by simp) (by omega) (by omega) (by omega) (by omega)) (by simp) (λk hk=>za7 (by simp) hk) (by simp [Res.at,zab]) ?_));refine gwq hQ ?_)|refine gwC ?_ ?_<;>intro hb
  obtain ⟨⟨f0,f1,f2⟩,g0,g1,g2⟩:=hv.1 rfl
  have m0:=zha f0 g0
  have m1:=zha f1 g1
  have m2:=zha f2 g2
  have s0:Int.bmod (a0*b0) 18446744073709551616=a0*b0:=bm (by omega) (by omega)
  have s1:Int.bmod (a1*b1) 18446744073709551616=a1*b1:=bm (by omega) (by omega)
  have s2:Int.bmod (a2*b2) 18446744073709551616=a2*b2:=bm (by omega) (by omega)
  have s3:Int.bmod (a0*b0+a1*b1) 18446744073709551616=a0*b0+a1*b1:=bm (by omega) (by omega)
  have s4:Int.bmod (a0*b0+a1*b1+a2*b2) 18446744073709551616=a0*b0+a1*b1+a2*b2:=bm (by omega) (by omega)
  refine zf5 (G:=G0) (f:=145) (rs:=[288,280]) (xs:=xsV 3 (vf a0 a1 a2)) (caps:=#[.pointer (some ⟨288,0,none⟩)]) (m0:=[]) [288,280] G0F hC hC0 hY (by simp) ?_ (by simp [xsV]) (by simp [ntmps98]) [(2,.pointer (some ⟨200,0,none⟩)),(3,.pointer (some ⟨208,0,none⟩)),(4,.pointer (some ⟨216,0,none⟩)),(5,.int .i64 0)] [] (dtL a0 a1 a2 b0 b1 b2) 400 3 (by simp [xsV]) (by omega) (by simp) (by simp [dom]) ?_ (by simp) (by simp) (by simp [dtL,dtS,jb]) ?_ (by simp) ?_ ?_
  ·refine zef (m:=zh7 a0 a1 a2) (B:=200) (zfb a0 a1 a2) G0F ⟨by simp [zh7],by simp [zh7,zab],by simp [zh7,zac,zah,zal,zab]⟩ (λk=>if k=100 then 288 else if k=108 then 280 else k) (λk hk=>?_) (by simp [zam]) (by simp [zh7,zab]) (by (intro k hk;first|rfl|(simp (disch:=omega) only [zbw,List.mem_cons,List.not_mem_nil,or_false,zaa,zag,zaq,if_neg,zbb]<;>done))) ?_ ?_
   ·rw [if_neg (by omega),if_neg (by omega)]
   ·simp [zh7,Blk.rn,zaj,zam]
   ·simp [zh7,zab]
  ·intro k hk b hb
   simp only [List.mem_cons,List.not_mem_nil,or_false] at hk
   rcases hk with rfl|rfl
   ·simp at hb;subst hb;simp [zac,zah,zal]
   ·simp at hb;subst hb;simp [zac,zah,zal]
  ·intro i hi
   simp [dtL,jb,zan,za0,zah,zal,dom,zac]
  ·intro i x hi hx C1 l hC1 hh1 hY1
   rw [zk6 _ _ _ (by omega)] at hx
   simp only [Option.some.injEq] at hx
   subst hx
   clear hC hY
   have hC:=hC1
   have hY:=hY1
   have:i=0\/i=1\/i=2:=by omega
   rcases this with rfl|rfl|rfl
   all_goals
    simp only [vf]
    unfold dtL
   all_goals
    repeat' first|refine gwZ ?_|(refine gwX ?_;intro Q hQ _;simp [hC,hY,zao,dtS,jb];refine gwq hQ ?_)|refine gwC ?_ ?_<;>intro hb
   all_goals
    intro C2 hC2 hh2 hY2
    clear hC hY
    have hC:=hC2
    have hY:=hY2
    repeat' first|refine gwZ ?_|(refine gwX ?_;intro Q hQ _;simp [hC,hY,zao,s0,s1,s2,s3,s4,dtS,jb];refine gwq hQ ?_)|refine gwC ?_ ?_<;>intro hb
   all_goals simp [dtS,jb,s0,s1,s2,s3,s4]
  ·left
   refine ⟨by simp [xsV],?_⟩
   unfold dtL
   repeat' first|refine gwZ ?_|(refine gwX ?_;intro Q hQ _;simp [hC,hY,zbw,List.cons_append,List.nil_append,dtS,jb];refine gwq hQ ?_)|refine gwC ?_ ?_<;>intro hb
   refine ⟨.inr trivial,?_⟩
   simp [results98]
@[simp] theorem jop (a0 a1 a2 b0 b1 b2:Int) (K:Value->Prop):zbe prog G0 98 #[.agg #[.int .i64 a0,.int .i64 a1,.int .i64 a2],.agg #[.int .i64 b0,.int .i64 b1,.int .i64 b2]] K↔K (.tuple #[.int .i64 (dtV a0 a1 a2 b0 b1 b2),.int .i64 (dtE a0 a1 a2 b0 b1 b2)]):=zaf G0W (by kernel_rfl) (z43 a0 a1 a2 b0 b1 b2)
def f2E (a0 a1 a2 b0 b1 b2:Int):Int:=eaE zgl a0 a1 a2 b0 b1 b2
def f2V (a0 a1 a2 b0 b1 b2:Int):Int:=if f2E a0 a1 a2 b0 b1 b2=0 then (a0 - b0)*(a0 - b0)+(a1 - b1)*(a1 - b1)+(a2 - b2)*(a2 - b2) else 0
theorem zzw (a0 a1 a2 b0 b1 b2:Int):Ret prog G0 120 #[.agg #[.int .i64 a0,.int .i64 a1,.int .i64 a2],.agg #[.int .i64 b0,.int .i64 b1,.int .i64 b2]]
  (.tuple #[.int .i64 (f2V a0 a1 a2 b0 b1 b2),.int .i64 (f2E a0 a1 a2 b0 b1 b2)]):=by
 refine za2 G0F func120 rfl call120 (by simp) (by simp) (by simp [ntmps120]) ?_
 intro C hC hC0 hY
 have eV0:∀ z,eaV 0 z=z:=λz=>by simp [eaV]
 by_cases h:((fnI a0/\fnI a1/\fnI a2)/\fnI b0/\fnI b1/\fnI b2)/\fnI (zgl a0 b0)/\fnI (zgl a1 b1)/\fnI (zgl a2 b2)
 ·have he:eaE zgl a0 a1 a2 b0 b1 b2=0:=by unfold eaE;rw [if_pos h]
  have hd:dtE (zgl a0 b0) (zgl a1 b1) (zgl a2 b2) (zgl a0 b0) (zgl a1 b1) (zgl a2 b2)=0:=by unfold dtE;rw [if_pos ⟨h.2,h.2⟩]
  have hv:dtV (zgl a0 b0) (zgl a1 b1) (zgl a2 b2) (zgl a0 b0) (zgl a1 b1) (zgl a2 b2)=f2V a0 a1 a2 b0 b1 b2:=by unfold dtV f2V f2E;rw [if_pos ⟨h.2,h.2⟩,he,if_pos rfl];rfl
  have hF:f2E a0 a1 a2 b0 b1 b2=0:=he
  rw [hF]
  repeat' first|refine gwZ ?_|(refine gwX ?_;intro Q hQ _;simp [hC,hY,he,eV0,hd,hv];refine gwq hQ ?_)|refine gwC ?_ ?_<;>intro hb
  refine ⟨.inr trivial,?_⟩
  simp [results120]
 ·have he:eaE zgl a0 a1 a2 b0 b1 b2=20:=by unfold eaE;rw [if_neg h]
  have hF:f2E a0 a1 a2 b0 b1 b2=20:=he
  have hv:f2V a0 a1 a2 b0 b1 b2=0:=by unfold f2V;rw [hF,if_neg (by omega)]
  rw [hF,hv]
  repeat' first|refine gwZ ?_|(refine gwX ?_;intro Q hQ _;simp [hC,hY,he];refine gwq hQ ?_)|refine gwC ?_ ?_<;>intro hb
  refine ⟨.inr trivial,?_⟩
  simp [results120]
@[simp] theorem jm0 (a0 a1 a2 b0 b1 b2:Int) (K:Value->Prop):zbe prog G0 120 #[.agg #[.int .i64 a0,.int .i64 a1,.int .i64 a2],.agg #[.int .i64 b0,.int .i64 b1,.int .i64 b2]] K↔K (.tuple #[.int .i64 (f2V a0 a1 a2 b0 b1 b2),.int .i64 (f2E a0 a1 a2 b0 b1 b2)]):=zaf G0W (by kernel_rfl) (zzw a0 a1 a2 b0 b1 b2)
theorem zu9 (a0 a1 a2 b0 b1 b2:Int) (hf:(fnI a0/\fnI a1/\fnI a2)/\fnI b0/\fnI b1/\fnI b2):Ret prog G0 73 #[.agg #[.int .i64 a0,.int .i64 a1,.int .i64 a2],.agg #[.int .i64 b0,.int .i64 b1,.int .i64 b2]]
  (.tuple #[.agg #[.int .i64 (a1*b2 - a2*b1),.int .i64 (a2*b0 - a0*b2),.int .i64 (a0*b1 - a1*b0)],.int .i64 0]):=by
 refine za2 G0F func73 rfl call73 (by simp) (by simp) (by simp [ntmps73]) ?_
 intro C hC hC0 hY
 have hv:true=true↔(fnI a0/\fnI a1/\fnI a2)/\fnI b0/\fnI b1/\fnI b2:=⟨λ_=>hf,λ_=>rfl⟩
 obtain ⟨⟨f0,f1,f2⟩,g0,g1,g2⟩:=hf
 have m01:=zha f0 g1
 have m02:=zha f0 g2
 have m10:=zha f1 g0
 have m12:=zha f1 g2
 have m20:=zha f2 g0
 have m21:=zha f2 g1
 have s01:Int.bmod (a0*b1) 18446744073709551616=a0*b1:=bm (by omega) (by omega)
 have s02:Int.bmod (a0*b2) 18446744073709551616=a0*b2:=bm (by omega) (by omega)
 have s10:Int.bmod (a1*b0) 18446744073709551616=a1*b0:=bm (by omega) (by omega)
 have s12:Int.bmod (a1*b2) 18446744073709551616=a1*b2:=bm (by omega) (by omega)
 have s20:Int.bmod (a2*b0) 18446744073709551616=a2*b0:=bm (by omega) (by omega)
 have s21:Int.bmod (a2*b1) 18446744073709551616=a2*b1:=bm (by omega) (by omega)
 have t0:Int.bmod (a1*b2 - a2*b1) 18446744073709551616=a1*b2 - a2*b1:=bm (by omega) (by omega)
 have t1:Int.bmod (a2*b0 - a0*b2) 18446744073709551616=a2*b0 - a0*b2:=bm (by omega) (by omega)
 have t2:Int.bmod (a0*b1 - a1*b0) 18446744073709551616=a0*b1 - a1*b0:=bm (by omega) (by omega)
 repeat' first|refine zat ?_|refine zaw ?_|refine gwZ ?_|((first|refine gwR [106] ?_|refine gwD [106] ?_);intro Q hQ _;(repeat first|simp [hC,hY,s01,s02,s10,s12,s20,s21,t0,t1,t2]|refine zae (zfq a0 a1 a2 b0 b1 b2 _ hv) G0F (B:=200) ⟨by simp,by simp [zab],by simp [zac,zah,zal]⟩ (λk=>if k=100 then 248 else k) (λk hk=>if_neg (by omega)) (by simp [ren,zay,zaj,zam]) (by simp) (by simp [Blk.rn,zaj,zam]) (by simp [zab]) (by simp [zab];rfl) ?_);refine gwq hQ ?_)|refine gwC ?_ ?_<;>intro hb
 refine ⟨.inr trivial,?_⟩
 simp [results73]
theorem z40 {a0 a1 a2 b0 b1 b2:Int} (hf:(fnI a0/\fnI a1/\fnI a2)/\fnI b0/\fnI b1/\fnI b2) (K:Value->Prop):zbe prog G0 73 #[.agg #[.int .i64 a0,.int .i64 a1,.int .i64 a2],.agg #[.int .i64 b0,.int .i64 b1,.int .i64 b2]] K↔K (.tuple #[.agg #[.int .i64 (a1*b2 - a2*b1),.int .i64 (a2*b0 - a0*b2),.int .i64 (a0*b1 - a1*b0)],.int .i64 0]):=zaf G0W (by kernel_rfl) (zu9 a0 a1 a2 b0 b1 b2 hf)
theorem z54 (x0 x1 x2 v0 v1 v2:Int):Ret prog G0 71 #[.agg #[.int .i64 x0,.int .i64 x1,.int .i64 x2,.int .i64 v0,.int .i64 v1,.int .i64 v2]] (.agg #[.int .i64 v0,.int .i64 v1,.int .i64 v2]):=by
 refine za2 G0F func71 rfl call71 (by simp) (by simp) (by simp [ntmps71]) ?_
 intro C hC hC0 hY
 repeat' first|refine gwZ ?_|refine gwW ?_|refine gwC ?_ ?_<;>intro hb
 refine ⟨.inr trivial,?_⟩
 simp [results71]
theorem jik (x0 x1 x2 v0 v1 v2:Int) (K:Value->Prop):zbe prog G0 71 #[.agg #[.int .i64 x0,.int .i64 x1,.int .i64 x2,.int .i64 v0,.int .i64 v1,.int .i64 v2]] K↔K (.agg #[.int .i64 v0,.int .i64 v1,.int .i64 v2]):=zaf G0W (by kernel_rfl) (z54 x0 x1 x2 v0 v1 v2)
theorem z52 (x0 x1 x2 v0 v1 v2:Int) (hf:(fnI x0/\fnI x1/\fnI x2)/\fnI v0/\fnI v1/\fnI v2):Ret prog G0 72 #[.agg #[.int .i64 x0,.int .i64 x1,.int .i64 x2,.int .i64 v0,.int .i64 v1,.int .i64 v2]] (.agg #[.int .i64 (x1*v2 - x2*v1),.int .i64 (x2*v0 - x0*v2),.int .i64 (x0*v1 - x1*v0)]):=by
 refine za2 G0F func72 rfl call72 (by simp) (by simp) (by simp [ntmps72]) ?_
 intro C hC hC0 hY
 have hc:=z40 hf
 repeat' first|refine gwZ ?_|(refine gwX ?_;intro Q hQ _;simp [hC,hY,hc];refine gwq hQ ?_)|refine gwC ?_ ?_<;>intro hb
 refine ⟨.inr trivial,?_⟩
 simp [results72]
theorem jii {x0 x1 x2 v0 v1 v2:Int} (hf:(fnI x0/\fnI x1/\fnI x2)/\fnI v0/\fnI v1/\fnI v2) (K:Value->Prop):zbe prog G0 72 #[.agg #[.int .i64 x0,.int .i64 x1,.int .i64 x2,.int .i64 v0,.int .i64 v1,.int .i64 v2]] K↔K (.agg #[.int .i64 (x1*v2 - x2*v1),.int .i64 (x2*v0 - x0*v2),.int .i64 (x0*v1 - x1*v0)]):=zaf G0W (by kernel_rfl) (z52 x0 x1 x2 v0 v1 v2 hf)
theorem zwe (a0 a1 a2 b0 b1 b2:Int) (h0:i64 (b0 - a0)) (h1:i64 (b1 - a1)) (h2:i64 (b2 - a2)):Ret prog G0 35 #[.agg #[.int .i64 a0,.int .i64 a1,.int .i64 a2],.agg #[.int .i64 b0,.int .i64 b1,.int .i64 b2]] (.agg #[.int .i64 (b0 - a0),.int .i64 (b1 - a1),.int .i64 (b2 - a2)]):=by
 refine za2 G0F func35 rfl call35 (by simp) (by simp) (by simp [ntmps35]) ?_
 intro C hC hC0 hY
 have t0:Int.bmod (b0 - a0) 18446744073709551616=b0 - a0:=bm h0.1 h0.2
 have t1:Int.bmod (b1 - a1) 18446744073709551616=b1 - a1:=bm h1.1 h1.2
 have t2:Int.bmod (b2 - a2) 18446744073709551616=b2 - a2:=bm h2.1 h2.2
 repeat' first|refine zat ?_|refine zaw ?_|refine gwZ ?_|(refine gwX ?_;intro Q hQ _;simp [hC,hY,t0,t1,t2];refine gwq hQ ?_)|refine gwC ?_ ?_<;>intro hb
 refine ⟨.inr trivial,?_⟩
 simp [results35]
theorem z53 {a0 a1 a2 b0 b1 b2:Int} (h0:i64 (b0 - a0)) (h1:i64 (b1 - a1)) (h2:i64 (b2 - a2)) (K:Value->Prop):zbe prog G0 35 #[.agg #[.int .i64 a0,.int .i64 a1,.int .i64 a2],.agg #[.int .i64 b0,.int .i64 b1,.int .i64 b2]] K↔K (.agg #[.int .i64 (b0 - a0),.int .i64 (b1 - a1),.int .i64 (b2 - a2)]):=zaf G0W (by kernel_rfl) (zwe a0 a1 a2 b0 b1 b2 h0 h1 h2)
theorem zvv (a b:Int):Ret prog G0 37 #[wd a,wd b] (wd (a - b)):=by
 refine za2 G0F func37 rfl call37 (by simp) (by simp) (by simp [ntmps37]) ?_
 intro C hC hC0 hY
 repeat' first|refine gwZ ?_|refine gwW ?_|refine gwC ?_ ?_<;>intro hb
 refine ⟨.inr trivial,?_⟩
 simp [results37]
@[simp] theorem jl4 (a b:Int) (K:Value->Prop):zbe prog G0 37 #[Value.agg #[.int .u64 (wi (a) 0),.int .u64 (wi (a) 1),.int .u64 (wi (a) 2),.int .u64 (wi (a) 3)],Value.agg #[.int .u64 (wi (b) 0),.int .u64 (wi (b) 1),.int .u64 (wi (b) 2),.int .u64 (wi (b) 3)]] K↔K (wd (a - b)):=zaf G0W (by kernel_rfl) (zvv a b)
end Go.Gy
namespace Go.Gy
open Go Go.RowKit Go.Proofs Go.Proofs.Tryz
end Go.Gy
namespace Go.Gy
open Go Go.RowKit Go.Proofs Go.Proofs.Tryz
def jcx (n d:Int):Bool:=decide (-2097152<=n/\n<=2097152/\1<=d/\d<=2097152)
def d1E (v n d:Int):Int:=if jcx n d=true/\-1073741824<=v/\v<=1073741824 then 0 else 2
def d1V (v n d:Int):Int:=if jcx n d=true/\-1073741824<=v/\v<=1073741824 then jis (v*n) d else 0
def wyE (v0 v1 v2 n d:Int):Int:=if d1E v0 n d=0 then (if d1E v1 n d=0 then d1E v2 n d else d1E v1 n d) else d1E v0 n d
structure SB (b:Blk) (off n:Nat) (f:Nat->Int):Prop where
 rd:rdI b off (6*n) f
 fx:b.fx
 i6:∀ j,j<6*n->i64 (f j)
 nn:n<=2932031007402
def inB (bx tp:Int) (f:Nat->Int) (i:Nat):Bool:=inV bx (f (6*i)) (f (6*i+1)) (f (6*i+2))&&inV tp (f (6*i+3)) (f (6*i+4)) (f (6*i+5))
theorem SB.body {b:Blk} {off n:Nat} {f:Nat->Int} (h:SB b off n f) {i:Nat} (hi:i<n):zc2 prog 72 b (off+i*6)=some (.agg #[.int .i64 (f (6*i)),.int .i64 (f (6*i+1)),.int .i64 (f (6*i+2)),.int .i64 (f (6*i+3)),.int .i64 (f (6*i+4)),.int .i64 (f (6*i+5))]):=by
 have hbrd:=Blk.fx_rd h.fx
 have:=z0l (P:=prog) (T:=72) (m:=6) (j:=6*i) (zba isAgg72) (zai sizeOf72) (by omega) h.rd (by omega)
 rw [show off+i*6=off+6*i by omega,this,jl0]
 rfl
theorem SB.i {b:Blk} {off n:Nat} {f:Nat->Int} (h:SB b off n f) {i:Nat} (hi:i<n) (q:Nat) (hq:q<6):i64 (f (6*i+q)):=h.i6 _ (by omega)
theorem zp3 (bx tp x0 x1 x2 v0 v1 v2:Int) (hbx:i64 bx) (htp:i64 tp) (h0:i64 x0) (h1:i64 x1) (h2:i64 x2) (h3:i64 v0) (h4:i64 v1) (h5:i64 v2) :
  Fun prog G0 161 #[.agg #[.int .i64 x0,.int .i64 x1,.int .i64 x2,.int .i64 v0,.int .i64 v1,.int .i64 v2],.pointer (some ⟨100,0,none⟩),.pointer (some ⟨108,0,none⟩)] (hpL G0 [(100,jb bx),(108,jb tp)]) (zab [(100,jb bx),(108,jb tp)]) (.ret (.bool !(inV bx x0 x1 x2&&inV tp v0 v1 v2)) []):=by
 refine zaz (B:=200) G0F func161 rfl call161 ⟨by simp,by simp [zab],by simp [jb,zac,zah,zal]⟩ ?_ (by simp) (by simp) (by simp) (by simp [ntmps161]) (by omega) ?_
 ·simp [zan,za0,zah,zal,zab]
 intro C hC hC0 hY
 cases c0:inV bx x0 x1 x2 with
 | true =>
  cases c1:inV tp v0 v1 v2 with
  | true =>
   repeat' first|refine gwZ ?_|(refine gwX ?_;intro Q hQ _;simp [hC,hY,jb,hbx,htp,h0,h1,h2,h3,h4,h5,c0,c1];refine gwq hQ ?_)|refine gwC ?_ ?_<;>intro hb
   refine ⟨.inr rfl,by simp [results161],zbz G0F (by simp [jb]) (by (intro k hk;first|rfl|(simp (disch:=omega) only [zbw,List.mem_cons,List.not_mem_nil,or_false,zaa,zag,zaq,if_neg,zbb]<;>done)))⟩
  | false =>
   repeat' first|refine gwZ ?_|(refine gwX ?_;intro Q hQ _;simp [hC,hY,jb,hbx,htp,h0,h1,h2,h3,h4,h5,c0,c1];refine gwq hQ ?_)|refine gwC ?_ ?_<;>intro hb
   refine ⟨.inr rfl,by simp [results161],zbz G0F (by simp [jb]) (by (intro k hk;first|rfl|(simp (disch:=omega) only [zbw,List.mem_cons,List.not_mem_nil,or_false,zaa,zag,zaq,if_neg,zbb]<;>done)))⟩
 | false =>
  repeat' first|refine gwZ ?_|(refine gwX ?_;intro Q hQ _;simp [hC,hY,jb,hbx,htp,h0,h1,h2,h3,h4,h5,c0];refine gwq hQ ?_)|refine gwC ?_ ?_<;>intro hb
  refine ⟨.inr rfl,by simp [results161],zbz G0F (by simp [jb]) (by (intro k hk;first|rfl|(simp (disch:=omega) only [zbw,List.mem_cons,List.not_mem_nil,or_false,zaa,zag,zaq,if_neg,zbb]<;>done)))⟩
theorem zbu {m:Int} {ρ:Nat->Nat}:(jb m).rn ρ=jb m:=by simp [jb,Blk.rn,zaj,zam]
def jfo (b:Blk) (off n cap:Nat) (bx tp:Int) (i:Nat):GS :=
 ⟨tsL [(0,.slice (some ⟨100,off,none⟩) n cap),(1,.func (.func 161) #[] #[.pointer (some ⟨108,0,none⟩),.pointer (some ⟨116,0,none⟩)]),(7,.int .i64 n),(8,.int .i64 i)],
 hpL G0 [(100,b),(108,jb bx),(116,jb tp)],300,0⟩
def ixL (b:Blk) (bx tp:Int):List (Nat×Blk):=[(100,b),(108,jb bx),(116,jb tp)]
theorem znu {b:Blk} (hb:b.fx) (bx tp:Int):LOk (ixL b bx tp) 200:=⟨by simp [ixL],by simp [ixL,zab],by
 simp only [ixL,List.mem_cons,List.not_mem_nil,or_false,forall_eq_or_imp,forall_eq]
 exact ⟨Blk.fx_ids hb _,by simp [jb,zac,zah,zal],by simp [jb,zac,zah,zal]⟩⟩
theorem z24 (b:Blk) (off n cap:Nat) (f:Nat->Int) (h:SB b off n f) (bx tp:Int) (hbx:i64 bx) (htp:i64 tp) (N:Nat) (hN:N<=n) (hlt:∀ i,i<N->inB bx tp f i=true) (hend:N=n\/inB bx tp f N=false) :
  Fun prog G0 178 #[.slice (some ⟨100,off,none⟩) n cap,.func (.func 161) #[] #[.pointer (some ⟨108,0,none⟩),.pointer (some ⟨116,0,none⟩)]] (hpL G0 (ixL b bx tp)) (zab (ixL b bx tp)) (.ret (.int .i64 (if N=n then -1 else N)) []):=by
 refine zaz (B:=200) G0F func178 rfl call178 (znu h.fx bx tp) ?_ (by simp) (by simp) (by simp) (by simp [ntmps178]) (by omega) ?_
 ·simp [zan,za0,zah,zal,zab,ixL]
 intro C hC hC0 hY
 have hnn:=h.nn
 unfold ixL
 repeat' first|refine gwZ ?_|refine gwW ?_|refine gwC ?_ ?_<;>intro hb
 refine zc3 N (jfo b off n cap bx tp) ?_ ?_ ?_
 ·refine zbi _ 300 hC G0F (m0:=[(100,b),(108,jb bx),(116,jb tp)]) hC0 (by omega) ?_ ?_ ?_
  ·simp [zan,za0,zah,zal,dom]
  ·have hi:=λD=>Blk.fx_ids h.fx D
   simp [zac,zah,zal,jb,hi]
  ·simp
 ·intro i hi
  have hin:i<n:=by omega
  have hi':(i:Int)<n:=by omega
  have hz:(0:Int)<=i:=by omega
  have hs:Int.bmod ((i:Int)+1) 18446744073709551616=((i+1:Nat):Int):=by rw [bm (by omega) (by omega)];rfl
  have hld:=h.body hin
  have hq:=hlt i hi
  unfold inB at hq
  rw [Bool.and_eq_true] at hq
  obtain ⟨q1,q2⟩:=hq
  unfold jfo
  repeat' first|refine gwZ ?_|((first|refine gwR [161] ?_|refine gwD [161] ?_);intro Q hQ _;(repeat first|simp [hC,hY,hi,hi',hz,hs,hld,q1,q2,jb]|refine zae (zp3 bx tp _ _ _ _ _ _ hbx htp (h.i hin 0 (by omega)) (h.i hin 1 (by omega)) (h.i hin 2 (by omega)) (h.i hin 3 (by omega)) (h.i hin 4 (by omega)) (h.i hin 5 (by omega))) G0F (B:=200) ⟨by simp,by simp [zab],by simp [jb,zac,zah,zal]⟩ (λk=>if k=100 then 108 else if k=108 then 116 else k) (λk hk=>(if_neg (by omega)).trans (if_neg (by omega))) (by simp [ren,zay,zaj,zam]) (by simp) (by simp [jb,Blk.rn,zaj,zam]) (by simp [zab]) (by simp [zab];rfl) ?_);refine gwq hQ ?_)|refine gwC ?_ ?_<;>intro hb
  refine zbi _ 300 hC G0F (m0:=[(100,b),(108,jb bx),(116,jb tp)]) hC0 (by omega) ?_ ?_ ?_
  ·simp [zan,za0,zah,zal,dom,hs]
  ·have hi:=λD=>Blk.fx_ids h.fx D
   simp [zac,zah,zal,jb,hi]
  ·simp [jb]
 ·by_cases hNn:N=n
  ·subst hNn
   simp only [if_true]
   unfold jfo
   repeat' first|refine gwZ ?_|refine gwW ?_|refine gwC ?_ ?_<;>intro hb
   refine ⟨.inr rfl,by simp [results178],kpS G0F⟩
  ·have hin:N<n:=by omega
   have hi':(N:Int)<n:=by omega
   have hz:(0:Int)<=N:=by omega
   have hld:=h.body hin
   have hq:=hend.resolve_left hNn
   unfold inB at hq
   rw [if_neg hNn]
   unfold jfo
   cases q1:inV bx (f (6*N)) (f (6*N+1)) (f (6*N+2)) with
   | false =>
    repeat' first|refine gwZ ?_|((first|refine gwR [161] ?_|refine gwD [161] ?_);intro Q hQ _;(repeat first|simp [hC,hY,hin,hi',hz,hld,q1,jb]|refine zae (zp3 bx tp _ _ _ _ _ _ hbx htp (h.i hin 0 (by omega)) (h.i hin 1 (by omega)) (h.i hin 2 (by omega)) (h.i hin 3 (by omega)) (h.i hin 4 (by omega)) (h.i hin 5 (by omega))) G0F (B:=200) ⟨by simp,by simp [zab],by simp [jb,zac,zah,zal]⟩ (λk=>if k=100 then 108 else if k=108 then 116 else k) (λk hk=>(if_neg (by omega)).trans (if_neg (by omega))) (by simp [ren,zay,zaj,zam]) (by simp) (by simp [jb,Blk.rn,zaj,zam]) (by simp [zab]) (by simp [zab];rfl) ?_);refine gwq hQ ?_)|refine gwC ?_ ?_<;>intro hb
    refine ⟨.inr rfl,by simp [results178],zbz G0F (by simp [jb]) (by (intro k hk;first|rfl|(simp (disch:=omega) only [zbw,List.mem_cons,List.not_mem_nil,or_false,zaa,zag,zaq,if_neg,zbb]<;>done)))⟩
   | true =>
    have q2:inV tp (f (6*N+3)) (f (6*N+4)) (f (6*N+5))=false:=by rw [q1] at hq;simpa using hq
    repeat' first|refine gwZ ?_|((first|refine gwR [161] ?_|refine gwD [161] ?_);intro Q hQ _;(repeat first|simp [hC,hY,hin,hi',hz,hld,q1,q2,jb]|refine zae (zp3 bx tp _ _ _ _ _ _ hbx htp (h.i hin 0 (by omega)) (h.i hin 1 (by omega)) (h.i hin 2 (by omega)) (h.i hin 3 (by omega)) (h.i hin 4 (by omega)) (h.i hin 5 (by omega))) G0F (B:=200) ⟨by simp,by simp [zab],by simp [jb,zac,zah,zal]⟩ (λk=>if k=100 then 108 else if k=108 then 116 else k) (λk hk=>(if_neg (by omega)).trans (if_neg (by omega))) (by simp [ren,zay,zaj,zam]) (by simp) (by simp [jb,Blk.rn,zaj,zam]) (by simp [zab]) (by simp [zab];rfl) ?_);refine gwq hQ ?_)|refine gwC ?_ ?_<;>intro hb
    refine ⟨.inr rfl,by simp [results178],zbz G0F (by simp [jb]) (by (intro k hk;first|rfl|(simp (disch:=omega) only [zbw,List.mem_cons,List.not_mem_nil,or_false,zaa,zag,zaq,if_neg,zbb]<;>done)))⟩
def z4i (bx tp:Int) (f:Nat->Int) (n:Nat):Bool:=(List.range n).all (inB bx tp f)
theorem zlf {bx tp:Int} {f:Nat->Int} {n:Nat}:z4i bx tp f n=true↔∀ i,i<n->inB bx tp f i=true:=by simp [z4i]
theorem zut {bx tp:Int} {f:Nat->Int} {n N:Nat} (hN:N<=n) (hlt:∀ i,i<N->inB bx tp f i=true) (hend:N=n\/inB bx tp f N=false):z4i bx tp f n=decide (N=n):=by
 by_cases h:N=n
 ·subst h;rw [decide_eq_true rfl];exact zlf.2 hlt
 ·rw [decide_eq_false h]
  cases hb:z4i bx tp f n with
  | false=>rfl
  | true=>have:=zlf.1 hb N (by omega);rw [hend.resolve_left h] at this;cases this
theorem jbr (p:Nat->Bool) (m:Nat):∃ N,N<=m/\(∀ i,i<N->p i=true)/\(N=m\/p N=false):=by
 obtain ⟨N,h1,h2,h3⟩:=jie (λi=>p i=true) m
 exact ⟨N,h1,h2,h3.imp id (λh=>by simpa using h)⟩
theorem z96 (b:Blk) (off n cap:Nat) (f:Nat->Int) (h:SB b off n f) (bx tp:Int) (hbx:i64 bx) (htp:i64 tp) :
  Fun prog G0 160 #[.slice (some ⟨100,off,none⟩) n cap,.func (.func 161) #[] #[.pointer (some ⟨108,0,none⟩),.pointer (some ⟨116,0,none⟩)]] (hpL G0 (ixL b bx tp)) (zab (ixL b bx tp)) (.ret (.bool !(z4i bx tp f n)) []):=by
 refine zaz (B:=200) G0F func160 rfl call160 (znu h.fx bx tp) ?_ (by simp) (by simp) (by simp) (by simp [ntmps160]) (by omega) ?_
 ·simp [zan,za0,zah,zal,zab,ixL]
 intro C hC hC0 hY
 obtain ⟨N,hN,hlt,hend⟩:=jbr (inB bx tp f) n
 rw [zut hN hlt hend]
 have hr:=λρ=>Blk.fx_rn h.fx ρ
 unfold ixL
 by_cases hNn:N=n
 ·have hNn':(decide (N=n))=true:=decide_eq_true hNn
  rw [hNn']
  repeat' first|refine gwZ ?_|((first|refine gwR [178] ?_|refine gwD [178] ?_);intro Q hQ _;(repeat first|simp [hC,hY,hNn]|refine zae (z24 b off n cap f h bx tp hbx htp N hN hlt hend) G0F (B:=200) (znu h.fx bx tp) (λk=>k) (λk hk=>rfl) (by simp [ren,zay,zaj,zam]) (by simp) (by simp [ixL,jb,Blk.rn_id]) (by simp [zab]) (by simp [zab,ixL];rfl) ?_);refine gwq hQ ?_)|refine gwC ?_ ?_<;>intro hb
  refine ⟨.inr rfl,by simp [results160],zbz G0F (by simp [jb]) (by (intro k hk;first|rfl|(simp (disch:=omega) only [zbw,List.mem_cons,List.not_mem_nil,or_false,zaa,zag,zaq,if_neg,zbb]<;>done)))⟩
 ·have hNn':(decide (N=n))=false:=decide_eq_false hNn
  have hz:(0:Int)<=N:=by omega
  rw [hNn']
  repeat' first|refine gwZ ?_|((first|refine gwR [178] ?_|refine gwD [178] ?_);intro Q hQ _;(repeat first|simp [hC,hY,hNn,hz]|refine zae (z24 b off n cap f h bx tp hbx htp N hN hlt hend) G0F (B:=200) (znu h.fx bx tp) (λk=>k) (λk hk=>rfl) (by simp [ren,zay,zaj,zam]) (by simp) (by simp [ixL,jb,Blk.rn_id]) (by simp [zab]) (by simp [zab,ixL];rfl) ?_);refine gwq hQ ?_)|refine gwC ?_ ?_<;>intro hb
  refine ⟨.inr rfl,by simp [results160],zbz G0F (by simp [jb]) (by (intro k hk;first|rfl|(simp (disch:=omega) only [zbw,List.mem_cons,List.not_mem_nil,or_false,zaa,zag,zaq,if_neg,zbb]<;>done)))⟩
theorem zax {b:Blk} (hb:b.fx):LOk [(100,b)] 200:=⟨by simp,by simp [zab],by
 simp only [List.mem_singleton,forall_eq]
 exact Blk.fx_ids hb _⟩
theorem z7a (b:Blk) (off n cap:Nat) (f:Nat->Int) (h:SB b off n f) (st bx tp:Int) (hbx:i64 bx) (htp:i64 tp) :
  Fun prog G0 140 #[.agg #[.int .i64 st,.slice (some ⟨100,off,none⟩) n cap],.int .i64 bx,.int .i64 tp] (hpL G0 [(100,b)]) (zab [(100,b)]) (.ret (.bool (z4i bx tp f n)) []):=by
 refine zaz (B:=200) G0F func140 rfl call140 (zax h.fx) ?_ (by simp) (by simp) (by simp) (by simp [ntmps140]) (by omega) ?_
 ·simp [zan,za0,zah,zal,zab]
 intro C hC hC0 hY
 have hr:=λρ=>Blk.fx_rn h.fx ρ
 repeat' first|refine gwZ ?_|((first|refine gwR [160] ?_|refine gwD [160] ?_);intro Q hQ _;(repeat first|simp [hC,hY]|refine zae (z96 b off n cap f h bx tp hbx htp) G0F (B:=200) (znu h.fx bx tp) (λk=>if k=108 then 208 else if k=116 then 216 else k) (λk hk=>(if_neg (by omega)).trans (if_neg (by omega))) (by simp [ren,zay,zaj,zam]) (by simp) (by simp [ixL,hr,zbu];simp [jb]) (by simp [zab,ixL]) (by simp [zab,ixL];rfl) ?_);refine gwq hQ ?_)|refine gwC ?_ ?_<;>intro hb
 refine ⟨.inr rfl,by simp [results140],zbz G0F (by simp [jb]) (by (intro k hk;first|rfl|(simp (disch:=omega) only [zbw,List.mem_cons,List.not_mem_nil,or_false,zaa,zag,zaq,if_neg,zbb]<;>done)))⟩
def stB (st:Int):Bool:=decide (-1073741824<=st/\st<=1073741824)
theorem z68 (st:Int) (hs:i64 st):stB st=(decide ((if st<Int.bmod (-st) 18446744073709551616 then Int.bmod (-st) 18446744073709551616 else st)<=1073741824)&&decide (-1073741824<=st)):=by
 have h1:=hs.1
 have h2:=hs.2
 unfold stB
 rw [Bool.eq_iff_iff]
 simp only [Bool.and_eq_true,decide_eq_true_eq]
 rw [Int.bmod_def]
 split<;>split<;>omega
def zco (st:Int) (f:Nat->Int) (n:Nat):Bool:=stB st&&decide (1<=n/\n<=4)&&z4i 1048576 65536 f n
theorem z5j:i64 1048576:=by unfold i64;omega
theorem z5k:i64 65536:=by unfold i64;omega
theorem z6z (b:Blk) (off n cap:Nat) (f:Nat->Int) (h:SB b off n f) (st:Int) (hs:i64 st) :
  Fun prog G0 118 #[.agg #[.int .i64 st,.slice (some ⟨100,off,none⟩) n cap]] (hpL G0 [(100,b)]) (zab [(100,b)]) (.ret (.bool (zco st f n)) []):=by
 refine zaz (B:=200) G0F func118 rfl call118 (zax h.fx) ?_ (by simp) (by simp) (by simp) (by simp [ntmps118]) (by omega) ?_
 ·simp [zan,za0,zah,zal,zab]
 intro C hC hC0 hY
 have hr:=λρ=>Blk.fx_rn h.fx ρ
 obtain ⟨m,hm⟩:∃ m,(if st<Int.bmod (-st) 18446744073709551616 then Int.bmod (-st) 18446744073709551616 else st)=m:=⟨_,rfl⟩
 have key:=z68 st hs
 rw [hm] at key
 unfold zco
 rw [key]
 by_cases c0:m<=1073741824
 ·by_cases c1:-1073741824<=st
  ·by_cases c2:0<n
   ·by_cases c3:n<=4
    ·have c4:(n:Int)<=4:=by omega
     have e:decide (1<=n/\n<=4)=true:=decide_eq_true (by omega)
     rw [decide_eq_true c0,decide_eq_true c1,e]
     repeat' first|refine gwZ ?_|((first|refine gwR [140] ?_|refine gwD [140] ?_);intro Q hQ _;(repeat first|simp [hC,hY,hm,c0,c1,c2,c3,c4]|refine zae (z7a b off n cap f h st 1048576 65536 z5j z5k) G0F (B:=200) (zax h.fx) (λk=>k) (λk hk=>rfl) (by simp [ren,zay,zaj,zam]) (by simp) (by simp [hr]) (by simp [zab]) (by simp [zab];rfl) ?_);refine gwq hQ ?_)|refine gwC ?_ ?_<;>intro hb
     refine ⟨.inr rfl,by simp [results118],kpS G0F⟩
    ·have c4:¬(n:Int)<=4:=by omega
     have e:decide (1<=n/\n<=4)=false:=decide_eq_false (by omega)
     rw [decide_eq_true c0,decide_eq_true c1,e]
     repeat' first|refine gwZ ?_|(refine gwX ?_;intro Q hQ _;simp [hC,hY,hm,c0,c1,c2,c3,c4];refine gwq hQ ?_)|refine gwC ?_ ?_<;>intro hb
     refine ⟨.inr rfl,by simp [results118],kpS G0F⟩
   ·have e:decide (1<=n/\n<=4)=false:=decide_eq_false (by omega)
    rw [decide_eq_true c0,decide_eq_true c1,e]
    repeat' first|refine gwZ ?_|(refine gwX ?_;intro Q hQ _;simp [hC,hY,hm,c0,c1,c2];refine gwq hQ ?_)|refine gwC ?_ ?_<;>intro hb
    refine ⟨.inr rfl,by simp [results118],kpS G0F⟩
  ·rw [decide_eq_true c0,decide_eq_false c1]
   repeat' first|refine gwZ ?_|(refine gwX ?_;intro Q hQ _;simp [hC,hY,hm,c0,c1];refine gwq hQ ?_)|refine gwC ?_ ?_<;>intro hb
   refine ⟨.inr rfl,by simp [results118],kpS G0F⟩
 ·rw [decide_eq_false c0]
  repeat' first|refine gwZ ?_|(refine gwX ?_;intro Q hQ _;simp [hC,hY,hm,c0];refine gwq hQ ?_)|refine gwC ?_ ?_<;>intro hb
  refine ⟨.inr rfl,by simp [results118],kpS G0F⟩
theorem SB.int {b:Blk} {off n:Nat} {f:Nat->Int} (h:SB b off n f) {i:Nat} (hi:i<n) {q:Nat} (hq:q<6):zc2 prog 3 b (off+i*6+q)=some (.int .i64 (f (6*i+q))):=by
 have hbrd:=Blk.fx_rd h.fx
 have:=znx (P:=prog) (T:=3) (j:=6*i+q) (zba isAgg3) h.rd (by omega)
 rw [show off+i*6+q=off+(6*i+q) by omega,this]
end Go.Gy
namespace Go.Gy
open Go Go.RowKit
section
variable {P:Program} {C:Ctx} {n:Nat} {d:List Deferred} {ro:Option Nat} {s:GS} {K:Exit->GS->Prop}
theorem z9o {ops:Array Oper} {o:Oper} {post:List Oper} {base k:Nat} {ts:Nat->Value} {hp:Hp} {yc:Nat} {T e:TypeId} {m:Nat} (hg:o.guard=none) (hd:∀ dd,o.dst=some dd->dd<n)
  (ho:o.op=.buildSlice T 0 #[]) (hu:P.underlying T=some (.slice e)) (hm:zas P e=some m)
  (h:GL P C n d ro ops base (k+1) post (zcq ts o.dst (.slice (some ⟨base+8*k,0,none⟩) 0 0)) (upd hp (base+8*k) (some ⟨#[],.ty e⟩)) yc K):GL P C n d ro ops base k (o::post) ts hp yc K:=by
 intro r a W hi hf hb hG hR
 refine wpListIn_plain hg λK' hK'=>?_
 have hnk:hp (base+8*k)=none:=hf _ (Nat.le_refl _)
 have hff:∀ x∈(#[]:Array Value),za9 x=true:=by simp
 have hnd:¬dom hp (base+8*k):=by unfold dom;simp [hnk]
 have hr':∀ q,dom hp q->upd r (base+8*k) W.heap.size q=r q:=λq hq=>zaa _ _ (λe=>hnd (e▸hq))
 refine zdj (by rw [ho];intro c;simp) (R:=λu W'=>u=.slice (some ⟨W.heap.size,0,none⟩) 0 0/\W'=W.alloc (.cells #[] e)) (Rp:=λ_ _=>False) ?_ (λu W' h'=>?_) (λpv W' h=>h.elim)
 ·unfold zjx
  simp only [execOp,ho,Instr.buildSlice,Sem.run_bind,run_underlying hu,Result.andThen_ok,zbn hm,Nat.zero_mul]
  simp [Instr.fill,newRow,newObj,Sem.run]
  rw [show Array.range 0=#[] from rfl,show ∀ f:Nat->Value,Array.map f #[]=#[] from λf=>by simp]
 ·obtain ⟨rfl,rfl⟩:=h'
  have hv:(Value.slice (some ⟨W.heap.size,0,none⟩) 0 0)=ren (upd r (base+8*k) W.heap.size) (.slice (some ⟨base+8*k,0,none⟩) 0 0):=by simp [ren,zay,zaj,zam,upd]
  rw [hv]
  refine hK' _ _ (h (upd r (base+8*k) W.heap.size) _ _ (hi.after (e:=⟨.slice (some ⟨base+8*k,0,none⟩) 0 0,[],[],[(base+8*k,⟨#[],.ty e⟩)],none,false⟩) hd hr' (by simp [zan,za0,zah,zal,zcu,zab]) ⟨rfl,rfl,rfl,(by show W.heap.size<=(W.heap.push _).size;simp),λq hq _=>?_,λp hp1=>?_,λp hp1=>?_,by simp⟩ (by simp [zab]) (by simp [zab,hnk];omega)) (λx hx'=>?_) hb hG hR)
  ·exact Below.heap_alloc _ _ _ hq
  ·simp only [List.nil_append,List.mem_singleton] at hp1
   subst hp1
   refine ⟨?_,Blk.flat_ids hff⟩
   rw [Blk.obj_flat hff]
   show (W.alloc _).heap[upd r (base+8*k) W.heap.size (base+8*k)]? = _
   rw [za4]
   exact heap_alloc_new W _
  ·simp only [List.mem_singleton] at hp1
   subst hp1
   show W.heap.size<=upd r (base+8*k) W.heap.size (base+8*k)
   rw [za4]
   exact Nat.le_refl _
  ·rw [zaa _ _ (λe=>by omega)]
   exact hf x (by omega)
def z9s (κ:IntKind) (m i:Nat) (G:Nat->Int) (e:TypeId) (hp:Hp) (sl:Value):Prop:=(i=0/\sl=.slice none 0 0)\/∃ (k c:Nat) (g:Nat->Int),100<=k/\sl=.slice (some ⟨k,0,none⟩) i c/\hp k=some ⟨fa (m*c) κ g,.ty e⟩/\i<=c/\∀ j,j<m*i->g j=G j
theorem zp8 (κ:IntKind) {ops:Array Oper} {o:Oper} {post:List Oper} {base k:Nat} {ts:Nat->Value} {hp:Hp} {yc:Nat} {tx ty:Tmp} {t e:TypeId} {m i j by':Nat} {z:Value} {T2:BTy} {G ev:Nat->Int} (hg:o.guard=none) (hd:∀ dd,o.dst=some dd->dd<n)
  (ho:o.op=.call { callee:=.builtin .append,args:=#[.tmp tx,.tmp ty],argTypes:=#[t,t] }) (ht:P.underlying t=some (.slice e)) (hs:zas P e=some m) (hz:zbd P e=some z) (hby:zib P e=some by') (hb8:by'<=8*m)
  (hzz:∀ x∈z.cells,x=.int κ 0) (hzs:z.cells.size=m) (hm0:0<m) (hm1:m<=1024) (hx:z9s κ m i G e hp (ts tx)) (hy:ts ty=.slice (some ⟨j,0,none⟩) 1 1) (hb2:hp j=some ⟨fa m κ ev,T2⟩) (hev:∀ q,q<m->ev q=G (m*i+q)) (hi20:(i+1)*(8*m)<=140737488355328)
  (h:∀ k' c' g',(k'=base+8*k\/∃ c,ts tx=.slice (some ⟨k',0,none⟩) i c)->100<=k'->i+1<=c'->(∀ q,q<m*(i+1)->g' q=G q) ->
   GL P C n d ro ops base (k+1) post (zcq ts o.dst (.slice (some ⟨k',0,none⟩) (i+1) c')) (upd hp k' (some ⟨fa (m*c') κ g',.ty e⟩)) yc K) (hrd:T2.rd=true:=by first|rfl|assumption):GL P C n d ro ops base k (o::post) ts hp yc K:=by
 have hzf:∀ q,∀ x∈Builtin.zeroCells z.cells q,za9 x=true:=λq x hx=>by rw [hzz x (zrt hx)];rfl
 by_cases hb100:¬100<=base
 ·intro r a W hi hf hb hG hR
  exact absurd hb hb100
 replace hb100:100<=base:=Classical.not_not.1 hb100
 have hle:m*(i+1)=m*i+m:=by rw [Nat.mul_add,Nat.mul_one]
 have hmi:m*i<=140737488355328:=Nat.le_trans (by rw [Nat.mul_comm];exact Nat.mul_le_mul (by omega) (by omega)) hi20
 have hi1:i+1<=140737488355328:=Nat.le_trans (Nat.le_mul_of_pos_right _ (by omega)) hi20
 have h8:(i+1)*by'<=140737488355328:=Nat.le_trans (Nat.mul_le_mul (Nat.le_refl _) hb8) hi20
 rcases hx with ⟨rfl,hx⟩|⟨k0,c,g,hk0,hx,hb,hic,hgG⟩
 ·refine z36 (nw:=(fa m κ ev).toList) hg hd ho ht hs hz hby hx hy hb2 (λq u hq=>by simpa using hq) zfn hzf (by omega) (by simp) (by unfold maxLen;omega) (by omega) (λcap' hc'=>?_)
  rw [zru (k:=κ) hzz,z4m,hzs]
  have em:m+(cap' - 1)*m=m*cap':=by
   have:cap'=(cap' - 1)+1:=by omega
   rw [this,Nat.mul_add,Nat.mul_comm m];simp;omega
  rw [em]
  refine h _ cap' _ (.inl rfl) (by omega) (by omega) λq hq=>?_
  unfold z7x
  rw [if_pos (by omega)]
  have:=hev q (by omega)
  simpa using this
 ·refine z9n hg hd (z4l (c:=(fa (m*c) κ g).toList) (c2:=(fa m κ ev).toList) (k:=k0) (j:=j) (m:=1) (m':=1) (sl:=i) (cap:=c) (e:=e) (T2:=T2) (sz:=m) (by':=by') (z:=z) ho ht hs hz hby hx hk0 (by simpa using hb) zfn hy (by simpa using hb2) zfn zpc hzf (by simp) (by rw [zc6,Nat.mul_comm];exact Nat.le_refl _) hic (by unfold maxLen;omega) h8 (λhr=>?_) (λhr cap' hc'=>?_))
  ·have hcm:m*(i+1)<=m*c:=Nat.mul_le_mul (Nat.le_refl _) hr
   rw [Nat.mul_comm i m,zyz (by omega)]
   refine h k0 c _ (.inr ⟨c,hx⟩) hk0 hr λq hq=>?_
   unfold ji6
   by_cases hq1:q<m*i
   ·rw [if_neg (by omega)];exact hgG q hq1
   ·rw [if_pos (by omega),hev _ (by omega)];congr 1;omega
  ·have hcm:m*i<=m*c:=Nat.mul_le_mul (Nat.le_refl _) hic
   rw [Nat.mul_comm i m,zru (k:=κ) hzz,hzs,zyy (by omega)]
   have em:m*i+m+(cap' - (i+1))*m=m*cap':=by
    obtain ⟨x,rfl⟩:∃ x,cap'=i+1+x:=⟨cap' - (i+1),by omega⟩
    rw [show i+1+x - (i+1)=x by omega,Nat.mul_add,Nat.mul_add,Nat.mul_one,Nat.mul_comm x m]
   rw [em]
   refine h _ cap' _ (.inl rfl) (by omega) hc' λq hq=>?_
   unfold z7x
   by_cases hq1:q<m*i
   ·rw [if_pos hq1];exact hgG q hq1
   ·rw [if_neg hq1,if_pos (by omega),hev _ (by omega)];congr 1;omega
theorem FunS.mvL {G:Hp} {f:FuncId} {args args':Array Value} {m:List (Nat×Blk)} {B:Nat} {R R':Value->List (Nat×Blk)->Prop} {hp':Hp} {rs':List Nat} (h:FunS P G f args (hpL G m) (zab m) R) (hGF:zbg G) (hm:LOk m B) (ρ:Nat->Nat) (hlow:∀ k,k<100->ρ k=k)
  (ea:args.map (ren ρ)=args') (er:(zab m).map ρ=rs') (eR:RR ρ R=R') (hp0:∀ k,k<100->hp' k=G k) (hat:∀ p∈m,100<=ρ p.1/\hp' (ρ p.1)=some (p.2.rn ρ)) (hinj:∀ k∈zab m,∀ l∈zab m,ρ k=ρ l->k=l)
  (hnew:∀ v ns,R v ns->∀ k∈zab ns,100<=ρ k/\ρ k∉rs') (hnj:∀ v ns,R v ns->∀ k∈zab ns,∀ l∈zab ns,ρ k=ρ l->k=l):FunS P G f args' hp' rs' R':=by
 subst ea er eR
 refine h.rn ρ hGF hm.low (zod hm ρ hlow hp0 hat hinj) (λv ns hR k hk=>?_) hnj
 obtain ⟨h1,h2⟩:=hnew v ns hR k hk
 refine ⟨h1,λhd=>hd ?_⟩
 unfold rst
 rw [if_neg]
 rintro (h3|h3)
 ·omega
 ·exact h2 h3
theorem zeb {G:Hp} {ops:Array Oper} {o:Oper} {post:List Oper} {base k:Nat} {ts:Nat->Value} {hp hp':Hp} {yc:Nat} {c:Call} {f:Operand} {g:FuncId} {cap:Array Value} {rs:List Nat} {args:Array Value} {R:Value->List (Nat×Blk)->Prop} (hCG:C.G=G) (hr:FunS P G g args hp' rs R) (hg:o.guard=none) (hd:∀ dd,o.dst=some dd->dd<n)
  (ho:o.op=.call c) (hc:c.callee=.value f) (hf:okT ts f) (hgf:gev ts f=.func (.func g) #[] cap) (hcp:cap.all zbj=true) (ha:∀ x∈c.args.toList,okX ts hp x) (hargs:c.args.map (gev ts)++cap=args)
  (h1:∀ q∈rs,hp' q=hp q) (h2:∀ q,q<100->hp' q=hp q) (hat:∀ v ns,R v ns->∀ q∈zab ns,base+8*k<=q/\q<base+8*k+8)
  (h:∀ v ns,R v ns->GL P C n d ro ops base (k+1) post (zcq ts o.dst v) (zbb hp ns) yc K):GL P C n d ro ops base k (o::post) ts hp yc K:=by
 subst hCG
 exact zyl hg hd ho hc hf hgf hcp ha hargs hr h1 h2 hat h
end
end Go.Gy
namespace Go.Gy
open Go Go.RowKit Go.Proofs Go.Proofs.Tryz
theorem zeo:LOk [] 200:=⟨by simp,by simp [zab],by simp⟩
end Go.Gy
namespace Go.Gy
open Go Go.RowKit Go.Proofs
def dwE (f:Nat->Int) (p q:Int) (i:Nat):Int:=wyE (f (6*i+3)) (f (6*i+4)) (f (6*i+5)) p q
def dwV (f:Nat->Int) (p q:Int) (i j:Nat):Int:=eaV (dwE f p q i) (d1V (f (6*i+3+j)) p q)
def zej (st:Int) (k off n cap:Nat):Blk:=⟨#[.int .i64 st,.slice (some ⟨k,off,none⟩) n cap],.ty 27⟩
end Go.Gy
namespace Go.Gy
open Go Go.RowKit Go.Proofs
theorem zvz {m x y z:Int}:inV m x y z=true↔inW m x/\inW m y/\inW m z:=by unfold inV;exact decide_eq_true_iff
theorem zjl {st:Int} {f:Nat->Int} {n:Nat} (h:zco st f n=true):(-1073741824<=st/\st<=1073741824)/\(1<=n/\n<=4)/\∀ i,i<n->inB 1048576 65536 f i=true:=by
 unfold zco stB at h
 simp only [Bool.and_eq_true,decide_eq_true_eq] at h
 exact ⟨h.1.1,h.1.2,zlf.1 h.2⟩
theorem zh8 {st:Int} {f:Nat->Int} {n:Nat} (h:zco st f n=true) {i:Nat} (hi:i<n):(inW 1048576 (f (6*i))/\inW 1048576 (f (6*i+1))/\inW 1048576 (f (6*i+2)))/\(inW 65536 (f (6*i+3))/\inW 65536 (f (6*i+4))/\inW 65536 (f (6*i+5))):=by
 have:=(zjl h).2.2 i hi
 unfold inB at this
 rw [Bool.and_eq_true,zvz,zvz] at this
 exact this
def mvG (g f:Nat->Int) (p q:Int) (i j:Nat):Int:=if j<6*i/\j%6<3 then f j+dwV f p q (j / 6) (j%6) else g j
end Go.Gy
namespace Go.Gy
open Go Go.RowKit Go.Proofs
def plo (N s:Int):Int:=isq (N / s)
def phi (N s:Int):Int:=if plo N s*plo N s*s=N then plo N s else plo N s+1
theorem zgb {a b:Int} (h0:0<=a) (h:a<=b):a*a<=b*b:=Int.mul_le_mul h h h0 (by omega)
theorem zhg {N s:Int} (hN:0<=N) (hs:0<s):0<=plo N s/\plo N s*plo N s*s<=N/\N<(plo N s+1)*(plo N s+1)*s:=by
 have hq:0<=N / s:=Int.ediv_nonneg hN (by omega)
 obtain ⟨r0,r1,r2⟩:=z0a (N / s) hq
 have h1:=Int.emod_add_mul_ediv N s
 have h2:=Int.emod_nonneg N (b:=s) (by omega)
 have h3:=Int.emod_lt_of_pos N hs
 unfold plo
 generalize isq (N / s)=r at *
 generalize N / s=q at *
 refine ⟨r0,?_,?_⟩
 ·have:r*r*s<=q*s:=Int.mul_le_mul_of_nonneg_right r1 (by omega)
  rw [Int.mul_comm q s] at this
  omega
 ·have h4:(q+1)*s<=(r+1)*(r+1)*s:=Int.mul_le_mul_of_nonneg_right (by omega) (by omega)
  rw [Int.add_mul,Int.mul_comm q s] at h4
  omega
theorem jbv {N s l:Int} (hN:0<=N) (hs:0<s) (hl:0<=l):l*l*s<=N↔l<=plo N s:=by
 obtain ⟨r0,r1,r2⟩:=zhg hN hs
 constructor
 ·intro h
  refine Classical.byContradiction λc=>?_
  have h1:=zgb (a:=plo N s+1) (b:=l) (by omega) (by omega)
  have h2:=Int.mul_le_mul_of_nonneg_right h1 (show 0<=s by omega)
  omega
 ·intro h
  have h1:=zgb hl h
  have h2:=Int.mul_le_mul_of_nonneg_right h1 (show 0<=s by omega)
  omega
theorem z3k {N s h:Int} (hN:0<=N) (hs:0<s) (hh:0<=h):N<=h*h*s↔phi N s<=h:=by
 obtain ⟨r0,r1,r2⟩:=zhg hN hs
 unfold phi
 constructor
 ·intro h1
  split
  ·rename_i e
   refine Classical.byContradiction λc=>?_
   have h2:=zgb (a:=h+1) (b:=plo N s) (by omega) (by omega)
   have h3:h*h<plo N s*plo N s:=by
    have:(h+1)*(h+1)=h*h+2*h+1:=by rw [Int.add_mul,Int.mul_add];omega
    omega
   have h4:=Int.mul_lt_mul_of_pos_right h3 hs
   omega
  ·rename_i e
   refine Classical.byContradiction λc=>?_
   have h2:=zgb (a:=h) (b:=plo N s) hh (by omega)
   have h3:=Int.mul_le_mul_of_nonneg_right h2 (show 0<=s by omega)
   omega
 ·intro h1
  split at h1
  ·rename_i e
   have h2:=zgb r0 h1
   have h3:=Int.mul_le_mul_of_nonneg_right h2 (show 0<=s by omega)
   omega
  ·have h2:=zgb (a:=plo N s+1) (b:=h) (by omega) h1
   have h3:=Int.mul_le_mul_of_nonneg_right h2 (show 0<=s by omega)
   omega
theorem jcz {N s:Int} (hN:0<=N) (hs:0<s):0<=phi N s:=by
 obtain ⟨r0,_,_⟩:=zhg hN hs
 unfold phi
 split<;>omega
theorem zrb {N s:Int}:plo N s<=phi N s/\phi N s<=plo N s+1:=by
 unfold phi
 split<;>omega
structure EIn (g m w q:Int):Prop where
 g0:1<=g
 g1:g<=1048576
 m0:1<=m
 m1:m<=1024
 w0:1<=w
 w1:w<=1024
 q0:0<=q
 q1:q<=13194139533312
def enA (g m w:Int):Int:=g*m*w*1048576
def zfe (g m w q:Int):Int:=plo (enA g m w*enA g m w) q
def zkc (g m w q:Int):Int:=phi (enA g m w*enA g m w) q
theorem jk5 {a b p q:Int} (h1:1<=a) (h2:a<=p) (h3:1<=b) (h4:b<=q):1<=a*b/\a*b<=p*q:=by
 constructor
 ·have:=Int.mul_le_mul (a:=1) (b:=1) (c:=a) (d:=b) h1 h3 (by omega) (by omega)
  omega
 ·exact Int.mul_le_mul h2 h4 (by omega) (by omega)
theorem EIn.gm {g m w q:Int} (h:EIn g m w q):1<=g*m/\g*m<=1073741824:=jk5 h.g0 h.g1 h.m0 h.m1
theorem EIn.gmw {g m w q:Int} (h:EIn g m w q):1<=g*m*w/\g*m*w<=1099511627776:=jk5 h.gm.1 h.gm.2 h.w0 h.w1
theorem EIn.a {g m w q:Int} (h:EIn g m w q):1048576<=enA g m w/\enA g m w<=1152921504606846976:=by
 have:=h.gmw
 unfold enA
 omega
theorem EIn.aa {g m w q:Int} (h:EIn g m w q):0<=enA g m w*enA g m w/\enA g m w*enA g m w<=1329227995784915872903807060280344576:=by
 have h1:=h.a
 exact ⟨Int.mul_nonneg (by omega) (by omega),Int.mul_le_mul h1.2 h1.2 (by omega) (by omega)⟩
theorem EIn.lo {g m w q:Int} (h:EIn g m w q) (hq:0<q):0<=zfe g m w q/\zfe g m w q<=1152921504606846976:=by
 have h1:=h.a
 obtain ⟨h2,h3,h4⟩:=zhg h.aa.1 hq
 refine ⟨h2,?_⟩
 have h5:zfe g m w q<=enA g m w:=by
  refine Classical.byContradiction λc=>?_
  have h6:=(jbv h.aa.1 hq (l:=enA g m w+1) (by omega)).2 (by unfold zfe at c;omega)
  have h7:(enA g m w+1)*(enA g m w+1)*1<=(enA g m w+1)*(enA g m w+1)*q:=Int.mul_le_mul_of_nonneg_left hq (Int.mul_nonneg (by omega) (by omega))
  have h8:(enA g m w+1)*(enA g m w+1)=enA g m w*enA g m w+2*enA g m w+1:=by rw [Int.add_mul,Int.mul_add];omega
  omega
 omega
theorem EIn.hi {g m w q:Int} (h:EIn g m w q) (hq:0<q):zfe g m w q<=zkc g m w q/\zkc g m w q<=zfe g m w q+1/\zkc g m w q<=1152921504606846976:=by
 refine ⟨zrb.1,zrb.2,?_⟩
 have h1:=h.a
 have h2:zkc g m w q<=enA g m w:=(z3k h.aa.1 hq (by omega)).1 (by
  have h7:enA g m w*enA g m w*1<=enA g m w*enA g m w*q:=Int.mul_le_mul_of_nonneg_left hq h.aa.1
  omega)
 omega
theorem zqi (g m w q:Int):zkc g m w q=if zfe g m w q*zfe g m w q*q=enA g m w*enA g m w then zfe g m w q else zfe g m w q+1:=rfl
theorem EIn.holds {g m w q:Int} (h:EIn g m w q) (hq:0<q):zfe g m w q*zfe g m w q*q<=enA g m w*enA g m w/\enA g m w*enA g m w<=zkc g m w q*zkc g m w q*q/\(zfe g m w q=zkc g m w q↔zfe g m w q*zfe g m w q*q=enA g m w*enA g m w):=by
 refine ⟨(zhg h.aa.1 hq).2.1,(z3k h.aa.1 hq (jcz h.aa.1 hq)).2 (Int.le_refl _),?_⟩
 rw [zqi]
 split
 ·rename_i e
  exact ⟨λ_=>e,λ_=>rfl⟩
 ·rename_i e
  exact ⟨λh=>absurd h (by omega),λh=>absurd h e⟩
theorem z5z {a q:Int} (h0:0<=a) (h1:a<=1152921504606846976) (q0:0<=q) (q1:q<=13194139533312):0<=a*a/\a*a<=1329227995784915872903807060280344576/\0<=a*a*q/\a*a*q<=17538019647970835018444217992595396235871190515712:=by
 have h2:a*a<=1152921504606846976*1152921504606846976:=Int.mul_le_mul h1 h1 h0 (by omega)
 have h3:0<=a*a:=Int.mul_nonneg h0 h0
 have h4:a*a*q<=1329227995784915872903807060280344576*13194139533312:=Int.mul_le_mul h2 q1 q0 (by omega)
 exact ⟨h3,h2,Int.mul_nonneg h3 q0,h4⟩
def zdi (f:Nat->Int):Nat->Int
 | 0=>0
 | n+1=>zdi f n+f n
def zxh (F:Nat->Nat->Int):Nat->Int
 | 0=>0
 | n+1=>zxh F n+zdi (F n) n
theorem ztr {f g:Nat->Int}:∀ {n:Nat},(∀ i,i<n->f i=g i)->zdi f n=zdi g n
 | 0,_=>rfl
 | n+1,h=>by
  unfold zdi
  rw [ztr (λi hi=>h i (by omega)),h n (by omega)]
def sw (a b i:Nat):Nat:=if i=a then b else if i=b then a else i
theorem zpy {f:Nat->Int} {lo hi:Int}:∀ {n:Nat},(∀ i,i<n->lo<=f i/\f i<=hi)->n*lo<=zdi f n/\zdi f n<=n*hi
 | 0,_=>by simp [zdi]
 | n+1,h=>by
  have h1:=zpy (n:=n) λi hi=>h i (by omega)
  have h2:=h n (by omega)
  unfold zdi
  rw [Int.natCast_succ,Int.add_mul,Int.add_mul]
  omega
theorem zxi {Z:Nat->Nat->Int} (h0:∀ i k,Z i k=0\/Z i k=1) (n:Nat):zxh Z n=0↔∀ i k,k<i->i<n->Z i k=0:=by
 have hN:∀ (f:Nat->Int) (m:Nat),(∀ k,f k=0\/f k=1)->0<=zdi f m/\(zdi f m=0↔∀ k,k<m->f k=0):=by
  intro f m hf
  induction m with
  | zero=>simp [zdi]
  | succ m ih =>
   unfold zdi
   obtain ⟨i1,i2⟩:=ih
   have hm:=hf m
   refine ⟨by omega,?_,?_⟩
   ·intro h k hk
    by_cases hkm:k=m
    ·subst hkm;omega
    ·exact i2.1 (by omega) k (by omega)
   ·intro h
    have:=i2.2 λk hk=>h k (by omega)
    have:=h m (by omega)
    omega
 have h2:0<=zxh Z n/\(zxh Z n=0↔∀ i k,k<i->i<n->Z i k=0):=by
  induction n with
  | zero=>simp [zxh]
  | succ n ih =>
   unfold zxh
   obtain ⟨i1,i2⟩:=ih
   obtain ⟨j1,j2⟩:=hN (Z n) n (h0 n)
   refine ⟨by omega,?_,?_⟩
   ·intro h i k hk hi
    by_cases hin:i=n
    ·subst hin;exact j2.1 (by omega) k hk
    ·exact i2.1 (by omega) i k hk (by omega)
   ·intro h
    have:=i2.2 λi k hk hi=>h i k hk (by omega)
    have:=j2.2 λk hk=>h n k hk (by omega)
    omega
 exact h2.2
end Go.Gy
namespace Go.Gy
open Go Go.RowKit Go.Proofs Go.Proofs.Tryz
def wF (x:Nat->Int) (j:Nat):Int:=wi (x (j / 4)) (j%4)
def zhs (c:Nat) (g:Nat->Int):Blk:=⟨fa (4*c) .u64 g,.ty 30⟩
theorem zd8 (c:Nat) (g:Nat->Int):(zhs c g).fx:=λx hx=>by
 obtain ⟨m,rfl⟩:=zkh hx
 rfl
theorem zxt (c:Nat) (g:Nat->Int):LOk [(100,zhs c g)] 200:=zax (zd8 c g)
theorem z7i {c n:Nat} {g:Nat->Int} {x:Nat->Int} (hg:∀ j,j<4*n->g j=wF x j) {i:Nat} (hi:i<n) (hc:n<=c):(fa (4*c) .u64 g).extract (i*4) (i*4+4)=#[.int .u64 (wi (x i) 0),.int .u64 (wi (x i) 1),.int .u64 (wi (x i) 2),.int .u64 (wi (x i) 3)]:=by
 have h:∀ k,k<4->g (i*4+k)=wi (x i) k:=λk hk=>by
  rw [hg _ (by omega)]
  unfold wF
  rw [show (i*4+k) / 4=i by omega,show (i*4+k)%4=k by omega]
 rw [<-h 0 (by omega),<-h 1 (by omega),<-h 2 (by omega),<-h 3 (by omega)]
 apply Array.ext
 ·simp;omega
 ·intro k h1 h2
  simp at h2
  rw [Array.getElem_extract,z47]
  have:k=0\/k=1\/k=2\/k=3:=by omega
  rcases this with rfl|rfl|rfl|rfl<;>rfl
theorem zmm {a:Int} (h0:0<=a) (h1:a<=9223372036854775807):wr a:=zdn ⟨by omega,by omega⟩
def z9l (c n cap:Nat) (g x:Nat->Int) (i:Nat):GS :=
 ⟨tsL [(2,.pointer (some ⟨200,0,none⟩)),(3,.bool false),(8,.slice (some ⟨100,0,none⟩) n cap),(9,.int .i64 n),(10,.int .i64 i)],
 hpL G0 [(100,zhs c g),(200,⟨#[.int .u64 (wi (zdi x i) 0),.int .u64 (wi (zdi x i) 1),.int .u64 (wi (zdi x i) 2),.int .u64 (wi (zdi x i) 3)],.ty 30⟩)],400,0⟩
theorem z1r (c n:Nat) (g x:Nat->Int) (hnc:n<=c) (hn:n<=1000) (hg:∀ j,j<4*n->g j=wF x j) (hx:∀ j,j<n->0<=x j/\x j<=1152921504606846) :
  Fun prog G0 100 #[.slice (some ⟨100,0,none⟩) n c] (hpL G0 [(100,zhs c g)]) (zab [(100,zhs c g)]) (.ret (.tuple #[wd (zdi x n),.bool false]) []):=by
 refine zaz (B:=200) G0F func100 rfl call100 (zxt c g) ?_ ?_ (by simp) (by simp) (by simp [ntmps100]) (by omega) ?_
 ·simp [zan,za0,zah,zal,zab]
 ·exact zak (by simp)
 intro C hC hC0 hY
 have hid:∀ D,Blk.ids D ⟨fa (4*c) .u64 g,.ty 30⟩:=λD=>Blk.fx_ids (zd8 c g) D
 have e0:zdi x 0=0:=rfl
 unfold zhs at hC0 |-
 repeat' first|refine gwZ ?_|(refine gwX ?_;intro Q hQ _;simp [hC,hY,zar];refine gwq hQ ?_)|refine gwC ?_ ?_<;>intro hb
 refine zc3 n (z9l c n c g x) ?_ ?_ ?_
 ·refine zbi _ 400 hC G0F (m0:=[(100,⟨fa (4*c) .u64 g,.ty 30⟩)]) hC0 (by omega) ?_ ?_ ?_
  ·simp [z9l,zhs,zan,za0,zah,zal,dom]
  ·simp [z9l,zhs,zac,zah,zal,hid,e0,zar]
  ·simp [z9l,zhs,e0,zar]
 ·intro i hi
  have hi':(i:Int)<n:=by omega
  have hz:(0:Int)<=i:=by omega
  have hs:Int.bmod ((i:Int)+1) 18446744073709551616=((i+1:Nat):Int):=by rw [bm (by omega) (by omega)];rfl
  have hrd:=z7i hg hi hnc
  have hle:i*4+4<=4*c:=by omega
  have hxi:=hx i hi
  have hb:=zpy (f:=x) (n:=i) (lo:=0) (hi:=1152921504606846) λj hj=>hx j (by omega)
  have hb1:zdi x i<=1000*1152921504606846:=Int.le_trans hb.2 (Int.mul_le_mul_of_nonneg_right (by omega) (by omega))
  have hb0:0<=zdi x i:=by omega
  have w1:=zmm hb0 (by omega)
  have w2:=zmm hxi.1 (by omega)
  have w3:wr (zdi x i+x i):=zmm (by omega) (by omega)
  have g1:=zt4 w1 hb0
  have g2:=zt4 w2 hxi.1
  have g3:=zt4 w3 (by omega)
  have es:zdi x (i+1)=zdi x i+x i:=rfl
  unfold z9l zhs
  repeat' first|refine gwZ ?_|(refine gwX ?_;intro Q hQ _;simp [hC,hY,hi',hz,hrd,hle];refine gwq hQ ?_)|refine gwC ?_ ?_<;>intro hb
  refine zbi _ 400 hC G0F (m0:=[(100,⟨fa (4*c) .u64 g,.ty 30⟩)]) hC0 (by omega) ?_ ?_ ?_
  ·simp [zan,za0,zah,zal,dom,hs,g1,g2,g3]
  ·simp [zac,zah,zal,hid,es]
  ·simp [es]
 ·unfold z9l zhs
  repeat' first|refine gwZ ?_|refine gwW ?_|refine gwC ?_ ?_<;>intro hb
  refine ⟨.inr rfl,by simp [results100],kpS G0F⟩
end Go.Gy
namespace Go.Gy
open Go Go.RowKit Go.Proofs
end Go.Gy
namespace Go.Gy
open Go Go.RowKit Go.Proofs
end Go.Gy
namespace Go.Gy
open Go Go.RowKit
section
variable {P:Program} {C:Ctx} {n:Nat} {d:List Deferred} {ro:Option Nat} {s:GS} {K:Exit->GS->Prop}
structure AFree (ops:Array Oper) (base:Nat) (listed:Array Bool) (hp:Hp):Prop where
 at':∀ i,listed[i]? = some false->∀ x,base+8*i<=x->x<base+8*i+8->hp x=none
 up:∀ x,base+8*ops.size<=x->hp x=none
def GA (P:Program) (C:Ctx) (n:Nat) (d:List Deferred) (ro:Option Nat) (ops:Array Oper) (base:Nat) (fuel:Nat) (listed:Array Bool) (ts:Nat->Value) (hp:Hp) (yc:Nat) (K:Exit->GS->Prop):Prop :=
 ∀ r a W,RI C n d r ts hp yc a W->AFree ops base listed hp->100<=base->zbg C.G->(∀ y,C.Y=some y->zgq P C y)->wpAnyIn (Fw P ro) 0 P .any ops (λe a' W'=>∃ s' r',K e s'/\GI P C n d r' s' a' W') fuel listed a W
def GO (P:Program) (C:Ctx) (n:Nat) (d:List Deferred) (ro:Option Nat) (ops:Array Oper) (base:Nat) (fuel:Nat) (listed:Array Bool) (i:Nat) (ts:Nat->Value) (hp:Hp) (yc:Nat) (K:Exit->GS->Prop):Prop :=
 ∀ r a W,RI C n d r ts hp yc a W->AFree ops base listed hp->100<=base->zbg C.G->(∀ y,C.Y=some y->zgq P C y)->wpOpIn (Fw P ro) 0 P ops (λe a' W'=>∃ s' r',K e s'/\GI P C n d r' s' a' W') i (wpAnyIn (Fw P ro) 0 P .any ops (λe a' W'=>∃ s' r',K e s'/\GI P C n d r' s' a' W') fuel (listed.setIfInBounds i true)) a W
theorem zt8 {id:Nat} {l:List Oper} (hm:P.follows .mixedOrders=true) (h:GA P C n d ro l.toArray s.B l.length (Array.replicate l.length false) s.ts s.hp s.yc K):GW P C n d ro (.region id l.toArray true) s K:=λr a W hi =>
 wpIn_region_any hm (by
  have:=h r a _ hi.ri.drew ⟨λi _ x hx _=>hi.free x (by omega),λx hx=>hi.free x (by omega)⟩ hi.low hi.flat hi.rounds
  simpa using this)
theorem z2d {ops:Array Oper} {base fuel:Nat} {listed:Array Bool} {ts:Nat->Value} {hp:Hp} {yc:Nat} (hr:Region.ready .any ops listed=[]) (h:K .normal ⟨ts,hp,base+8*ops.size,yc⟩):GA P C n d ro ops base fuel listed ts hp yc K:=λr a W hi hf hb hG hR=>by
 have hq:∃ s' r',K .normal s'/\GI P C n d r' s' a W:=⟨⟨ts,hp,_,yc⟩,r,h,hi,hf.up,by show 100<=base+8*ops.size;omega,hG,hR⟩
 cases fuel with
 | zero=>exact ⟨hr,hq⟩
 | succ k=>exact ⟨λ_=>hq,λi hi=>by rw [hr] at hi;cases hi⟩
theorem z35 {ops:Array Oper} {base fuel:Nat} {listed:Array Bool} {ts:Nat->Value} {hp:Hp} {yc:Nat} (l:List Nat) (hr:Region.ready .any ops listed=l) (hl:l.isEmpty=false) (h:∀ i∈l,GO P C n d ro ops base fuel listed i ts hp yc K):GA P C n d ro ops base (fuel+1) listed ts hp yc K:=λr a W hi hf hb hG hR=>by
 refine ⟨λh0=>?_,λi hm=>h i (by rw [<-hr];exact hm) r a W hi hf hb hG hR⟩
 rw [hr] at h0;rw [h0] at hl;cases hl
theorem AFree.after {ops:Array Oper} {base:Nat} {listed:Array Bool} {hp hp':Hp} (h:AFree ops base listed hp) {i:Nat} (hi:i<ops.size) (e:∀ x,hp x=none->¬(base+8*i<=x/\x<base+8*i+8)->hp' x=none):AFree ops base (listed.setIfInBounds i true) hp':=by
 refine ⟨λj hj x h1 h2=>?_,λx hx=>e x (h.up x hx) (by omega)⟩
 rw [Array.getElem?_setIfInBounds] at hj
 split at hj
 ·split at hj<;>cases hj
 ·exact e x (h.at' j hj x h1 h2) (by omega)
theorem zt7 {l0:List Oper} {o:Oper} {post:List Oper} {base i fuel:Nat} {listed:Array Bool} {ts:Nat->Value} {hp:Hp} {yc:Nat} (pn:List FuncId) (hl:l0.drop i=o::post) (hdst:(zil n [o]&&zxq P [o])=true) (hi:listed[i]? = some false)
  (h:∀ q:(Nat->Value)->Hp->Tr->Nat->Prop,(∀ ts hp tr yc,GA P C n d ro l0.toArray base fuel (listed.setIfInBounds i true) ts hp yc K->q ts hp tr yc) ->
   ziy P C.G ⟨C.Y,pn,false⟩ base ⟨q,λ_ _=>False⟩ ((l0.take i).map (·.dst)).reverse i [o] ts hp [] yc true false):GO P C n d ro l0.toArray base fuel listed i ts hp yc K:=by
 intro r a W hRI hf hb hG hR
 simp only [Bool.and_eq_true] at hdst
 have hok:=And.intro (zf7 hdst.1 (List.mem_singleton.2 rfl)) (zhp hdst.2 o (List.mem_singleton.2 rfl))
 have hi0:l0[i]? = some o:=by
  have:=congrArg (λl=>l[0]?) hl
  simpa [List.getElem?_drop] using this
 have hlt:i<l0.length:=(List.getElem?_eq_some_iff.1 hi0).1
 have hh:=h (λts hp _ yc=>GA P C n d ro l0.toArray base fuel (listed.setIfInBounds i true) ts hp yc K) (λ_ _ _ _ a=>a)
 have ek:(l0.take i).length=i:=by simp;omega
 have hx:zlu P C.G ⟨C.Y,pn,false⟩ l0.toArray base (λts hp _ yc=>GA P C n d ro l0.toArray base fuel (listed.setIfInBounds i true) ts hp yc K) (λ_ _=>False) i [o] ts hp [] yc true false:=by
  refine zd0 (Q:=⟨_,λ_ _=>False⟩) [o] _ i _ _ _ _ _ _ (λj hj=>?_) (λj hj=>?_) hh
  ·rw [List.getElem?_reverse (by simp;omega)]
   simp only [List.length_map,ek,List.getElem?_map,List.getElem?_toArray]
   rw [show i - 1 - (i - 1 - j)=j by omega,List.getElem?_take,if_pos hj]
   cases l0[j]?<;>rfl
  ·obtain rfl:j=0:=by simpa using hj
   simp [hi0]
 have hfree:∀ x,base+8*i<=x->x<base+8*i+8->hp x=none:=hf.at' i hi
 unfold wpOpIn
 rw [List.getElem?_toArray,hi0]
 simp only
 simp only [zlu] at hx
 cases hw:zbv l0.toArray o ts with
 | none=>rw [hw] at hx;exact hx.elim
 | some b =>
  rw [hw] at hx
  rw [zd3 hRI.rel hw]
  cases b with
  | true =>
   simp only at hx
   simp only [if_true]
   obtain ⟨e,h1,hs,hyd,h3⟩:=zfy hG hRI.glob hx
   refine z0s hG hR o e ts hp yc r a W 0 _ _ hRI hok.1 h1 (λx hx=>(hs.ws x hx).2) (λx hx=>?_) (λr' a' W' hpn hi'=>?_) (λpv W' yc' hpn hi'=>?_)
   ·have:=hs.ns x hx;exact ⟨hfree x (by omega) (by omega),by omega⟩
   ·rw [hpn] at h3
    refine h3 r' a' W' hi' (hf.after (by simpa using hlt) λx hx0 hx1=>?_) hb hG hR
    rw [za6 (λhm=>?_)]
    ·exact hx0
    ·have:x∈zab e.ws\/x∈zab e.ns:=by simpa [zab] using hm
     rcases this with h|h
     ·exact (hs.ws x h).2.1 hx0
     ·have:=hs.ns x h;omega
   ·rw [hpn] at h3
    exact h3.2.2.elim
  | false =>
   simp only at hx
   simp only [Bool.false_eq_true,if_false]
   exact ⟨zq2 (Y:=none) o ts r _ a W hRI.rel ⟨hx.1,hok.2⟩,hx.2 r _ W (hRI.put_undef hok.1.1) (hf.after (by simpa using hlt) λx hx0 _=>hx0) hb hG hR⟩
theorem zdk {G:Hp} {ops:Array Oper} {o:Oper} {base i fuel:Nat} {listed:Array Bool} {ts:Nat->Value} {hp hp':Hp} {yc:Nat} {c:Call} {f:Operand} {g:FuncId} {cap:Array Value} {rs:List Nat} {args:Array Value} {R:Value->List (Nat×Blk)->Prop} (hCG:C.G=G) (hr:FunS P G g args hp' rs R) (hio:ops[i]? = some o) (hi:listed[i]? = some false) (hg:o.guard=none) (hd:∀ dd,o.dst=some dd->dd<n)
  (ho:o.op=.call c) (hc:c.callee=.value f) (hf:okT ts f) (hgf:gev ts f=.func (.func g) #[] cap) (hcp:cap.all zbj=true) (ha:∀ x∈c.args.toList,okX ts hp x) (hargs:c.args.map (gev ts)++cap=args)
  (h1:∀ q∈rs,hp' q=hp q) (h2:∀ q,q<100->hp' q=hp q) (hat:∀ v ns,R v ns->∀ q∈zab ns,base+8*i<=q/\q<base+8*i+8)
  (h:∀ v ns,R v ns->GA P C n d ro ops base fuel (listed.setIfInBounds i true) (zcq ts o.dst v) (zbb hp ns) yc K):GO P C n d ro ops base fuel listed i ts hp yc K:=by
 subst hCG
 intro r a W hRI hfr hb hG hR
 unfold wpOpIn
 rw [hio]
 simp only [Region.wanted,hg,if_true]
 refine zia hG hRI hd ho hc hf hgf hcp ha (by rw [hargs];exact hr.under λq hq=>hq.elim (h2 q) (h1 q)) (λv ns hRv q hq=>hfr.at' i hi q (hat v ns hRv q hq).1 (hat v ns hRv q hq).2) (λv ns hRv r' a' W' hi'=>h v ns hRv r' a' W' hi' (hfr.after (Array.getElem?_eq_some_iff.1 hio).1 λx hx hx1=>?_) hb hG hR)
 rw [za6 (λhm=>hx1 (hat v ns hRv x hm))]
 exact hx
end
section
variable {P:Program} {C:Ctx} {n:Nat} {d:List Deferred} {ro:Option Nat} {s:GS} {K:Exit->GS->Prop}
theorem gwo {l0:List Oper} {o:Oper} {post:List Oper} {base i fuel:Nat} {listed:Array Bool} {ts:Nat->Value} {hp:Hp} {yc:Nat}
  (h:∀ q:(Nat->Value)->Hp->Tr->Nat->Prop,(∀ ts hp tr yc,GA P C n d ro l0.toArray base fuel (listed.setIfInBounds i true) ts hp yc K->q ts hp tr yc) ->
   ziy P C.G ⟨C.Y,[],false⟩ base ⟨q,λ_ _=>False⟩ ((l0.take i).map (·.dst)).reverse i [o] ts hp [] yc true false) (hl:l0.drop i=o::post:=by rfl) (hdst:(zil n [o]&&zxq P [o])=true:=by kernel_rfl) (hi:listed[i]? = some false:=by first|assumption|simp):GO P C n d ro l0.toArray base fuel listed i ts hp yc K:=zt7 [] hl hdst hi h
end
end Go.Gy
namespace Go.Gy
open Go Go.RowKit Go.Proofs Go.Proofs.Tryz
end Go.Gy
namespace Go.Gy
open Go Go.RowKit Go.Proofs
end Go.Gy
namespace Go.Gy
open Go Go.RowKit Go.Proofs Go.Proofs.Tryz
@[simp] theorem jn9:zf3 prog 169=true:=by kernel_rfl
def wiB (n lo hi:Int):Bool:=decide (lo<=n/\n<=hi)
theorem z41 (n lo hi:Int):Ret prog G0 149 #[.int .i64 n,.int .i64 lo,.int .i64 hi] (.bool (wiB n lo hi)):=by
 refine za2 G0F func149 rfl call149 rfl (by simp) (by simp [ntmps149]) ?_
 intro C hC hC0 hY
 unfold wiB
 by_cases c0:lo<=n
 ·by_cases c1:n<=hi
  ·rw [decide_eq_true ⟨c0,c1⟩]
   (repeat' (first|refine gwZ ?_|(refine gwX ?_;intro Q hQ _;simp [hC,hY,c0,c1];refine gwq hQ ?_)|refine gwC ?_ ?_<;>intro hb))
   refine ⟨.inr trivial,?_⟩
   simp [results149]
  ·rw [decide_eq_false (by omega)]
   (repeat' (first|refine gwZ ?_|(refine gwX ?_;intro Q hQ _;simp [hC,hY,c0,c1];refine gwq hQ ?_)|refine gwC ?_ ?_<;>intro hb))
   refine ⟨.inr trivial,?_⟩
   simp [results149]
 ·rw [decide_eq_false (by omega)]
  (repeat' (first|refine gwZ ?_|(refine gwX ?_;intro Q hQ _;simp [hC,hY,c0];refine gwq hQ ?_)|refine gwC ?_ ?_<;>intro hb))
  refine ⟨.inr trivial,?_⟩
  simp [results149]
@[simp] theorem cwi (n lo hi:Int) (K:Value->Prop):zbe prog G0 149 #[.int .i64 n,.int .i64 lo,.int .i64 hi] K↔K (.bool (wiB n lo hi)):=zaf G0W (by kernel_rfl) (z41 n lo hi)
def z7r (nk:Nat) (a m:Int) (v:Value) (ns:List (Nat×Blk)):Prop:=v=.func (.func 148) #[] #[.pointer (some ⟨nk,0,none⟩),.pointer (some ⟨nk+1,0,none⟩)]/\ns=[(nk,jb a),(nk+1,jb m)]
theorem z6i (a m:Int):FunS prog G0 147 #[.int .i64 a,.int .i64 m] (hpL G0 []) (zab []) (z7r 1000 a m):=by
 refine zei (B:=200) G0F func147 rfl call147 ⟨by simp,by simp [zab],by simp⟩ ?_ ?_ (by simp [ntmps147]) (by omega) ?_
 ·simp [zan,za0,zah,zal,zab]
 ·rintro v ns ⟨rfl,rfl⟩
  refine ⟨by simp [zan,za0,zah,zal,zcu,zab],by simp [jb,zac,zah,zal],?_⟩
  intro k b c h1 h2
  simp at h1 h2
  rcases h1 with ⟨e1,rfl⟩|⟨e1,rfl⟩<;>rcases h2 with ⟨e2,rfl⟩|⟨e2,rfl⟩<;>first|rfl|omega
 intro C hC hC0 hY
 repeat' first|refine gwZ ?_|refine gwW ?_|refine gwC ?_ ?_<;>intro hb
 refine ⟨.inr trivial,kpS G0F,_,_,λk=>if k=1000 then 200 else if k=1001 then 208 else k,⟨rfl,rfl⟩,λk hk=>?_,by simp,by simp,by simp [results147,ren,zay,zaj,zam],?_⟩
 ·dsimp only
  rw [if_neg (by omega),if_neg (by omega)]
 ·simp [zbu]
  simp [jb]
theorem z6h {nk nk':Nat} {a m:Int} {ρ:Nat->Nat} (h0:ρ nk=nk') (h1:ρ (nk+1)=nk'+1):RR ρ (z7r nk a m)=z7r nk' a m:=by
 funext v ns
 apply propext
 constructor
 ·rintro ⟨v0,ns0,⟨rfl,rfl⟩,rfl,rfl⟩
  exact ⟨by simp [ren,zay,zaj,zam,h0,h1],by simp [rnL,zbu,h0,h1]⟩
 ·rintro ⟨rfl,rfl⟩
  exact ⟨_,_,⟨rfl,rfl⟩,by simp [ren,zay,zaj,zam,h0,h1],by simp [rnL,zbu,h0,h1]⟩
def up2 (nk k:Nat):Nat:=if 1000<=k then (if k<1002 then k - 1000+nk else k) else k
theorem zgo (nk:Nat) (hnk:200<=nk) (a m:Int):FunS prog G0 147 #[.int .i64 a,.int .i64 m] (hpL G0 []) [] (z7r nk a m):=by
 have e2:∀ j,j<2->up2 nk (1000+j)=nk+j:=λj hj=>by unfold up2;rw [if_pos (by omega),if_pos (by omega)];omega
 have hk2:∀ v ns,z7r 1000 a m v ns->∀ k∈zab ns,∃ j,j<2/\k=1000+j:=by
  rintro v ns ⟨rfl,rfl⟩ k hk
  simp [zab] at hk
  rcases hk with rfl|rfl
  ·exact ⟨0,by omega,rfl⟩
  ·exact ⟨1,by omega,rfl⟩
 have h0:=(z6i a m).rn (up2 nk) G0F zeo.low (hp':=hpL G0 []) (zod zeo _ (λk hk=>by unfold up2;rw [if_neg (by omega)]) zeo.low (by simp) (by simp [zab])) (λv ns hR k hk=>by
  obtain ⟨j,hj,rfl⟩:=hk2 v ns hR k hk
  rw [e2 j hj]
  refine ⟨by omega,λhd=>hd ?_⟩
  simp [rst,zab]
  intro h4
  omega) (λv ns hR k hk l hl e=>by
  obtain ⟨j,hj,rfl⟩:=hk2 v ns hR k hk
  obtain ⟨i,hi,rfl⟩:=hk2 v ns hR l hl
  rw [e2 j hj,e2 i hi] at e
  omega)
 rw [z6h (e2 0 (by omega)) (e2 1 (by omega))] at h0
 simpa [zab,ren,zay,zaj,zam] using h0
theorem zdm {nk:Nat} {a m:Int} {v:Value} {ns:List (Nat×Blk)} (h:z7r nk a m v ns):∀ k∈zab ns,nk<=k/\k<nk+2:=by
 obtain ⟨rfl,rfl⟩:=h
 intro k hk
 simp [zab] at hk
 omega
theorem zbr (a m:Int):Fun prog G0 148 #[.pointer (some ⟨100,0,none⟩),.pointer (some ⟨108,0,none⟩)] (hpL G0 [(100,jb a),(108,jb m)]) (zab [(100,jb a),(108,jb m)]) (.ret (.bool (wiB a 1 m)) []):=by
 refine zaz (B:=200) G0F func148 rfl call148 ⟨by simp,by simp [zab],by simp [jb,zac,zah,zal]⟩ ?_ (by simp) (by simp) (by simp) (by simp [ntmps148]) (by omega) ?_
 ·simp [zan,za0,zah,zal,zab]
 intro C hC hC0 hY
 repeat' first|refine gwZ ?_|(refine gwX ?_;intro Q hQ _;simp [hC,hY,jb];refine gwq hQ ?_)|refine gwC ?_ ?_<;>intro hb
 refine ⟨.inr rfl,by simp [results148],zbz G0F (by simp [jb]) (by (intro k hk;first|rfl|(simp (disch:=omega) only [zbw,List.mem_cons,List.not_mem_nil,or_false,zaa,zag,zaq,if_neg,zbb]<;>done)))⟩
def cfB (sl:Value) (g bx tp nr md:Int):Blk:=⟨#[sl,.int .i64 g,.int .i64 bx,.int .i64 tp,.int .i64 nr,.int .i64 md],.ty 24⟩
def cfV (sl:Value) (g bx tp nr md:Int):Value:=.agg #[sl,.int .i64 g,.int .i64 bx,.int .i64 tp,.int .i64 nr,.int .i64 md]
theorem z97 (m:Int):Ret prog G0 152 #[.int .i64 m] (.bool !(wiB m 1 1024)):=by
 refine za2 G0F func152 rfl call152 rfl (by simp) (by simp [ntmps152]) ?_
 intro C hC hC0 hY
 repeat' first|refine gwZ ?_|refine gwW ?_|refine gwC ?_ ?_<;>intro hb
 refine ⟨.inr trivial,?_⟩
 simp [results152]
@[simp] theorem cm1 (m:Int) (K:Value->Prop):zbe prog G0 152 #[.int .i64 m] K↔K (.bool !(wiB m 1 1024)):=zaf G0W (by kernel_rfl) (z97 m)
structure MB (b:Blk) (off n:Nat) (f:Nat->Int):Prop where
 rd:rdI b off n f
 fx:b.fx
 i6:∀ j,j<n->i64 (f j)
 nn:n<=17592186044416
theorem MB.at {b:Blk} {off n:Nat} {f:Nat->Int} (h:MB b off n f) {i:Nat} (hi:i<n):zc2 prog 3 b (off+i)=some (.int .i64 (f i)):=by
 have hbrd:=Blk.fx_rd h.fx
 exact znx (P:=prog) (T:=3) (j:=i) (zba isAgg3) h.rd hi
def zzc (b:Blk) (off n cap:Nat) (i:Nat):GS :=
 ⟨tsL [(0,.slice (some ⟨100,off,none⟩) n cap),(1,.func (.func 152) #[] #[]),(7,.int .i64 n),(8,.int .i64 i)],hpL G0 [(100,b)],300,0⟩
def zuu (f:Nat->Int) (n:Nat):Bool:=(List.range n).all λi=>wiB (f i) 1 1024
theorem zu5 (b:Blk) (off n cap:Nat) (f:Nat->Int) (h:MB b off n f) (N:Nat) (hN:N<=n) (hlt:∀ i,i<N->wiB (f i) 1 1024=true) (hend:N=n\/wiB (f N) 1 1024=false) :
  Fun prog G0 170 #[.slice (some ⟨100,off,none⟩) n cap,.func (.func 152) #[] #[]] (hpL G0 [(100,b)]) (zab [(100,b)]) (.ret (.int .i64 (if N=n then -1 else N)) []):=by
 refine zaz (B:=200) G0F func170 rfl call170 (zax h.fx) ?_ (by simp) (by simp) (by simp) (by simp [ntmps170]) (by omega) ?_
 ·simp [zan,za0,zah,zal,zab]
 intro C hC hC0 hY
 have hnn:=h.nn
 have hid:=λD=>Blk.fx_ids h.fx D
 repeat' first|refine gwZ ?_|refine gwW ?_|refine gwC ?_ ?_<;>intro hb
 refine zc3 N (zzc b off n cap) ?_ ?_ ?_
 ·refine zbi _ 300 hC G0F (m0:=[(100,b)]) hC0 (by omega) ?_ ?_ ?_
  ·simp [zan,za0,zah,zal,dom]
  ·simp [hid]
  ·simp
 ·intro i hi
  have hin:i<n:=by omega
  have hi':(i:Int)<n:=by omega
  have hz:(0:Int)<=i:=by omega
  have hs:Int.bmod ((i:Int)+1) 18446744073709551616=((i+1:Nat):Int):=by rw [bm (by omega) (by omega)];rfl
  have hld:=h.at hin
  have hq:=hlt i hi
  unfold zzc
  repeat' first|refine gwZ ?_|(refine gwX ?_;intro Q hQ _;simp [hC,hY,hi,hin,hi',hz,hs,hld,hq];refine gwq hQ ?_)|refine gwC ?_ ?_<;>intro hb
  refine zbi _ 300 hC G0F (m0:=[(100,b)]) hC0 (by omega) ?_ ?_ ?_
  ·simp [zan,za0,zah,zal,dom,hs]
  ·simp [hid]
  ·simp
 ·by_cases hNn:N=n
  ·subst hNn
   simp only [if_true]
   unfold zzc
   repeat' first|refine gwZ ?_|refine gwW ?_|refine gwC ?_ ?_<;>intro hb
   refine ⟨.inr rfl,by simp [results170],kpS G0F⟩
  ·have hin:N<n:=by omega
   have hi':(N:Int)<n:=by omega
   have hz:(0:Int)<=N:=by omega
   have hld:=h.at hin
   have hq:=hend.resolve_left hNn
   rw [if_neg hNn]
   unfold zzc
   repeat' first|refine gwZ ?_|(refine gwX ?_;intro Q hQ _;simp [hC,hY,hin,hi',hz,hld,hq];refine gwq hQ ?_)|refine gwC ?_ ?_<;>intro hb
   refine ⟨.inr rfl,by simp [results170],kpS G0F⟩
theorem z4v (b:Blk) (off n cap:Nat) (f:Nat->Int) (h:MB b off n f) :
  Fun prog G0 151 #[.slice (some ⟨100,off,none⟩) n cap,.func (.func 152) #[] #[]] (hpL G0 [(100,b)]) (zab [(100,b)]) (.ret (.bool !(zuu f n)) []):=by
 refine zaz (B:=200) G0F func151 rfl call151 (zax h.fx) ?_ (by simp) (by simp) (by simp) (by simp [ntmps151]) (by omega) ?_
 ·simp [zan,za0,zah,zal,zab]
 intro C hC hC0 hY
 have hr:=λρ=>Blk.fx_rn h.fx ρ
 obtain ⟨N,hN,hlt,hend⟩:=jbr (λi=>wiB (f i) 1 1024) n
 by_cases hNn:N=n
 ·have e:zuu f n=true:=by unfold zuu;rw [<-hNn];simpa using hlt
  rw [e]
  repeat' first|refine gwZ ?_|((first|refine gwR [170] ?_|refine gwD [170] ?_);intro Q hQ _;(repeat first|simp [hC,hY,hNn]|refine zae (zu5 b off n cap f h N hN hlt hend) G0F (B:=200) (zax h.fx) (λk=>k) (λk hk=>rfl) (by simp [ren,zay,zaj,zam]) (by simp) (by simp [hr]) (by simp [zab]) (by simp [zab];rfl) ?_);refine gwq hQ ?_)|refine gwC ?_ ?_<;>intro hb
  refine ⟨.inr rfl,by simp [results151],kpS G0F⟩
 ·have e:zuu f n=false:=by
   unfold zuu
   rw [List.all_eq_false]
   exact ⟨N,by simp;omega,by simpa using hend.resolve_left hNn⟩
  have hz:(0:Int)<=N:=by omega
  rw [e]
  repeat' first|refine gwZ ?_|((first|refine gwR [170] ?_|refine gwD [170] ?_);intro Q hQ _;(repeat first|simp [hC,hY,hNn,hz]|refine zae (zu5 b off n cap f h N hN hlt hend) G0F (B:=200) (zax h.fx) (λk=>k) (λk hk=>rfl) (by simp [ren,zay,zaj,zam]) (by simp) (by simp [hr]) (by simp [zab]) (by simp [zab];rfl) ?_);refine gwq hQ ?_)|refine gwC ?_ ?_<;>intro hb
  refine ⟨.inr rfl,by simp [results151],kpS G0F⟩
def cmL (b:Blk) (off n cap:Nat) (g bx tp nr md:Int):List (Nat×Blk):=[(100,b),(108,cfB (.slice (some ⟨100,off,none⟩) n cap) g bx tp nr md)]
theorem zfk {b:Blk} (hb:b.fx) (off n cap:Nat) (g bx tp nr md:Int):LOk (cmL b off n cap g bx tp nr md) 200:=⟨by simp [cmL],by simp [cmL,zab],by
 simp only [cmL,List.mem_cons,List.not_mem_nil,or_false,forall_eq_or_imp,forall_eq]
 exact ⟨Blk.fx_ids hb _,by simp [cfB,zac,zah,zal,zab]⟩⟩
theorem zgr (b:Blk) (off n cap:Nat) (f:Nat->Int) (h:MB b off n f) (g bx tp nr md:Int) :
  Fun prog G0 150 #[.pointer (some ⟨108,0,none⟩)] (hpL G0 (cmL b off n cap g bx tp nr md)) (zab (cmL b off n cap g bx tp nr md)) (.ret (.bool (zuu f n)) []):=by
 refine zaz (B:=200) G0F func150 rfl call150 (zfk h.fx off n cap g bx tp nr md) ?_ (by simp) (by simp) (by simp) (by simp [ntmps150]) (by omega) ?_
 ·simp [zan,za0,zah,zal,zab,cmL]
 intro C hC hC0 hY
 have hr:=λρ=>Blk.fx_rn h.fx ρ
 unfold cmL cfB
 repeat' first|refine gwZ ?_|((first|refine gwR [151] ?_|refine gwD [151] ?_);intro Q hQ _;(repeat first|simp [hC,hY]|refine zae (z4v b off n cap f h) G0F (B:=200) (zax h.fx) (λk=>k) (λk hk=>rfl) (by simp [ren,zay,zaj,zam]) (by simp) (by simp [hr]) (by simp [zab]) (by simp [zab];rfl) ?_);refine gwq hQ ?_)|refine gwC ?_ ?_<;>intro hb
 refine ⟨.inr rfl,by simp [results150],kpS G0F⟩
theorem zu6 (b:Blk) (off n cap:Nat) (hb:b.fx) (g bx tp nr md:Int) :
  Fun prog G0 153 #[.pointer (some ⟨108,0,none⟩)] (hpL G0 (cmL b off n cap g bx tp nr md)) (zab (cmL b off n cap g bx tp nr md)) (.ret (.bool (wiB md 0 4)) []):=by
 refine zaz (B:=200) G0F func153 rfl call153 (zfk hb off n cap g bx tp nr md) ?_ (by simp) (by simp) (by simp) (by simp [ntmps153]) (by omega) ?_
 ·simp [zan,za0,zah,zal,zab,cmL]
 intro C hC hC0 hY
 unfold cmL cfB
 repeat' first|refine gwZ ?_|refine gwW ?_|refine gwC ?_ ?_<;>intro hb
 refine ⟨.inr rfl,by simp [results153],kpS G0F⟩
end Go.Gy
namespace Go.Gy
open Go Go.RowKit
@[simp] theorem z76:zau (.map none)=true:=by simp [zau,zgk,za9,zgt]
theorem zo7:∀ (l:List Bool) (i:Nat),l[i]? = some false->(l.set i true).count false+1=l.count false
 | [],i,h=>by simp at h
 | a::l,0,h=>by simp at h;subst h;simp
 | a::l,i+1,h=>by
  have:=zo7 l i (by simpa using h)
  simp only [List.set_cons_succ,List.count_cons]
  omega
theorem mem_ready {md:Region.Mode} {ops:Array Oper} {listed:Array Bool} (hs:listed.size=ops.size) {i:Nat}:i∈Region.ready md ops listed↔listed[i]? = some false/\∀ o,ops[i]? = some o->∀ e∈o.after,Region.binds md e=true->listed[e.on]? = some true:=by
 unfold Region.ready
 simp only [List.mem_filter,List.mem_range,Bool.and_eq_true,Bool.not_eq_true']
 constructor
 ·rintro ⟨h1,h2,h3⟩
  have e1:listed[i]? = some listed[i]:=Array.getElem?_eq_getElem (by omega)
  refine ⟨?_,λo ho e he hb=>?_⟩
  ·simp only [Array.getD_eq_getD_getElem?,e1,Option.getD_some] at h2
   rw [e1,h2]
  ·rw [ho] at h3
   simp only [Option.map_some,Option.getD_some,Array.all_eq_true_iff_forall_mem] at h3
   have:=h3 e he
   rw [hb] at this
   simp only [Bool.not_true,Bool.false_or,Array.getD_eq_getD_getElem?] at this
   cases hl:listed[e.on]? with
   | none=>rw [hl] at this;simp at this
   | some b=>rw [hl] at this;simp at this;rw [this]
 ·rintro ⟨h1,h2⟩
  have hlt:i<ops.size:=by have:=(Array.getElem?_eq_some_iff.1 h1).1;omega
  refine ⟨hlt,by simp [Array.getD_eq_getD_getElem?,h1],?_⟩
  rw [Array.getElem?_eq_getElem hlt]
  simp only [Option.map_some,Option.getD_some,Array.all_eq_true_iff_forall_mem,Bool.or_eq_true,Bool.not_eq_true']
  intro e he
  cases hb:Region.binds md e with
  | false=>exact .inl rfl
  | true=>right;simp [Array.getD_eq_getD_getElem?,h2 _ (Array.getElem?_eq_getElem hlt) e he hb]
theorem zoa {md:Region.Mode} {ops:Array Oper} {listed:Array Bool} (hs:listed.size=ops.size) (hlt:(ops.toList.zipIdx.all λp=>p.1.after.all λe=>decide (e.on<p.2))=true) (h:Region.ready md ops listed=[]):∀ i,i<ops.size->listed[i]? = some true:=by
 intro i
 induction i using Nat.strongRecOn with
 | _ i ih =>
  intro hi
  have e1:listed[i]? = some listed[i]:=Array.getElem?_eq_getElem (by omega)
  cases hb:listed[i] with
  | true=>rw [e1,hb]
  | false =>
   exfalso
   have:i∈Region.ready md ops listed:=(mem_ready hs).2 ⟨by rw [e1,hb],λo ho e he _=>by
    have hm:(o,i)∈ops.toList.zipIdx:=by
     rw [List.mem_zipIdx_iff_getElem?]
     simpa using ho
    have:=List.all_eq_true.1 hlt _ hm
    have:=Array.all_eq_true_iff_forall_mem.1 this e he
    have h3:e.on<i:=by simpa using this
    exact ih _ h3 (by omega)⟩
   rw [h] at this
   cases this
section
variable {P:Program} {C:Ctx} {n:Nat} {d:List Deferred} {ro:Option Nat} {K:Exit->GS->Prop}
theorem zp7 {G:Hp} {ops:Array Oper} {o:Oper} {post:List Oper} {base k:Nat} (sh:Nat) {ts:Nat->Value} {hp hp':Hp} {yc:Nat} {c:Call} {f:Operand} {g:FuncId} {cap:Array Value} {rs:List Nat} {args:Array Value} {R:Value->List (Nat×Blk)->Prop} (hCG:C.G=G) (hr:FunS P G g args hp' rs R) (hg:o.guard=none) (hd:∀ dd,o.dst=some dd->dd<n)
  (ho:o.op=.call c) (hc:c.callee=.value f) (hf:okT ts f) (hgf:gev ts f=.func (.func g) #[] cap) (hcp:cap.all zbj=true) (ha:∀ x∈c.args.toList,okX ts hp x) (hargs:c.args.map (gev ts)++cap=args)
  (h1:∀ q∈rs,hp' q=hp q) (h2:∀ q,q<100->hp' q=hp q) (hat:∀ v ns,R v ns->∀ q∈zab ns,base+8*k<=q/\q<base+sh+8*k+8)
  (h:∀ v ns,R v ns->GL P C n d ro ops (base+sh) (k+1) post (zcq ts o.dst v) (zbb hp ns) yc K):GL P C n d ro ops base k (o::post) ts hp yc K:=by
 subst hCG
 intro r a W hi hfr hb hG hR
 refine wpListIn_plain hg λK' hK'=>?_
 refine zia hG hi hd ho hc hf hgf hcp ha (by rw [hargs];exact hr.under λq hq=>hq.elim (h2 q) (h1 q)) (λv ns hRv q hq=>hfr q (hat v ns hRv q hq).1) (λv ns hRv r' a' W' hi'=>hK' _ _ (h v ns hRv r' a' W' hi' (λx hx=>?_) (by omega) hG hR))
 rw [za6 (λhm=>by have:=hat v ns hRv x hm;omega)]
 exact hfr x (by omega)
theorem zp6 {ops:Array Oper} {base yc:Nat} (I:Array Bool->(Nat->Value)->Hp->Prop)
  (fin:∀ listed ts hp,listed.size=ops.size->Region.ready .any ops listed=[]->I listed ts hp->K .normal ⟨ts,hp,base+8*ops.size,yc⟩)
  (step:∀ fuel listed ts hp i,listed.size=ops.size->listed[i]? = some false->(∀ o,ops[i]? = some o->∀ e∈o.after,Region.binds .any e=true->listed[e.on]? = some true)->I listed ts hp ->
   (∀ ts' hp',I (listed.setIfInBounds i true) ts' hp'->GA P C n d ro ops base fuel (listed.setIfInBounds i true) ts' hp' yc K)->GO P C n d ro ops base fuel listed i ts hp yc K) :
  ∀ (fuel:Nat) (listed:Array Bool) (ts:Nat->Value) (hp:Hp),listed.size=ops.size->listed.toList.count false<=fuel->I listed ts hp->GA P C n d ro ops base fuel listed ts hp yc K
 | 0,listed,ts,hp,hs,hc,hI=>by
  have hr:Region.ready .any ops listed=[]:=by
   cases h:Region.ready .any ops listed with
   | nil=>rfl
   | cons i l =>
    have hm:i∈Region.ready .any ops listed:=by rw [h];simp
    have h1:=((mem_ready hs).1 hm).1
    have h2:=zo7 listed.toList i (by simpa using h1)
    omega
  exact z2d hr (fin _ _ _ hs hr hI)
 | fuel+1,listed,ts,hp,hs,hc,hI=>by
  cases h:Region.ready .any ops listed with
  | nil=>exact z2d h (fin _ _ _ hs h hI)
  | cons i l =>
   refine z35 _ rfl (by rw [h];rfl) λj hj=>?_
   obtain ⟨h1,h2⟩:=(mem_ready hs).1 hj
   refine step fuel listed ts hp j hs h1 h2 hI λts' hp' hI'=>?_
   have h3:=zo7 listed.toList j (by simpa using h1)
   exact zp6 I fin step fuel _ _ _ (by simpa using hs) (by simp only [Array.toList_setIfInBounds];omega) hI'
end
end Go.Gy
