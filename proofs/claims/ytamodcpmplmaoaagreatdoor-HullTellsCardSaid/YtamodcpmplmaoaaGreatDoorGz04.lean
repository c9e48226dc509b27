/-
  Lemmas of this claim, in their order (GyL2, GyX7, GyQ1, GyY1, GyY2, GyY3, GyY4, GyY5, GyY6, GyY7, GyZ1, GyZ2, GyZ3, GyRA, GyRB, GyDM, GyQA, GyVB, GyVC, GyVD, GyNA, GyJL, GyRC, GyRF, GyQB, GyDB, GyDC).
  Conditions: those of each theorem.
-/
import Derived.Test.YtamodcpmplmaoaaGreatDoorGz03
import Derived.Laws.MathBits
set_option linter.unusedSimpArgs false
set_option linter.unusedVariables false
set_option maxRecDepth 8000
set_option maxHeartbeats 4000000
namespace Go.Gy
open Go Go.RowKit
theorem zch (i:Nat):(0:Int)<2^(64*i):=Int.pow_pos (by decide)
theorem ziv (i:Nat):(2:Int)^(64*(i+1))=2^(64*i)*18446744073709551616:=by
 rw [Nat.mul_add,Int.pow_add];rfl
def zb7 (A B:Int) (i:Nat):Int:=(A%2^(64*i))*B
def zen (A B:Int) (i k:Nat):Int:=(zb7 A B i%2^(64*(i+k))+2^(64*i)*wi A i*(B%2^(64*k))) / 2^(64*(i+k))
def zdq (A B:Int) (i k j:Nat):Int:=if i<=j/\j<i+k then wi (zb7 A B (i+1)) j else wi (zb7 A B i) j
theorem zi1 (A B:Int) (i:Nat):zb7 A B (i+1)=zb7 A B i+2^(64*i)*wi A i*B:=by
 unfold zb7 wi
 rw [ziv,zdw A _ _ (zch i) (by omega),Int.add_mul]
theorem zgy (A B:Int) (i:Nat):zen A B i 0=0:=by
 unfold zen
 have h1:=Int.emod_lt_of_pos (zb7 A B i) (zch (i+0))
 have h2:=Int.emod_nonneg (zb7 A B i) (b:=2^(64*(i+0))) (by have:=zch (i+0);omega)
 simp only [Nat.mul_zero,Int.pow_zero,Int.emod_one,Int.mul_zero,Int.add_zero]
 exact Int.ediv_eq_zero_of_lt h2 h1
theorem zgx (A B:Int) (i k:Nat):0<=zen A B i k/\zen A B i k<18446744073709551616:=by
 unfold zen
 have hM:(2:Int)^(64*(i+k))=2^(64*i)*2^(64*k):=by rw [Nat.mul_add,Int.pow_add]
 have p1:=zch i
 have p2:=zch k
 have p3:=zch (i+k)
 generalize hz:zb7 A B i=z
 have h1:=Int.emod_lt_of_pos z p3
 have h2:=Int.emod_nonneg z (b:=2^(64*(i+k))) (by omega)
 have h3:=Int.emod_lt_of_pos B p2
 have h4:=Int.emod_nonneg B (b:=2^(64*k)) (by omega)
 have h5:=zbq A i
 have h6:=zbw A i
 have h7:0<=2^(64*i)*wi A i*(B%2^(64*k)):=Int.mul_nonneg (Int.mul_nonneg (by omega) h5) h4
 have h8:2^(64*i)*wi A i*(B%2^(64*k))<=2^(64*i)*18446744073709551615*2^(64*k) :=
  Int.mul_le_mul (Int.mul_le_mul_of_nonneg_left (by omega) (by omega)) (by omega) h4 (Int.mul_nonneg (by omega) (by omega))
 have h9:(2:Int)^(64*i)*18446744073709551615*2^(64*k)=18446744073709551615*2^(64*(i+k)):=by
  rw [hM,Int.mul_comm (2^(64*i)) 18446744073709551615,Int.mul_assoc]
 refine ⟨Int.ediv_nonneg (by omega) (by omega),Int.ediv_lt_of_lt_mul p3 (by omega)⟩
theorem zwm (A B:Int) (i k:Nat):(wi (zb7 A B i) (i+k)+wi A i*wi B k+zen A B i k) / 18446744073709551616=zen A B i (k+1):=by
 have hM:(2:Int)^(64*(i+k))=2^(64*i)*2^(64*k):=by rw [Nat.mul_add,Int.pow_add]
 have p2:=zch k
 have p3:=zch (i+k)
 unfold zen
 rw [show i+(k+1)=(i+k)+1 by omega,ziv,ziv,zdw _ _ _ p3 (by omega),zdw B _ _ p2 (by omega)]
 generalize hz:zb7 A B i=z
 unfold wi
 generalize hD:(2:Int)^(64*(i+k))=M at *
 have e:z%M+M*(z / M%18446744073709551616)+2^(64*i)*(A / 2^(64*i)%18446744073709551616)*(B%2^(64*k)+2^(64*k)*(B / 2^(64*k)%18446744073709551616)) =
   (z%M+2^(64*i)*(A / 2^(64*i)%18446744073709551616)*(B%2^(64*k)))+M*(z / M%18446744073709551616+A / 2^(64*i)%18446744073709551616*(B / 2^(64*k)%18446744073709551616)):=by
  rw [hM]
  generalize (2:Int)^(64*i)=P
  generalize (2:Int)^(64*k)=Q
  generalize A / P%18446744073709551616=a
  generalize B / Q%18446744073709551616=b
  generalize B%Q=c
  generalize z%(P*Q)=u
  generalize z / (P*Q)%18446744073709551616=v
  have:P*a*(c+Q*b)=P*a*c+P*Q*(a*b):=by
   rw [Int.mul_add]
   congr 1
   rw [Int.mul_assoc P a,Int.mul_assoc P Q]
   congr 1
   rw [<-Int.mul_assoc,<-Int.mul_assoc,Int.mul_comm a Q]
  rw [this,Int.mul_add]
  omega
 rw [e,<-Int.ediv_ediv_of_nonneg (Int.le_of_lt p3),Int.add_mul_ediv_left _ _ (by omega)]
 congr 1
 omega
theorem joz (A B:Int) (i k:Nat):(wi (zb7 A B i) (i+k)+wi A i*wi B k+zen A B i k)%18446744073709551616=wi (zb7 A B (i+1)) (i+k):=by
 have hM:(2:Int)^(64*(i+k))=2^(64*i)*2^(64*k):=by rw [Nat.mul_add,Int.pow_add]
 have p3:=zch (i+k)
 rw [zi1]
 unfold zen
 generalize hz:zb7 A B i=z
 unfold wi
 generalize hD:(2:Int)^(64*(i+k))=M at *
 have h1:=Int.emod_add_mul_ediv z M
 have h2:=Int.emod_add_mul_ediv B (2^(64*k))
 have h3:=Int.emod_add_mul_ediv (B / 2^(64*k)) 18446744073709551616
 have e:z+2^(64*i)*(A / 2^(64*i)%18446744073709551616)*B=(z%M+2^(64*i)*(A / 2^(64*i)%18446744073709551616)*(B%2^(64*k))) +
   M*(z / M+A / 2^(64*i)%18446744073709551616*(B / 2^(64*k)%18446744073709551616)+18446744073709551616*(A / 2^(64*i)%18446744073709551616*(B / 2^(64*k) / 18446744073709551616))):=by
  have hB:B=B%2^(64*k)+2^(64*k)*(B / 2^(64*k)%18446744073709551616+18446744073709551616*(B / 2^(64*k) / 18446744073709551616)):=by rw [h3];omega
  generalize B / 2^(64*k)%18446744073709551616=b at *
  generalize B / 2^(64*k) / 18446744073709551616=h at *
  generalize B%2^(64*k)=c at *
  rw [hM]
  rw [hM] at h1
  generalize (2:Int)^(64*i)=P at *
  generalize (2:Int)^(64*k)=Q at *
  generalize A / P%18446744073709551616=a
  rw [hB]
  have:P*a*(c+Q*(b+18446744073709551616*h))=P*a*c+P*Q*(a*b)+P*Q*(18446744073709551616*(a*h)):=by
   rw [Int.mul_add,Int.mul_add Q,Int.mul_add]
   have e1:P*a*(Q*b)=P*Q*(a*b):=by
    rw [Int.mul_assoc P a,Int.mul_assoc P Q];congr 1;rw [<-Int.mul_assoc,<-Int.mul_assoc,Int.mul_comm a Q]
   have e2:P*a*(Q*(18446744073709551616*h))=P*Q*(18446744073709551616*(a*h)):=by
    rw [Int.mul_assoc P a,Int.mul_assoc P Q];congr 1
    rw [Int.mul_left_comm a Q];congr 1
    rw [Int.mul_left_comm]
   rw [e1,e2];omega
  rw [this,Int.mul_add,Int.mul_add]
  omega
 rw [e,Int.add_mul_ediv_left _ _ (by omega)]
 omega
theorem zt3 (A B:Int) (i:Nat) (h0:0<=B) (h1:B<2^(64*4)):0<=zb7 A B i/\zb7 A B i<2^(64*(i+4)):=by
 have p1:=zch i
 have h2:=Int.emod_nonneg A (b:=2^(64*i)) (by omega)
 have h3:=Int.emod_lt_of_pos A p1
 unfold zb7
 refine ⟨Int.mul_nonneg h2 h0,?_⟩
 rw [Nat.mul_add,Int.pow_add]
 generalize (2:Int)^(64*i)=P at *
 generalize (2:Int)^(64*4)=Q at *
 have h4:A%P*B<=A%P*Q:=Int.mul_le_mul_of_nonneg_left (by omega) h2
 have h5:A%P*Q<P*Q:=Int.mul_lt_mul_of_pos_right h3 (by omega)
 omega
theorem z1c (A B:Int) (i:Nat) (h0:0<=B) (h1:B<2^(64*4)):zen A B i 4=wi (zb7 A B (i+1)) (i+4):=by
 have hb:=zgx A B i 4
 have hz:=zt3 A B i h0 h1
 unfold zen at *
 rw [Int.emod_eq_of_lt hz.1 hz.2,Int.emod_eq_of_lt h0 h1,<-zi1] at *
 unfold wi
 omega
theorem zt2 (A B:Int) (i j:Nat) (h0:0<=B) (h1:B<2^(64*4)) (hj:i+4<=j):wi (zb7 A B i) j=0:=by
 have hz:=zt3 A B i h0 h1
 have e:(2:Int)^(64*j)=2^(64*(i+4))*2^(64*(j - (i+4))):=by rw [<-Int.pow_add];congr 1;omega
 have p:=zch (j - (i+4))
 unfold wi
 rw [Int.ediv_eq_zero_of_lt hz.1]
 ·rfl
 ·rw [e]
  have:(2:Int)^(64*(i+4))*1<=2^(64*(i+4))*2^(64*(j - (i+4))):=Int.mul_le_mul_of_nonneg_left (by omega) (by have:=zch (i+4);omega)
  omega
theorem z1b (A B:Int) (i j:Nat) (hj:j<i):wi (zb7 A B (i+1)) j=wi (zb7 A B i) j:=by
 rw [zi1]
 unfold wi
 have e:(2:Int)^(64*i)=2^(64*j)*(18446744073709551616*2^(64*(i - j - 1))):=by
  rw [show (18446744073709551616:Int)=2^64 by rfl,<-Int.pow_add,<-Int.pow_add];congr 1;omega
 rw [e,Int.mul_assoc,Int.mul_assoc (2^(64*j)),Int.mul_assoc 18446744073709551616,Int.add_mul_ediv_left _ _ (by have:=zch j;omega)]
 omega
theorem zgz (A B:Int) (i k:Nat):∀ j,upd (zdq A B i k) (i+k) (wi (zb7 A B (i+1)) (i+k)) j=zdq A B i (k+1) j:=λj=>by
 unfold upd zdq
 by_cases e:j=i+k
 ·subst e;simp
 ·rw [if_neg e]
  by_cases h:i<=j/\j<i+k
  ·rw [if_pos h,if_pos (by omega)]
  ·rw [if_neg h,if_neg (by omega)]
theorem zh9 (A B:Int) (i:Nat) (h0:0<=B) (h1:B<2^(64*4)):∀ j,upd (zdq A B i 4) (i+4) (zen A B i 4) j=wi (zb7 A B (i+1)) j:=λj=>by
 unfold upd zdq
 by_cases e:j=i+4
 ·subst e;rw [if_pos rfl,z1c A B i h0 h1]
 ·rw [if_neg e]
  by_cases h:i<=j/\j<i+4
  ·rw [if_pos h]
  ·rw [if_neg h]
   by_cases hj:j<i
   ·exact (z1b A B i j hj).symm
   ·rw [zt2 A B i j h0 h1 (by omega),zt2 A B (i+1) j h0 h1 (by omega)]
@[simp] theorem jlo (A B:Int) (i k:Nat):zdq A B i k (i+k)=wi (zb7 A B i) (i+k):=by unfold zdq;rw [if_neg (by omega)]

theorem jo1 (x y d c:Int) (hx:0<=x/\x<18446744073709551616) (hy:0<=y/\y<18446744073709551616) (hd:0<=d/\d<18446744073709551616) (hc:0<=c/\c<18446744073709551616) :
  ((x*y%18446744073709551616+d)%18446744073709551616+c)%18446744073709551616=(d+x*y+c)%18446744073709551616 /\
  ((x*y / 18446744073709551616+(x*y%18446744073709551616+d) / 18446744073709551616)%18446744073709551616+((x*y%18446744073709551616+d)%18446744073709551616+c) / 18446744073709551616)%18446744073709551616=(d+x*y+c) / 18446744073709551616:=by
 have h1:0<=x*y:=Int.mul_nonneg hx.1 hy.1
 have h2:x*y<=18446744073709551615*18446744073709551615:=Int.mul_le_mul (by omega) (by omega) hy.1 (by omega)
 generalize x*y=p at *
 omega
end Go.Gy
namespace Go.Gy
open Go Go.RowKit Go.Proofs Go.Proofs.Tryz
@[simp] theorem jmx (D:Nat->Prop) (n:Nat) (k:IntKind) (f:Nat->Int):zap D (.agg (fa n k f))↔True:=by
 refine ⟨λ_=>trivial,λ_ x hx=>?_⟩
 obtain ⟨m,rfl⟩:=zkc hx
 trivial
theorem zqj (z:Int) (h0:0<=z) (h1:z<18446744073709551616):zdy .and .u64 z 4294967295=z%4294967296:=by
 rw [<-and_low32 z h0 h1];rfl
theorem zy7 (x y:Int) (hx0:0<=x) (hx:x<18446744073709551616) (hy0:0<=y) (hy:y<18446744073709551616):Ret prog G0 127 #[.int .u64 x,.int .u64 y] (.tuple #[.int .u64 (x*y / 18446744073709551616),.int .u64 (x*y%18446744073709551616)]):=by
 refine zas G0F func127 rfl call127 (by simp) (by simp) (by simp [ntmps127]) ?_
 intro C hC hC0 hY
 have f32:∀ z:Int,z.fdiv 4294967296=z / 4294967296:=λz=>Int.fdiv_eq_ediv_of_nonneg z (by omega)
 have a1:=zqj x hx0 hx
 have a2:=zqj y hy0 hy
 have a3:∀ z:Int,zdy .and .u64 (z%18446744073709551616) 4294967295=z%18446744073709551616%4294967296:=λz=>zqj _ (by omega) (by omega)
 repeat' first|refine gwZ ?_|(refine gwX ?_;intro Q hQ _;simp [hC,hY,f32,a1,a2,a3];refine gwq hQ ?_)|fail
 refine ⟨.inr trivial,?_⟩
 have:=mul64_arith x y hx0 hx hy0 hy
 simpa [results127] using this
@[simp] theorem jro (x y:Int) (hx0:0<=x) (hx:x<18446744073709551616) (hy0:0<=y) (hy:y<18446744073709551616) (K:Value->Prop):za2 prog G0 127 #[.int .u64 x,.int .u64 y] K↔K (.tuple #[.int .u64 (x*y / 18446744073709551616),.int .u64 (x*y%18446744073709551616)]):=zac G0W (by kernel_rfl) (zy7 x y hx0 hx hy0 hy)
theorem z73 (z y:Int) (k:Nat) (h:z%115792089237316195423570985008687907853269984665640564039457584007913129639936=y%115792089237316195423570985008687907853269984665640564039457584007913129639936) (hk:k<4):wi z k=wi y k:=by
 have:k=0\/k=1\/k=2\/k=3:=by omega
 rcases this with rfl|rfl|rfl|rfl<;>simp only [wi]<;>omega
theorem z54 (z:Int) (h:ng z=true) (k:Nat) (hk:k<4):wi (-z) k=wi (um z) k:=z73 _ _ _ (by
 rw [zel] at h;simp at h;have:=zpx z;unfold um;rw [if_pos h];omega) hk
theorem z53 (z:Int) (h:ng z=false) (k:Nat) (hk:k<4):wi z k=wi (um z) k:=z73 _ _ _ (by
 rw [zel] at h;simp at h;have:=zpx z;unfold um;rw [if_neg (by omega)];omega) hk
theorem z5w (A B:Int) (i k:Nat):0<=wi A i*wi B k/\0<=wi A i*wi B k%18446744073709551616/\0<=(wi A i*wi B k+wi (zb7 A B i) (i+k))%18446744073709551616:=by
 have h1:=zbq A i;have h2:=zbq B k
 exact ⟨Int.mul_nonneg h1 h2,Int.emod_nonneg _ (by omega),Int.emod_nonneg _ (by omega)⟩
theorem z5u (A B:Int) (i k:Nat):(wi A i*wi B k+wi (zb7 A B i) (i+k)+zen A B i k)%18446744073709551616=wi (zb7 A B (i+1)) (i+k):=by
 rw [<-joz A B i k];congr 1;omega
theorem z5o (A B:Int) (i k:Nat):(wi A i*wi B k / 18446744073709551616+(wi A i*wi B k%18446744073709551616+wi (zb7 A B i) (i+k)) / 18446744073709551616+((wi A i*wi B k+wi (zb7 A B i) (i+k))%18446744073709551616+zen A B i k) / 18446744073709551616)%18446744073709551616=zen A B i (k+1):=by
 have h:=(jo1 (wi A i) (wi B k) (wi (zb7 A B i) (i+k)) (zen A B i k) ⟨zbq _ _,zbw _ _⟩ ⟨zbq _ _,zbw _ _⟩ ⟨zbq _ _,zbw _ _⟩ (zgx A B i k)).2
 rw [<-zwm,<-h]
 simp
def zws (q:Nat) (mi:Bool) (A B:Int) (i:Nat):GS :=
 ⟨tsL [(2,.pointer (some ⟨200,0,none⟩)),(3,.pointer (some ⟨208,0,none⟩)),(4,.pointer (some ⟨216,0,none⟩)),(6,.bool mi),(7,.pointer (some ⟨q,0,none⟩)),(40,.agg (fa 4 .u64 (wi A))),(41,.int .i64 i)],
 hpL G0 [(200,⟨fa 4 .u64 (wi A),.ty 30⟩),(208,⟨fa 4 .u64 (wi B),.ty 30⟩),(216,⟨fa 4 .u64 λ_=>0,.ty 30⟩),(q,⟨fa 8 .u64 (wi (zb7 A B i)),.ty 96⟩)],600,0⟩
def zjg (q:Nat) (mi:Bool) (A B:Int) (i k:Nat):GS :=
 ⟨tsL [(2,.pointer (some ⟨200,0,none⟩)),(3,.pointer (some ⟨208,0,none⟩)),(4,.pointer (some ⟨216,0,none⟩)),(6,.bool mi),(7,.pointer (some ⟨q,0,none⟩)),(40,.agg (fa 4 .u64 (wi A))),(41,.int .i64 i),
   (8,.int .i64 i),(9,.int .u64 (wi A i)),(10,.int .u64 (zen A B i k)),(45,.agg (fa 4 .u64 (wi B))),(46,.int .i64 k)],
 hpL G0 [(200,⟨fa 4 .u64 (wi A),.ty 30⟩),(208,⟨fa 4 .u64 (wi B),.ty 30⟩),(216,⟨fa 4 .u64 λ_=>0,.ty 30⟩),(q,⟨fa 8 .u64 (zdq A B i k),.ty 96⟩)],600,0⟩
theorem zrl {x y:Int} (hx0:0<=x) (hx:x<18446744073709551616) (hy0:0<=y) (hy:y<18446744073709551616):(zdy .or .u64 x y=0↔x=0/\y=0)/\0<=zdy .or .u64 x y/\zdy .or .u64 x y<18446744073709551616:=by
 have e:zdy .or .u64 x y=((BitVec.ofInt 64 x ||| BitVec.ofInt 64 y:BitVec 64).toNat:Int)%18446744073709551616:=by
  unfold zdy
  show IntKind.u64.wrap ((BitVec.ofInt 64 x ||| BitVec.ofInt 64 y:BitVec 64).toNat:Int)=_
  rw [zny]
 have hx':(BitVec.ofInt 64 x).toNat=x.toNat:=by
  rw [BitVec.toNat_ofInt];congr 1;exact Int.emod_eq_of_lt hx0 hx
 have hy':(BitVec.ofInt 64 y).toNat=y.toNat:=by
  rw [BitVec.toNat_ofInt];congr 1;exact Int.emod_eq_of_lt hy0 hy
 have hb:=(BitVec.ofInt 64 x ||| BitVec.ofInt 64 y).isLt
 rw [e]
 refine ⟨?_,Int.emod_nonneg _ (by omega),Int.emod_lt_of_pos _ (by omega)⟩
 rw [Int.emod_eq_of_lt (by omega) (by omega),BitVec.toNat_or,hx',hy']
 constructor
 ·intro h
  have h1:x.toNat ||| y.toNat=0:=by omega
  have:=Nat.or_eq_zero_iff.1 h1
  omega
 ·rintro ⟨rfl,rfl⟩;rfl
theorem zjy (D:Int) (j:Nat) (h:4<=j:=by omega):wi D j=wi (D / 115792089237316195423570985008687907853269984665640564039457584007913129639936) (j - 4):=by
 unfold wi
 have e:64*j=64*4+64*(j - 4):=by omega
 rw [e,Int.pow_add,<-Int.ediv_ediv_of_nonneg (Int.le_of_lt (zch 4))]
 rfl
def ovD (D:Int):Bool:=decide (115792089237316195423570985008687907853269984665640564039457584007913129639936<=D)
def orW (D:Int):Int:=zdy .or .u64 (zdy .or .u64 (zdy .or .u64 (wi D 4) (wi D 5)) (wi D 6)) (wi D 7)
theorem jnp (D:Int) (h0:0<=D) (h1:D<115792089237316195423570985008687907853269984665640564039457584007913129639936*115792089237316195423570985008687907853269984665640564039457584007913129639936) :
  (!orW D==0)=ovD D:=by
 unfold orW
 have o1:=zrl (zbq D 4) (zbw D 4) (zbq D 5) (zbw D 5)
 have o2:=zrl o1.2.1 o1.2.2 (zbq D 6) (zbw D 6)
 have o3:=zrl o2.2.1 o2.2.2 (zbq D 7) (zbw D 7)
 rw [Bool.eq_iff_iff]
 simp only [Bool.not_eq_true',beq_eq_false_iff_ne,ne_eq,ovD,decide_eq_true_eq]
 rw [o3.1,o2.1,o1.1,zjy D 4,zjy D 5,zjy D 6,zjy D 7]
 have hE:0<=D / 115792089237316195423570985008687907853269984665640564039457584007913129639936/\D / 115792089237316195423570985008687907853269984665640564039457584007913129639936<115792089237316195423570985008687907853269984665640564039457584007913129639936:=⟨by omega,by omega⟩
 have hD:115792089237316195423570985008687907853269984665640564039457584007913129639936<=D↔D / 115792089237316195423570985008687907853269984665640564039457584007913129639936≠0:=by omega
 rw [hD]
 generalize D / 115792089237316195423570985008687907853269984665640564039457584007913129639936=E at *
 simp only [wi]
 omega
theorem z5v (a b:Int):Ret prog G0 101 #[wd a,wd b] (.tuple #[wd (sz a*sz b),.bool (ziu a b)]):=by
 refine zas G0F func101 rfl call101 (by simp) (by simp) (by simp [ntmps101]) ?_
 intro C hC hC0 hY
 have hA:=zwi a
 have hB:=zwi b
 have hB0:0<=um b:=hB.1
 have hB1:um b<2^(64*4):=by have:=hB.2;omega
 obtain ⟨D,hD⟩:∃ D,um a*um b=D:=⟨_,rfl⟩
 have eD:zb7 (um a) (um b) 4=D:=by rw [<-hD];unfold zb7;rw [Int.emod_eq_of_lt (by omega) (by omega)]
 have hbd:0<=D/\D<=57896044618658097711785492504343953926634992332820282019728792003956564819968*57896044618658097711785492504343953926634992332820282019728792003956564819968:=by
  rw [<-hD]
  exact ⟨Int.mul_nonneg hA.1 hB.1,Int.mul_le_mul hA.2 hB.2 hB.1 (by omega)⟩
 have hor:=jnp D hbd.1 (by have:=hbd.2;omega)
 have hs1:=zpn a b
 have hs2:=zl4 a b
 rw [hD] at hs1 hs2
 cases ha:ng a<;>cases hq:ng b
 all_goals
  repeat' first|refine gwZ ?_|(refine gwX ?_;intro Q hQ _;simp [hC,hY,ha,hq];refine gwq hQ ?_)|fail
 ·have hn:(ng a==ng b)=true:=by rw [ha,hq];rfl
  refine zbt 4 (zws 312 false (um a) (um b)) ?_ ?_ ?_
  ·have e1:=z53 a ha
   have e2:=z53 b hq
   refine za3 _ 600 hC G0F (m0:=[]) hC0 (by omega) ?_ ?_ ?_
   ·simp [dom,zgh,e1]
   ·simp [zco,zgh,zlr,e1,e2,zb7,Int.emod_one,zaf]
   ·simp
  ·intro i hi
   have hi':(i:Int)<4:=by omega
   have hz:(0:Int)<=i:=by omega
   have hs:Int.bmod ((i:Int)+1) 18446744073709551616=((i+1:Nat):Int):=by rw [bm (by omega) (by omega)];rfl
   unfold zws
   repeat' first|refine gwZ ?_|(refine gwX ?_;intro Q hQ _;simp [hC,hY,hi,hi',hz,hs,zdi];refine gwq hQ ?_)|fail
   refine zbt 4 (zjg 312 false (um a) (um b) i) ?_ ?_ ?_
   ·refine za3 _ 600 hC G0F (m0:=[]) hC0 (by omega) ?_ ?_ ?_
    ·simp [dom,zgy]
    ·have e:fa 8 .u64 (zdq (um a) (um b) i 0)=fa 8 .u64 (wi (zb7 (um a) (um b) i)):=zca λj _=>by unfold zdq;rw [if_neg (by omega)]
     simp [e,zco]
    ·simp
   ·intro k hk
    have hk':(k:Int)<4:=by omega
    have hkz:(0:Int)<=k:=by omega
    have hs2:Int.bmod ((k:Int)+1) 18446744073709551616=((k+1:Nat):Int):=by rw [bm (by omega) (by omega)];rfl
    have hik:Int.bmod ((i:Int)+k) 18446744073709551616=((i+k:Nat):Int):=by rw [bm (by omega) (by omega)];rfl
    have hik2:i+k<8:=by omega
    have hik3:(i:Int)+k<8:=by omega
    have hik4:(0:Int)<=(i:Int)+k:=by omega
    have hik5:((i:Int)+k).toNat=i+k:=by omega
    have hik6:(i:Int)+k<=7:=by omega
    have hik7:i+k<=7:=by omega
    have hn:=z5w (um a) (um b) i k
    have hc:=zgx (um a) (um b) i k
    unfold zjg
    repeat' first|refine gwZ ?_|(refine gwX ?_;intro Q hQ _;simp [hC,hY,hi,hi',hz,hk,hk',hkz,hik,hik2,hik3,hik4,hik5,hik6,hik7,hs2,zdi,zeh,zbq,zbw,hn.1,hn.2.1,hn.2.2,hc.1];refine gwq hQ ?_)|fail
    refine za3 _ 600 hC G0F (m0:=[]) hC0 (by omega) ?_ ?_ ?_
    ·simp [dom,hs2,z5o]
    ·have e:fa 8 .u64 (upd (zdq (um a) (um b) i k) (i+k) (wi (zb7 (um a) (um b) (i+1)) (i+k)))=fa 8 .u64 (zdq (um a) (um b) i (k+1)):=zca λj _=>zgz (um a) (um b) i k j
     simp [zco,z5u,e]
    ·simp
   ·have hi8:Int.bmod ((i:Int)+4) 18446744073709551616=(i:Int)+4:=bm (by omega) (by omega)
    have hi9:(0:Int)<=(i:Int)+4:=by omega
    have hi10:((i:Int)+4).toNat=i+4:=by omega
    have hi11:(i:Int)+4<8:=by omega
    have hi12:(i:Int)<=3:=by omega
    have hi14:i<=3:=by omega
    have hi13:i+4<8:=by omega
    unfold zjg
    repeat' first|refine gwZ ?_|(refine gwX ?_;intro Q hQ _;simp [hC,hY,hi,hi',hz,hs,hi8,hi9,hi10,hi11,hi12,hi13,hi14,zeh];refine gwq hQ ?_)|fail
    refine za3 _ 600 hC G0F (m0:=[]) hC0 (by omega) ?_ ?_ ?_
    ·simp [dom,hs]
    ·have e:fa 8 .u64 (upd (zdq (um a) (um b) i 4) (i+4) (zen (um a) (um b) i 4))=fa 8 .u64 (wi (zb7 (um a) (um b) (i+1))):=zca λj _=>zh9 (um a) (um b) i hB0 hB1 j
     simp [zco,e]
    ·simp
  ·unfold zws
   rw [eD]
   by_cases hx:orW D=0
   ·have hov:ovD D=false:=by rw [<-hor];simp [hx]
    unfold orW at hx
    repeat' first|refine gwZ ?_|(refine gwX ?_;intro Q hQ _;simp [hC,hY,zlr,zgh,hx];refine gwq hQ ?_)|fail
    refine ⟨.inr trivial,?_⟩
    rw [ovD] at hov
    simp [results101,hs1 hn,ziu,hx]
    rw [Bool.eq_iff_iff]
    simp [zel]
    have h3:=zee D hbd.1 (by simpa using hov)
    simp at hov
    omega
   ·have hov:ovD D=true:=by rw [<-hor];simp [hx]
    unfold orW at hx
    have hx2:(zdy .or .u64 (zdy .or .u64 (zdy .or .u64 (wi D 4) (wi D 5)) (wi D 6)) (wi D 7)==0)=false:=by simpa using hx
    have hx3:(zdy .or .u64 (zdy .or .u64 (zdy .or .u64 (wi D 4) (wi D 5)) (wi D 6)) (wi D 7) != 0)=true:=by simpa using hx
    repeat' first|refine gwZ ?_|(refine gwX ?_;intro Q hQ _;simp [hC,hY,zlr,zgh,hx,hx2,hx3];refine gwq hQ ?_)|fail
    refine ⟨.inr trivial,?_⟩
    rw [ovD] at hov
    simp [results101,hs1 hn,ziu,hx]
    simp at hov
    omega
 ·have hn:(ng a==ng b)=false:=by rw [ha,hq];rfl
  refine zbt 4 (zws 360 true (um a) (um b)) ?_ ?_ ?_
  ·have e1:=z53 a ha
   have e2:=z54 b hq
   refine za3 _ 600 hC G0F (m0:=[]) hC0 (by omega) ?_ ?_ ?_
   ·simp [dom,zgh,e1]
   ·simp [zco,zgh,zlr,e1,e2,zb7,Int.emod_one,zaf]
   ·simp
  ·intro i hi
   have hi':(i:Int)<4:=by omega
   have hz:(0:Int)<=i:=by omega
   have hs:Int.bmod ((i:Int)+1) 18446744073709551616=((i+1:Nat):Int):=by rw [bm (by omega) (by omega)];rfl
   unfold zws
   repeat' first|refine gwZ ?_|(refine gwX ?_;intro Q hQ _;simp [hC,hY,hi,hi',hz,hs,zdi];refine gwq hQ ?_)|fail
   refine zbt 4 (zjg 360 true (um a) (um b) i) ?_ ?_ ?_
   ·refine za3 _ 600 hC G0F (m0:=[]) hC0 (by omega) ?_ ?_ ?_
    ·simp [dom,zgy]
    ·have e:fa 8 .u64 (zdq (um a) (um b) i 0)=fa 8 .u64 (wi (zb7 (um a) (um b) i)):=zca λj _=>by unfold zdq;rw [if_neg (by omega)]
     simp [e,zco]
    ·simp
   ·intro k hk
    have hk':(k:Int)<4:=by omega
    have hkz:(0:Int)<=k:=by omega
    have hs2:Int.bmod ((k:Int)+1) 18446744073709551616=((k+1:Nat):Int):=by rw [bm (by omega) (by omega)];rfl
    have hik:Int.bmod ((i:Int)+k) 18446744073709551616=((i+k:Nat):Int):=by rw [bm (by omega) (by omega)];rfl
    have hik2:i+k<8:=by omega
    have hik3:(i:Int)+k<8:=by omega
    have hik4:(0:Int)<=(i:Int)+k:=by omega
    have hik5:((i:Int)+k).toNat=i+k:=by omega
    have hik6:(i:Int)+k<=7:=by omega
    have hik7:i+k<=7:=by omega
    have hn:=z5w (um a) (um b) i k
    have hc:=zgx (um a) (um b) i k
    unfold zjg
    repeat' first|refine gwZ ?_|(refine gwX ?_;intro Q hQ _;simp [hC,hY,hi,hi',hz,hk,hk',hkz,hik,hik2,hik3,hik4,hik5,hik6,hik7,hs2,zdi,zeh,zbq,zbw,hn.1,hn.2.1,hn.2.2,hc.1];refine gwq hQ ?_)|fail
    refine za3 _ 600 hC G0F (m0:=[]) hC0 (by omega) ?_ ?_ ?_
    ·simp [dom,hs2,z5o]
    ·have e:fa 8 .u64 (upd (zdq (um a) (um b) i k) (i+k) (wi (zb7 (um a) (um b) (i+1)) (i+k)))=fa 8 .u64 (zdq (um a) (um b) i (k+1)):=zca λj _=>zgz (um a) (um b) i k j
     simp [zco,z5u,e]
    ·simp
   ·have hi8:Int.bmod ((i:Int)+4) 18446744073709551616=(i:Int)+4:=bm (by omega) (by omega)
    have hi9:(0:Int)<=(i:Int)+4:=by omega
    have hi10:((i:Int)+4).toNat=i+4:=by omega
    have hi11:(i:Int)+4<8:=by omega
    have hi12:(i:Int)<=3:=by omega
    have hi14:i<=3:=by omega
    have hi13:i+4<8:=by omega
    unfold zjg
    repeat' first|refine gwZ ?_|(refine gwX ?_;intro Q hQ _;simp [hC,hY,hi,hi',hz,hs,hi8,hi9,hi10,hi11,hi12,hi13,hi14,zeh];refine gwq hQ ?_)|fail
    refine za3 _ 600 hC G0F (m0:=[]) hC0 (by omega) ?_ ?_ ?_
    ·simp [dom,hs]
    ·have e:fa 8 .u64 (upd (zdq (um a) (um b) i 4) (i+4) (zen (um a) (um b) i 4))=fa 8 .u64 (wi (zb7 (um a) (um b) (i+1))):=zca λj _=>zh9 (um a) (um b) i hB0 hB1 j
     simp [zco,e]
    ·simp
  ·unfold zws
   rw [eD]
   by_cases hx:orW D=0
   ·have hov:ovD D=false:=by rw [<-hor];simp [hx]
    unfold orW at hx
    by_cases hzz:sz D=0
    ·have hw:=zr6 D hzz
     repeat' first|refine gwZ ?_|(refine gwX ?_;intro Q hQ _;simp [hC,hY,zlr,zgh,hx,hw];refine gwq hQ ?_)|fail
     refine ⟨.inr trivial,?_⟩
     rw [ovD] at hov
     simp [results101,hs2 hn,ziu,hx]
     have:=zee D hbd.1 (by simpa using hov)
     simp at hov
     omega
    ·have hw:=zjz D hzz
     repeat' first|refine gwZ ?_|(refine gwX ?_;intro Q hQ _;simp [hC,hY,zlr,zgh,hx,hw];refine gwq hQ ?_)|fail
     refine ⟨.inr trivial,?_⟩
     rw [ovD] at hov
     simp [results101,hs2 hn,ziu,hx]
     rw [Bool.eq_iff_iff]
     simp [zel]
     have h3:=zee D hbd.1 (by simpa using hov)
     have h4:=zrx D hbd.1 (by simpa using hov)
     simp at hov
     omega
   ·have hov:ovD D=true:=by rw [<-hor];simp [hx]
    unfold orW at hx
    have hx2:(zdy .or .u64 (zdy .or .u64 (zdy .or .u64 (wi D 4) (wi D 5)) (wi D 6)) (wi D 7)==0)=false:=by simpa using hx
    have hx3:(zdy .or .u64 (zdy .or .u64 (zdy .or .u64 (wi D 4) (wi D 5)) (wi D 6)) (wi D 7) != 0)=true:=by simpa using hx
    repeat' first|refine gwZ ?_|(refine gwX ?_;intro Q hQ _;simp [hC,hY,zlr,zgh,hx,hx2,hx3];refine gwq hQ ?_)|fail
    refine ⟨.inr trivial,?_⟩
    rw [ovD] at hov
    simp [results101,hs2 hn,ziu,hx]
    simp at hov
    omega
 ·have hn:(ng a==ng b)=false:=by rw [ha,hq];rfl
  refine zbt 4 (zws 360 true (um a) (um b)) ?_ ?_ ?_
  ·have e1:=z54 a ha
   have e2:=z53 b hq
   refine za3 _ 600 hC G0F (m0:=[]) hC0 (by omega) ?_ ?_ ?_
   ·simp [dom,zgh,e1]
   ·simp [zco,zgh,zlr,e1,e2,zb7,Int.emod_one,zaf]
   ·simp
  ·intro i hi
   have hi':(i:Int)<4:=by omega
   have hz:(0:Int)<=i:=by omega
   have hs:Int.bmod ((i:Int)+1) 18446744073709551616=((i+1:Nat):Int):=by rw [bm (by omega) (by omega)];rfl
   unfold zws
   repeat' first|refine gwZ ?_|(refine gwX ?_;intro Q hQ _;simp [hC,hY,hi,hi',hz,hs,zdi];refine gwq hQ ?_)|fail
   refine zbt 4 (zjg 360 true (um a) (um b) i) ?_ ?_ ?_
   ·refine za3 _ 600 hC G0F (m0:=[]) hC0 (by omega) ?_ ?_ ?_
    ·simp [dom,zgy]
    ·have e:fa 8 .u64 (zdq (um a) (um b) i 0)=fa 8 .u64 (wi (zb7 (um a) (um b) i)):=zca λj _=>by unfold zdq;rw [if_neg (by omega)]
     simp [e,zco]
    ·simp
   ·intro k hk
    have hk':(k:Int)<4:=by omega
    have hkz:(0:Int)<=k:=by omega
    have hs2:Int.bmod ((k:Int)+1) 18446744073709551616=((k+1:Nat):Int):=by rw [bm (by omega) (by omega)];rfl
    have hik:Int.bmod ((i:Int)+k) 18446744073709551616=((i+k:Nat):Int):=by rw [bm (by omega) (by omega)];rfl
    have hik2:i+k<8:=by omega
    have hik3:(i:Int)+k<8:=by omega
    have hik4:(0:Int)<=(i:Int)+k:=by omega
    have hik5:((i:Int)+k).toNat=i+k:=by omega
    have hik6:(i:Int)+k<=7:=by omega
    have hik7:i+k<=7:=by omega
    have hn:=z5w (um a) (um b) i k
    have hc:=zgx (um a) (um b) i k
    unfold zjg
    repeat' first|refine gwZ ?_|(refine gwX ?_;intro Q hQ _;simp [hC,hY,hi,hi',hz,hk,hk',hkz,hik,hik2,hik3,hik4,hik5,hik6,hik7,hs2,zdi,zeh,zbq,zbw,hn.1,hn.2.1,hn.2.2,hc.1];refine gwq hQ ?_)|fail
    refine za3 _ 600 hC G0F (m0:=[]) hC0 (by omega) ?_ ?_ ?_
    ·simp [dom,hs2,z5o]
    ·have e:fa 8 .u64 (upd (zdq (um a) (um b) i k) (i+k) (wi (zb7 (um a) (um b) (i+1)) (i+k)))=fa 8 .u64 (zdq (um a) (um b) i (k+1)):=zca λj _=>zgz (um a) (um b) i k j
     simp [zco,z5u,e]
    ·simp
   ·have hi8:Int.bmod ((i:Int)+4) 18446744073709551616=(i:Int)+4:=bm (by omega) (by omega)
    have hi9:(0:Int)<=(i:Int)+4:=by omega
    have hi10:((i:Int)+4).toNat=i+4:=by omega
    have hi11:(i:Int)+4<8:=by omega
    have hi12:(i:Int)<=3:=by omega
    have hi14:i<=3:=by omega
    have hi13:i+4<8:=by omega
    unfold zjg
    repeat' first|refine gwZ ?_|(refine gwX ?_;intro Q hQ _;simp [hC,hY,hi,hi',hz,hs,hi8,hi9,hi10,hi11,hi12,hi13,hi14,zeh];refine gwq hQ ?_)|fail
    refine za3 _ 600 hC G0F (m0:=[]) hC0 (by omega) ?_ ?_ ?_
    ·simp [dom,hs]
    ·have e:fa 8 .u64 (upd (zdq (um a) (um b) i 4) (i+4) (zen (um a) (um b) i 4))=fa 8 .u64 (wi (zb7 (um a) (um b) (i+1))):=zca λj _=>zh9 (um a) (um b) i hB0 hB1 j
     simp [zco,e]
    ·simp
  ·unfold zws
   rw [eD]
   by_cases hx:orW D=0
   ·have hov:ovD D=false:=by rw [<-hor];simp [hx]
    unfold orW at hx
    by_cases hzz:sz D=0
    ·have hw:=zr6 D hzz
     repeat' first|refine gwZ ?_|(refine gwX ?_;intro Q hQ _;simp [hC,hY,zlr,zgh,hx,hw];refine gwq hQ ?_)|fail
     refine ⟨.inr trivial,?_⟩
     rw [ovD] at hov
     simp [results101,hs2 hn,ziu,hx]
     have:=zee D hbd.1 (by simpa using hov)
     simp at hov
     omega
    ·have hw:=zjz D hzz
     repeat' first|refine gwZ ?_|(refine gwX ?_;intro Q hQ _;simp [hC,hY,zlr,zgh,hx,hw];refine gwq hQ ?_)|fail
     refine ⟨.inr trivial,?_⟩
     rw [ovD] at hov
     simp [results101,hs2 hn,ziu,hx]
     rw [Bool.eq_iff_iff]
     simp [zel]
     have h3:=zee D hbd.1 (by simpa using hov)
     have h4:=zrx D hbd.1 (by simpa using hov)
     simp at hov
     omega
   ·have hov:ovD D=true:=by rw [<-hor];simp [hx]
    unfold orW at hx
    have hx2:(zdy .or .u64 (zdy .or .u64 (zdy .or .u64 (wi D 4) (wi D 5)) (wi D 6)) (wi D 7)==0)=false:=by simpa using hx
    have hx3:(zdy .or .u64 (zdy .or .u64 (zdy .or .u64 (wi D 4) (wi D 5)) (wi D 6)) (wi D 7) != 0)=true:=by simpa using hx
    repeat' first|refine gwZ ?_|(refine gwX ?_;intro Q hQ _;simp [hC,hY,zlr,zgh,hx,hx2,hx3];refine gwq hQ ?_)|fail
    refine ⟨.inr trivial,?_⟩
    rw [ovD] at hov
    simp [results101,hs2 hn,ziu,hx]
    simp at hov
    omega
 ·have hn:(ng a==ng b)=true:=by rw [ha,hq];rfl
  refine zbt 4 (zws 408 false (um a) (um b)) ?_ ?_ ?_
  ·have e1:=z54 a ha
   have e2:=z54 b hq
   refine za3 _ 600 hC G0F (m0:=[]) hC0 (by omega) ?_ ?_ ?_
   ·simp [dom,zgh,e1]
   ·simp [zco,zgh,zlr,e1,e2,zb7,Int.emod_one,zaf]
   ·simp
  ·intro i hi
   have hi':(i:Int)<4:=by omega
   have hz:(0:Int)<=i:=by omega
   have hs:Int.bmod ((i:Int)+1) 18446744073709551616=((i+1:Nat):Int):=by rw [bm (by omega) (by omega)];rfl
   unfold zws
   repeat' first|refine gwZ ?_|(refine gwX ?_;intro Q hQ _;simp [hC,hY,hi,hi',hz,hs,zdi];refine gwq hQ ?_)|fail
   refine zbt 4 (zjg 408 false (um a) (um b) i) ?_ ?_ ?_
   ·refine za3 _ 600 hC G0F (m0:=[]) hC0 (by omega) ?_ ?_ ?_
    ·simp [dom,zgy]
    ·have e:fa 8 .u64 (zdq (um a) (um b) i 0)=fa 8 .u64 (wi (zb7 (um a) (um b) i)):=zca λj _=>by unfold zdq;rw [if_neg (by omega)]
     simp [e,zco]
    ·simp
   ·intro k hk
    have hk':(k:Int)<4:=by omega
    have hkz:(0:Int)<=k:=by omega
    have hs2:Int.bmod ((k:Int)+1) 18446744073709551616=((k+1:Nat):Int):=by rw [bm (by omega) (by omega)];rfl
    have hik:Int.bmod ((i:Int)+k) 18446744073709551616=((i+k:Nat):Int):=by rw [bm (by omega) (by omega)];rfl
    have hik2:i+k<8:=by omega
    have hik3:(i:Int)+k<8:=by omega
    have hik4:(0:Int)<=(i:Int)+k:=by omega
    have hik5:((i:Int)+k).toNat=i+k:=by omega
    have hik6:(i:Int)+k<=7:=by omega
    have hik7:i+k<=7:=by omega
    have hn:=z5w (um a) (um b) i k
    have hc:=zgx (um a) (um b) i k
    unfold zjg
    repeat' first|refine gwZ ?_|(refine gwX ?_;intro Q hQ _;simp [hC,hY,hi,hi',hz,hk,hk',hkz,hik,hik2,hik3,hik4,hik5,hik6,hik7,hs2,zdi,zeh,zbq,zbw,hn.1,hn.2.1,hn.2.2,hc.1];refine gwq hQ ?_)|fail
    refine za3 _ 600 hC G0F (m0:=[]) hC0 (by omega) ?_ ?_ ?_
    ·simp [dom,hs2,z5o]
    ·have e:fa 8 .u64 (upd (zdq (um a) (um b) i k) (i+k) (wi (zb7 (um a) (um b) (i+1)) (i+k)))=fa 8 .u64 (zdq (um a) (um b) i (k+1)):=zca λj _=>zgz (um a) (um b) i k j
     simp [zco,z5u,e]
    ·simp
   ·have hi8:Int.bmod ((i:Int)+4) 18446744073709551616=(i:Int)+4:=bm (by omega) (by omega)
    have hi9:(0:Int)<=(i:Int)+4:=by omega
    have hi10:((i:Int)+4).toNat=i+4:=by omega
    have hi11:(i:Int)+4<8:=by omega
    have hi12:(i:Int)<=3:=by omega
    have hi14:i<=3:=by omega
    have hi13:i+4<8:=by omega
    unfold zjg
    repeat' first|refine gwZ ?_|(refine gwX ?_;intro Q hQ _;simp [hC,hY,hi,hi',hz,hs,hi8,hi9,hi10,hi11,hi12,hi13,hi14,zeh];refine gwq hQ ?_)|fail
    refine za3 _ 600 hC G0F (m0:=[]) hC0 (by omega) ?_ ?_ ?_
    ·simp [dom,hs]
    ·have e:fa 8 .u64 (upd (zdq (um a) (um b) i 4) (i+4) (zen (um a) (um b) i 4))=fa 8 .u64 (wi (zb7 (um a) (um b) (i+1))):=zca λj _=>zh9 (um a) (um b) i hB0 hB1 j
     simp [zco,e]
    ·simp
  ·unfold zws
   rw [eD]
   by_cases hx:orW D=0
   ·have hov:ovD D=false:=by rw [<-hor];simp [hx]
    unfold orW at hx
    repeat' first|refine gwZ ?_|(refine gwX ?_;intro Q hQ _;simp [hC,hY,zlr,zgh,hx];refine gwq hQ ?_)|fail
    refine ⟨.inr trivial,?_⟩
    rw [ovD] at hov
    simp [results101,hs1 hn,ziu,hx]
    rw [Bool.eq_iff_iff]
    simp [zel]
    have h3:=zee D hbd.1 (by simpa using hov)
    simp at hov
    omega
   ·have hov:ovD D=true:=by rw [<-hor];simp [hx]
    unfold orW at hx
    have hx2:(zdy .or .u64 (zdy .or .u64 (zdy .or .u64 (wi D 4) (wi D 5)) (wi D 6)) (wi D 7)==0)=false:=by simpa using hx
    have hx3:(zdy .or .u64 (zdy .or .u64 (zdy .or .u64 (wi D 4) (wi D 5)) (wi D 6)) (wi D 7) != 0)=true:=by simpa using hx
    repeat' first|refine gwZ ?_|(refine gwX ?_;intro Q hQ _;simp [hC,hY,zlr,zgh,hx,hx2,hx3];refine gwq hQ ?_)|fail
    refine ⟨.inr trivial,?_⟩
    rw [ovD] at hov
    simp [results101,hs1 hn,ziu,hx]
    simp at hov
    omega
@[simp] theorem jus (a b:Int) (K:Value->Prop):za2 prog G0 101 #[Value.agg #[.int .u64 (wi (a) 0),.int .u64 (wi (a) 1),.int .u64 (wi (a) 2),.int .u64 (wi (a) 3)],Value.agg #[.int .u64 (wi (b) 0),.int .u64 (wi (b) 1),.int .u64 (wi (b) 2),.int .u64 (wi (b) 3)]] K↔K (.tuple #[wd (sz a*sz b),.bool (ziu a b)]):=zac G0W (by kernel_rfl) (z5v a b)

def erV (n:Int):Value:=.iface 41 (.int .i64 n)
@[simp] theorem jff (n:Int):erV n=.iface 41 (.int .i64 n):=rfl
def zB:Blk:=⟨#[.int .u64 0,.int .u64 0,.int .u64 0,.int .u64 0],.ty 30⟩
def eB (n:Int):Blk:=⟨#[.int .i64 n],.ty 41⟩
theorem zxi (n:Int) (W:World):(Instr.typeAssert (erV n) 20 41 true).run prog W=.ok (.tuple #[.int .i64 n,.bool true]) W:=by kernel_rfl
theorem zui (W:World):(Instr.typeAssert .nilIface 20 41 true).run prog W=.ok (.tuple #[.int .i64 0,.bool false]) W:=by kernel_rfl
theorem jh3:Array.replicate 10 undef=#[undef,undef,undef,undef,undef,undef,undef,undef,undef,undef]:=rfl
theorem jql:Array.replicate 7 undef=#[undef,undef,undef,undef,undef,undef,undef]:=rfl
def zp9:Array Value:=#[.pointer (some ⟨100000,0,none⟩),.pointer (some ⟨100008,0,none⟩)]
def hpQ (n:Int):Hp:=hpL G0 [(100000,zB),(100008,eB n)]
theorem zej (n:Int):rst (hpQ n) [100000,100008]=hpQ n:=zf3 G0F (by simp)
theorem zq1 (n:Int) (k:Nat) (b:Blk) (D:Nat->Prop) (h:hpQ n k=some b):b.ids D:=by
 rcases za5 h with h|h
 ·simp at h
  rcases h with ⟨_,rfl⟩|⟨_,rfl⟩<;>simp [zB,eB]
 ·exact zeg _ _ _ h
theorem jrv (n:Int):RecF prog G0 190 zp9 (hpQ 0) [100000,100008] (erV n) [(100000,zB),(100008,eB n)]:=by
 refine ⟨⟨_,func190⟩,call190,?_,?_⟩
 ·refine zxj (k:=2) func190 rfl λargs c₀ cs W hk hu=>?_
  obtain ⟨p0,p1,rfl⟩:∃ p0 p1,args=#[p0,p1]:=by
   rcases args with ⟨l⟩
   match l,hk with
   | [a,b],_=>exact ⟨a,b,rfl⟩
  have hn:f190.ntmps=12:=ntmps190
  refine wpSIn_seq (wpSIn_region ?_)
  simp [wpOpsSIn,List.range,List.range.loop,go_sem,recoverD,hu,hn,zui,jh3]
  refine wpSIn_seq (wpSIn_region ?_)
  simp [wpOpsSIn,List.range,List.range.loop,go_sem]
  refine wpSIn_cond (t:=false) (by simp [Act.eval]) ?_
  refine wpSIn_of_wpIn rfl (wpIn_skip ?_)
  exact ⟨.inl rfl,rfl,rfl,rfl,.tuple #[],by simp [results,results190,go_sem]⟩
 ·refine zoj (B:=200000) (A:=#[.pointer (some ⟨100000,0,none⟩),.pointer (some ⟨100008,0,none⟩),.int .i64 n,.bool true,.tuple #[.int .i64 n,.bool true],erV n,.tuple #[.int .i64 n,.bool true],.int .i64 n,.bool true,undef,undef,undef]) G0F (λk hk=>zbc (by simp) hk) func190 rfl (by simp [ntmps190]) ?_ ?_ ?_ ?_ ?_ ?_ (by omega) ?_ ?_
  ·rw [zej];simp [hpQ,dom];exact zai (by simp)
  ·intro r c₀ cs W Q hu hQ
   have hrn:∀ v,za0 v=true->ren r v=v:=λv hv=>zau hv
   simp only [List.map_toArray,List.map_cons,List.map_nil,zp9] at hQ |-
   generalize ren r (.pointer (some ⟨100000,0,none⟩))=p0 at hQ |-
   generalize ren r (.pointer (some ⟨100008,0,none⟩))=p1 at hQ |-
   simp only [hrn (.int .i64 n) rfl,hrn (.bool true) rfl,hrn (erV n) rfl,hrn (.tuple #[.int .i64 n,.bool true]) (by simp),zci] at hQ
   have hn:f190.ntmps=12:=ntmps190
   have hA:=zxi n
   simp only [jff] at hA
   simp [wpOpsSIn,List.range,List.range.loop,go_sem,recoverD,hu,jhj,erV,hn,hA,jh3]
   exact hQ
  ·rw [zej];exact λk b h=>zq1 0 k b _ h
  ·rw [zej];simp [hpQ,dom]
  ·intro k b c h1 h2
   simp at h1 h2
   rcases h1 with ⟨rfl,rfl⟩|⟨rfl,rfl⟩<;>rcases h2 with ⟨e2,rfl⟩|⟨e2,rfl⟩<;>first|rfl|omega
  ·simp [zB,eB]
  ·rw [zej];exact λx hx=>by simp [hpQ,show ¬x=100000 by omega,show ¬x=100008 by omega,show 100<=x by omega]
  ·intro C hC hC0 hY
   rw [zej]
   repeat' first|refine gwZ ?_|(refine gwX ?_;intro Q hQ _;simp [hC,hY,hpQ,zB,eB];refine gwq hQ ?_)|fail
   refine ⟨.inl trivial,by simp [results190],λk hk=>?_⟩
   simp [zB,eB,hpQ]
theorem z4n (W:World):((do eqGuard .neq 20 (.tmp 4) (.const .nilIface) .nilIface .nilIface;binOp .neq 20 .nilIface .nilIface:Sem Value)).run prog W=.ok (.bool false) W:=by kernel_rfl
def ifE:Value->Bool
 | .iface T (.int .i64 _)=>T==41
 | _=>false
def ifN:Value->Value
 | .iface _ u=>u
 | v=>v
@[simp] theorem jp2 (T:TypeId) (n:Int):ifE (.iface T (.int .i64 n))=(T==41):=nr rfl
@[simp] theorem jp3 (T:TypeId) (u:Value):ifN (.iface T u)=u:=nr rfl
theorem z62 {v:Value} (h:ifE v=true):∃ n,v=erV n:=by
 unfold ifE at h
 split at h
 ·rename_i T n
  have:T=41:=by simpa using h
  exact ⟨n,by rw [this];rfl⟩
 ·cases h
theorem zkp {P:Program} {o:Oper} {ts:Nat->Value} {hp:Hp} {K:Value->Prop} {v:Value} (ho:∀ x∈o.op.operands.toList,okX ts hp x/\za0 (gev ts x)=true) (hv:za0 v=true) (hr:∀ W,(execOp (gev ts) o).run P W=.ok (.value v) W):zvz P o ts hp K↔K v :=
 ⟨λ⟨_,u,_,h1,h2⟩=>by
  have:=(hr default).symm.trans (h1 default)
  injection this with this;injection this with this;subst this;exact h2,λh=>⟨ho,v,hv,hr,h⟩⟩
@[simp] theorem jel (P:Program) (op:BinOp) (T t:TypeId) (v:Value):zoe P op T (.iface t v) .nilIface=none:=by cases op<;>rfl
@[simp] theorem z8q {dst:Option Tmp} {x:Operand} {T:TypeId} {ps:String} {af:Array Edge} {g:Option (Nat×Bool)} {ts:Nat->Value} {hp:Hp} {C:Eff->Prop} (h:ifE (gev ts x)=true) (hx:okX ts hp x) :
  z8p prog none ⟨dst,.binOp .neq 20 x (.const .nilIface) 20,T,ps,af,g⟩ ts hp C↔C (val (.bool true) []):=by
 obtain ⟨n,hn⟩:=z62 h
 refine zkp (K:=λv=>C (val v [])) (v:=.bool true) ?_ rfl λW=>?_
 ·intro y hy
  simp [Op.operands] at hy
  rcases hy with rfl|rfl
  ·exact ⟨hx,by rw [hn];rfl⟩
  ·exact ⟨rfl,rfl⟩
 ·show (execOp (gev ts) ⟨dst,.binOp .neq 20 x (.const .nilIface) 20,T,ps,af,g⟩).run prog W=_
  simp only [execOp,hn]
  kernel_rfl
@[simp] theorem ja5 {dst:Option Tmp} {x:Operand} {T:TypeId} {ps:String} {af:Array Edge} {g:Option (Nat×Bool)} {V:XV} {yc nk:Nat} {ts:Nat->Value} {hp:Hp} {C:Eff->Prop} (h:ifE (gev ts x)=true) (hx:okX ts hp x) :
  opX prog G0 V yc ⟨dst,.typeAssert x 20 41 false,T,ps,af,g⟩ ts hp nk C↔C (val (ifN (gev ts x)) []):=by
 obtain ⟨n,hn⟩:=z62 h
 refine zkp (K:=λv=>C (val v [])) ?_ ?_ λW=>?_
 ·intro y hy
  simp [Op.operands] at hy
  subst hy
  exact ⟨hx,by rw [hn];rfl⟩
 ·rw [hn];rfl
 ·simp only [execOp,hn]
  kernel_rfl
theorem joa (n:Int):RecF prog G0 165 zp9 (hpQ 0) [100000,100008] (erV n) [(100000,zB),(100008,eB n)]:=by
 refine ⟨⟨_,func165⟩,call165,?_,?_⟩
 ·refine zxj (k:=2) func165 rfl λargs c₀ cs W hk hu=>?_
  obtain ⟨p0,p1,rfl⟩:∃ p0 p1,args=#[p0,p1]:=by
   rcases args with ⟨l⟩
   match l,hk with
   | [a,b],_=>exact ⟨a,b,rfl⟩
  have hn:f165.ntmps=9:=ntmps165
  refine wpSIn_seq (wpSIn_region ?_)
  simp [wpOpsSIn,List.range,List.range.loop,go_sem,recoverD,hu,hn,jql]
  refine wpSIn_seq (wpSIn_region ?_)
  simp [wpOpsSIn,List.range,List.range.loop,go_sem,z4n]
  refine wpSIn_cond (t:=false) (by simp [Act.eval]) ?_
  refine wpSIn_of_wpIn rfl (wpIn_skip ?_)
  exact ⟨.inl rfl,rfl,rfl,rfl,.tuple #[],by simp [results,results165,go_sem]⟩
 ·refine zoj (B:=200000) (A:=#[.pointer (some ⟨100000,0,none⟩),.pointer (some ⟨100008,0,none⟩),erV n,erV n,undef,undef,undef,undef,undef]) G0F (λk hk=>zbc (by simp) hk) func165 rfl (by simp [ntmps165]) ?_ ?_ ?_ ?_ ?_ ?_ (by omega) ?_ ?_
  ·rw [zej];simp [hpQ,dom]
  ·intro r c₀ cs W Q hu hQ
   have hrn:∀ v,za0 v=true->ren r v=v:=λv hv=>zau hv
   simp only [List.map_toArray,List.map_cons,List.map_nil,zp9] at hQ |-
   generalize ren r (.pointer (some ⟨100000,0,none⟩))=p0 at hQ |-
   generalize ren r (.pointer (some ⟨100008,0,none⟩))=p1 at hQ |-
   simp only [hrn (erV n) rfl,zci] at hQ
   have hn:f165.ntmps=9:=ntmps165
   simp [wpOpsSIn,List.range,List.range.loop,go_sem,recoverD,hu,jhj,erV,hn,jql]
   exact hQ
  ·rw [zej];exact λk b h=>zq1 0 k b _ h
  ·rw [zej];simp [hpQ,dom]
  ·intro k b c h1 h2
   simp at h1 h2
   rcases h1 with ⟨rfl,rfl⟩|⟨rfl,rfl⟩<;>rcases h2 with ⟨e2,rfl⟩|⟨e2,rfl⟩<;>first|rfl|omega
  ·simp [zB,eB]
  ·rw [zej];exact λx hx=>by simp [hpQ,show ¬x=100000 by omega,show ¬x=100008 by omega,show 100<=x by omega]
  ·intro C hC hC0 hY
   rw [zej]
   repeat' first|refine gwZ ?_|(refine gwX ?_;intro Q hQ _;simp [hC,hY,hpQ,zB,eB];refine gwq hQ ?_)|fail
   refine ⟨.inl trivial,by simp [results165],λk hk=>?_⟩
   simp [zB,eB,hpQ]
theorem zzu {g:FuncId} {capv:List Value} {hp:Hp} {rs:List Nat} {x0 x1 x2 x3:Int} {ws:List (Nat×Blk)} (hG:∀ k,k<100->hp k=G0 k) (hrs:∀ k∈rs,k<100000) (hc:capv.isEmpty=false) (hpl:capv.all zbr=true)
  (h:Fun prog G0 g capv.toArray hp rs (.ret (.agg #[.int .u64 x0,.int .u64 x1,.int .u64 x2,.int .u64 x3]) ws)) :
  Fun prog G0 179 #[.func (.func g) #[] capv.toArray] hp rs (.ret (.tuple #[.agg #[.int .u64 x0,.int .u64 x1,.int .u64 x2,.int .u64 x3],.int .i64 0]) ws):=by
 have hids:∀ x∈capv,zaj (dom (rst hp rs)) x:=λx hx=>(zb1 (List.all_eq_true.1 hpl x hx)).1 (h.ids x (by simpa using hx))
 have hbig:∀ x,100000<=x->rst hp rs x=none:=λx hx=>by
  unfold rst;rw [if_neg];rintro (h1|h1)
  ·omega
  ·have:=hrs x h1;omega
 refine zqy (out:=.ret (.tuple #[.agg #[.int .u64 x0,.int .u64 x1,.int .u64 x2,.int .u64 x3],.int .i64 0]) ws) (B:=100000) (B1:=100016) (id:=1) (t:=4) (ts1:=upd (upd (λt=>[Value.func (.func g) #[] capv.toArray][t]?.getD undef) 2 (zlu 100000)) 3 (zlu 100008))
  (hp1:=upd (upd (rst hp rs) 100000 (some zB)) 100008 (some (eB 0))) zp9 G0F hG func179 rfl (by simp [ntmps179]) call179 ⟨_,_,_,_,jrv 0⟩ ?_ h.closed ?_ (by simp [ntmps179]) (by omega) hbig ?_ ?_ ?_ ?_ ?_ ?_
 ·simpa using hids
 ·exact ⟨zai (by simp),h.fits.2⟩
 ·intro C hC hC0 hY
  repeat' first|refine gwZ ?_|refine gwW ?_|fail
  exact ⟨trivial,rfl⟩
 ·intro k hk
  have h1:¬k=100000:=λe=>hk (hbig k (by omega))
  have h2:¬k=100008:=λe=>hk (hbig k (by omega))
  simp [h1,h2]
 ·simp [okT,zp9]
 ·simp [zp9]
 ·simp [zp9]
 ·intro C d hC hC0 hY
  refine zho ?_
  refine zde [] (by kernel_rfl) ?_;intro Q hQ hP;simp [hC,hY,hc,hpl]
  have hk1:∀ k∈zaa ws,k<100000:=λk hk=>hrs k (h.fits.2.1 k hk).1
  have hk2:(100000:Nat)∉zaa ws:=λhm=>by have:=hk1 _ hm;omega
  have hk3:(100008:Nat)∉zaa ws:=λhm=>by have:=hk1 _ hm;omega
  have w1:zbi (upd (upd (rst hp rs) 100000 (some zB)) 100008 (some (eB 0))) ws 100000=some zB:=by
   rw [za6 hk2];simp
  have w2:zbi (upd (upd (rst hp rs) 100000 (some zB)) 100008 (some (eB 0))) ws 100008=some (eB 0):=by
   rw [za6 hk3];simp
  refine zcl (hp':=hp) h (λk hk=>?_) hG trivial ?_
  ·have:=hrs k hk
   simp [rst,hk,show ¬k=100000 by omega,show ¬k=100008 by omega]
  simp only [zB,eB] at w1 w2
  simp [w1,w2,zB,eB]
  refine hQ _ _ _ _ ?_
  repeat' first|refine gwZ ?_|(refine gwX ?_;intro Q hQ _;simp [hC,hY,w1,w2,zB,eB];refine gwq hQ ?_)|fail
  refine ⟨.inr rfl,by simp [results179],λk hk=>?_⟩
  have h1:¬k=100000:=λe=>hk (hbig k (by omega))
  have h2:¬k=100008:=λe=>hk (hbig k (by omega))
  rw [zdp hk3,zdp hk2]
  simp [h1,h2]
theorem z0b {g:FuncId} {capv:List Value} {hp:Hp} {rs:List Nat} {x0 x1 x2 x3:Int} {ws:List (Nat×Blk)} (hG:∀ k,k<100->hp k=G0 k) (hrs:∀ k∈rs,k<100000) (hc:capv.isEmpty=false) (hpl:capv.all zbr=true)
  (h:Fun prog G0 g capv.toArray hp rs (.ret (.agg #[.int .u64 x0,.int .u64 x1,.int .u64 x2,.int .u64 x3]) ws)) :
  Fun prog G0 142 #[.func (.func g) #[] capv.toArray] hp rs (.ret (.tuple #[.agg #[.int .u64 x0,.int .u64 x1,.int .u64 x2,.int .u64 x3],.int .i64 0]) ws):=by
 have hids:∀ x∈capv,zaj (dom (rst hp rs)) x:=λx hx=>(zb1 (List.all_eq_true.1 hpl x hx)).1 (h.ids x (by simpa using hx))
 have hbig:∀ x,100000<=x->rst hp rs x=none:=λx hx=>by
  unfold rst;rw [if_neg];rintro (h1|h1)
  ·omega
  ·have:=hrs x h1;omega
 refine zqy (out:=.ret (.tuple #[.agg #[.int .u64 x0,.int .u64 x1,.int .u64 x2,.int .u64 x3],.int .i64 0]) ws) (B:=100000) (B1:=100016) (id:=1) (t:=4) (ts1:=upd (upd (λt=>[Value.func (.func g) #[] capv.toArray][t]?.getD undef) 2 (zlu 100000)) 3 (zlu 100008))
  (hp1:=upd (upd (rst hp rs) 100000 (some zB)) 100008 (some (eB 0))) zp9 G0F hG func142 rfl (by simp [ntmps142]) call142 ⟨_,_,_,_,joa 0⟩ ?_ h.closed ?_ (by simp [ntmps142]) (by omega) hbig ?_ ?_ ?_ ?_ ?_ ?_
 ·simpa using hids
 ·exact ⟨zai (by simp),h.fits.2⟩
 ·intro C hC hC0 hY
  repeat' first|refine gwZ ?_|refine gwW ?_|fail
  exact ⟨trivial,rfl⟩
 ·intro k hk
  have h1:¬k=100000:=λe=>hk (hbig k (by omega))
  have h2:¬k=100008:=λe=>hk (hbig k (by omega))
  simp [h1,h2]
 ·simp [okT,zp9]
 ·simp [zp9]
 ·simp [zp9]
 ·intro C d hC hC0 hY
  refine zho ?_
  refine zde [] (by kernel_rfl) ?_;intro Q hQ hP;simp [hC,hY,hc,hpl]
  have hk1:∀ k∈zaa ws,k<100000:=λk hk=>hrs k (h.fits.2.1 k hk).1
  have hk2:(100000:Nat)∉zaa ws:=λhm=>by have:=hk1 _ hm;omega
  have hk3:(100008:Nat)∉zaa ws:=λhm=>by have:=hk1 _ hm;omega
  have w1:zbi (upd (upd (rst hp rs) 100000 (some zB)) 100008 (some (eB 0))) ws 100000=some zB:=by
   rw [za6 hk2];simp
  have w2:zbi (upd (upd (rst hp rs) 100000 (some zB)) 100008 (some (eB 0))) ws 100008=some (eB 0):=by
   rw [za6 hk3];simp
  refine zcl (hp':=hp) h (λk hk=>?_) hG trivial ?_
  ·have:=hrs k hk
   simp [rst,hk,show ¬k=100000 by omega,show ¬k=100008 by omega]
  simp only [zB,eB] at w1 w2
  simp [w1,w2,zB,eB]
  refine hQ _ _ _ _ ?_
  repeat' first|refine gwZ ?_|(refine gwX ?_;intro Q hQ _;simp [hC,hY,w1,w2,zB,eB];refine gwq hQ ?_)|fail
  refine ⟨.inr rfl,by simp [results142],λk hk=>?_⟩
  have h1:¬k=100000:=λe=>hk (hbig k (by omega))
  have h2:¬k=100008:=λe=>hk (hbig k (by omega))
  rw [zdp hk3,zdp hk2]
  simp [h1,h2]
theorem z0a {g:FuncId} {capv:List Value} {hp:Hp} {rs:List Nat} {n:Int} (hG:∀ k,k<100->hp k=G0 k) (hrs:∀ k∈rs,k<100000) (hc:capv.isEmpty=false) (hpl:capv.all zbr=true)
  (h:Fun prog G0 g capv.toArray hp rs (.pan (erV n))) :
  Fun prog G0 142 #[.func (.func g) #[] capv.toArray] hp rs (.ret (.tuple #[.agg #[.int .u64 0,.int .u64 0,.int .u64 0,.int .u64 0],.int .i64 n]) []):=by
 have hids:∀ x∈capv,zaj (dom (rst hp rs)) x:=λx hx=>(zb1 (List.all_eq_true.1 hpl x hx)).1 (h.ids x (by simpa using hx))
 have hbig:∀ x,100000<=x->rst hp rs x=none:=λx hx=>by
  unfold rst;rw [if_neg];rintro (h1|h1)
  ·omega
  ·have:=hrs x h1;omega
 refine zqy (out:=.pan (erV n) [100000,100008] [(100000,zB),(100008,eB n)] (.tuple #[.agg #[.int .u64 0,.int .u64 0,.int .u64 0,.int .u64 0],.int .i64 n])) (B:=100000) (B1:=100016) (id:=1) (t:=4) (ts1:=upd (upd (λt=>[Value.func (.func g) #[] capv.toArray][t]?.getD undef) 2 (zlu 100000)) 3 (zlu 100008))
  (hp1:=upd (upd (rst hp rs) 100000 (some zB)) 100008 (some (eB 0))) zp9 G0F hG func142 rfl (by simp [ntmps142]) call142 ⟨_,_,_,_,joa 0⟩ ?_ h.closed ?_ (by simp [ntmps142]) (by omega) hbig ?_ ?_ ?_ ?_ ?_ ?_
 ·simpa using hids
 ·exact ⟨zai (by simp),by simp [zaa],by simp,by simp⟩
 ·intro C hC hC0 hY
  repeat' first|refine gwZ ?_|refine gwW ?_|fail
  exact ⟨trivial,rfl⟩
 ·intro k hk
  have h1:¬k=100000:=λe=>hk (hbig k (by omega))
  have h2:¬k=100008:=λe=>hk (hbig k (by omega))
  simp [h1,h2]
 ·simp [okT,zp9]
 ·simp [zp9]
 ·simp [zp9]
 ·intro C d hC hC0 hY
  refine zho ?_
  refine zde [] (by kernel_rfl) ?_;intro Q hQ hP;simp [hC,hY,hc,hpl]
  refine zcl (hp':=hp) h (λk hk=>?_) hG trivial ?_
  ·have:=hrs k hk
   simp [rst,hk,show ¬k=100000 by omega,show ¬k=100008 by omega]
  simp
  refine hP _ _ λyc=>?_
  simp only [zk0]
  have e:∀ k,(k<100\/k∈[100000,100008])->hpQ 0 k=upd (upd (rst hp rs) 100000 (some zB)) 100008 (some (eB 0)) k:=λk hk=>by
   rcases hk with hk|hk
   ·simp [hpQ,show ¬k=100000 by omega,show ¬k=100008 by omega,rst,hk,hG k hk]
   ·simp at hk;rcases hk with rfl|rfl<;>simp [hpQ]
  have er:rst (upd (upd (rst hp rs) 100000 (some zB)) 100008 (some (eB 0))) [100000,100008]=hpQ 0:=by rw [<-zfa e,zej]
  refine ⟨rfl,by simp [results142,zB,eB],λk hk=>rfl,(joa n).under e,λk hk=>?_,λk hk=>?_,?_⟩
  ·rw [er] at hk;unfold dom at hk |-
   by_cases h1:k=100000
   ·subst h1;simp
   ·by_cases h2:k=100008
    ·subst h2;simp
    ·simp only [hpQ,zaq,zaw,h1,h2,if_false] at hk
     have hk100:=zj0 hk
     simp [h1,h2,rst,hk100,hG k hk100];exact hk
  ·rw [er]
   simp [zaa] at hk
   rcases hk with rfl|rfl
   ·exact ⟨by simp [hpQ,dom],by omega,λhd=>hd (hbig _ (by omega))⟩
   ·exact ⟨by simp [hpQ,dom],by omega,λhd=>hd (hbig _ (by omega))⟩
  ·rw [er];exact λk b hk=>zq1 0 k b _ hk

def za1 (x:Int):Int:=if x<=0 then 0 else (Nat.log2 x.toNat:Int)+1
theorem zek {x:Int} (h:0<x):∃ k:Nat,za1 x=k+1/\2^k<=x/\x<2^(k+1):=by
 refine ⟨Nat.log2 x.toNat,by unfold za1;rw [if_neg (by omega)],?_,?_⟩
 ·have:=Nat.log2_self_le (n:=x.toNat) (by omega)
  have h2:((2^Nat.log2 x.toNat:Nat):Int)<=(x.toNat:Int):=by exact_mod_cast this
  rw [Int.toNat_of_nonneg (by omega)] at h2
  exact_mod_cast h2
 ·have:=Nat.lt_log2_self (n:=x.toNat)
  have h2:(x.toNat:Int)<((2^(Nat.log2 x.toNat+1):Nat):Int):=by exact_mod_cast this
  rw [Int.toNat_of_nonneg (by omega)] at h2
  exact_mod_cast h2
theorem z4j {x:Int} {k:Nat} (h1:2^k<=x) (h2:x<2^(k+1)):za1 x=k+1:=by
 have hp:(0:Int)<2^k:=Int.pow_pos (by omega)
 unfold za1
 rw [if_neg (by omega)]
 have:Nat.log2 x.toNat=k:=(Nat.log2_eq_iff (by omega)).2 ⟨by
  have:((2^k:Nat):Int)<=(x.toNat:Int):=by rw [Int.toNat_of_nonneg (by omega)];exact_mod_cast h1
  exact_mod_cast this,by
  have:(x.toNat:Int)<((2^(k+1):Nat):Int):=by rw [Int.toNat_of_nonneg (by omega)];exact_mod_cast h2
  exact_mod_cast this⟩
 rw [this]
theorem ze7 {x:Int} (j:Nat) (h:2^j<=x):za1 x=j+za1 (x / 2^j):=by
 have hp:(0:Int)<2^j:=Int.pow_pos (by omega)
 have h1:0<x / 2^j:=by
  have:=(Int.le_ediv_iff_mul_le hp (a:=1) (b:=x)).2 (by omega);omega
 obtain ⟨k,e,l1,l2⟩:=zek h1
 rw [e]
 have:=z4j (x:=x) (k:=j+k) (by
  have:=(Int.le_ediv_iff_mul_le hp).1 l1
  rw [Int.pow_add,Int.mul_comm];exact this) (by
  have:=(Int.ediv_lt_iff_lt_mul hp).1 l2
  rw [Nat.add_assoc,Int.pow_add,Int.mul_comm];exact this)
 rw [this];omega
theorem z3k {s:ByteArray} {m:Int} {C:Eff->Prop} (h0:0<=m) (h1:m<256) (ht:∀ k:Fin 256,(s[k.1]?).map (λb=>b.toNat)=some (if k.1=0 then 0 else Nat.log2 k.1+1)) (h:C (val (.int .u8 (za1 m)) [])):z61 s m C:=by
 have h2:=ht ⟨m.toNat,by omega⟩
 cases hb:s[m.toNat]? with
 | none=>simp [hb] at h2
 | some b =>
  simp only [hb,Option.map_some,Option.some.injEq] at h2
  rw [z91 h0 hb,h2]
  have:((if m.toNat=0 then 0 else Nat.log2 m.toNat+1:Nat):Int)=za1 m:=by
   unfold za1
   by_cases e:m<=0
   ·rw [if_pos e,if_pos (by omega)];rfl
   ·rw [if_neg e,if_neg (by omega)];rfl
  exact this▸h
theorem zes {x:Int} (h:x<256):0<=za1 x/\za1 x<=8:=by
 by_cases h0:0<x
 ·obtain ⟨k,e,l1,l2⟩:=zek h0
  rw [e]
  have:k<8:=Classical.byContradiction λhk=>by
   have:(2:Int)^8<=2^k:=by exact_mod_cast Nat.pow_le_pow_right (by omega) (by omega:8<=k)
   omega
  omega
 ·unfold za1;rw [if_pos (by omega)];omega
@[simp] theorem jo0 (z:Int):IntKind.u8.wrap z=z%256:=rfl
theorem zyp (x:Int) (h0:0<=x) (h1:x<18446744073709551616):Ret prog G0 203 #[.int .u64 x] (.int .i64 (za1 x)):=by
 refine zas G0F func203 rfl call203 rfl (by simp) (by simp [ntmps203]) ?_
 intro C hC hC0 hY
 have f32:∀ z:Int,z.fdiv 4294967296=z / 4294967296:=λz=>Int.fdiv_eq_ediv_of_nonneg z (by omega)
 have f16:∀ z:Int,z.fdiv 65536=z / 65536:=λz=>Int.fdiv_eq_ediv_of_nonneg z (by omega)
 have f8:∀ z:Int,z.fdiv 256=z / 256:=λz=>Int.fdiv_eq_ediv_of_nonneg z (by omega)
 have n32:4294967296<=x->za1 x=32+za1 (x / 4294967296):=ze7 32
 have n16:∀ y:Int,65536<=y->za1 y=16+za1 (y / 65536):=λy=>ze7 16
 have n8:∀ y:Int,256<=y->za1 y=8+za1 (y / 256):=λy=>ze7 8
 repeat' (first|refine gwA ?_|(refine gwX ?_;intro Q hQ hP;simp [hC,hY,f32,f16,f8];refine gwq hQ ?_;clear hQ hP Q)|refine gwC ?_ ?_<;>intro hb<;>try (cases hb;done))
 all_goals
  rename_i c1 c2
  simp at c1 c2 hb
  refine zde [] (by kernel_rfl) ?_;intro Q hQ hP;simp [hC,hY]
  refine z3k (by omega) (by omega) (by decide +kernel) ?_
  simp
  refine hQ _ _ _ _ ?_
  repeat' (first|refine gwA ?_|(refine gwX ?_;intro Q hQ hP;simp [hC,hY];refine gwq hQ ?_;clear hQ hP Q)|refine gwC ?_ ?_<;>intro hb<;>try (cases hb;done))
  refine ⟨.inr trivial,?_⟩
  simp [results203]
  rw [Int.emod_eq_of_lt (by omega) (by omega)]
  have k2:=n16 x
  have k3:=n16 (x / 4294967296)
  have k4:=n8 x
  have k5:=n8 (x / 4294967296)
  have k6:=n8 (x / 65536)
  have k7:=n8 (x / 4294967296 / 65536)
  have b1:=zes (x:=x)
  have b2:=zes (x:=x / 256)
  have b3:=zes (x:=x / 65536)
  have b4:=zes (x:=x / 65536 / 256)
  have b5:=zes (x:=x / 4294967296)
  have b6:=zes (x:=x / 4294967296 / 256)
  have b7:=zes (x:=x / 4294967296 / 65536)
  have b8:=zes (x:=x / 4294967296 / 65536 / 256)
  rw [bm (by omega) (by omega)]
  try omega
@[simp] theorem jrn (x:Int) (h0:0<=x) (h1:x<18446744073709551616) (K:Value->Prop):za2 prog G0 203 #[.int .u64 x] K↔K (.int .i64 (za1 x)):=zac G0W (by kernel_rfl) (zyp x h0 h1)
def uz (z:Int):Int:=z%115792089237316195423570985008687907853269984665640564039457584007913129639936
theorem zer {x:Int} (j:Nat) (h:x<2^j):0<=za1 x/\za1 x<=j:=by
 by_cases h0:0<x
 ·obtain ⟨k,e,l1,l2⟩:=zek h0
  rw [e]
  have:k<j:=Classical.byContradiction λhk=>by
   have:(2:Int)^j<=2^k:=by exact_mod_cast Nat.pow_le_pow_right (by omega) (by omega:j<=k)
   omega
  omega
 ·unfold za1;rw [if_pos (by omega)];omega
theorem zfj (z:Int) (k:Nat):0<=za1 (wi z k)/\za1 (wi z k)<=64:=zer 64 (by have:=zbw z k;omega)
theorem z0p (z:Int) (h:¬wi z 3=0):za1 (uz z)=192+za1 (wi z 3):=by
 have h0:=zbq z 3
 have e:uz z / 2^192=wi z 3:=by unfold uz wi;omega
 have:=ze7 (x:=uz z) 192 (by unfold wi at h h0;unfold uz;omega)
 rw [this,e];rfl
theorem z0o (z:Int) (h3:wi z 3=0) (h:¬wi z 2=0):za1 (uz z)=128+za1 (wi z 2):=by
 have h0:=zbq z 2
 have e:uz z / 2^128=wi z 2:=by unfold wi at h3;unfold uz wi;omega
 have:=ze7 (x:=uz z) 128 (by unfold wi at h h0;unfold uz;omega)
 rw [this,e];rfl
theorem z0n (z:Int) (h3:wi z 3=0) (h2:wi z 2=0) (h:¬wi z 1=0):za1 (uz z)=64+za1 (wi z 1):=by
 have h0:=zbq z 1
 have e:uz z / 2^64=wi z 1:=by unfold wi at h3 h2;unfold uz wi;omega
 have:=ze7 (x:=uz z) 64 (by unfold wi at h h0;unfold uz;omega)
 rw [this,e];rfl
theorem z0m (z:Int) (h3:wi z 3=0) (h2:wi z 2=0) (h1:wi z 1=0):uz z=wi z 0:=by
 unfold wi at h3 h2 h1;unfold uz wi;omega
theorem z7f (n:Int):zuf prog G0 191 #[.bool true,.int .i64 n] (.ret (.tuple #[])):=by
 refine zks G0F func191 rfl call191 (λv h=>by cases h;simp) (by simp) (by simp [ntmps191]) ?_
 intro C hC hC0 hY
 repeat' (first|refine gwA ?_|(refine gwX ?_;intro Q hQ hP;simp [hC,hY];(first|refine gwq hQ ?_|refine hP _ _ (by kernel_rfl) λ_=>?_);clear hQ hP Q)|refine gwC ?_ ?_<;>intro hb<;>try (cases hb;done))
 exact ⟨.inl trivial,by simp [results191]⟩
theorem jil (z:Int):zuf prog G0 192 #[wd z,.bool false] (.ret (wd z)):=by
 refine zks G0F func192 rfl call192 (λv h=>by cases h;simp) (by simp) (by simp [ntmps192]) ?_
 intro C hC hC0 hY
 repeat' (first|refine gwA ?_|((first|refine gwR [1000191] ?_|refine gwD [1000191] ?_);intro Q hQ hP;(repeat first|simp [hC,hY]|refine zmu (z7f 20) ?_);(first|refine gwq hQ ?_|refine hP _ _ (by kernel_rfl) λ_=>?_);clear hQ hP Q)|refine gwC ?_ ?_<;>intro hb<;>try (cases hb;done))
 exact ⟨.inr trivial,by simp [results192]⟩
theorem z49 (z:Int):Ret prog G0 209 #[wd z] (.int .i64 (za1 (uz z))):=by
 refine zas G0F func209 rfl call209 rfl (by simp) (by simp [ntmps209]) ?_
 intro C hC hC0 hY
 have b0:=zfj z 0
 have b1:=zfj z 1
 have b2:=zfj z 2
 have b3:=zfj z 3
 have k3:=z0p z
 have k2:=z0o z
 have k1:=z0n z
 have k0:=z0m z
 have m3:Int.bmod (192+za1 (wi z 3)) 18446744073709551616=192+za1 (wi z 3):=bm (by omega) (by omega)
 have m2:Int.bmod (128+za1 (wi z 2)) 18446744073709551616=128+za1 (wi z 2):=bm (by omega) (by omega)
 have m1:Int.bmod (64+za1 (wi z 1)) 18446744073709551616=64+za1 (wi z 1):=bm (by omega) (by omega)
 repeat' (first|refine zal ?_|refine zat ?_|refine gwA ?_|(refine gwX ?_;intro Q hQ hP;simp [hC,hY,zbq,zbw,m1,m2,m3];(first|refine gwq hQ ?_|refine hP _ _ (by kernel_rfl) λ_=>?_);clear hQ hP Q)|refine gwC ?_ ?_<;>intro hb<;>try (cases hb;done))
 all_goals
  refine ⟨.inr trivial,?_⟩
  simp [results209]
  simp_all
@[simp] theorem jrw (z:Int) (K:Value->Prop):za2 prog G0 209 #[Value.agg #[.int .u64 (wi (z) 0),.int .u64 (wi (z) 1),.int .u64 (wi (z) 2),.int .u64 (wi (z) 3)]] K↔K (.int .i64 (za1 (uz z))):=zac G0W (by kernel_rfl) (z49 z)

theorem emm (a p m:Int):a%m*p%m=a*p%m:=by rw [Int.mul_emod,Int.emod_emod_of_dvd _ (Int.dvd_refl _),<-Int.mul_emod]
theorem z7k {x y:Int} {R:Nat} (hx0:0<=x) (hx:x<18446744073709551616) (hd:x%2^R=0) (hy0:0<=y) (hy:y<2^R) (hR:R<=64):zdy .or .u64 x y=x+y:=by
 have hp:(2:Int)^R<=2^64:=by exact_mod_cast Nat.pow_le_pow_right (by omega) (by omega:R<=64)
 have e:zdy .or .u64 x y=((BitVec.ofInt 64 x ||| BitVec.ofInt 64 y:BitVec 64).toNat:Int)%18446744073709551616:=by
  unfold zdy
  show IntKind.u64.wrap ((BitVec.ofInt 64 x ||| BitVec.ofInt 64 y:BitVec 64).toNat:Int)=_
  rw [zny]
 have hx':(BitVec.ofInt 64 x).toNat=x.toNat:=by
  rw [BitVec.toNat_ofInt];congr 1;exact Int.emod_eq_of_lt hx0 hx
 have hy':(BitVec.ofInt 64 y).toNat=y.toNat:=by
  rw [BitVec.toNat_ofInt];congr 1;exact Int.emod_eq_of_lt hy0 (by omega)
 obtain ⟨X,rfl⟩:=Int.eq_ofNat_of_zero_le hx0
 obtain ⟨Y,rfl⟩:=Int.eq_ofNat_of_zero_le hy0
 have hd':X%2^R=0:=by exact_mod_cast hd
 have hY:Y<2^R:=by exact_mod_cast hy
 have hX:X=(X / 2^R) <<< R:=by rw [Nat.shiftLeft_eq];exact (Nat.div_mul_cancel (Nat.dvd_of_mod_eq_zero hd')).symm
 have hor:X ||| Y=X+Y:=by
  rw [hX];exact (Nat.shiftLeft_add_eq_or_of_lt hY _).symm
 have hp':2^R<=2^64:=Nat.pow_le_pow_right (by omega) (by omega:R<=64)
 have hb:X+Y<18446744073709551616:=by
  rw [<-hor];exact Nat.or_lt_two_pow (n:=64) (by omega) (by omega)
 rw [e,BitVec.toNat_or,hx',hy']
 simp only [Int.toNat_natCast,hor]
 omega
theorem z0v {R:Nat} (hR:R<64):(2:Int)^R*2^(64 - R)=18446744073709551616:=by
 rw [<-Int.pow_add,show R+(64 - R)=64 by omega];rfl
theorem jcb (z:Int) (R:Nat):wi (z*2^R) 0=(wi z 0*2^R)%18446744073709551616:=by
 simp only [wi,Nat.mul_zero,Int.pow_zero,Int.ediv_one]
 rw [emm]
theorem jcc (z:Int) (R:Nat) (hR:R<64) (k:Nat):wi (z*2^R) (k+1)=(wi z (k+1)*2^R)%18446744073709551616+wi z k / 2^(64 - R)/\0<=wi z k / 2^(64 - R)/\wi z k / 2^(64 - R)<2^R/\(wi z (k+1)*2^R)%18446744073709551616%2^R=0:=by
 have hM:=z0v hR
 have hPp:(0:Int)<2^R:=Int.pow_pos (by omega)
 have hSp:(0:Int)<2^(64 - R):=Int.pow_pos (by omega)
 have e1:(2:Int)^(64*(k+1))=2^(64*k)*18446744073709551616:=by
  rw [show 64*(k+1)=64*k+64 by omega,Int.pow_add];rfl
 have hKp:(0:Int)<2^(64*k):=Int.pow_pos (by omega)
 unfold wi
 rw [e1]
 generalize (2:Int)^R=P at *
 generalize (2:Int)^(64 - R)=S at *
 generalize (2:Int)^(64*k)=K at *
 have eu:z*P / (K*18446744073709551616)=z / K / S:=by
  rw [<-hM,show K*(P*S)=(K*S)*P by rw [Int.mul_comm P S,Int.mul_assoc],Int.mul_ediv_mul_of_pos_left _ _ hPp,Int.ediv_ediv_of_nonneg (by omega)]
 rw [eu,<-Int.ediv_ediv_of_nonneg (Int.le_of_lt hKp)]
 generalize z / K=u at *
 have hdvd:P ∣ 18446744073709551616:=⟨S,hM.symm⟩
 have h1:0<=u%18446744073709551616 / S:=Int.ediv_nonneg (Int.emod_nonneg _ (by omega)) (by omega)
 have h2:u%18446744073709551616 / S<P:=by
  have:=Int.emod_lt_of_pos u (b:=18446744073709551616) (by omega)
  exact (Int.ediv_lt_iff_lt_mul hSp).2 (by rw [hM];exact this)
 have h3:(u / 18446744073709551616%18446744073709551616*P)%18446744073709551616%P=0:=by
  rw [Int.emod_emod_of_dvd _ hdvd,Int.mul_emod_left]
 refine ⟨?_,h1,h2,h3⟩
 have e2:u / S=(u / 18446744073709551616)*P+u%18446744073709551616 / S:=by
  have:=Int.emod_add_mul_ediv u 18446744073709551616
  have h4:u=u%18446744073709551616+S*(u / 18446744073709551616*P):=by
   have:S*(u / 18446744073709551616*P)=18446744073709551616*(u / 18446744073709551616):=by
    rw [<-hM,Int.mul_comm P S,Int.mul_assoc,Int.mul_comm _ P]
   omega
  conv=>lhs;rw [h4]
  rw [Int.add_mul_ediv_left _ _ (by omega)]
  omega
 rw [e2,emm]
 have h5:(u / 18446744073709551616*P)%18446744073709551616%P=0:=by rw [Int.emod_emod_of_dvd _ hdvd,Int.mul_emod_left]
 have h6:=Int.emod_nonneg (u / 18446744073709551616*P) (b:=18446744073709551616) (by omega)
 have h7:=Int.emod_lt_of_pos (u / 18446744073709551616*P) (b:=18446744073709551616) (by omega)
 have h8:(u / 18446744073709551616*P)%18446744073709551616<=18446744073709551616 - P:=by
  obtain ⟨c,hc⟩:=Int.dvd_of_emod_eq_zero h5
  rw [hc] at h7 |-
  rw [<-hM] at h7 |-
  have:c<S:=Int.lt_of_mul_lt_mul_left h7 (by omega)
  have:P*c<=P*(S - 1):=Int.mul_le_mul_of_nonneg_left (by omega) (by omega)
  rw [Int.mul_sub,Int.mul_one] at this
  exact this
 rw [Int.add_emod,Int.emod_eq_of_lt h1 (by omega),Int.emod_eq_of_lt (by omega) (by omega)]
theorem jow (z:Int) (q i R:Nat) (h:q<=i):wi (z*2^(64*q+R)) i=wi (z*2^R) (i - q):=by
 unfold wi
 obtain ⟨j,rfl⟩:∃ j,i=q+j:=⟨i - q,by omega⟩
 rw [show q+j - q=j by omega,Int.pow_add,show z*(2^(64*q)*2^R)=(z*2^R)*2^(64*q) by rw [Int.mul_comm (2^(64*q)),Int.mul_assoc],show 64*(q+j)=64*j+64*q by omega,Int.pow_add,
  Int.mul_ediv_mul_of_pos_left _ _ (Int.pow_pos (by omega))]
theorem jos (z:Int) (q i R:Nat) (h:i<q):wi (z*2^(64*q+R)) i=0:=by
 unfold wi
 obtain ⟨j,rfl⟩:∃ j,q=i+1+j:=⟨q - (i+1),by omega⟩
 rw [show 64*(i+1+j)+R=64*i+(64+(64*j+R)) by omega,Int.pow_add,Int.pow_add,show z*(2^(64*i)*(2^64*2^(64*j+R)))=(z*2^(64*j+R)*2^64)*2^(64*i) by
  rw [Int.mul_comm (2^(64*i)),Int.mul_comm (2^64) (2^(64*j+R))];simp only [Int.mul_assoc],Int.mul_ediv_cancel _ (by have:(0:Int)<2^(64*i):=Int.pow_pos (by omega);omega)]
 exact Int.mul_emod_left _ _
theorem z0g (z:Int) (q R:Nat) (hq:q<4) (hR:R<64):Ret prog G0 210 #[wd z,.int .i64 (64*q+R)] (wd (z*2^(64*q+R))):=by
 refine zas G0F func210 rfl call210 (by simp) (by simp) (by simp [ntmps210]) ?_
 intro C hC hC0 hY
 have t1:(64*(q:Int)+R).tdiv 64=q:=by rw [Int.tdiv_eq_ediv_of_nonneg (by omega)];omega
 have t2:(64*(q:Int)+R).tmod 64=R:=by rw [Int.tmod_eq_emod_of_nonneg (by omega)];omega
 have m1:min R 64=R:=by omega
 have m2:Int.bmod (64 - (R:Int)) 18446744073709551616=64 - R:=bm (by omega) (by omega)
 have m3:(64 - (R:Int)).toNat=64 - R:=by omega
 have m4:min (64 - R) 64=64 - R:=by omega
 have m5:(R:Int)<=64:=by omega
 have m6:(0:Int)<=64 - R:=by omega
 have fd:∀ x:Int,x.fdiv (2^(64 - R))=x / 2^(64 - R):=λx=>Int.fdiv_eq_ediv_of_nonneg x (Int.le_of_lt (Int.pow_pos (by omega)))
 have OR:∀ k,zdy .or .u64 ((wi z (k+1)*2^R)%18446744073709551616) (wi z k / 2^(64 - R))=wi (z*2^R) (k+1):=λk=>by
  obtain ⟨e,h1,h2,h3⟩:=jcc z R hR k
  rw [z7k (R:=R) (Int.emod_nonneg _ (by omega)) (Int.emod_lt_of_pos _ (by omega)) h3 h1 h2 (by omega),e]
 have o0:=OR 0
 have o1:=OR 1
 have o2:=OR 2
 have s0:=jcb z R
 have:q=0\/q=1\/q=2\/q=3:=by omega
 have up:=jow z
 have dn:=jos z
 rcases this with rfl|rfl|rfl|rfl
 ·simp at t1 t2
  repeat' first|refine zal ?_|refine zat ?_|refine gwZ ?_|(refine gwX ?_;intro Q hQ _;simp [hC,hY,t1,t2,m1,m2,m3,m4,m5,m6,fd,zbq,zbw];refine gwq hQ ?_)|fail
  refine ⟨.inr trivial,?_⟩
  simp [results210,o0,o1,o2,s0]
 ·simp at t1 t2
  repeat' first|refine zal ?_|refine zat ?_|refine gwZ ?_|(refine gwX ?_;intro Q hQ _;simp [hC,hY,t1,t2,m1,m2,m3,m4,m5,m6,fd,zbq,zbw];refine gwq hQ ?_)|fail
  refine ⟨.inr trivial,?_⟩
  simp [results210,o0,o1,o2,s0]
  exact ⟨(dn 1 0 R (by omega)).symm,((up 1 1 R (by omega)).trans s0).symm,(up 1 2 R (by omega)).symm,(up 1 3 R (by omega)).symm⟩
 ·simp at t1 t2
  repeat' first|refine zal ?_|refine zat ?_|refine gwZ ?_|(refine gwX ?_;intro Q hQ _;simp [hC,hY,t1,t2,m1,m2,m3,m4,m5,m6,fd,zbq,zbw];refine gwq hQ ?_)|fail
  refine ⟨.inr trivial,?_⟩
  simp [results210,o0,o1,o2,s0]
  exact ⟨(dn 2 0 R (by omega)).symm,(dn 2 1 R (by omega)).symm,((up 2 2 R (by omega)).trans s0).symm,(up 2 3 R (by omega)).symm⟩
 ·simp at t1 t2
  repeat' first|refine zal ?_|refine zat ?_|refine gwZ ?_|(refine gwX ?_;intro Q hQ _;simp [hC,hY,t1,t2,m1,m2,m3,m4,m5,m6,fd,zbq,zbw];refine gwq hQ ?_)|fail
  refine ⟨.inr trivial,?_⟩
  simp [results210,o0,o1,o2,s0]
  exact ⟨(dn 3 0 R (by omega)).symm,(dn 3 1 R (by omega)).symm,(dn 3 2 R (by omega)).symm,((up 3 3 R (by omega)).trans s0).symm⟩
theorem jbv (z n:Int) (h0:0<=n) (h1:n<256):Ret prog G0 210 #[wd z,.int .i64 n] (wd (z*2^n.toNat)):=by
 have h:=z0g z (n / 64).toNat (n%64).toNat (by omega) (by omega)
 have e:64*(n / 64).toNat+(n%64).toNat=n.toNat:=by omega
 have e':(64*((n / 64).toNat:Int)+((n%64).toNat:Int))=n:=by omega
 rw [e,e'] at h
 exact h
@[simp] theorem jqi (z n:Int) (h0:0<=n) (h1:n<256) (K:Value->Prop):za2 prog G0 210 #[Value.agg #[.int .u64 (wi (z) 0),.int .u64 (wi (z) 1),.int .u64 (wi (z) 2),.int .u64 (wi (z) 3)],.int .i64 n] K↔K (wd (z*2^n.toNat)):=zac G0W (by kernel_rfl) (jbv z n h0 h1)

theorem zwa (a b:Int) (k:Nat) (h100:100<=k):Fun prog G0 202 #[wd a,wd b] G0 [] (.new (.func (.func 208) #[] #[.pointer (some ⟨k,0,none⟩),.pointer (some ⟨k+1,0,none⟩)]) [(k,wb a),(k+1,wb b)]):=by
 have e0:rst G0 []=G0:=zku G0F []
 refine zth (B:=200) (λj=>if j=k then 200 else if j=k+1 then 208 else j) G0F (λ_ _=>rfl) func202 rfl call202 (by simp [zap,zax,zah,zaj]) (by rw [e0];exact zeg _) ?_ (by simp [ntmps202]) (by omega) (by rw [e0];exact λx hx=>zfr x (by omega)) (λj hj=>?_) ?_ ?_ ?_ ?_
 ·refine ⟨by simp [zap,zax,zah,zaj,zc7,zaa],by simp [zaa];omega,λq b c h1 h2=>?_⟩
  simp at h1 h2
  rcases h1 with ⟨e1,rfl⟩|⟨e1,rfl⟩<;>rcases h2 with ⟨e2,rfl⟩|⟨e2,rfl⟩<;>first|rfl|omega
 ·rw [e0] at hj;have:=zj0 hj;rw [if_neg (by omega),if_neg (by omega)]
 ·simp [e0,dom]
 ·simp
 ·simp [wb,zad,zah,zaj]
 ·intro C hC hC0 hY
  rw [e0]
  repeat' first|refine gwZ ?_|refine gwW ?_|fail
  refine ⟨.inr trivial,?_⟩
  simp [results202,ren,zay,zak,zan,wb]
  intro j hj
  have:=zj0 hj
  rw [if_neg (by omega),if_neg (by omega)]
theorem z5i (z:Int):0<=uz z/\uz z<2^256:=by unfold uz;omega
def shN (a b:Int):Int:=za1 (uz a) - za1 (uz b)
theorem z7u (a b:Int):-256<=shN a b/\shN a b<=256:=by
 have h1:=zer 256 (z5i a).2
 have h2:=zer 256 (z5i b).2
 unfold shN;omega
def z7v (b N:Int):List (Array Value):=(List.range (N+1).toNat).map λ(i:Nat)=>#[.int .i64 (N - (i:Int)),wd (b*2^(N - (i:Int)).toNat)]
theorem zno (b N:Int):(z7v b N).length=(N+1).toNat:=by simp [z7v]
theorem z0f (b N:Int) (i:Nat) (h:i<(N+1).toNat):(z7v b N)[i]? = some #[.int .i64 (N - i),wd (b*2^(N - i).toNat)]:=by
 simp [z7v,h]
def jd0 (a b N:Int) (l i:Nat):GS :=
 ⟨tsL [(0,.func (.yield l) #[] #[]),(1,.pointer (some ⟨100,0,none⟩)),(2,.pointer (some ⟨101,0,none⟩)),(4,.int .i64 (N - i))],wHp a b,300,i⟩
theorem z0h (a b:Int) (hlt:shN a b<256):zhp prog G0 208 #[.pointer (some ⟨100,0,none⟩),.pointer (some ⟨101,0,none⟩)] (wHp a b) [100,101] (z7v b (shN a b)):=by
 have e0:rst (wHp a b) [100,101]=wHp a b:=zf3 G0F (by simp)
 refine zq3 (B:=200) (v:=.tuple #[]) G0F (λk hk=>zbc (by simp) hk) func208 rfl call208 ?_ ?_ (by simp [ntmps208]) (by omega) ?_ ?_
 ·rw [e0];simp [zap,zax,zah,zaj,dom,wHp]
 ·rw [e0]
  intro k c hk
  rcases za5 hk with h|h
  ·simp at h
   rcases h with ⟨_,rfl⟩|⟨_,rfl⟩<;>simp [wb,zad,zah,zaj]
  ·exact Blk.flat_ids ((G0F k c h).2)
 ·rw [e0]
  intro x hx
  have h1:¬x=100:=by omega
  have h2:¬x=101:=by omega
  have h3:100<=x:=by omega
  simp [wHp,h1,h2,h3]
 ·intro C l stop hC hC0 hY
  rw [e0] at hC0 |-
  have hbd:=z7u a b
  have hN:Int.bmod (za1 (uz a) - za1 (uz b)) 18446744073709551616=shN a b:=bm (by unfold shN at hbd;omega) (by unfold shN at hbd;omega)
  have hlen:=zno b (shN a b)
  generalize hn:shN a b=N at *
  generalize hxs:z7v b N=xs at *
  refine ze4 0 (λm s=>∃ i,i<=stop/\i+m=xs.length/\s=jd0 a b N l i) rfl ?_ ?_
  ·rintro m _ ⟨i,hi,him,rfl⟩
   have hi256:(i:Int)<=257:=by omega
   by_cases hl:i<xs.length
   ·have g1:(i:Int)<=N:=by omega
    have g2:N - (i:Int)<256:=by omega
    have g4:Int.bmod (N - (i:Int) - 1) 18446744073709551616=N - ((i+1:Nat):Int):=by rw [bm (by omega) (by omega)];omega
    have hx:xs[i]? = some #[.int .i64 (N - (i:Int)),wd (b*2^(N - (i:Int)).toNat)]:=by
     rw [<-hxs];exact z0f b N i (by omega)
    simp only [jca] at hx
    by_cases hs:i=stop
    ·have q1:(i != stop)=false:=by simp [hs]
     unfold jd0
     repeat' first|refine gwZ ?_|(refine gwX ?_;intro Q hQ _;simp [hC,hY,wHp,wb,hi,g1,g2,hx,q1];refine gwq hQ ?_)|fail
     refine ⟨.inl trivial,by simp [results208],?_⟩
     show i+1=_
     omega
    ·have q1:(i != stop)=true:=by simp [hs]
     unfold jd0
     repeat' first|refine gwZ ?_|(refine gwX ?_;intro Q hQ _;simp [hC,hY,wHp,wb,hi,g1,g2,g4,hx,q1];refine gwq hQ ?_)|fail
     refine ⟨rfl,jd0 a b N l (i+1),xs.length - (i+1),za3 _ 300 hC G0F (m:=[(100,wb a),(101,wb b)]) (m0:=[(100,wb a),(101,wb b)]) hC0 (by omega) ?_ ?_ ?_,⟨i+1,by omega,by omega,rfl⟩,by omega⟩
     ·simp [dom]
     ·simp [wb]
     ·simp [wb]
   ·have g1:¬(i:Int)<=N:=by omega
    unfold jd0
    repeat' first|refine gwZ ?_|(refine gwX ?_;intro Q hQ _;simp [hC,hY,wHp,wb,g1];refine gwq hQ ?_)|fail
    refine ⟨.inl trivial,by simp [results208],?_⟩
    show i=_
    omega
  ·intro pass
   refine zho ?_
   (refine gwX ?_;intro Q hQ hP;simp [hC,hY,wHp,wb,hN];refine gwq hQ ?_;clear hQ hP Q)
   simp only [wN,wM,Nat.reduceAdd,Nat.reduceMul]
   refine zho (zsd ?_)
   simp only [zcj]
   refine pass xs.length (jd0 a b N l 0) _ ?_ ⟨0,by omega,by omega,rfl⟩
   refine za3 _ 300 hC G0F (m:=[(100,wb a),(101,wb b)]) (m0:=[(100,wb a),(101,wb b)]) hC0 (by omega) ?_ ?_ ?_
   ·simp [dom]
   ·simp [wb]
   ·simp [wb]
end Go.Gy
namespace Go.Gy
open Go Go.RowKit Go.Proofs

theorem zd6 {z:Int} (h0:-57896044618658097711785492504343953926634992332820282019728792003956564819968<=z) (h1:z<57896044618658097711785492504343953926634992332820282019728792003956564819968):sz z=z:=by
 unfold sz;rw [Int.bmod_def];split<;>omega
theorem zg5 {z:Int} (h0:0<=z) (h1:z<57896044618658097711785492504343953926634992332820282019728792003956564819968):sz z=z:=zd6 (Int.le_trans (by decide) h0) h1
theorem z2v (a M:Int) (hM:0<M):(M<=a%(2*M)->a%M=a%(2*M) - M/\a / M=2*(a / (2*M))+1)/\(a%(2*M)<M->a%M=a%(2*M)/\a / M=2*(a / (2*M))):=by
 have h1:=Int.emod_add_mul_ediv a (2*M)
 have h2:=Int.emod_nonneg a (b:=2*M) (by omega)
 have h3:=Int.emod_lt_of_pos a (b:=2*M) (by omega)
 have e:2*M*(a / (2*M))=M*(2*(a / (2*M))):=by rw [Int.mul_comm 2 M,Int.mul_assoc]
 rw [e] at h1
 generalize a%(2*M)=r at *
 generalize 2*(a / (2*M))=k at *
 constructor
 ·intro h
  have ea:a=(r - M)+M*(k+1):=by rw [Int.mul_add];omega
  constructor
  ·rw [ea,Int.add_mul_emod_self_left,Int.emod_eq_of_lt (by omega) (by omega)]
  ·rw [ea,Int.add_mul_ediv_left _ _ (by omega),Int.ediv_eq_zero_of_lt (by omega) (by omega)];omega
 ·intro h
  have ea:a=r+M*k:=by omega
  constructor
  ·rw [ea,Int.add_mul_emod_self_left,Int.emod_eq_of_lt (by omega) (by omega)]
  ·rw [ea,Int.add_mul_ediv_left _ _ (by omega),Int.ediv_eq_zero_of_lt (by omega) (by omega)];omega
theorem zbb (k:Nat):(0:Int)<2^k:=Int.pow_pos (by omega)
theorem z72 (c:Int) (t r:Nat) (hr:r<64):zdy .or .u64 (wi (c*2^(64*t+r+1)) t) (2^r)=wi (c*2^(64*t+r+1)+2^(64*t+r)) t:=by
 have e1:c*2^(64*t+r+1) / 2^(64*t)=c*2^(r+1):=by
  rw [show 64*t+r+1=(r+1)+64*t by omega,Int.pow_add,<-Int.mul_assoc,Int.mul_ediv_cancel _ (by have:=zbb (64*t);omega)]
 have e2:(c*2^(64*t+r+1)+2^(64*t+r)) / 2^(64*t)=c*2^(r+1)+2^r:=by
  have x1:(2:Int)^(64*t+r+1)=2^(r+1)*2^(64*t):=by rw [<-Int.pow_add];congr 1;omega
  have x2:(2:Int)^(64*t+r)=2^r*2^(64*t):=by rw [<-Int.pow_add];congr 1;omega
  rw [x1,x2,<-Int.mul_assoc,<-Int.add_mul,Int.mul_ediv_cancel _ (by have:=zbb (64*t);omega)]
 have hM:(18446744073709551616:Int)=2^(63 - r)*2^(r+1):=by rw [<-Int.pow_add,show 63 - r+(r+1)=64 by omega];rfl
 have hdvd:(2:Int)^(r+1) ∣ 18446744073709551616:=⟨2^(63 - r),by rw [hM,Int.mul_comm]⟩
 have hp:=zbb r
 have hp1:(2:Int)^(r+1)=2*2^r:=by rw [Int.pow_succ,Int.mul_comm]
 have h5:(c*2^(r+1))%18446744073709551616%2^(r+1)=0:=by rw [Int.emod_emod_of_dvd _ hdvd,Int.mul_emod_left]
 have h6:=Int.emod_nonneg (c*2^(r+1)) (b:=18446744073709551616) (by omega)
 have h7:=Int.emod_lt_of_pos (c*2^(r+1)) (b:=18446744073709551616) (by omega)
 have h8:(c*2^(r+1))%18446744073709551616<=18446744073709551616 - 2^(r+1):=by
  obtain ⟨d,hd⟩:=Int.dvd_of_emod_eq_zero h5
  rw [hd] at h7 |-
  have hs:=zbb (63 - r)
  have hq:=zbb (r+1)
  rw [hM] at h7 |-
  generalize (2:Int)^(r+1)=P at *
  generalize (2:Int)^(63 - r)=S at *
  rw [Int.mul_comm S P] at h7 |-
  have:d<S:=Int.lt_of_mul_lt_mul_left h7 (by omega)
  have:P*d<=P*(S - 1):=Int.mul_le_mul_of_nonneg_left (by omega) (by omega)
  rw [Int.mul_sub,Int.mul_one] at this
  exact this
 unfold wi
 rw [e1,e2,z7k (R:=r+1) h6 h7 h5 (by omega) (by omega) (by omega),Int.add_emod (c*2^(r+1)),Int.emod_eq_of_lt (a:=2^r) (by omega) (by omega),Int.emod_eq_of_lt (a:=c*2^(r+1)%18446744073709551616+2^r) (by omega) (by omega)]
theorem znw (c:Int) (t r j:Nat) (hr:r<64) (h:j≠t):wi (c*2^(64*t+r+1)+2^(64*t+r)) j=wi (c*2^(64*t+r+1)) j:=by
 unfold wi
 by_cases hj:j<t
 ·obtain ⟨m,rfl⟩:∃ m,t=j+1+m:=⟨t - (j+1),by omega⟩
  have e:(2:Int)^(64*(j+1+m)+r)=(2^(64*m+r)*18446744073709551616)*2^(64*j):=by
   rw [show 64*(j+1+m)+r=64*m+r+64+64*j by omega,Int.pow_add,Int.pow_add];rfl
  rw [Int.pow_succ,e,show c*(2^(64*m+r)*18446744073709551616*2^(64*j)*2)=(c*2*2^(64*m+r)*18446744073709551616)*2^(64*j) by
   simp only [Int.mul_assoc,Int.mul_comm,Int.mul_left_comm],<-Int.add_mul,Int.mul_ediv_cancel _ (by have:=zbb (64*j);omega),Int.mul_ediv_cancel _ (by have:=zbb (64*j);omega),<-Int.add_mul,Int.mul_emod_left,Int.mul_emod_left]
 ·obtain ⟨m,rfl⟩:∃ m,j=t+1+m:=⟨j - (t+1),by omega⟩
  have e:(2:Int)^(64*(t+1+m))=2^(64*t+r+1)*2^(64*m+(63 - r)):=by
   rw [<-Int.pow_add];congr 1;omega
  have hp:=zbb (64*t+r)
  have hq:(2:Int)^(64*t+r+1)=2*2^(64*t+r):=by rw [Int.pow_succ,Int.mul_comm]
  have hc:(c*2^(64*t+r+1)+2^(64*t+r)) / 2^(64*t+r+1)=c:=by
   rw [Int.add_comm,Int.add_mul_ediv_right _ _ (by omega),Int.ediv_eq_zero_of_lt (by omega) (by omega)];omega
  rw [e,<-Int.ediv_ediv_of_nonneg (Int.le_of_lt (zbb _)),<-Int.ediv_ediv_of_nonneg (Int.le_of_lt (zbb _)),hc,Int.mul_ediv_cancel _ (by omega)]
def rA (a b:Int) (k:Nat):Int:=a%(b*2^k)
def qA (a b:Int) (k:Nat):Int:=a / (b*2^k)*2^k
theorem z86 (a b:Int) (hb:0<b) (k:Nat):(b*2^k<=rA a b (k+1)->rA a b k=rA a b (k+1) - b*2^k/\qA a b k=qA a b (k+1)+2^k)/\(rA a b (k+1)<b*2^k->rA a b k=rA a b (k+1)/\qA a b k=qA a b (k+1)):=by
 have hp:=zbb k
 have e:b*2^(k+1)=2*(b*2^k):=by rw [Int.pow_succ,<-Int.mul_assoc,Int.mul_comm]
 have e2:∀ x:Int,x*2^(k+1)=2*x*2^k:=λx=>by rw [Int.pow_succ,Int.mul_comm (2^k),<-Int.mul_assoc,Int.mul_comm x 2]
 have h:=z2v a (b*2^k) (Int.mul_pos hb hp)
 unfold rA qA
 rw [e,e2]
 refine ⟨λh1=>?_,λh1=>?_⟩
 ·obtain ⟨h2,h3⟩:=h.1 h1
  exact ⟨h2,by rw [h3,Int.add_mul,Int.one_mul]⟩
 ·obtain ⟨h2,h3⟩:=h.2 h1
  exact ⟨h2,by rw [h3]⟩
theorem je3 (a b:Int):rA a b 0=a%b/\qA a b 0=a / b:=by simp [rA,qA]
theorem z2s (a b:Int) (k:Nat) (h0:0<=a) (h:a<b*2^k):rA a b k=a/\qA a b k=0:=by
 unfold rA qA
 rw [Int.emod_eq_of_lt h0 h,Int.ediv_eq_zero_of_lt h0 h]
 simp
theorem jif (a b:Int) (ha0:0<=a) (hb0:0<b) (ha:a<2^256) (hb:b<2^256):a<b*2^(shN a b+1).toNat/\(0<=shN a b->b*2^(shN a b).toNat<2^(za1 a).toNat):=by
 have ea:uz a=a:=by unfold uz;omega
 have eb:uz b=b:=by unfold uz;omega
 unfold shN
 rw [ea,eb]
 obtain ⟨j,hj,j1,j2⟩:=zek hb0
 by_cases h0:a=0
 ·subst h0
  have e0:za1 0=0:=rfl
  rw [e0,hj]
  exact ⟨Int.mul_pos hb0 (zbb _),λh=>by omega⟩
 ·obtain ⟨k,hk,k1,k2⟩:=zek (x:=a) (by omega)
  rw [hk,hj]
  refine ⟨?_,λh=>?_⟩
  ·by_cases hkj:j<=k+1
   ·have e:((k:Int)+1 - (j+1)+1).toNat=k+1 - j:=by omega
    rw [e]
    refine Int.lt_of_lt_of_le k2 ?_
    have h3:(2:Int)^(k+1)=2^j*2^(k+1 - j):=by rw [<-Int.pow_add];congr 1;omega
    rw [h3]
    exact Int.mul_le_mul_of_nonneg_right j1 (Int.le_of_lt (zbb _))
   ·have e:((k:Int)+1 - (j+1)+1).toNat=0:=by omega
    rw [e,Int.pow_zero,Int.mul_one]
    refine Int.lt_of_lt_of_le k2 (Int.le_trans ?_ j1)
    exact_mod_cast Nat.pow_le_pow_right (by omega) (by omega:k+1<=j)
  ·have e:((k:Int)+1 - (j+1)).toNat=k - j:=by omega
   have e':((k:Int)+1).toNat=k+1:=by omega
   rw [e,e']
   have h3:(2:Int)^(k+1)=2^(j+1)*2^(k - j):=by rw [<-Int.pow_add];congr 1;omega
   rw [h3]
   exact Int.mul_lt_mul_of_pos_right j2 (zbb _)
end Go.Gy
namespace Go.Gy
open Go Go.RowKit Go.Proofs Go.Proofs.Tryz

def jds (a b:Int) (k:Nat):Hp:=hpL G0 [(200,wb (rA a b k)),(208,wb b),(216,⟨fa 4 .u64 (wi (qA a b k)),.ty 30⟩),(224,zB)]
def jdt:Nat->Value:=tsL [(2,.pointer (some ⟨200,0,none⟩)),(3,.pointer (some ⟨208,0,none⟩)),(4,.pointer (some ⟨216,0,none⟩)),(5,.pointer (some ⟨224,0,none⟩))]
theorem zzm (a b:Int) (ha0:0<=a) (ha:a<57896044618658097711785492504343953926634992332820282019728792003956564819968) (hb0:0<b) (hb1:b<57896044618658097711785492504343953926634992332820282019728792003956564819968) :
  Ret prog G0 193 #[wd a,wd b] (.tuple #[wd (a / b),wd (a%b)]):=by
 refine zas G0F func193 rfl call193 (by simp) (by simp) (by simp [ntmps193]) ?_
 intro C hC hC0 hY
 have hup:=jif a b ha0 hb0 (by omega) (by omega)
 have hbd:=z7u a b
 have hna:za1 a<=255:=(zer 255 (by omega)).2
 have hlt:shN a b<256:=by
  have ea:uz a=a:=by unfold uz;omega
  have hnb:=zer 256 (z5i b).2
  unfold shN;rw [ea];omega
 have hit:=z0h a b hlt
 generalize shN a b=N at *
 repeat' first|refine gwZ ?_|refine gwW ?_|fail
 refine zde [202] (by kernel_rfl) ?_;intro Q hQ hP;simp [hC,hY]
 refine zcl (zwa a b 248 (by omega)) (by simp) (λ_ _=>rfl) (by simp [Res.at]) ?_
 simp
 refine hQ _ _ _ _ ?_;clear hQ hP Q
 repeat' first|refine gwZ ?_|refine gwW ?_|fail
 refine zjk (f:=208) (rs:=[248,249]) (xs:=z7v b N) (caps:=#[.pointer (some ⟨248,0,none⟩),.pointer (some ⟨249,0,none⟩)]) (by simp) ?_ ?_ (by simp [ntmps193]) jdt (λi=>jds a b (N+1 - (i:Int)).toNat) 300 (N+1).toNat (by rw [zno];omega) ?_ ?_ ?_ ?_ ?_
 ·rw [hC]
  refine zhp.cast (IterX.rn (λk=>if k=100 then 248 else if k=101 then 249 else k) G0F (λk hk=>zbc (by simp) hk) (rs:=[100,101]) ?_ hit) (by simp [zan]) (by simp)
  refine ⟨λk hk=>?_,?_,?_,?_⟩
  ·have h1:¬k=100:=by omega
   have h2:¬k=101:=by omega
   have h3:¬k=200:=by omega
   have h4:¬k=208:=by omega
   have h5:¬k=216:=by omega
   have h6:¬k=224:=by omega
   have h8:¬k=248:=by omega
   have h9:¬k=249:=by omega
   simp [h1,h2,h3,h4,h5,h6,h8,h9,wHp]
  ·simp
  ·simp [wHp,wb,Blk.rn,zak,zan]
  ·simp
 ·intro x hx
  simp only [z7v,List.mem_map] at hx
  obtain ⟨i,_,rfl⟩:=hx
  simp
 ·have e:=z2s a b (N+1).toNat ha0 hup.1
  refine za3 _ 300 hC G0F (m0:=[]) hC0 (by omega) ?_ ?_ ?_
  ·simp [dom]
  ·simp [zB,wb,e.1,e.2,zgh,zaf]
  ·simp
 ·simp [jds,dom]
 ·intro i hi t
  refine zhk ?_ t
  simp [dom,jds]
 ·intro i x hi hx C1 l hC1 hh1 hY1
  have hCC:=hC
  have hC1':C1.G=G0:=hC1.trans hC
  obtain ⟨n,hn⟩:∃ n:Nat,N - (i:Int)=n:=⟨(N - i).toNat,by omega⟩
  rw [z0f b N i hi,hn] at hx
  have e1:(N+1 - (i:Int)).toNat=n+1:=by omega
  have e2:(N+1 - ((i+1:Nat):Int)).toNat=n:=by omega
  simp only [e1,e2]
  cases hx
  have hD:b*2^n<57896044618658097711785492504343953926634992332820282019728792003956564819968:=by
   have h1:=hup.2 (by omega)
   have h2:(2:Int)^n<=2^N.toNat:=by exact_mod_cast Nat.pow_le_pow_right (by omega) (by omega:n<=N.toNat)
   have h3:b*2^n<=b*2^N.toNat:=Int.mul_le_mul_of_nonneg_left h2 (by omega)
   have h4:(2:Int)^(za1 a).toNat<=2^255:=by exact_mod_cast Nat.pow_le_pow_right (by omega) (by omega:(za1 a).toNat<=255)
   omega
  have hD0:0<b*2^n:=Int.mul_pos hb0 (zbb _)
  have hM0:0<b*2^(n+1):=Int.mul_pos hb0 (zbb _)
  have hA0:0<=rA a b (n+1):=Int.emod_nonneg _ (by omega)
  have hA1:rA a b (n+1)<=a:=by
   have h1:=Int.emod_add_mul_ediv a (b*2^(n+1))
   have h2:0<=b*2^(n+1)*(a / (b*2^(n+1))):=Int.mul_nonneg (by omega) (Int.ediv_nonneg ha0 (by omega))
   unfold rA;omega
  have szD:sz (b*2^n)=b*2^n:=zg5 (Int.le_of_lt hD0) hD
  have szA:sz (rA a b (n+1))=rA a b (n+1):=zg5 hA0 (Int.lt_of_le_of_lt hA1 ha)
  obtain ⟨t,r,hr,hn'⟩:∃ t r,r<64/\n=64*t+r:=⟨n / 64,n%64,by omega,by omega⟩
  have tq:((n:Int)).tdiv 64=t:=by rw [Int.tdiv_eq_ediv_of_nonneg (by omega)];omega
  have tm:((n:Int)).tmod 64=r:=by rw [Int.tmod_eq_emod_of_nonneg (by omega)];omega
  have t4:t<4:=by omega
  have t4':(t:Int)<4:=by omega
  have t0:(0:Int)<=t:=by omega
  have tb:Int.bmod (t:Int) 18446744073709551616=t:=bm (by omega) (by omega)
  have t3:t<=3:=Nat.le_of_lt_succ t4
  have t3':(t:Int)<=3:=Int.le_of_lt_add_one t4'
  have m1:min r 64=r:=by omega
  have m2:(2:Int)^r%18446744073709551616=2^r:=Int.emod_eq_of_lt (Int.le_of_lt (zbb _)) (by
   have:(2:Int)^r<2^64:=by exact_mod_cast Nat.pow_lt_pow_right (by omega) hr
   exact this)
  have hst:=z86 a b hb0 n
  replace hC:=hC1'
  replace hY:=hY1
  by_cases hle:b*2^n<=rA a b (n+1)
  ·have hcmp:zb8 (sz (b*2^n)) (sz (rA a b (n+1)))<=0:=by rw [szD,szA];unfold zb8;split<;>(try split)<;>omega
   obtain ⟨s1,s2⟩:=hst.1 hle
   have hb1:=z72 (a / (b*2^(64*t+r+1))) t r hr
   have hb2:=znw (a / (b*2^(64*t+r+1))) t r
   rw [<-hn'] at hb1 hb2
   replace hb1:zdy .or .u64 (wi (qA a b (n+1)) t) (2^r)=wi (qA a b n) t:=by rw [s2];exact hb1
   replace hb2:∀ j,j≠t->wi (qA a b n) j=wi (qA a b (n+1)) j:=λj hj=>by rw [s2];exact hb2 j hr hj
   have hq:fa 4 .u64 (upd (wi (qA a b (n+1))) t (wi (qA a b n) t))=fa 4 .u64 (wi (qA a b n)):=zca λj _=>by
    unfold upd;split
    ·rename_i h;rw [h]
    ·rename_i h;rw [hb2 j h]
   unfold jds
   repeat' first|refine gwZ ?_|(refine gwX ?_;intro Q hQ _;simp [hC,hY,zav,jdt];refine gwq hQ ?_)|fail
   intro C2 hC2 hh2 hY2
   replace hC:C2.G=G0:=hC2.trans hCC
   replace hY:=hY2
   repeat' first|refine gwZ ?_|(refine gwX ?_;intro Q hQ _;simp [hC,hY,zav,jdt,wb,hcmp,tq,tm,t4,t4',t0,t3,t3',tb,m1,m2,zdi,zeh,hb1];refine gwq hQ ?_)|fail
   refine za3 [] 300 hC1' G0F hh1 (by omega) ?_ ?_ ?_
   ·simp
   ·simp [zco,zad,wb,zB,hq,s1]
   ·simp [wb,zB,hq,s1]
  ·have hcmp:¬zb8 (sz (b*2^n)) (sz (rA a b (n+1)))<=0:=by rw [szD,szA];unfold zb8;split<;>(try split)<;>omega
   obtain ⟨s1,s2⟩:=hst.2 (by omega)
   unfold jds
   repeat' first|refine gwZ ?_|(refine gwX ?_;intro Q hQ _;simp [hC,hY,zav,jdt];refine gwq hQ ?_)|fail
   intro C2 hC2 hh2 hY2
   replace hC:C2.G=G0:=hC2.trans hCC
   replace hY:=hY2
   repeat' first|refine gwZ ?_|(refine gwX ?_;intro Q hQ _;simp [hC,hY,zav,jdt,wb,hcmp];refine gwq hQ ?_)|fail
   refine za3 [] 300 hC1' G0F hh1 (by omega) ?_ ?_ ?_
   ·simp
   ·simp [zco,zad,wb,zB,s1,s2]
   ·simp [wb,zB,s1,s2]
 ·left
  refine ⟨by rw [zno],?_⟩
  have e:(N+1 - ((N+1).toNat:Int)).toNat=0:=by omega
  have ed:=je3 a b
  rw [e]
  unfold jds jdt
  rw [ed.1,ed.2]
  repeat' first|refine gwZ ?_|(refine gwX ?_;intro Q hQ _;simp [hC,hY,wb,zgh,zB];refine gwq hQ ?_)|fail
  refine ⟨.inr trivial,?_⟩
  simp [results193]
@[simp] theorem jqh (a b:Int) (ha0:0<=a) (ha:a<57896044618658097711785492504343953926634992332820282019728792003956564819968) (hb0:0<b) (hb1:b<57896044618658097711785492504343953926634992332820282019728792003956564819968) (K:Value->Prop) :
  za2 prog G0 193 #[Value.agg #[.int .u64 (wi (a) 0),.int .u64 (wi (a) 1),.int .u64 (wi (a) 2),.int .u64 (wi (a) 3)],Value.agg #[.int .u64 (wi (b) 0),.int .u64 (wi (b) 1),.int .u64 (wi (b) 2),.int .u64 (wi (b) 3)]] K↔K (.tuple #[wd (a / b),wd (a%b)]):=zac G0W (by kernel_rfl) (zzm a b ha0 ha hb0 hb1)
theorem zhi {P:Program} {G:Hp} {f:FuncId} {args:Array Value} {v:Value} (h:zuf P G f args (.ret v)):Ret P G f args v:=⟨h.1 v rfl,h.2.1,h.2.2.1,h.2.2.2⟩
@[simp] theorem jru (n:Int) (K:Value->Prop):za2 prog G0 191 #[.bool true,.int .i64 n] K↔K (.tuple #[]):=zac G0W (by kernel_rfl) (zhi (z7f n))
@[simp] theorem jrx (z:Int) (K:Value->Prop):za2 prog G0 192 #[Value.agg #[.int .u64 (wi (z) 0),.int .u64 (wi (z) 1),.int .u64 (wi (z) 2),.int .u64 (wi (z) 3)],.bool false] K↔K (wd z):=zac G0W (by kernel_rfl) (zhi (jil z))
def wr (z:Int):Prop:=-57896044618658097711785492504343953926634992332820282019728792003956564819968<=z/\z<57896044618658097711785492504343953926634992332820282019728792003956564819968
theorem zct {z:Int} (h:wr z):sz z=z:=zd6 h.1 h.2
theorem z51 {z:Int} (h:wr z):ng z=decide (z<0):=by rw [zel,zct h]
theorem zri {z:Int} (h:wr z) (h0:0<=z):ng z=false:=by rw [z51 h];simp;exact h0
theorem jp9 {z:Int} (h:wr z) (h0:z<0):ng z=true:=by rw [z51 h];simp;exact h0
theorem zgl (z:Int) (h:wr z) (h1:z ≠ -57896044618658097711785492504343953926634992332820282019728792003956564819968):(!wi z 0==0||(!wi z 1==0||(!wi z 2==0||!wi z 3==9223372036854775808)))=true:=by
 refine Classical.byContradiction λhn=>h1 ?_
 simp at hn
 obtain ⟨w0,w1,w2,w3⟩:=hn
 rw [<-zct h,jb3,w0,w1,w2,w3]
 unfold ng;rw [w3];decide
theorem z1d {z:Int} (h:wr z) (h0:z≠0):(!wi z 0==0||(!wi z 1==0||(!wi z 2==0||!wi z 3==0)))=true:=zjz z (by rw [zct h];exact h0)
theorem jf6:i64 1:=by decide
def lst:Int:=-57896044618658097711785492504343953926634992332820282019728792003956564819968

theorem z3c (a b:Int) (ha:wr a) (hb:wr b) (h0:0<b) (ha0:0<=a):Ret prog G0 181 #[wd a,wd b] (.tuple #[wd (a.fdiv b),wd (a.fmod b)]):=by
 refine zas G0F func181 rfl call181 (by simp) (by simp) (by simp [ntmps181]) ?_
 intro C hC hC0 hY
 have hz:=z1d hb (by omega)
 have hn1:=zgl a ha (by omega)
 have hn2:=zgl b hb (by omega)
 have s1:¬zb8 (sz b) 0<0:=by rw [zct hb];unfold zb8;split<;>(try split)<;>omega
 have s2:¬zb8 (sz a) 0<0:=by rw [zct ha];unfold zb8;split<;>(try split)<;>omega
 have hbu:b<57896044618658097711785492504343953926634992332820282019728792003956564819968:=hb.2
 have hau:a<57896044618658097711785492504343953926634992332820282019728792003956564819968:=ha.2
 have e1:a.fdiv b=a / b:=Int.fdiv_eq_ediv_of_nonneg a (by omega)
 have e2:a.fmod b=a%b:=Int.fmod_eq_emod_of_nonneg a (by omega)
 repeat' first|refine gwZ ?_|(refine gwX ?_;intro Q hQ hP;simp [hC,hY,hz,hn1,hn2,s1,s2,lsB,ha0,hau,h0,hbu];(first|refine gwq hQ ?_|refine hP _ _ (by kernel_rfl) λ_=>?_))|fail
 refine ⟨.inr trivial,?_⟩
 simp [results181,e1,e2]
theorem z4m (m b:Int) (hb:0<b):(-(m+1)).fdiv b=-(m / b) - 1/\(-(m+1)).fmod b=b - 1 - m%b:=by
 have h1:=Int.emod_add_mul_ediv m b
 have h2:=Int.emod_nonneg m (b:=b) (by omega)
 have h3:=Int.emod_lt_of_pos m hb
 have e:-(m+1)=(b - 1 - m%b)+b*(-(m / b) - 1):=by rw [Int.mul_sub,Int.mul_neg];omega
 rw [Int.fdiv_eq_ediv_of_nonneg _ (by omega),Int.fmod_eq_emod_of_nonneg _ (by omega)]
 constructor
 ·rw [e,Int.add_mul_ediv_left _ _ (by omega),Int.ediv_eq_zero_of_lt (by omega) (by omega)];omega
 ·rw [e,Int.add_mul_emod_self_left,Int.emod_eq_of_lt (by omega) (by omega)]
theorem z3b (m b:Int) (ha:wr (-(m+1))) (hal:-(m+1)≠lst) (hb:wr b) (h0:0<b) (hm0:0<=m):Ret prog G0 181 #[wd (-(m+1)),wd b] (.tuple #[wd ((-(m+1)).fdiv b),wd ((-(m+1)).fmod b)]):=by
 refine zas G0F func181 rfl call181 (by simp) (by simp) (by simp [ntmps181]) ?_
 intro C hC hC0 hY
 obtain ⟨d1,d2⟩:=z4m m b h0
 rw [d1,d2]
 generalize ea:-(m+1)=a at *
 have hz:=z1d hb (by omega)
 have hn1:=zgl a ha hal
 have hn2:=zgl b hb (by omega)
 have s1:¬zb8 (sz b) 0<0:=by rw [zct hb];unfold zb8;split<;>(try split)<;>omega
 have s2:zb8 (sz a) 0<0:=by rw [zct ha];unfold zb8;split<;>(try split)<;>omega
 have hbu:b<57896044618658097711785492504343953926634992332820282019728792003956564819968:=hb.2
 have hmu:m<57896044618658097711785492504343953926634992332820282019728792003956564819968:=by have:=ha.1;unfold lst at hal;omega
 have hq0:0<=m / b:=Int.ediv_nonneg hm0 (by omega)
 have hq1:m / b<=m:=Int.ediv_le_self b hm0
 have hr0:0<=m%b:=Int.emod_nonneg m (by omega)
 have hr1:m%b<b:=Int.emod_lt_of_pos m h0
 have em:-(a+1)=m:=by omega
 have f1:(ng a==ng 1&&ng (a+1) != ng a)=false:=by
  rw [jp9 ha (by omega),zri (z:=1) (by unfold wr;omega) (by omega)];rfl
 have f2:(ng (a+1)&&ng m)=false:=by rw [zri (z:=m) (by unfold wr;omega) hm0];simp
 have f3:(ng (m / b)&&ng (-(m / b)))=false:=by rw [zri (z:=m / b) (by unfold wr;omega) hq0];simp
 have f4:(ng (-(m / b)) != ng 1&&ng (-(m / b) - 1) != ng (-(m / b)))=false:=by
  rw [zri (z:=1) (by unfold wr;omega) (by omega),jp9 (z:=-(m / b) - 1) (by unfold wr;omega) (by omega)]
  cases ng (-(m / b))<;>rfl
 have f5:(ng b != ng 1&&ng (b - 1) != ng b)=false:=by
  rw [zri hb (by omega),zri (z:=1) (by unfold wr;omega) (by omega)];rfl
 have f6:(ng (b - 1) != ng (m%b)&&ng (b - 1 - m%b) != ng (b - 1))=false:=by
  rw [zri (z:=b - 1) (by unfold wr;have:=hb.2;omega) (by omega),zri (z:=m%b) (by unfold wr;omega) hr0];rfl
 have i1:=jf6
 repeat' first|refine gwZ ?_|(refine gwX ?_;intro Q hQ hP;simp [hC,hY,hz,hn1,hn2,s1,s2,lsB,h0,hbu,hm0,hmu,em,f1,f2,f3,f4,f5,f6,i1];(first|refine gwq hQ ?_|refine hP _ _ (by kernel_rfl) λ_=>?_))|fail
 refine ⟨.inr trivial,?_⟩
 simp [results181]
theorem zrz {α:Type} {f:Nat->α} {x k:Nat} {v:α} (h:k<x):upd f x v k=f k:=zab f v (by omega)
theorem zx0 (a b:Int) (ha:wr a) (hal:a≠lst) (hb:wr b) (h0:0<b):Ret prog G0 181 #[wd a,wd b] (.tuple #[wd (a / b),wd (a%b)]):=by
 rw [<-Int.fdiv_eq_ediv_of_nonneg a (Int.le_of_lt h0),<-Int.fmod_eq_emod_of_nonneg a (Int.le_of_lt h0)]
 by_cases ha0:0<=a
 ·exact z3c a b ha hb h0 ha0
 ·obtain ⟨m,rfl⟩:∃ m,a=-(m+1):=⟨-a - 1,by omega⟩
  exact z3b m b ha hal hb h0 (by omega)
@[simp] theorem jqg (a b:Int) (ha:wr a) (hal:a≠lst) (hb:wr b) (h0:0<b) (K:Value->Prop):za2 prog G0 181 #[Value.agg #[.int .u64 (wi (a) 0),.int .u64 (wi (a) 1),.int .u64 (wi (a) 2),.int .u64 (wi (a) 3)],Value.agg #[.int .u64 (wi (b) 0),.int .u64 (wi (b) 1),.int .u64 (wi (b) 2),.int .u64 (wi (b) 3)]] K↔K (.tuple #[wd (a / b),wd (a%b)]) :=
 zac G0W (by kernel_rfl) (zx0 a b ha hal hb h0)
def hp2 (a b:Int):Hp:=hpL G0 [(200,wb a),(208,wb b)]
theorem zd3 (a b:Int):rst (hp2 a b) [200,208]=hp2 a b:=zf3 G0F (by simp)
theorem zim (a b:Int) (D:Nat->Prop) (k:Nat) (c:Blk) (h:hp2 a b k=some c):c.ids D:=by
 rcases za5 h with h|h
 ·simp at h
  rcases h with ⟨_,rfl⟩|⟨_,rfl⟩<;>simp [wb]
 ·exact zeg _ _ _ h
theorem zgk (a b:Int) (x:Nat) (hx:300<=x):hp2 a b x=none:=by
 simp [hp2,show ¬x=200 by omega,show ¬x=208 by omega,show 100<=x by omega]
theorem zt7 (a b:Int) (ha:wr a) (hal:a≠lst) (hb:wr b) (h0:0<b):Fun prog G0 180 [.pointer (some ⟨200,0,none⟩),.pointer (some ⟨208,0,none⟩)].toArray (hp2 a b) [200,208] (.ret (wd (a / b)) []):=by
 refine zls (B:=300) G0F (λk hk=>zbc (by simp) hk) func180 rfl call180 ?_ ?_ ⟨zai (by simp),by simp [zaa],by simp,by simp⟩ (by simp [ntmps180]) (by omega) ?_ ?_
 ·rw [zd3];simp [hp2,dom]
 ·rw [zd3];exact zim a b _
 ·rw [zd3];exact zgk a b
 ·intro C hC hC0 hY
  rw [zd3] at hC0 |-
  repeat' first|refine gwZ ?_|(refine gwX ?_;intro Q hQ hP;simp [hC,hY,hp2,wb,ha,hal,hb,h0];(first|refine gwq hQ ?_|refine hP _ _ (by kernel_rfl) λ_=>?_))|fail
  refine ⟨.inr rfl,by simp [results180],λk hk=>?_⟩
  have hk3:k<300:=Classical.byContradiction λh=>hk (zgk a b k (by omega))
  simp (disch:=omega) only [zrz]
  rfl
theorem zv0 (a b:Int) (ha:wr a) (hal:a≠lst) (hb:wr b) (h0:0<b):Ret prog G0 168 #[wd a,wd b] (.tuple #[wd (a / b),.int .i64 0]):=by
 refine zas G0F func168 rfl call168 (by simp) (by simp) (by simp [ntmps168]) ?_
 intro C hC hC0 hY
 repeat' first|refine gwZ ?_|((first|refine gwR [179] ?_|refine gwD [179] ?_);intro Q hQ hP;(repeat first|simp [hC,hY]|refine zcl (hp':=hp2 a b) (zzu (λk hk=>zbc (by simp) hk) (by simp) rfl (by simp) (zt7 a b ha hal hb h0)) (by simp [hp2,wb]) (λk hk=>zbc (by simp) hk) trivial ?_);(first|refine gwq hQ ?_|refine hP _ _ (by kernel_rfl) λ_=>?_))|fail
 refine ⟨.inr trivial,?_⟩
 simp [results168]
@[simp] theorem jqf (a b:Int) (ha:wr a) (hal:a≠lst) (hb:wr b) (h0:0<b) (K:Value->Prop):za2 prog G0 168 #[Value.agg #[.int .u64 (wi (a) 0),.int .u64 (wi (a) 1),.int .u64 (wi (a) 2),.int .u64 (wi (a) 3)],Value.agg #[.int .u64 (wi (b) 0),.int .u64 (wi (b) 1),.int .u64 (wi (b) 2),.int .u64 (wi (b) 3)]] K↔K (.tuple #[wd (a / b),.int .i64 0]) :=
 zac G0W (by kernel_rfl) (zv0 a b ha hal hb h0)
theorem jbn (n:Int):zuf prog G0 166 #[.bool true,.int .i64 n] (.ret (.tuple #[])):=by
 refine zks G0F func166 rfl call166 (λv h=>by cases h;simp) (by simp) (by simp [ntmps166]) ?_
 intro C hC hC0 hY
 repeat' (first|refine gwA ?_|(refine gwX ?_;intro Q hQ hP;simp [hC,hY];(first|refine gwq hQ ?_|refine hP _ _ (by kernel_rfl) λ_=>?_);clear hQ hP Q)|refine gwC ?_ ?_<;>intro hb<;>try (cases hb;done))
 exact ⟨.inl trivial,by simp [results166]⟩
theorem jbm (n:Int):zuf prog G0 166 #[.bool false,.int .i64 n] (.pan (erV n)):=by
 refine zks G0F func166 rfl call166 (λv h=>by cases h) (by simp) (by simp [ntmps166]) ?_
 intro C hC hC0 hY
 repeat' (first|refine gwA ?_|(refine gwX ?_;intro Q hQ hP;simp [hC,hY];(first|refine gwq hQ ?_|refine hP _ _ (by kernel_rfl) λ_=>?_);clear hQ hP Q)|refine gwC ?_ ?_<;>intro hb<;>try (cases hb;done))
 rfl
@[simp] theorem jr3 (n:Int) (K:Value->Prop):za2 prog G0 166 #[.bool true,.int .i64 n] K↔K (.tuple #[]):=zac G0W (by kernel_rfl) (zhi (jbn n))
theorem z4c (z:Int):Ret prog G0 195 #[wd z] (.int .i64 (za1 (uz z) / 2)):=by
 refine zas G0F func195 rfl call195 rfl (by simp) (by simp [ntmps195]) ?_
 intro C hC hC0 hY
 have b0:=zfj z 0
 have b1:=zfj z 1
 have b2:=zfj z 2
 have b3:=zfj z 3
 have k3:=z0p z
 have k2:=z0o z
 have k1:=z0n z
 have k0:=z0m z
 have m3:Int.bmod (192+za1 (wi z 3)) 18446744073709551616=192+za1 (wi z 3):=bm (by omega) (by omega)
 have m2:Int.bmod (128+za1 (wi z 2)) 18446744073709551616=128+za1 (wi z 2):=bm (by omega) (by omega)
 have m1:Int.bmod (64+za1 (wi z 1)) 18446744073709551616=64+za1 (wi z 1):=bm (by omega) (by omega)
 have t3:(192+za1 (wi z 3)).tdiv 2=(192+za1 (wi z 3)) / 2:=Int.tdiv_eq_ediv_of_nonneg (by omega)
 have t2:(128+za1 (wi z 2)).tdiv 2=(128+za1 (wi z 2)) / 2:=Int.tdiv_eq_ediv_of_nonneg (by omega)
 have t1:(64+za1 (wi z 1)).tdiv 2=(64+za1 (wi z 1)) / 2:=Int.tdiv_eq_ediv_of_nonneg (by omega)
 have t0:(za1 (wi z 0)).tdiv 2=za1 (wi z 0) / 2:=Int.tdiv_eq_ediv_of_nonneg (by omega)
 have u3:Int.bmod ((192+za1 (wi z 3)) / 2) 18446744073709551616=(192+za1 (wi z 3)) / 2:=bm (by omega) (by omega)
 have u2:Int.bmod ((128+za1 (wi z 2)) / 2) 18446744073709551616=(128+za1 (wi z 2)) / 2:=bm (by omega) (by omega)
 have u1:Int.bmod ((64+za1 (wi z 1)) / 2) 18446744073709551616=(64+za1 (wi z 1)) / 2:=bm (by omega) (by omega)
 have u0:Int.bmod (za1 (wi z 0) / 2) 18446744073709551616=za1 (wi z 0) / 2:=bm (by omega) (by omega)
 repeat' (first|refine zal ?_|refine zat ?_|refine gwA ?_|(refine gwX ?_;intro Q hQ hP;simp [hC,hY,zbq,zbw,m1,m2,m3,t0,t1,t2,t3,u0,u1,u2,u3];(first|refine gwq hQ ?_|refine hP _ _ (by kernel_rfl) λ_=>?_);clear hQ hP Q)|refine gwC ?_ ?_<;>intro hb<;>try (cases hb;done))
 all_goals
  refine ⟨.inr trivial,?_⟩
  simp [results195]
  simp_all
@[simp] theorem jr2 (z:Int) (K:Value->Prop):za2 prog G0 195 #[Value.agg #[.int .u64 (wi (z) 0),.int .u64 (wi (z) 1),.int .u64 (wi (z) 2),.int .u64 (wi (z) 3)]] K↔K (.int .i64 (za1 (uz z) / 2)):=zac G0W (by kernel_rfl) (z4c z)
theorem z8k (a:Int) (k:Nat) (h100:100<=k):Fun prog G0 182 #[wd a] G0 [] (.new (.func (.func 194) #[] #[.pointer (some ⟨k,0,none⟩)]) [(k,wb a)]):=by
 have e0:rst G0 []=G0:=zku G0F []
 refine zth (B:=200) (λj=>if j=k then 200 else j) G0F (λ_ _=>rfl) func182 rfl call182 (by simp [zap,zax,zah,zaj]) (by rw [e0];exact zeg _) ?_ (by simp [ntmps182]) (by omega) (by rw [e0];exact λx hx=>zfr x (by omega)) (λj hj=>?_) ?_ ?_ ?_ ?_
 ·refine ⟨by simp [zap,zax,zah,zaj,zc7,zaa],by simp [zaa];omega,λq b c h1 h2=>?_⟩
  simp at h1 h2
  rw [h1.2,h2.2]
 ·rw [e0] at hj;have:=zj0 hj;rw [if_neg (by omega)]
 ·simp [e0,dom]
 ·simp
 ·simp [wb,zad,zah,zaj]
 ·intro C hC hC0 hY
  rw [e0]
  repeat' (first|refine gwA ?_|(refine gwX ?_;intro Q hQ hP;simp [hC,hY];(first|refine gwq hQ ?_|refine hP _ _ (by kernel_rfl) λ_=>?_);clear hQ hP Q)|refine gwC ?_ ?_<;>intro hb<;>try (cases hb;done))
  refine ⟨.inr trivial,?_⟩
  simp [results182,ren,zay,zak,zan,wb]
  intro j hj hj2
  have:=zj0 hj
  omega
theorem ji0 (t r j:Nat) (hr:r<64):wi (2^(64*t+r)) j=if j=t then 2^r else 0:=by
 by_cases h:j=t
 ·subst h
  rw [if_pos rfl]
  unfold wi
  rw [Int.pow_add,Int.mul_ediv_cancel_left _ (by have:=zbb (64*j);omega)]
  exact Int.emod_eq_of_lt (Int.le_of_lt (zbb _)) (by
   have:(2:Int)^r<2^64:=by exact_mod_cast Nat.pow_lt_pow_right (by omega) hr
   exact this)
 ·rw [if_neg h]
  have:=znw 0 t r j hr h
  simp only [Int.zero_mul,Int.zero_add] at this
  rw [this,zaf]
theorem z0e (t r:Nat) (ht:t<4) (hr:r<64):(#[.int .u64 0,.int .u64 0,.int .u64 0,.int .u64 0]:Array Value).setIfInBounds t (.int .u64 (2^r))=#[.int .u64 (wi (2^(64*t+r)) 0),.int .u64 (wi (2^(64*t+r)) 1),.int .u64 (wi (2^(64*t+r)) 2),.int .u64 (wi (2^(64*t+r)) 3)]:=by
 simp only [ji0 _ _ _ hr]
 have:t=0\/t=1\/t=2\/t=3:=by omega
 rcases this with rfl|rfl|rfl|rfl<;>simp
def zoc (M:Int):List (Array Value):=(List.range (M+1).toNat).map λ(i:Nat)=>#[wd (2^(M - (i:Int)).toNat)]
theorem zj1 (M:Int):(zoc M).length=(M+1).toNat:=by simp [zoc]
theorem zmr (M:Int) (i:Nat) (h:i<(M+1).toNat):(zoc M)[i]? = some #[wd (2^(M - (i:Int)).toNat)]:=by simp [zoc,h]
def aHp (a:Int):Hp:=hpL G0 [(100,wb a)]
def z17 (a M:Int) (l i:Nat):GS :=
 ⟨tsL [(0,.func (.yield l) #[] #[]),(1,.pointer (some ⟨100,0,none⟩)),(3,.int .i64 (M - i))],aHp a,300,i⟩
theorem jeh (a:Int):zhp prog G0 194 #[.pointer (some ⟨100,0,none⟩)] (aHp a) [100] (zoc (za1 (uz a) / 2)):=by
 have e0:rst (aHp a) [100]=aHp a:=zf3 G0F (by simp)
 refine zq3 (B:=200) (v:=.tuple #[]) G0F (λk hk=>zbc (by simp) hk) func194 rfl call194 ?_ ?_ (by simp [ntmps194]) (by omega) ?_ ?_
 ·rw [e0];simp [zap,zax,zah,zaj,dom,aHp]
 ·rw [e0]
  intro k c hk
  rcases za5 hk with h|h
  ·simp at h
   rcases h with ⟨_,rfl⟩
   simp [wb,zad,zah,zaj]
  ·exact zeg _ _ _ h
 ·rw [e0]
  intro x hx
  simp [aHp,show ¬x=100 by omega,show 100<=x by omega]
 ·intro C l stop hC hC0 hY
  rw [e0] at hC0 |-
  have hnb:=zer 256 (z5i a).2
  have hM:0<=za1 (uz a) / 2/\za1 (uz a) / 2<=128:=by omega
  have hlen:=zj1 (za1 (uz a) / 2)
  repeat' (first|refine gwA ?_|(refine gwX ?_;intro Q hQ hP;simp [hC,hY,aHp,wb];(first|refine gwq hQ ?_|refine hP _ _ (by kernel_rfl) λ_=>?_);clear hQ hP Q)|refine gwC ?_ ?_<;>intro hb<;>try (cases hb;done))
  generalize hMe:za1 (uz a) / 2=M at *
  generalize hxs:zoc M=xs at *
  refine zbt (min stop xs.length) (z17 a M l) ?_ ?_ ?_
  ·refine za3 _ 300 hC G0F (m:=[(100,wb a)]) (m0:=[(100,wb a)]) hC0 (by omega) ?_ ?_ ?_
   ·simp [dom]
   ·simp [wb]
   ·simp [wb]
  ·intro i hi
   have hs:i<stop:=by omega
   have hq:(i != stop)=true:=by simp;omega
   have hle:i<=stop:=by omega
   obtain ⟨n,hn⟩:∃ n:Nat,M - (i:Int)=n:=⟨(M - i).toNat,by omega⟩
   have g1:(i:Int)<=M:=by omega
   have hx:xs[i]? = some #[wd (2^n)]:=by
    rw [<-hxs,zmr M i (by omega),hn];rfl
   simp only [jca] at hx
   have g4:Int.bmod ((n:Int) - 1) 18446744073709551616=M - ((i+1:Nat):Int):=by rw [bm (by omega) (by omega)];omega
   obtain ⟨t,r,hr,hn'⟩:∃ t r,r<64/\n=64*t+r:=⟨n / 64,n%64,by omega,by omega⟩
   have tq:((n:Int)).tdiv 64=t:=by rw [Int.tdiv_eq_ediv_of_nonneg (by omega)];omega
   have tm:((n:Int)).tmod 64=r:=by rw [Int.tmod_eq_emod_of_nonneg (by omega)];omega
   have t4:t<4:=by omega
   have t4':(t:Int)<4:=by omega
   have t0:(0:Int)<=t:=by omega
   have tb:Int.bmod (t:Int) 18446744073709551616=t:=bm (by omega) (by omega)
   have t3:t<=3:=Nat.le_of_lt_succ t4
   have m1:min r 64=r:=by omega
   have m2:(2:Int)^r%18446744073709551616=2^r:=Int.emod_eq_of_lt (Int.le_of_lt (zbb _)) (by
    have:(2:Int)^r<2^64:=by exact_mod_cast Nat.pow_lt_pow_right (by omega) hr
    exact this)
   have hset:=z0e t r t4 hr
   rw [<-hn'] at hset
   unfold z17
   repeat' (first|refine gwA ?_|(refine gwX ?_;intro Q hQ hP;simp [hC,hY,aHp,wb,hs,hq,hle,hn,g1,g4,hx,tq,tm,t4,t4',t0,tb,t3,m1,m2,hset];(first|refine gwq hQ ?_|refine hP _ _ (by kernel_rfl) λ_=>?_);clear hQ hP Q)|refine gwC ?_ ?_<;>intro hb<;>try (cases hb;done))
   refine za3 _ 300 hC G0F (m:=[(100,wb a)]) (m0:=[(100,wb a)]) hC0 (by omega) ?_ ?_ ?_
   ·simp [dom]
   ·simp [wb]
   ·simp [wb]
  ·by_cases h4:xs.length<=stop
   ·rw [Nat.min_eq_right h4]
    have g1:¬((xs.length:Int)<=M):=by omega
    unfold z17
    repeat' (first|refine gwA ?_|(refine gwX ?_;intro Q hQ hP;simp [hC,hY,aHp,wb,g1];(first|refine gwq hQ ?_|refine hP _ _ (by kernel_rfl) λ_=>?_);clear hQ hP Q)|refine gwC ?_ ?_<;>intro hb<;>try (cases hb;done))
    refine ⟨.inl trivial,by simp [results194],?_⟩
    show xs.length=_
    omega
   ·rw [Nat.min_eq_left (by omega)]
    obtain ⟨n,hn⟩:∃ n:Nat,M - (stop:Int)=n:=⟨(M - stop).toNat,by omega⟩
    have g1:(stop:Int)<=M:=by omega
    have hx:xs[stop]? = some #[wd (2^n)]:=by
     rw [<-hxs,zmr M stop (by omega),hn];rfl
    simp only [jca] at hx
    obtain ⟨t,r,hr,hn'⟩:∃ t r,r<64/\n=64*t+r:=⟨n / 64,n%64,by omega,by omega⟩
    have tq:((n:Int)).tdiv 64=t:=by rw [Int.tdiv_eq_ediv_of_nonneg (by omega)];omega
    have tm:((n:Int)).tmod 64=r:=by rw [Int.tmod_eq_emod_of_nonneg (by omega)];omega
    have t4:t<4:=by omega
    have t4':(t:Int)<4:=by omega
    have t0:(0:Int)<=t:=by omega
    have tb:Int.bmod (t:Int) 18446744073709551616=t:=bm (by omega) (by omega)
    have t3:t<=3:=Nat.le_of_lt_succ t4
    have m1:min r 64=r:=by omega
    have m2:(2:Int)^r%18446744073709551616=2^r:=Int.emod_eq_of_lt (Int.le_of_lt (zbb _)) (by
     have:(2:Int)^r<2^64:=by exact_mod_cast Nat.pow_lt_pow_right (by omega) hr
     exact this)
    have hset:=z0e t r t4 hr
    rw [<-hn'] at hset
    unfold z17
    repeat' (first|refine gwA ?_|(refine gwX ?_;intro Q hQ hP;simp [hC,hY,aHp,wb,hn,g1,hx,tq,tm,t4,t4',t0,tb,t3,m1,m2,hset];(first|refine gwq hQ ?_|refine hP _ _ (by kernel_rfl) λ_=>?_);clear hQ hP Q)|refine gwC ?_ ?_<;>intro hb<;>try (cases hb;done))
    refine ⟨.inr trivial,by simp [results194],?_⟩
    show stop+1=_
    omega
def rp (a:Int) (K:Nat):Nat->Int
 | 0=>0
 | i+1=>if (rp a K i+2^(K - 1 - i))*(rp a K i+2^(K - 1 - i))<=a then rp a K i+2^(K - 1 - i) else rp a K i
theorem ztp (a:Int) (K:Nat) (h0:0<=a) (h:a<2^K*2^K):∀ i,i<=K->0<=rp a K i/\rp a K i*rp a K i<=a/\a<(rp a K i+2^(K - i))*(rp a K i+2^(K - i))
 | 0,_=>by simp [rp];exact ⟨h0,h⟩
 | i+1,hi=>by
  obtain ⟨h1,h2,h3⟩:=ztp a K h0 h i (by omega)
  have e1:K - i=(K - 1 - i)+1:=by omega
  have e2:K - (i+1)=K - 1 - i:=by omega
  rw [e1,Int.pow_succ] at h3
  rw [e2]
  have hp:=zbb (K - 1 - i)
  unfold rp
  split
  ·rename_i hc
   refine ⟨by omega,hc,?_⟩
   rw [Int.add_assoc,show (2:Int)^(K - 1 - i)+2^(K - 1 - i)=2^(K - 1 - i)*2 by omega]
   exact h3
  ·rename_i hc
   exact ⟨h1,h2,by omega⟩
def isq (a:Int):Int:=rp a (za1 a / 2+1).toNat (za1 a / 2+1).toNat
theorem zm7 (a:Int) (h0:0<=a):a<2^(za1 a / 2+1).toNat*2^(za1 a / 2+1).toNat:=by
 rw [<-Int.pow_add]
 by_cases h:a=0
 ·subst h;exact zbb _
 ·obtain ⟨k,hk,k1,k2⟩:=zek (x:=a) (by omega)
  refine Int.lt_of_lt_of_le k2 ?_
  rw [hk]
  exact_mod_cast Nat.pow_le_pow_right (by omega) (by omega)
theorem z3p (a:Int) (h0:0<=a):0<=isq a/\isq a*isq a<=a/\a<(isq a+1)*(isq a+1):=by
 have:=ztp a (za1 a / 2+1).toNat h0 (zm7 a h0) (za1 a / 2+1).toNat (Nat.le_refl _)
 simpa [isq] using this
theorem joc {x y:Int} (hx:0<=x) (hy:0<=y) (h:x*x<y*y):x<y:=by
 refine Classical.byContradiction λhn=>?_
 have:y*y<=x*x:=Int.mul_le_mul (by omega) (by omega) hy hx
 omega
theorem jii {x:Int} (B:Int) (hx:0<=x) (hB:0<=B) (h:x*x<B*B):x<B:=joc hx hB h
def jbi (a r:Int):Hp:=hpL G0 [(200,wb a),(208,wb r)]
def z7q:Nat->Value:=tsL [(1,.pointer (some ⟨200,0,none⟩)),(2,.pointer (some ⟨208,0,none⟩))]
theorem zv5 (a:Int) (ha:wr a) (h0:0<=a):Ret prog G0 169 #[wd a] (wd (isq a)):=by
 refine zas G0F func169 rfl call169 (by simp) (by simp) (by simp [ntmps169]) ?_
 intro C hC hC0 hY
 have s1:0<=zb8 (sz a) 0:=by rw [zct ha];unfold zb8;split<;>(try split)<;>omega
 have hnb:=zer 255 ha.2
 have hit:=jeh a
 have eu:uz a=a:=by unfold uz;have:=ha.2;omega
 rw [eu] at hit
 have hinv:=ztp a (za1 a / 2+1).toNat h0 (zm7 a h0)
 have hisq:isq a=rp a (za1 a / 2+1).toNat (za1 a / 2+1).toNat:=rfl
 have hM:0<=za1 a / 2/\za1 a / 2<=127:=by omega
 generalize za1 a / 2=M at *
 repeat' first|refine gwZ ?_|(refine gwX ?_;intro Q hQ hP;simp [hC,hY,s1];(first|refine gwq hQ ?_|refine hP _ _ (by kernel_rfl) λ_=>?_))|fail
 refine zde [182] (by kernel_rfl) ?_;intro Q hQ hP;simp [hC,hY]
 refine zcl (z8k a 256 (by omega)) (by simp) (λ_ _=>rfl) (by simp [Res.at]) ?_
 simp
 refine hQ _ _ _ _ ?_;clear hQ hP Q
 repeat' first|refine gwZ ?_|(refine gwX ?_;intro Q hQ hP;simp [hC,hY];(first|refine gwq hQ ?_|refine hP _ _ (by kernel_rfl) λ_=>?_))|fail
 generalize hK:(M+1).toNat=K at *
 refine zjk (f:=194) (rs:=[256]) (xs:=zoc M) (caps:=#[.pointer (some ⟨256,0,none⟩)]) (by simp) ?_ ?_ (by simp [ntmps169]) z7q (λi=>jbi a (rp a K i)) 300 K (by rw [zj1];omega) ?_ ?_ ?_ ?_ ?_
 ·rw [hC]
  refine zhp.cast (IterX.rn (λk=>if k=100 then 256 else k) G0F (λk hk=>zbc (by simp) hk) (rs:=[100]) ?_ hit) (by simp [zan]) (by simp)
  refine ⟨λk hk=>?_,?_,?_,?_⟩
  ·simp [aHp,show ¬k=100 by omega,show ¬k=200 by omega,show ¬k=208 by omega,show ¬k=256 by omega]
  ·simp
  ·simp [aHp,wb,Blk.rn,zak,zan]
  ·simp
 ·intro x hx
  simp only [zoc,List.mem_map] at hx
  obtain ⟨i,_,rfl⟩:=hx
  simp
 ·refine za3 _ 300 hC G0F (m0:=[]) hC0 (by omega) ?_ ?_ ?_
  ·simp [dom]
  ·simp [wb,rp,zaf]
  ·simp
 ·simp [jbi,dom]
 ·intro i hi t
  refine zhk ?_ t
  simp [dom,jbi]
 ·intro i x hi hx C1 l hC1 hh1 hY1
  have hCC:=hC
  have hC1':C1.G=G0:=hC1.trans hC
  obtain ⟨n,hn⟩:∃ n:Nat,M - (i:Int)=n:=⟨(M - i).toNat,by omega⟩
  rw [zmr M i (by omega),hn] at hx
  cases hx
  obtain ⟨r0,r1,r2⟩:=hinv i (by omega)
  have en:K - 1 - i=n:=by omega
  have hrs:rp a K (i+1)=if (rp a K i+2^n)*(rp a K i+2^n)<=a then rp a K i+2^n else rp a K i:=by
   rw [rp,en]
  generalize rp a K i=r at *
  have hau:=ha.2
  have hr:r<340282366920938463463374607431768211456:=jii _ r0 (by decide) (by omega)
  have hn2:(2:Int)^n<=2^127:=by exact_mod_cast Nat.pow_le_pow_right (by omega) (by omega:n<=127)
  have hn0:=zbb n
  have t0:0<=r+2^n:=by omega
  have t1:r+2^n<680564733841876926926749214863536422912:=by omega
  have szt:sz (r+2^n)=r+2^n:=zg5 t0 (Int.lt_trans t1 (by decide))
  have tt0:0<=(r+2^n)*(r+2^n):=Int.mul_nonneg t0 t0
  have hmul:ziu (r+2^n) (r+2^n)=decide (¬((r+2^n)*(r+2^n)<57896044618658097711785492504343953926634992332820282019728792003956564819968)):=by
   unfold ziu;rw [szt];congr 1
   exact propext ⟨λh1 h2=>h1 ⟨Int.le_trans (by decide) tt0,h2⟩,λh1 h2=>h1 h2.2⟩
  have sza:sz a=a:=zct ha
  replace hC:=hC1'
  replace hY:=hY1
  simp only [hrs]
  generalize htt:(r+2^n)*(r+2^n)=T at *
  by_cases hov:T<57896044618658097711785492504343953926634992332820282019728792003956564819968
  ·have hm:ziu (r+2^n) (r+2^n)=false:=by rw [hmul];simp [hov]
   have szT:sz T=T:=zg5 tt0 hov
   by_cases hle:T<=a
   ·have hcmp:zb8 (sz T) (sz a)<=0:=by rw [szT,sza];unfold zb8;split<;>(try split)<;>omega
    rw [if_pos hle]
    unfold jbi
    repeat' first|refine gwZ ?_|(refine gwX ?_;intro Q hQ hP;simp [hC,hY,zav,z7q];(first|refine gwq hQ ?_|refine hP _ _ (by kernel_rfl) λ_=>?_))|fail
    intro C2 hC2 hh2 hY2
    replace hC:C2.G=G0:=hC2.trans hCC
    replace hY:=hY2
    repeat' first|refine gwZ ?_|(refine gwX ?_;intro Q hQ hP;simp [hC,hY,zav,z7q,wb,szt,htt,hm,hcmp];(first|refine gwq hQ ?_|refine hP _ _ (by kernel_rfl) λ_=>?_))|fail
    refine za3 [] 300 hC1' G0F hh1 (by omega) ?_ ?_ ?_
    ·simp
    ·simp [wb]
    ·simp [wb]
   ·have hcmp:¬zb8 (sz T) (sz a)<=0:=by rw [szT,sza];unfold zb8;split<;>(try split)<;>omega
    rw [if_neg hle]
    unfold jbi
    repeat' first|refine gwZ ?_|(refine gwX ?_;intro Q hQ hP;simp [hC,hY,zav,z7q];(first|refine gwq hQ ?_|refine hP _ _ (by kernel_rfl) λ_=>?_))|fail
    intro C2 hC2 hh2 hY2
    replace hC:C2.G=G0:=hC2.trans hCC
    replace hY:=hY2
    repeat' first|refine gwZ ?_|(refine gwX ?_;intro Q hQ hP;simp [hC,hY,zav,z7q,wb,szt,htt,hm,hcmp];(first|refine gwq hQ ?_|refine hP _ _ (by kernel_rfl) λ_=>?_))|fail
    refine za3 [] 300 hC1' G0F hh1 (by omega) ?_ ?_ ?_
    ·simp
    ·simp [wb]
    ·simp [wb]
  ·have hm:ziu (r+2^n) (r+2^n)=true:=by rw [hmul];simp only [hov,not_false_eq_true,decide_true]
   have hle:¬T<=a:=λh=>hov (Int.lt_of_le_of_lt h hau)
   rw [if_neg hle]
   unfold jbi
   repeat' first|refine gwZ ?_|(refine gwX ?_;intro Q hQ hP;simp [hC,hY,zav,z7q];(first|refine gwq hQ ?_|refine hP _ _ (by kernel_rfl) λ_=>?_))|fail
   intro C2 hC2 hh2 hY2
   replace hC:C2.G=G0:=hC2.trans hCC
   replace hY:=hY2
   repeat' first|refine gwZ ?_|(refine gwX ?_;intro Q hQ hP;simp [hC,hY,zav,z7q,wb,szt,htt,hm];(first|refine gwq hQ ?_|refine hP _ _ (by kernel_rfl) λ_=>?_))|fail
   refine za3 [] 300 hC1' G0F hh1 (by omega) ?_ ?_ ?_
   ·simp
   ·simp [wb]
   ·simp [wb]
 ·left
  refine ⟨by rw [zj1];omega,?_⟩
  rw [<-hisq]
  unfold jbi z7q
  repeat' first|refine gwZ ?_|(refine gwX ?_;intro Q hQ hP;simp [hC,hY,wb];(first|refine gwq hQ ?_|refine hP _ _ (by kernel_rfl) λ_=>?_))|fail
  refine ⟨.inr trivial,?_⟩
  simp [results169]
@[simp] theorem jqo (a:Int) (ha:wr a) (h0:0<=a) (K:Value->Prop):za2 prog G0 169 #[Value.agg #[.int .u64 (wi (a) 0),.int .u64 (wi (a) 1),.int .u64 (wi (a) 2),.int .u64 (wi (a) 3)]] K↔K (wd (isq a)):=zac G0W (by kernel_rfl) (zv5 a ha h0)
def hp1 (a:Int):Hp:=hpL G0 [(200,wb a)]
theorem ja0 (a:Int):zuf prog G0 144 #[wd a,wd 0] (.pan (erV 30)):=by
 refine zks G0F func144 rfl call144 (λv h=>by cases h) (by simp) (by simp [ntmps144]) ?_
 intro C hC hC0 hY
 repeat' first|refine gwZ ?_|((first|refine gwR [1000166] ?_|refine gwD [1000166] ?_);intro Q hQ hP;(repeat first|simp [hC,hY,zaf]|refine zmu (jbm 30) ?_);(first|refine gwq hQ ?_|refine hP _ _ (by kernel_rfl) λ_=>?_))|fail
 rfl
theorem z6k {a b:Int} (ha:wr a) (h0:0<=a) (hb:0<b):wr (a / b)/\0<=a / b:=by
 have h1:0<=a / b:=Int.ediv_nonneg h0 (by omega)
 exact ⟨⟨Int.le_trans (by decide) h1,Int.lt_of_le_of_lt (Int.ediv_le_self b h0) ha.2⟩,h1⟩
theorem jgq {a:Int} (h0:0<=a):a≠lst:=λe=>by rw [e] at h0;exact absurd h0 (by decide)
theorem jg4 (a b:Int) (ha:wr a) (hb:wr b) (h0:0<=a) (hb0:0<b):Ret prog G0 144 #[wd a,wd b] (wd (isq (a / b))):=by
 refine zas G0F func144 rfl call144 (by simp) (by simp) (by simp [ntmps144]) ?_
 intro C hC hC0 hY
 have hz:=z1d hb (by omega)
 have s1:0<=zb8 (sz a) 0:=by rw [zct ha];unfold zb8;split<;>(try split)<;>omega
 have s2:0<zb8 (sz b) 0:=by rw [zct hb];unfold zb8;split<;>(try split)<;>omega
 obtain ⟨d1,d2⟩:=z6k ha h0 hb0
 have hl:=jgq h0
 repeat' first|refine gwZ ?_|(refine gwX ?_;intro Q hQ hP;simp [hC,hY,hz,s1,s2,ha,hb,hb0,hl,d1,d2];(first|refine gwq hQ ?_|refine hP _ _ (by kernel_rfl) λ_=>?_))|fail
 refine ⟨.inr trivial,?_⟩
 simp [results144]
@[simp] theorem rof (a b:Int) (ha:wr a) (hb:wr b) (h0:0<=a) (hb0:0<b) (K:Value->Prop):za2 prog G0 144 #[Value.agg #[.int .u64 (wi (a) 0),.int .u64 (wi (a) 1),.int .u64 (wi (a) 2),.int .u64 (wi (a) 3)],Value.agg #[.int .u64 (wi (b) 0),.int .u64 (wi (b) 1),.int .u64 (wi (b) 2),.int .u64 (wi (b) 3)]] K↔K (wd (isq (a / b))):=zac G0W (by kernel_rfl) (jg4 a b ha hb h0 hb0)
theorem jhv (a b:Int) (ha:wr a) (hb:wr b) (h0:0<=a) (hb0:0<b):Fun prog G0 143 [.pointer (some ⟨200,0,none⟩),.pointer (some ⟨208,0,none⟩)].toArray (hp2 a b) [200,208] (.ret (wd (isq (a / b))) []):=by
 refine zls (B:=300) G0F (λk hk=>zbc (by simp) hk) func143 rfl call143 ?_ ?_ ⟨zai (by simp),by simp [zaa],by simp,by simp⟩ (by simp [ntmps143]) (by omega) ?_ ?_
 ·rw [zd3];simp [hp2,dom]
 ·rw [zd3];exact zim a b _
 ·rw [zd3];exact zgk a b
 ·intro C hC hC0 hY
  rw [zd3] at hC0 |-
  repeat' first|refine gwZ ?_|(refine gwX ?_;intro Q hQ hP;simp [hC,hY,hp2,wb,ha,hb,h0,hb0];(first|refine gwq hQ ?_|refine hP _ _ (by kernel_rfl) λ_=>?_))|fail
  refine ⟨.inr rfl,by simp [results143],λk hk=>?_⟩
  have hk3:k<300:=Classical.byContradiction λh=>hk (zgk a _ k (by omega))
  simp (disch:=omega) only [zrz]
  rfl
theorem jhw (a b:Int) (hz:b=0):Fun prog G0 143 [.pointer (some ⟨200,0,none⟩),.pointer (some ⟨208,0,none⟩)].toArray (hp2 a b) [200,208] (.pan (erV 30)):=by
 refine zls (B:=300) G0F (λk hk=>zbc (by simp) hk) func143 rfl call143 ?_ ?_ trivial (by simp [ntmps143]) (by omega) ?_ ?_
 ·rw [zd3];simp [hp2,dom]
 ·rw [zd3];exact zim a b _
 ·rw [zd3];exact zgk a b
 ·intro C hC hC0 hY
  rw [zd3] at hC0 |-
  subst hz
  repeat' first|refine gwZ ?_|((first|refine gwR [1000144] ?_|refine gwD [1000144] ?_);intro Q hQ hP;(repeat first|simp [hC,hY,hp2,wb]|refine zmu (ja0 a) ?_);(first|refine gwq hQ ?_|refine hP _ _ (by kernel_rfl) λ_=>?_))|fail
  refine ⟨rfl,λk hk=>?_⟩
  have hk3:k<300:=Classical.byContradiction λh=>hk (zgk a _ k (by omega))
  simp (disch:=omega) only [zrz]
  rfl
theorem zzy (a b:Int) (ha:wr a) (hb:wr b) (h0:0<=a) (hb0:0<b):Ret prog G0 122 #[wd a,wd b] (.tuple #[wd (isq (a / b)),.int .i64 0]):=by
 refine zas G0F func122 rfl call122 (by simp) (by simp) (by simp [ntmps122]) ?_
 intro C hC hC0 hY
 repeat' first|refine gwZ ?_|((first|refine gwR [142] ?_|refine gwD [142] ?_);intro Q hQ hP;(repeat first|simp [hC,hY]|refine zcl (hp':=hp2 a b) (z0b (λk hk=>zbc (by simp) hk) (by simp) rfl (by simp) (jhv a b ha hb h0 hb0)) (by simp [hp2,wb]) (λk hk=>zbc (by simp) hk) trivial ?_);(first|refine gwq hQ ?_|refine hP _ _ (by kernel_rfl) λ_=>?_))|fail
 refine ⟨.inr trivial,?_⟩
 simp [results122,zaf]
@[simp] theorem jr1 (a b:Int) (ha:wr a) (hb:wr b) (h0:0<=a) (hb0:0<b) (K:Value->Prop):za2 prog G0 122 #[Value.agg #[.int .u64 (wi (a) 0),.int .u64 (wi (a) 1),.int .u64 (wi (a) 2),.int .u64 (wi (a) 3)],Value.agg #[.int .u64 (wi (b) 0),.int .u64 (wi (b) 1),.int .u64 (wi (b) 2),.int .u64 (wi (b) 3)]] K↔K (.tuple #[wd (isq (a / b)),.int .i64 0]):=zac G0W (by kernel_rfl) (zzy a b ha hb h0 hb0)
theorem zzz (a b:Int) (hz:b=0):Ret prog G0 122 #[wd a,wd b] (.tuple #[wd 0,.int .i64 30]):=by
 refine zas G0F func122 rfl call122 (by simp) (by simp) (by simp [ntmps122]) ?_
 intro C hC hC0 hY
 repeat' first|refine gwZ ?_|((first|refine gwR [142] ?_|refine gwD [142] ?_);intro Q hQ hP;(repeat first|simp [hC,hY]|refine zcl (hp':=hp2 a b) (z0a (λk hk=>zbc (by simp) hk) (by simp) rfl (by simp) (jhw a b hz)) (by simp [hp2,wb]) (λk hk=>zbc (by simp) hk) trivial ?_);(first|refine gwq hQ ?_|refine hP _ _ (by kernel_rfl) λ_=>?_))|fail
 refine ⟨.inr trivial,?_⟩
 simp [results122,zaf]
@[simp] theorem jn1 (a b:Int) (hz:b=0) (K:Value->Prop):za2 prog G0 122 #[Value.agg #[.int .u64 (wi (a) 0),.int .u64 (wi (a) 1),.int .u64 (wi (a) 2),.int .u64 (wi (a) 3)],Value.agg #[.int .u64 (wi (b) 0),.int .u64 (wi (b) 1),.int .u64 (wi (b) 2),.int .u64 (wi (b) 3)]] K↔K (.tuple #[wd 0,.int .i64 30]):=zac G0W (by kernel_rfl) (zzz a b hz)
theorem zdf {n:Int} (h:i64 n):wr n:=by unfold i64 at h;unfold wr;omega
theorem zzv (a b:Int):Ret prog G0 196 #[wd a,wd b] (wd (a+b)):=by
 refine zas G0F func196 rfl call196 (by simp) (by simp) (by simp [ntmps196]) ?_
 intro C hC hC0 hY
 repeat' first|refine gwZ ?_|refine gwW ?_|fail
 refine ⟨.inr trivial,?_⟩
 simp [results196]
@[simp] theorem jry (a b:Int) (K:Value->Prop):za2 prog G0 196 #[Value.agg #[.int .u64 (wi (a) 0),.int .u64 (wi (a) 1),.int .u64 (wi (a) 2),.int .u64 (wi (a) 3)],Value.agg #[.int .u64 (wi (b) 0),.int .u64 (wi (b) 1),.int .u64 (wi (b) 2),.int .u64 (wi (b) 3)]] K↔K (wd (a+b)):=zac G0W (by kernel_rfl) (zzv a b)
theorem zzx (a b:Int):Ret prog G0 184 #[wd a,wd b] (wd (a - b)):=by
 refine zas G0F func184 rfl call184 (by simp) (by simp) (by simp [ntmps184]) ?_
 intro C hC hC0 hY
 repeat' first|refine gwZ ?_|refine gwW ?_|fail
 refine ⟨.inr trivial,?_⟩
 simp [results184]
@[simp] theorem jr0 (a b:Int) (K:Value->Prop):za2 prog G0 184 #[Value.agg #[.int .u64 (wi (a) 0),.int .u64 (wi (a) 1),.int .u64 (wi (a) 2),.int .u64 (wi (a) 3)],Value.agg #[.int .u64 (wi (b) 0),.int .u64 (wi (b) 1),.int .u64 (wi (b) 2),.int .u64 (wi (b) 3)]] K↔K (wd (a - b)):=zac G0W (by kernel_rfl) (zzx a b)
theorem zzw:Ret prog G0 185 #[] (wd 1):=by
 refine zas G0F func185 rfl call185 (by simp) (by simp) (by simp [ntmps185]) ?_
 intro C hC hC0 hY
 have i1:=jf6
 repeat' first|refine gwZ ?_|(refine gwX ?_;intro Q hQ _;simp [hC,hY,i1];refine gwq hQ ?_)|fail
 refine ⟨.inr trivial,?_⟩
 simp [results185]
@[simp] theorem jrz (K:Value->Prop):za2 prog G0 185 #[] K↔K (wd 1):=zac G0W (by kernel_rfl) zzw
theorem zrr:Ret prog G0 171 #[] (.agg #[.int .u64 0,.int .u64 0,.int .u64 0,.int .u64 9223372036854775808]):=by
 refine zas G0F func171 rfl call171 (by simp) (by simp) (by simp [ntmps171]) ?_
 intro C hC hC0 hY
 repeat' first|refine gwZ ?_|refine gwW ?_|fail
 refine ⟨.inr trivial,?_⟩
 simp [results171]
@[simp] theorem jny (K:Value->Prop):za2 prog G0 171 #[] K↔K (.agg #[.int .u64 0,.int .u64 0,.int .u64 0,.int .u64 9223372036854775808]):=zac G0W (by kernel_rfl) zrr
end Go.Gy
namespace Go.Gy
open Go Go.RowKit Go.Proofs
def wl (z:Int):List Value:=[.int .u64 (wi z 0),.int .u64 (wi z 1),.int .u64 (wi z 2),.int .u64 (wi z 3)]
@[simp] theorem ji1 (z:Int):(wl z).length=4:=rfl
def lc (b:Int):Nat->List Value
 | 0=>[]
 | k+1=>lc b k++wl (b*2^k)
@[simp] theorem jp5 (b:Int) (k:Nat):(lc b k).length=4*k:=by
 induction k with
 | zero=>rfl
 | succ k ih=>simp [lc,ih];omega
theorem zq5 (b:Int) (k:Nat):∀ x∈lc b k,zbf x=true:=by
 induction k with
 | zero=>simp [lc]
 | succ k ih =>
  intro x hx
  simp only [lc,List.mem_append] at hx
  rcases hx with hx|hx
  ·exact ih x hx
  ·simp [wl] at hx
   rcases hx with rfl|rfl|rfl|rfl<;>simp
theorem zq6 (b:Int):∀ (k j:Nat) (rest:List Value),j<k->((lc b k++rest).drop (4*j)).take 4=wl (b*2^j)
 | 0,j,rest,h=>by omega
 | k+1,j,rest,h=>by
  by_cases hj:j<k
  ·rw [lc,List.append_assoc]
   exact zq6 b k j _ hj
  ·obtain rfl:j=k:=by omega
   rw [lc,List.append_assoc,show 4*j=(lc b j).length by simp,List.drop_left,show (4:Nat)=(wl (b*2^j)).length from rfl,List.take_left]
theorem jmm {a b:Int} (hb:0<b) (i:Nat):(a%(b*2^(i+1))<b*2^i/\a / (b*2^i)=2*(a / (b*2^(i+1)))/\a%(b*2^i)=a%(b*2^(i+1))) \/
  (b*2^i<=a%(b*2^(i+1))/\a / (b*2^i)=2*(a / (b*2^(i+1)))+1/\a%(b*2^i)=a%(b*2^(i+1)) - b*2^i):=by
 have e:b*2^(i+1)=2*(b*2^i):=by rw [Int.pow_succ];ac_rfl
 rw [e]
 have hm:0<b*2^i:=Int.mul_pos hb (Int.pow_pos (by decide))
 generalize b*2^i=m at *
 have h1:=Int.emod_lt_of_pos a (show 0<2*m by omega)
 have h2:=Int.emod_nonneg a (show (2*m)≠0 by omega)
 have h3:=Int.mul_ediv_add_emod a (2*m)
 generalize a / (2*m)=q at *
 generalize a%(2*m)=s at *
 have ea:a=m*(2*q)+s:=by rw [<-h3,Int.mul_comm 2 m,Int.mul_assoc]
 by_cases hs:s<m
 ·left
  refine ⟨hs,?_,?_⟩
  ·rw [ea,Int.mul_add_ediv_left _ _ (by omega),Int.ediv_eq_zero_of_lt h2 hs,Int.add_zero]
  ·rw [ea,Int.mul_add_emod_self_left,Int.emod_eq_of_lt h2 hs]
 ·right
  have es:a=m*(2*q+1)+(s - m):=by rw [ea,Int.mul_add,Int.mul_one];omega
  refine ⟨by omega,?_,?_⟩
  ·rw [es,Int.mul_add_ediv_left _ _ (by omega),Int.ediv_eq_zero_of_lt (by omega) (by omega),Int.add_zero]
  ·rw [es,Int.mul_add_emod_self_left,Int.emod_eq_of_lt (by omega) (by omega)]
end Go.Gy
namespace Go.Gy
def jne (a b:Int):Int:=if b<2*(a%b)\/(2*(a%b)=b/\0<=a / b) then a / b+1 else a / b
end Go.Gy
namespace Go.Gy
open Go Go.RowKit Go.Proofs
def sm (z:Int):Prop:=-1329227995784915872903807060280344576<=z/\z<=1329227995784915872903807060280344576
theorem sm.wr {z:Int} (h:sm z):wr z:=⟨Int.le_trans (by decide) h.1,Int.lt_of_le_of_lt h.2 (by decide)⟩
theorem sm.up {z:Int} (h:sm z):Gy.wr (z+1):=⟨Int.le_trans (by decide) (Int.le_trans h.1 (Int.le_add_one (Int.le_refl _))),Int.lt_of_le_of_lt (Int.add_le_add_right h.2 1) (by decide)⟩
def jb (n:Int):Blk:=⟨#[.int .i64 n],.ty 3⟩
end Go.Gy
namespace Go.Gy
open Go Go.RowKit Go.Proofs Go.Proofs.Tryz
theorem jm1 (p:Nat->Prop) (m:Nat):∃ N,N<=m/\(∀ i,i<N->p i)/\(N=m\/¬p N):=by
 induction m with
 | zero=>exact ⟨0,Nat.le_refl _,λi hi=>absurd hi (Nat.not_lt_zero i),.inl rfl⟩
 | succ m ih =>
  obtain ⟨N,h1,h2,h3⟩:=ih
  rcases h3 with rfl|h3
  ·by_cases hp:p N
   ·exact ⟨N+1,Nat.le_refl _,λi hi=>by
     by_cases e:i=N
     ·subst e;exact hp
     ·exact h2 i (by omega),.inl rfl⟩
   ·exact ⟨N,by omega,h2,.inr hp⟩
  ·exact ⟨N,by omega,h2,.inr h3⟩
def inW (m x:Int):Prop:=0<=m/\-m<=x/\x<=m
instance inWdec (m x:Int):Decidable (inW m x):=by unfold inW;infer_instance
theorem ztg {m:Int} (h:i64 m) (h0:0<=m):Int.bmod (-m) 18446744073709551616=-m:=by
 have:=h.1;have:=h.2
 rw [Int.bmod_def];omega
def jea (x0 x1 x2 m:Int):Hp:=hpL G0 [(200,⟨#[.int .i64 x0,.int .i64 x1,.int .i64 x2],.ty 70⟩),(208,jb m),(216,⟨#[.bool false],.ty 4⟩)]
def z07:Nat->Value:=tsL [(3,.pointer (some ⟨208,0,none⟩)),(4,.pointer (some ⟨216,0,none⟩))]
theorem zwk (x0 x1 x2 m:Int) (hm:i64 m) (h0:i64 x0) (h1:i64 x1) (h2:i64 x2):Ret prog G0 162 #[.agg #[.int .i64 x0,.int .i64 x1,.int .i64 x2],.int .i64 m] (.bool (decide (inW m x0/\inW m x1/\inW m x2))):=by
 refine zas G0F func162 rfl call162 (by simp) (by simp) (by simp [ntmps162]) ?_
 intro C hC hC0 hY
 obtain ⟨N,hN,hlt,hend⟩:=jm1 (λi=>inW m (vf x0 x1 x2 i)) 3
 repeat' first|refine gwZ ?_|((first|refine gwR [125] ?_|refine gwD [125] ?_);intro Q hQ _;(repeat first|simp [hC,hY,jb]|refine zcl (zgs 232 240 1 1 #[.int .i64 x0,.int .i64 x1,.int .i64 x2] (by simp) (by omega) (by omega) (by omega) (by omega)) (by simp) (λk hk=>zbc (by simp) hk) (by simp [Res.at,zaa]) ?_);refine gwq hQ ?_)|fail
 have hT:m<0\/0<=m:=by omega
 refine zjk (f:=145) (rs:=[240,232]) (xs:=xsV 3 (vf x0 x1 x2)) (caps:=#[.pointer (some ⟨240,0,none⟩)]) (by simp) ?_ (by simp [xsV]) (by simp [ntmps162]) z07 (λ_=>jea x0 x1 x2 m) 300 N (by simp [xsV];omega) ?_ ?_ ?_ ?_ ?_
 ·rw [hC]
  refine zhp.cast (IterX.rn (λk=>if k=100 then 240 else if k=108 then 232 else k) G0F (λk hk=>zbc (by simp [ziw]) hk) (rs:=[100,108]) ?_ (zwj x0 x1 x2)) (by simp [zan]) (by simp)
  refine ⟨λk hk=>?_,?_,?_,?_⟩
  ·have h1:¬k=100:=by omega
   have h2:¬k=108:=by omega
   have h3:¬k=200:=by omega
   have h4:¬k=208:=by omega
   have h5:¬k=216:=by omega
   have h8:¬k=232:=by omega
   have h9:¬k=240:=by omega
   simp [h1,h2,h3,h4,h5,h8,h9,pv1,ziw]
  ·simp
  ·simp [ziw,Blk.rn,zak,zan]
  ·simp
 ·refine za3 _ 300 hC G0F (m0:=[]) hC0 (by omega) ?_ ?_ ?_
  ·simp [zap,zax,zah,zaj,dom]
  ·simp [zad,zah,zaj,jb]
  ·simp
 ·simp [jea,dom]
 ·intro i hi t
  refine zhk ?_ t
  simp [zap,zax,zah,zaj,dom,jea]
 ·intro i x hi hx C1 l hC1 hh1 hY1
  have hCC:=hC
  have hC1':C1.G=G0:=hC1.trans hC
  obtain ⟨g0,g1,g2⟩:=hlt i hi
  replace hC:=hC1'
  replace hY:=hY1
  have:i=0\/i=1\/i=2:=by omega
  rcases this with rfl|rfl|rfl
  all_goals
   rw [zmi _ _ _ (by omega)] at hx
   simp only [Option.some.injEq] at hx
   subst hx
   simp only [vf] at *
   unfold jea
  all_goals
   repeat' first|refine gwZ ?_|(refine gwX ?_;intro Q hQ _;simp [hC,hY,zav,z07,jb];refine gwq hQ ?_)|fail
  all_goals
   intro C2 hC2 hh2 hY2
   replace hC:C2.G=G0:=hC2.trans hCC
   replace hY:=hY2
   have q0:¬m<0:=by omega
   have q1:=Int.not_lt.2 g1
   have q2:=Int.not_lt.2 g2
   have hbm:=ztg hm g0
   repeat' first|refine gwZ ?_|(refine gwX ?_;intro Q hQ _;simp [hC,hY,zav,z07,jb,hbm,q0,q1,q2];refine gwq hQ ?_)|fail
  all_goals
   refine za3 [] 300 hC1' G0F hh1 (by omega) ?_ ?_ ?_
   ·simp
   ·simp [zad,zah,zaj,jb]
   ·simp [jb]
 ·by_cases hend':N=3
  ·subst hend'
   left
   refine ⟨by simp [xsV],?_⟩
   have e:(inW m x0/\inW m x1/\inW m x2)=True:=by
    simp only [eq_iff_iff,iff_true]
    exact ⟨hlt 0 (by omega),hlt 1 (by omega),hlt 2 (by omega)⟩
   simp only [e]
   unfold jea z07 jb
   repeat' first|refine gwZ ?_|refine gwW ?_|fail
   refine ⟨.inr trivial,?_⟩
   simp [results162]
  ·right
   have hN3:N<3:=by omega
   replace hend:=hend.resolve_left hend'
   refine ⟨_,zmi _ _ _ hN3,?_⟩
   have e:(inW m x0/\inW m x1/\inW m x2)=False:=by
    simp only [eq_iff_iff,iff_false]
    rintro ⟨a0,a1,a2⟩
    have:N=0\/N=1\/N=2:=by omega
    rcases this with rfl|rfl|rfl<;>contradiction
   simp only [e]
   have hor:m<0\/(¬m<0/\vf x0 x1 x2 N < -m)\/(¬m<0/\¬vf x0 x1 x2 N < -m/\m<vf x0 x1 x2 N):=by
    unfold inW at hend;omega
   intro C1 l hC1 hh1 hY1
   have hCC:=hC
   replace hC:=hC1.trans hC
   replace hY:=hY1
   clear hlt hN
   have:N=0\/N=1\/N=2:=by omega
   rcases this with rfl|rfl|rfl
   all_goals
    simp only [vf] at hor |-
    unfold jea
   all_goals
    repeat' first|refine gwZ ?_|(refine gwX ?_;intro Q hQ _;simp [hC,hY,zav,z07,jb];refine gwq hQ ?_)|fail
   all_goals
    intro C2 hC2 hh2 hY2
    replace hC:C2.G=G0:=hC2.trans hCC
    replace hY:=hY2
    rcases hor with q0|⟨q0,q1⟩|⟨q0,q1,q2⟩
    ·
     repeat' first|refine gwZ ?_|(refine gwX ?_;intro Q hQ _;simp [hC,hY,zav,z07,jb,q0];refine gwq hQ ?_)|fail
     refine ⟨by simp [zbk],λt=>zhk (by simp [zap,zax,zah,zaj,dom]) t,.inr trivial,?_⟩
     simp [results162,z07]
    ·have hbm:=ztg hm (Int.not_lt.1 q0)
     repeat' first|refine gwZ ?_|(refine gwX ?_;intro Q hQ _;simp [hC,hY,zav,z07,jb,hbm,q0,q1];refine gwq hQ ?_)|fail
     refine ⟨by simp [zbk],λt=>zhk (by simp [zap,zax,zah,zaj,dom]) t,.inr trivial,?_⟩
     simp [results162,z07]
    ·have hbm:=ztg hm (Int.not_lt.1 q0)
     repeat' first|refine gwZ ?_|(refine gwX ?_;intro Q hQ _;simp [hC,hY,zav,z07,jb,hbm,q0,q1,q2];refine gwq hQ ?_)|fail
     refine ⟨by simp [zbk],λt=>zhk (by simp [zap,zax,zah,zaj,dom]) t,.inr trivial,?_⟩
     simp [results162,z07]
def inV (m x0 x1 x2:Int):Bool:=decide (inW m x0/\inW m x1/\inW m x2)
@[simp] theorem jor (x0 x1 x2 m:Int) (hm:i64 m) (h0:i64 x0) (h1:i64 x1) (h2:i64 x2) (K:Value->Prop):za2 prog G0 162 #[.agg #[.int .i64 x0,.int .i64 x1,.int .i64 x2],.int .i64 m] K↔K (.bool (inV m x0 x1 x2)):=zac G0W (by kernel_rfl) (zwk x0 x1 x2 m hm h0 h1 h2)
def fnI (x:Int):Prop:=-536870912<=x/\x<=536870912
instance fnIdec (x:Int):Decidable (fnI x):=by unfold fnI;infer_instance
theorem zsu (M m:Nat) (v:Bool) (cs:Array Value) (hcs:∀ x∈cs,zbf x=true) (f:Nat->Int) (hit:IterK prog G0 145 #[.pointer (some ⟨100,0,none⟩)] (hpL G0 [(100,⟨#[.slice (some ⟨108,0,none⟩) m m],.ty 167⟩),(108,⟨cs,.ty 70⟩)]) (zaa [(100,⟨#[.slice (some ⟨108,0,none⟩) m m],.ty 167⟩),(108,⟨cs,.ty 70⟩)]) (xsV M f)) (hv:v=true↔∀ j,j<M->fnI (f j)) :
  Fun prog G0 106 #[.slice (some ⟨100,0,none⟩) m m] (hpL G0 [(100,⟨cs,.ty 70⟩)]) [100] (.ret (.bool v) []):=by
 have hfx:Blk.fx (Blk.mk cs (.ty 70)):=hcs
 have hfi:∀ D,(Blk.mk cs (.ty 70)).ids D:=λD=>Blk.fx_ids hfx D
 refine zar (m:=[(100,⟨cs,.ty 70⟩)]) (B:=200) G0F func106 rfl call106 ⟨by simp,by simp [zaa],by simp only [List.mem_singleton,forall_eq];exact hfi _⟩ ?_ (by simp) (by simp) (by simp) (by simp [ntmps106]) (by omega) ?_
 ·simp [zap,zax,zah,zaj,zaa]
 intro C hC hC0 hY
 obtain ⟨N,hN,hlt,hend⟩:=jm1 (λi=>fnI (f i)) M
 repeat' first|refine gwZ ?_|((first|refine gwR [125] ?_|refine gwD [125] ?_);intro Q hQ _;(repeat first|simp [hC,hY,jb]|refine zcl (zgs 100 216 m m cs hcs (by omega) (by omega) (by omega) (by omega)) (by simp) (λk hk=>zbc (by simp) hk) (by simp [Res.at,zaa]) ?_);refine gwq hQ ?_)|fail
 refine zgf (G:=G0) (f:=145) (rs:=[216,100]) (xs:=xsV M f) (caps:=#[.pointer (some ⟨216,0,none⟩)]) (m0:=[(100,⟨cs,.ty 70⟩)]) [216,100] G0F hC hC0 hY (by simp) ?_ (by simp [xsV]) (by simp [ntmps106]) [(2,.pointer (some ⟨200,0,none⟩))] [] (λ_=>[(200,⟨#[.bool false],.ty 4⟩)]) 300 N (by simp [xsV];omega) (by omega) (by simp) (by simp [dom]) ?_ (by simp) (by simp) (by simp) ?_ (by simp) ?_ ?_
 ·refine zep (m:=[(100,⟨#[.slice (some ⟨108,0,none⟩) m m],.ty 167⟩),(108,⟨cs,.ty 70⟩)]) (B:=200) hit G0F ⟨by simp,by simp [zaa],?_⟩ (λk=>if k=100 then 216 else if k=108 then 100 else k) (λk hk=>?_) (by simp [zan]) (by simp [zaa]) (by (intro k hk;first|rfl|(simp (disch:=omega) only [zb3,List.mem_cons,List.not_mem_nil,or_false,zab,zaq,zaw,if_neg,zbi]<;>done))) ?_ ?_
  ·simp only [List.mem_cons,List.not_mem_nil,or_false,forall_eq_or_imp,forall_eq]
   exact ⟨by simp [zad,zah,zaj,zaa],hfi _⟩
  ·rw [if_neg (by omega),if_neg (by omega)]
  ·have hr:=λρ=>zeb hcs ρ
   simp [hr,Blk.rn,zak,zan]
  ·simp [zaa]
 ·intro k hk b hb
  simp only [List.mem_cons,List.not_mem_nil,or_false] at hk
  rcases hk with rfl|rfl
  ·simp at hb;subst hb;simp [zad,zah,zaj]
  ·simp at hb;subst hb;exact hfi _
 ·intro i hi
  simp [zap,zax,zah,zaj,dom,zad]
 ·intro i x hi hx C1 l hC1 hh1 hY1
  rw [zmi _ _ _ (by omega)] at hx
  simp only [Option.some.injEq] at hx
  subst hx
  obtain ⟨g1,g2⟩:=hlt i hi
  have q1:=Int.not_lt.2 g1
  have q2:=Int.not_lt.2 g2
  clear hC hY
  have hC:=hC1
  have hY:=hY1
  repeat' first|refine gwZ ?_|(refine gwX ?_;intro Q hQ _;simp [hC,hY,zav];refine gwq hQ ?_)|fail
  intro C2 hC2 hh2 hY2
  clear hC hY
  have hC:=hC2
  have hY:=hY2
  repeat' first|refine gwZ ?_|(refine gwX ?_;intro Q hQ _;simp [hC,hY,zav,q1,q2];refine gwq hQ ?_)|fail
  simp
 ·by_cases hend':N=M
  ·subst hend'
   left
   refine ⟨by simp [xsV],?_⟩
   have e:=hv.2 hlt
   subst e
   repeat' first|refine gwZ ?_|(refine gwX ?_;intro Q hQ _;simp [hC,hY,zb3,List.cons_append,List.nil_append];refine gwq hQ ?_)|fail
   refine ⟨.inr rfl,by simp [results106],zb4 G0F (by simp [zb3]) (by (intro k hk;first|rfl|(simp (disch:=omega) only [zb3,List.mem_cons,List.not_mem_nil,or_false,zab,zaq,zaw,if_neg,zbi]<;>done)))⟩
  ·right
   have hN3:N<M:=by omega
   replace hend:=hend.resolve_left hend'
   refine ⟨_,zmi _ _ _ hN3,?_⟩
   have e:v=false:=by
    cases v
    ·rfl
    ·exact absurd (hv.1 rfl N hN3) hend
   subst e
   have hor:f N < -536870912\/(¬f N < -536870912/\536870912<f N):=by
    unfold fnI at hend;omega
   intro C1 l hC1 hh1 hY1
   clear hC hY
   have hC:=hC1
   have hY:=hY1
   repeat' first|refine gwZ ?_|(refine gwX ?_;intro Q hQ _;simp [hC,hY,zav];refine gwq hQ ?_)|fail
   intro C2 hC2 hh2 hY2
   clear hC hY
   have hC:=hC2
   have hY:=hY2
   rcases hor with q1|⟨q1,q2⟩
   ·
    repeat' first|refine gwZ ?_|(refine gwX ?_;intro Q hQ _;simp [hC,hY,zav,q1];refine gwq hQ ?_)|fail
    refine ⟨by simp [zbk],by simp [zap,zax,zah,zaj,dom],by simp,.inr rfl,by simp [results106,zb3],zb4 G0F (by simp [zb3]) (by (intro k hk;first|rfl|(simp (disch:=omega) only [zb3,List.mem_cons,List.not_mem_nil,or_false,zab,zaq,zaw,if_neg,zbi]<;>done)))⟩
   ·
    repeat' first|refine gwZ ?_|(refine gwX ?_;intro Q hQ _;simp [hC,hY,zav,q1,q2];refine gwq hQ ?_)|fail
    refine ⟨by simp [zbk],by simp [zap,zax,zah,zaj,dom],by simp,.inr rfl,by simp [results106,zb3],zb4 G0F (by simp [zb3]) (by (intro k hk;first|rfl|(simp (disch:=omega) only [zb3,List.mem_cons,List.not_mem_nil,or_false,zab,zaq,zaw,if_neg,zbi]<;>done)))⟩

theorem zox (x0 x1 x2:Int) (v:Bool) (hv:v=true↔fnI x0/\fnI x1/\fnI x2):Fun prog G0 106 #[.slice (some ⟨100,0,none⟩) 1 1] (hpL G0 [(100,⟨#[.int .i64 x0,.int .i64 x1,.int .i64 x2],.ty 70⟩)]) [100] (.ret (.bool v) []):=by
 refine zsu 3 1 _ _ (by simp) _ (zfn x0 x1 x2) ?_
 rw [hv]
 refine ⟨λ⟨h0,h1,h2⟩ j hj=>?_,λh=>⟨h 0 (by omega),h 1 (by omega),h 2 (by omega)⟩⟩
 have:j=0\/j=1\/j=2:=by omega
 rcases this with rfl|rfl|rfl<;>assumption
theorem zf1 (x0 x1 x2 y0 y1 y2:Int) (v:Bool) (hv:v=true↔(fnI x0/\fnI x1/\fnI x2)/\fnI y0/\fnI y1/\fnI y2):Fun prog G0 106 #[.slice (some ⟨100,0,none⟩) 2 2] (hpL G0 [(100,⟨#[.int .i64 x0,.int .i64 x1,.int .i64 x2,.int .i64 y0,.int .i64 y1,.int .i64 y2],.ty 70⟩)]) [100] (.ret (.bool v) []):=by
 refine zsu 6 2 _ _ (by simp) _ (zr1 x0 x1 x2 y0 y1 y2) ?_
 rw [hv]
 refine ⟨λ⟨⟨h0,h1,h2⟩,h3,h4,h5⟩ j hj=>?_,λh=>⟨⟨h 0 (by omega),h 1 (by omega),h 2 (by omega)⟩,h 3 (by omega),h 4 (by omega),h 5 (by omega)⟩⟩
 have:j=0\/j=1\/j=2\/j=3\/j=4\/j=5:=by omega
 rcases this with rfl|rfl|rfl|rfl|rfl|rfl<;>assumption
@[simp] theorem jfp (f:Fn):za0 (.func f #[] #[])=true:=by simp [za0,zg2,zbf,Array.all]
def eaE (op:Int->Int->Int) (a0 a1 a2 b0 b1 b2:Int):Int:=if ((fnI a0/\fnI a1/\fnI a2)/\fnI b0/\fnI b1/\fnI b2)/\fnI (op a0 b0)/\fnI (op a1 b1)/\fnI (op a2 b2) then 0 else 20
def eaV (e v:Int):Int:=if e=0 then v else 0
def eaL (g:FuncId) (op:Int->Int->Int) (a0 a1 a2 b0 b1 b2:Int) (i:Nat):List (Nat×Blk):=[(200,⟨#[.int .i64 a0,.int .i64 a1,.int .i64 a2],.ty 70⟩),(208,⟨#[.int .i64 b0,.int .i64 b1,.int .i64 b2],.ty 70⟩),(216,⟨#[.func (.func g) #[] #[]],.ty 194⟩),
 (224,⟨#[.int .i64 (if 0<i then op a0 b0 else 0),.int .i64 (if 1<i then op a1 b1 else 0),.int .i64 (if 2<i then op a2 b2 else 0)],.ty 70⟩)]
theorem z2w (g:FuncId) (op:Int->Int->Int) (hop:∀ x y K,fnI x->fnI y->(za2 prog G0 g #[.int .i64 x,.int .i64 y] K↔K (.int .i64 (op x y)))) (a0 a1 a2 b0 b1 b2:Int):Ret prog G0 163 #[.agg #[.int .i64 a0,.int .i64 a1,.int .i64 a2],.agg #[.int .i64 b0,.int .i64 b1,.int .i64 b2],.func (.func g) #[] #[]]
  (.tuple #[.agg #[.int .i64 (eaV (eaE op a0 a1 a2 b0 b1 b2) (op a0 b0)),.int .i64 (eaV (eaE op a0 a1 a2 b0 b1 b2) (op a1 b1)),.int .i64 (eaV (eaE op a0 a1 a2 b0 b1 b2) (op a2 b2))],.int .i64 (eaE op a0 a1 a2 b0 b1 b2)]):=by
 refine zas G0F func163 rfl call163 (by simp) (by simp) (by simp [ntmps163]) ?_
 intro C hC hC0 hY
 obtain ⟨v,hv⟩:∃ v:Bool,v=true↔(fnI a0/\fnI a1/\fnI a2)/\fnI b0/\fnI b1/\fnI b2:=⟨decide _,decide_eq_true_iff⟩
 cases v with
 | false =>
  have e:eaE op a0 a1 a2 b0 b1 b2=20:=by unfold eaE;rw [if_neg];intro h;exact absurd (hv.2 h.1) (by simp)
  rw [e]
  repeat' first|refine gwZ ?_|((first|refine gwR [106] ?_|refine gwD [106] ?_);intro Q hQ _;(repeat first|simp [hC,hY]|refine zae (zf1 a0 a1 a2 b0 b1 b2 _ hv) G0F (B:=200) ⟨by simp,by simp [zaa],by simp [zad,zah,zaj]⟩ (λk=>if k=100 then 256 else k) (λk hk=>if_neg (by omega)) (by simp [ren,zay,zak,zan]) (by simp) (by simp [Blk.rn,zak,zan]) (by simp [zaa]) (by simp [zaa];rfl) ?_);refine gwq hQ ?_)|fail
  refine ⟨.inr trivial,?_⟩
  simp [results163,eaV]
 | true =>
  repeat' first|refine gwZ ?_|((first|refine gwR [106,125] ?_|refine gwD [106,125] ?_);intro Q hQ _;(repeat first|simp [hC,hY]|(first|(refine zae (zf1 a0 a1 a2 b0 b1 b2 _ hv) G0F (B:=200) ⟨by simp,by simp [zaa],by simp [zad,zah,zaj]⟩ (λk=>if k=100 then 256 else k) (λk hk=>if_neg (by omega)) (by simp [ren,zay,zak,zan]) (by simp) (by simp [Blk.rn,zak,zan]) (by simp [zaa]) (by simp [zaa];rfl) ?_)|refine zcl (zgs 288 296 1 1 #[.int .i64 a0,.int .i64 a1,.int .i64 a2] (by simp) (by omega) (by omega) (by omega) (by omega)) (by simp) (λk hk=>zbc (by simp) hk) (by simp [Res.at,zaa]) ?_));refine gwq hQ ?_)|fail
  obtain ⟨⟨f0,f1,f2⟩,g0,g1,g2⟩:=hv.1 rfl
  have s0:=λK=>hop a0 b0 K f0 g0
  have s1:=λK=>hop a1 b1 K f1 g1
  have s2:=λK=>hop a2 b2 K f2 g2
  refine zgf (G:=G0) (f:=145) (rs:=[296,288]) (xs:=xsV 3 (vf a0 a1 a2)) (caps:=#[.pointer (some ⟨296,0,none⟩)]) (m0:=[]) [296,288] G0F hC hC0 hY (by simp) ?_ (by simp [xsV]) (by simp [ntmps163]) [(3,.pointer (some ⟨200,0,none⟩)),(4,.pointer (some ⟨208,0,none⟩)),(5,.pointer (some ⟨216,0,none⟩)),(6,.pointer (some ⟨224,0,none⟩)),(7,.int .i64 0)] [] (eaL g op a0 a1 a2 b0 b1 b2) 400 3 (by simp [xsV]) (by omega) (by simp) (by simp [dom]) ?_ (by simp) (by simp) (by simp [eaL]) ?_ (by simp) ?_ ?_
  ·refine zep (m:=ziw a0 a1 a2) (B:=200) (zfn a0 a1 a2) G0F ⟨by simp [ziw],by simp [ziw,zaa],by simp [ziw,zad,zah,zaj,zaa]⟩ (λk=>if k=100 then 296 else if k=108 then 288 else k) (λk hk=>?_) (by simp [zan]) (by simp [ziw,zaa]) (by (intro k hk;first|rfl|(simp (disch:=omega) only [zb3,List.mem_cons,List.not_mem_nil,or_false,zab,zaq,zaw,if_neg,zbi]<;>done))) ?_ ?_
   ·rw [if_neg (by omega),if_neg (by omega)]
   ·simp [ziw,Blk.rn,zak,zan]
   ·simp [ziw,zaa]
  ·intro k hk b hb
   simp only [List.mem_cons,List.not_mem_nil,or_false] at hk
   rcases hk with rfl|rfl
   ·simp at hb;subst hb;simp [zad,zah,zaj]
   ·simp at hb;subst hb;simp [zad,zah,zaj]
  ·intro i hi
   simp [eaL,zap,zax,zah,zaj,dom,zad]
  ·intro i x hi hx C1 l hC1 hh1 hY1
   rw [zmi _ _ _ (by omega)] at hx
   simp only [Option.some.injEq] at hx
   subst hx
   clear hC hY
   have hC:=hC1
   have hY:=hY1
   have:i=0\/i=1\/i=2:=by omega
   rcases this with rfl|rfl|rfl
   all_goals
    simp only [vf]
    unfold eaL
   all_goals
    repeat' first|refine gwZ ?_|(refine gwX ?_;intro Q hQ _;simp [hC,hY,zav];refine gwq hQ ?_)|fail
   all_goals
    intro C2 hC2 hh2 hY2
    clear hC hY
    have hC:=hC2
    have hY:=hY2
    repeat' first|refine gwZ ?_|(refine gwX ?_;intro Q hQ _;simp [hC,hY,zav,s0,s1,s2];refine gwq hQ ?_)|fail
   all_goals simp
  ·left
   refine ⟨by simp [xsV],?_⟩
   obtain ⟨w,hw⟩:∃ w:Bool,w=true↔fnI (op a0 b0)/\fnI (op a1 b1)/\fnI (op a2 b2):=⟨decide _,decide_eq_true_iff⟩
   cases w with
   | false =>
    have e:eaE op a0 a1 a2 b0 b1 b2=20:=by unfold eaE;rw [if_neg];intro h;exact absurd (hw.2 h.2) (by simp)
    rw [e]
    unfold eaL
    repeat' first|refine gwZ ?_|((first|refine gwR [106] ?_|refine gwD [106] ?_);intro Q hQ _;(repeat first|simp [hC,hY,zb3,List.cons_append,List.nil_append]|refine zae (zox (op a0 b0) (op a1 b1) (op a2 b2) _ hw) G0F (B:=200) ⟨by simp,by simp [zaa],by simp [zad,zah,zaj]⟩ (λk=>if k=100 then 408 else k) (λk hk=>if_neg (by omega)) (by simp [ren,zay,zak,zan]) (by simp) (by simp [Blk.rn,zak,zan]) (by simp [zaa]) (by simp [zaa];rfl) ?_);refine gwq hQ ?_)|fail
    refine ⟨.inr trivial,?_⟩
    simp [results163,eaV]
   | true =>
    have e:eaE op a0 a1 a2 b0 b1 b2=0:=by unfold eaE;rw [if_pos];exact ⟨hv.1 rfl,hw.1 rfl⟩
    rw [e]
    unfold eaL
    repeat' first|refine gwZ ?_|((first|refine gwR [106] ?_|refine gwD [106] ?_);intro Q hQ _;(repeat first|simp [hC,hY,zb3,List.cons_append,List.nil_append]|refine zae (zox (op a0 b0) (op a1 b1) (op a2 b2) _ hw) G0F (B:=200) ⟨by simp,by simp [zaa],by simp [zad,zah,zaj]⟩ (λk=>if k=100 then 408 else k) (λk hk=>if_neg (by omega)) (by simp [ren,zay,zak,zan]) (by simp) (by simp [Blk.rn,zak,zan]) (by simp [zaa]) (by simp [zaa];rfl) ?_);refine gwq hQ ?_)|fail
    refine ⟨.inr trivial,?_⟩
    simp [results163,eaV]
theorem jop (g:FuncId) (op:Int->Int->Int) (hop:∀ x y K,fnI x->fnI y->(za2 prog G0 g #[.int .i64 x,.int .i64 y] K↔K (.int .i64 (op x y)))) (a0 a1 a2 b0 b1 b2:Int) (K:Value->Prop):za2 prog G0 163 #[.agg #[.int .i64 a0,.int .i64 a1,.int .i64 a2],.agg #[.int .i64 b0,.int .i64 b1,.int .i64 b2],.func (.func g) #[] #[]] K ↔
  K (.tuple #[.agg #[.int .i64 (eaV (eaE op a0 a1 a2 b0 b1 b2) (op a0 b0)),.int .i64 (eaV (eaE op a0 a1 a2 b0 b1 b2) (op a1 b1)),.int .i64 (eaV (eaE op a0 a1 a2 b0 b1 b2) (op a2 b2))],.int .i64 (eaE op a0 a1 a2 b0 b1 b2)]):=zac G0W (by kernel_rfl) (z2w g op hop a0 a1 a2 b0 b1 b2)
theorem z5c (x y:Int):Ret prog G0 164 #[.int .i64 x,.int .i64 y] (.int .i64 (Int.bmod (x - y) 18446744073709551616)):=by
 refine zas G0F func164 rfl call164 (by simp) (by simp) (by simp [ntmps164]) ?_
 intro C hC hC0 hY
 repeat' first|refine gwZ ?_|refine gwW ?_|fail
 refine ⟨.inr trivial,?_⟩
 simp [results164]
@[simp] theorem joq (x y:Int) (K:Value->Prop):za2 prog G0 164 #[.int .i64 x,.int .i64 y] K↔K (.int .i64 (Int.bmod (x - y) 18446744073709551616)):=zac G0W (by kernel_rfl) (z5c x y)
def zgq (a b:Int):Int:=a - b
theorem jmg {a b:Int} (h1:fnI a) (h2:fnI b):Int.bmod (a - b) 18446744073709551616=a - b:=by
 obtain ⟨h1,h3⟩:=h1
 obtain ⟨h2,h4⟩:=h2
 exact bm (by omega) (by omega)
theorem jb1 (a0 a1 a2 b0 b1 b2:Int):Ret prog G0 141 #[.agg #[.int .i64 a0,.int .i64 a1,.int .i64 a2],.agg #[.int .i64 b0,.int .i64 b1,.int .i64 b2]]
  (.tuple #[.agg #[.int .i64 (eaV (eaE zgq a0 a1 a2 b0 b1 b2) (zgq a0 b0)),.int .i64 (eaV (eaE zgq a0 a1 a2 b0 b1 b2) (zgq a1 b1)),.int .i64 (eaV (eaE zgq a0 a1 a2 b0 b1 b2) (zgq a2 b2))],.int .i64 (eaE zgq a0 a1 a2 b0 b1 b2)]):=by
 refine zas G0F func141 rfl call141 (by simp) (by simp) (by simp [ntmps141]) ?_
 intro C hC hC0 hY
 have he:=λK=>jop 164 zgq (λx y K hx hy=>by rw [joq,jmg hx hy];rfl) a0 a1 a2 b0 b1 b2 K
 repeat' first|refine gwZ ?_|(refine gwX ?_;intro Q hQ _;simp [hC,hY,he];refine gwq hQ ?_)|fail
 refine ⟨.inr trivial,?_⟩
 simp [results141]
@[simp] theorem jup (a0 a1 a2 b0 b1 b2:Int) (K:Value->Prop):za2 prog G0 141 #[.agg #[.int .i64 a0,.int .i64 a1,.int .i64 a2],.agg #[.int .i64 b0,.int .i64 b1,.int .i64 b2]] K ↔
  K (.tuple #[.agg #[.int .i64 (eaV (eaE zgq a0 a1 a2 b0 b1 b2) (zgq a0 b0)),.int .i64 (eaV (eaE zgq a0 a1 a2 b0 b1 b2) (zgq a1 b1)),.int .i64 (eaV (eaE zgq a0 a1 a2 b0 b1 b2) (zgq a2 b2))],.int .i64 (eaE zgq a0 a1 a2 b0 b1 b2)]):=zac G0W (by kernel_rfl) (jb1 a0 a1 a2 b0 b1 b2)
def dtE (a0 a1 a2 b0 b1 b2:Int):Int:=if (fnI a0/\fnI a1/\fnI a2)/\fnI b0/\fnI b1/\fnI b2 then 0 else 20
def dtV (a0 a1 a2 b0 b1 b2:Int):Int:=if (fnI a0/\fnI a1/\fnI a2)/\fnI b0/\fnI b1/\fnI b2 then a0*b0+a1*b1+a2*b2 else 0
theorem zei {a b:Int} (h1:fnI a) (h2:fnI b):-288230376151711744<=a*b/\a*b<=288230376151711744:=by
 obtain ⟨h1,h3⟩:=h1
 obtain ⟨h2,h4⟩:=h2
 have h5:(a*b).natAbs<=536870912*536870912:=by
  rw [Int.natAbs_mul]
  exact Nat.mul_le_mul (by omega) (by omega)
 omega
def dtS (a0 a1 a2 b0 b1 b2:Int):Nat->Int
 | 0=>0
 | 1=>a0*b0
 | 2=>a0*b0+a1*b1
 | _=>a0*b0+a1*b1+a2*b2
def dtL (a0 a1 a2 b0 b1 b2:Int) (i:Nat):List (Nat×Blk):=[(200,⟨#[.int .i64 a0,.int .i64 a1,.int .i64 a2],.ty 70⟩),(208,⟨#[.int .i64 b0,.int .i64 b1,.int .i64 b2],.ty 70⟩),(216,jb (dtS a0 a1 a2 b0 b1 b2 i))]
theorem z87 (a0 a1 a2 b0 b1 b2:Int):Ret prog G0 98 #[.agg #[.int .i64 a0,.int .i64 a1,.int .i64 a2],.agg #[.int .i64 b0,.int .i64 b1,.int .i64 b2]]
  (.tuple #[.int .i64 (dtV a0 a1 a2 b0 b1 b2),.int .i64 (dtE a0 a1 a2 b0 b1 b2)]):=by
 refine zas G0F func98 rfl call98 (by simp) (by simp) (by simp [ntmps98]) ?_
 intro C hC hC0 hY
 obtain ⟨v,hv⟩:∃ v:Bool,v=true↔(fnI a0/\fnI a1/\fnI a2)/\fnI b0/\fnI b1/\fnI b2:=⟨decide _,decide_eq_true_iff⟩
 cases v with
 | false =>
  have e:dtE a0 a1 a2 b0 b1 b2=20:=by unfold dtE;rw [if_neg];intro h;exact absurd (hv.2 h) (by simp)
  have e2:dtV a0 a1 a2 b0 b1 b2=0:=by unfold dtV;rw [if_neg];intro h;exact absurd (hv.2 h) (by simp)
  rw [e,e2]
  repeat' first|refine gwZ ?_|((first|refine gwR [106] ?_|refine gwD [106] ?_);intro Q hQ _;(repeat first|simp [hC,hY]|refine zae (zf1 a0 a1 a2 b0 b1 b2 _ hv) G0F (B:=200) ⟨by simp,by simp [zaa],by simp [zad,zah,zaj]⟩ (λk=>if k=100 then 248 else k) (λk hk=>if_neg (by omega)) (by simp [ren,zay,zak,zan]) (by simp) (by simp [Blk.rn,zak,zan]) (by simp [zaa]) (by simp [zaa];rfl) ?_);refine gwq hQ ?_)|fail
  refine ⟨.inr trivial,?_⟩
  simp [results98]
 | true =>
  have e:dtE a0 a1 a2 b0 b1 b2=0:=by unfold dtE;rw [if_pos];exact hv.1 rfl
  have e2:dtV a0 a1 a2 b0 b1 b2=a0*b0+a1*b1+a2*b2:=by unfold dtV;rw [if_pos];exact hv.1 rfl
  rw [e,e2]
  repeat' first|refine gwZ ?_|((first|refine gwR [106,125] ?_|refine gwD [106,125] ?_);intro Q hQ _;(repeat first|simp [hC,hY]|(first|(refine zae (zf1 a0 a1 a2 b0 b1 b2 _ hv) G0F (B:=200) ⟨by simp,by simp [zaa],by simp [zad,zah,zaj]⟩ (λk=>if k=100 then 248 else k) (λk hk=>if_neg (by omega)) (by simp [ren,zay,zak,zan]) (by simp) (by simp [Blk.rn,zak,zan]) (by simp [zaa]) (by simp [zaa];rfl) ?_)|refine zcl (zgs 280 288 1 1 #[.int .i64 a0,.int .i64 a1,.int .i64 a2] (by simp) (by omega) (by omega) (by omega) (by omega)) (by simp) (λk hk=>zbc (by simp) hk) (by simp [Res.at,zaa]) ?_));refine gwq hQ ?_)|fail
  obtain ⟨⟨f0,f1,f2⟩,g0,g1,g2⟩:=hv.1 rfl
  have m0:=zei f0 g0
  have m1:=zei f1 g1
  have m2:=zei f2 g2
  have s0:Int.bmod (a0*b0) 18446744073709551616=a0*b0:=bm (by omega) (by omega)
  have s1:Int.bmod (a1*b1) 18446744073709551616=a1*b1:=bm (by omega) (by omega)
  have s2:Int.bmod (a2*b2) 18446744073709551616=a2*b2:=bm (by omega) (by omega)
  have s3:Int.bmod (a0*b0+a1*b1) 18446744073709551616=a0*b0+a1*b1:=bm (by omega) (by omega)
  have s4:Int.bmod (a0*b0+a1*b1+a2*b2) 18446744073709551616=a0*b0+a1*b1+a2*b2:=bm (by omega) (by omega)
  refine zgf (G:=G0) (f:=145) (rs:=[288,280]) (xs:=xsV 3 (vf a0 a1 a2)) (caps:=#[.pointer (some ⟨288,0,none⟩)]) (m0:=[]) [288,280] G0F hC hC0 hY (by simp) ?_ (by simp [xsV]) (by simp [ntmps98]) [(2,.pointer (some ⟨200,0,none⟩)),(3,.pointer (some ⟨208,0,none⟩)),(4,.pointer (some ⟨216,0,none⟩)),(5,.int .i64 0)] [] (dtL a0 a1 a2 b0 b1 b2) 400 3 (by simp [xsV]) (by omega) (by simp) (by simp [dom]) ?_ (by simp) (by simp) (by simp [dtL,dtS,jb]) ?_ (by simp) ?_ ?_
  ·refine zep (m:=ziw a0 a1 a2) (B:=200) (zfn a0 a1 a2) G0F ⟨by simp [ziw],by simp [ziw,zaa],by simp [ziw,zad,zah,zaj,zaa]⟩ (λk=>if k=100 then 288 else if k=108 then 280 else k) (λk hk=>?_) (by simp [zan]) (by simp [ziw,zaa]) (by (intro k hk;first|rfl|(simp (disch:=omega) only [zb3,List.mem_cons,List.not_mem_nil,or_false,zab,zaq,zaw,if_neg,zbi]<;>done))) ?_ ?_
   ·rw [if_neg (by omega),if_neg (by omega)]
   ·simp [ziw,Blk.rn,zak,zan]
   ·simp [ziw,zaa]
  ·intro k hk b hb
   simp only [List.mem_cons,List.not_mem_nil,or_false] at hk
   rcases hk with rfl|rfl
   ·simp at hb;subst hb;simp [zad,zah,zaj]
   ·simp at hb;subst hb;simp [zad,zah,zaj]
  ·intro i hi
   simp [dtL,jb,zap,zax,zah,zaj,dom,zad]
  ·intro i x hi hx C1 l hC1 hh1 hY1
   rw [zmi _ _ _ (by omega)] at hx
   simp only [Option.some.injEq] at hx
   subst hx
   clear hC hY
   have hC:=hC1
   have hY:=hY1
   have:i=0\/i=1\/i=2:=by omega
   rcases this with rfl|rfl|rfl
   all_goals
    simp only [vf]
    unfold dtL
   all_goals
    repeat' first|refine gwZ ?_|(refine gwX ?_;intro Q hQ _;simp [hC,hY,zav,dtS,jb];refine gwq hQ ?_)|fail
   all_goals
    intro C2 hC2 hh2 hY2
    clear hC hY
    have hC:=hC2
    have hY:=hY2
    repeat' first|refine gwZ ?_|(refine gwX ?_;intro Q hQ _;simp [hC,hY,zav,s0,s1,s2,s3,s4,dtS,jb];refine gwq hQ ?_)|fail
   all_goals simp [dtS,jb,s0,s1,s2,s3,s4]
  ·left
   refine ⟨by simp [xsV],?_⟩
   unfold dtL
   repeat' first|refine gwZ ?_|(refine gwX ?_;intro Q hQ _;simp [hC,hY,zb3,List.cons_append,List.nil_append,dtS,jb];refine gwq hQ ?_)|fail
   refine ⟨.inr trivial,?_⟩
   simp [results98]
@[simp] theorem juo (a0 a1 a2 b0 b1 b2:Int) (K:Value->Prop):za2 prog G0 98 #[.agg #[.int .i64 a0,.int .i64 a1,.int .i64 a2],.agg #[.int .i64 b0,.int .i64 b1,.int .i64 b2]] K↔K (.tuple #[.int .i64 (dtV a0 a1 a2 b0 b1 b2),.int .i64 (dtE a0 a1 a2 b0 b1 b2)]):=zac G0W (by kernel_rfl) (z87 a0 a1 a2 b0 b1 b2)
def f2E (a0 a1 a2 b0 b1 b2:Int):Int:=eaE zgq a0 a1 a2 b0 b1 b2
def f2V (a0 a1 a2 b0 b1 b2:Int):Int:=if f2E a0 a1 a2 b0 b1 b2=0 then (a0 - b0)*(a0 - b0)+(a1 - b1)*(a1 - b1)+(a2 - b2)*(a2 - b2) else 0
theorem z29 (a0 a1 a2 b0 b1 b2:Int):Ret prog G0 120 #[.agg #[.int .i64 a0,.int .i64 a1,.int .i64 a2],.agg #[.int .i64 b0,.int .i64 b1,.int .i64 b2]]
  (.tuple #[.int .i64 (f2V a0 a1 a2 b0 b1 b2),.int .i64 (f2E a0 a1 a2 b0 b1 b2)]):=by
 refine zas G0F func120 rfl call120 (by simp) (by simp) (by simp [ntmps120]) ?_
 intro C hC hC0 hY
 have eV0:∀ z,eaV 0 z=z:=λz=>by simp [eaV]
 by_cases h:((fnI a0/\fnI a1/\fnI a2)/\fnI b0/\fnI b1/\fnI b2)/\fnI (zgq a0 b0)/\fnI (zgq a1 b1)/\fnI (zgq a2 b2)
 ·have he:eaE zgq a0 a1 a2 b0 b1 b2=0:=by unfold eaE;rw [if_pos h]
  have hd:dtE (zgq a0 b0) (zgq a1 b1) (zgq a2 b2) (zgq a0 b0) (zgq a1 b1) (zgq a2 b2)=0:=by unfold dtE;rw [if_pos ⟨h.2,h.2⟩]
  have hv:dtV (zgq a0 b0) (zgq a1 b1) (zgq a2 b2) (zgq a0 b0) (zgq a1 b1) (zgq a2 b2)=f2V a0 a1 a2 b0 b1 b2:=by unfold dtV f2V f2E;rw [if_pos ⟨h.2,h.2⟩,he,if_pos rfl];rfl
  have hF:f2E a0 a1 a2 b0 b1 b2=0:=he
  rw [hF]
  repeat' first|refine gwZ ?_|(refine gwX ?_;intro Q hQ _;simp [hC,hY,he,eV0,hd,hv];refine gwq hQ ?_)|fail
  refine ⟨.inr trivial,?_⟩
  simp [results120]
 ·have he:eaE zgq a0 a1 a2 b0 b1 b2=20:=by unfold eaE;rw [if_neg h]
  have hF:f2E a0 a1 a2 b0 b1 b2=20:=he
  have hv:f2V a0 a1 a2 b0 b1 b2=0:=by unfold f2V;rw [hF,if_neg (by omega)]
  rw [hF,hv]
  repeat' first|refine gwZ ?_|(refine gwX ?_;intro Q hQ _;simp [hC,hY,he];refine gwq hQ ?_)|fail
  refine ⟨.inr trivial,?_⟩
  simp [results120]
@[simp] theorem jsr (a0 a1 a2 b0 b1 b2:Int) (K:Value->Prop):za2 prog G0 120 #[.agg #[.int .i64 a0,.int .i64 a1,.int .i64 a2],.agg #[.int .i64 b0,.int .i64 b1,.int .i64 b2]] K↔K (.tuple #[.int .i64 (f2V a0 a1 a2 b0 b1 b2),.int .i64 (f2E a0 a1 a2 b0 b1 b2)]):=zac G0W (by kernel_rfl) (z29 a0 a1 a2 b0 b1 b2)
theorem zxs (a0 a1 a2 b0 b1 b2:Int) (hf:(fnI a0/\fnI a1/\fnI a2)/\fnI b0/\fnI b1/\fnI b2):Ret prog G0 73 #[.agg #[.int .i64 a0,.int .i64 a1,.int .i64 a2],.agg #[.int .i64 b0,.int .i64 b1,.int .i64 b2]]
  (.tuple #[.agg #[.int .i64 (a1*b2 - a2*b1),.int .i64 (a2*b0 - a0*b2),.int .i64 (a0*b1 - a1*b0)],.int .i64 0]):=by
 refine zas G0F func73 rfl call73 (by simp) (by simp) (by simp [ntmps73]) ?_
 intro C hC hC0 hY
 have hv:true=true↔(fnI a0/\fnI a1/\fnI a2)/\fnI b0/\fnI b1/\fnI b2:=⟨λ_=>hf,λ_=>rfl⟩
 obtain ⟨⟨f0,f1,f2⟩,g0,g1,g2⟩:=hf
 have m01:=zei f0 g1
 have m02:=zei f0 g2
 have m10:=zei f1 g0
 have m12:=zei f1 g2
 have m20:=zei f2 g0
 have m21:=zei f2 g1
 have s01:Int.bmod (a0*b1) 18446744073709551616=a0*b1:=bm (by omega) (by omega)
 have s02:Int.bmod (a0*b2) 18446744073709551616=a0*b2:=bm (by omega) (by omega)
 have s10:Int.bmod (a1*b0) 18446744073709551616=a1*b0:=bm (by omega) (by omega)
 have s12:Int.bmod (a1*b2) 18446744073709551616=a1*b2:=bm (by omega) (by omega)
 have s20:Int.bmod (a2*b0) 18446744073709551616=a2*b0:=bm (by omega) (by omega)
 have s21:Int.bmod (a2*b1) 18446744073709551616=a2*b1:=bm (by omega) (by omega)
 have t0:Int.bmod (a1*b2 - a2*b1) 18446744073709551616=a1*b2 - a2*b1:=bm (by omega) (by omega)
 have t1:Int.bmod (a2*b0 - a0*b2) 18446744073709551616=a2*b0 - a0*b2:=bm (by omega) (by omega)
 have t2:Int.bmod (a0*b1 - a1*b0) 18446744073709551616=a0*b1 - a1*b0:=bm (by omega) (by omega)
 repeat' first|refine zal ?_|refine zat ?_|refine gwZ ?_|((first|refine gwR [106] ?_|refine gwD [106] ?_);intro Q hQ _;(repeat first|simp [hC,hY,s01,s02,s10,s12,s20,s21,t0,t1,t2]|refine zae (zf1 a0 a1 a2 b0 b1 b2 _ hv) G0F (B:=200) ⟨by simp,by simp [zaa],by simp [zad,zah,zaj]⟩ (λk=>if k=100 then 248 else k) (λk hk=>if_neg (by omega)) (by simp [ren,zay,zak,zan]) (by simp) (by simp [Blk.rn,zak,zan]) (by simp [zaa]) (by simp [zaa];rfl) ?_);refine gwq hQ ?_)|fail
 refine ⟨.inr trivial,?_⟩
 simp [results73]
theorem z84 {a0 a1 a2 b0 b1 b2:Int} (hf:(fnI a0/\fnI a1/\fnI a2)/\fnI b0/\fnI b1/\fnI b2) (K:Value->Prop):za2 prog G0 73 #[.agg #[.int .i64 a0,.int .i64 a1,.int .i64 a2],.agg #[.int .i64 b0,.int .i64 b1,.int .i64 b2]] K↔K (.tuple #[.agg #[.int .i64 (a1*b2 - a2*b1),.int .i64 (a2*b0 - a0*b2),.int .i64 (a0*b1 - a1*b0)],.int .i64 0]):=zac G0W (by kernel_rfl) (zxs a0 a1 a2 b0 b1 b2 hf)
theorem jai (x0 x1 x2 v0 v1 v2:Int):Ret prog G0 71 #[.agg #[.int .i64 x0,.int .i64 x1,.int .i64 x2,.int .i64 v0,.int .i64 v1,.int .i64 v2]] (.agg #[.int .i64 v0,.int .i64 v1,.int .i64 v2]):=by
 refine zas G0F func71 rfl call71 (by simp) (by simp) (by simp [ntmps71]) ?_
 intro C hC hC0 hY
 repeat' first|refine gwZ ?_|refine gwW ?_|fail
 refine ⟨.inr trivial,?_⟩
 simp [results71]
theorem jm8 (x0 x1 x2 v0 v1 v2:Int) (K:Value->Prop):za2 prog G0 71 #[.agg #[.int .i64 x0,.int .i64 x1,.int .i64 x2,.int .i64 v0,.int .i64 v1,.int .i64 v2]] K↔K (.agg #[.int .i64 v0,.int .i64 v1,.int .i64 v2]):=zac G0W (by kernel_rfl) (jai x0 x1 x2 v0 v1 v2)
theorem jag (x0 x1 x2 v0 v1 v2:Int) (hf:(fnI x0/\fnI x1/\fnI x2)/\fnI v0/\fnI v1/\fnI v2):Ret prog G0 72 #[.agg #[.int .i64 x0,.int .i64 x1,.int .i64 x2,.int .i64 v0,.int .i64 v1,.int .i64 v2]] (.agg #[.int .i64 (x1*v2 - x2*v1),.int .i64 (x2*v0 - x0*v2),.int .i64 (x0*v1 - x1*v0)]):=by
 refine zas G0F func72 rfl call72 (by simp) (by simp) (by simp [ntmps72]) ?_
 intro C hC hC0 hY
 have hc:=z84 hf
 repeat' first|refine gwZ ?_|(refine gwX ?_;intro Q hQ _;simp [hC,hY,hc];refine gwq hQ ?_)|fail
 refine ⟨.inr trivial,?_⟩
 simp [results72]
theorem jm6 {x0 x1 x2 v0 v1 v2:Int} (hf:(fnI x0/\fnI x1/\fnI x2)/\fnI v0/\fnI v1/\fnI v2) (K:Value->Prop):za2 prog G0 72 #[.agg #[.int .i64 x0,.int .i64 x1,.int .i64 x2,.int .i64 v0,.int .i64 v1,.int .i64 v2]] K↔K (.agg #[.int .i64 (x1*v2 - x2*v1),.int .i64 (x2*v0 - x0*v2),.int .i64 (x0*v1 - x1*v0)]):=zac G0W (by kernel_rfl) (jag x0 x1 x2 v0 v1 v2 hf)
theorem zy1 (a0 a1 a2 b0 b1 b2:Int) (h0:i64 (b0 - a0)) (h1:i64 (b1 - a1)) (h2:i64 (b2 - a2)):Ret prog G0 35 #[.agg #[.int .i64 a0,.int .i64 a1,.int .i64 a2],.agg #[.int .i64 b0,.int .i64 b1,.int .i64 b2]] (.agg #[.int .i64 (b0 - a0),.int .i64 (b1 - a1),.int .i64 (b2 - a2)]):=by
 refine zas G0F func35 rfl call35 (by simp) (by simp) (by simp [ntmps35]) ?_
 intro C hC hC0 hY
 have t0:Int.bmod (b0 - a0) 18446744073709551616=b0 - a0:=bm h0.1 h0.2
 have t1:Int.bmod (b1 - a1) 18446744073709551616=b1 - a1:=bm h1.1 h1.2
 have t2:Int.bmod (b2 - a2) 18446744073709551616=b2 - a2:=bm h2.1 h2.2
 repeat' first|refine zal ?_|refine zat ?_|refine gwZ ?_|(refine gwX ?_;intro Q hQ _;simp [hC,hY,t0,t1,t2];refine gwq hQ ?_)|fail
 refine ⟨.inr trivial,?_⟩
 simp [results35]
theorem jah {a0 a1 a2 b0 b1 b2:Int} (h0:i64 (b0 - a0)) (h1:i64 (b1 - a1)) (h2:i64 (b2 - a2)) (K:Value->Prop):za2 prog G0 35 #[.agg #[.int .i64 a0,.int .i64 a1,.int .i64 a2],.agg #[.int .i64 b0,.int .i64 b1,.int .i64 b2]] K↔K (.agg #[.int .i64 (b0 - a0),.int .i64 (b1 - a1),.int .i64 (b2 - a2)]):=zac G0W (by kernel_rfl) (zy1 a0 a1 a2 b0 b1 b2 h0 h1 h2)
theorem zye (a b:Int):Ret prog G0 37 #[wd a,wd b] (wd (a - b)):=by
 refine zas G0F func37 rfl call37 (by simp) (by simp) (by simp [ntmps37]) ?_
 intro C hC hC0 hY
 repeat' first|refine gwZ ?_|refine gwW ?_|fail
 refine ⟨.inr trivial,?_⟩
 simp [results37]
@[simp] theorem jrh (a b:Int) (K:Value->Prop):za2 prog G0 37 #[Value.agg #[.int .u64 (wi (a) 0),.int .u64 (wi (a) 1),.int .u64 (wi (a) 2),.int .u64 (wi (a) 3)],Value.agg #[.int .u64 (wi (b) 0),.int .u64 (wi (b) 1),.int .u64 (wi (b) 2),.int .u64 (wi (b) 3)]] K↔K (wd (a - b)):=zac G0W (by kernel_rfl) (zye a b)
def zrp (a b:Int) (i:Nat) (rest:List Value):Hp:=hpL G0 [(200,wb a),(208,wb b),(216,wb 0),(224,wb 0),(240,⟨(lc b (i+1)++rest).toArray,.ty 30⟩)]
def zrq (i cap:Nat):Nat->Value:=tsL [(2,.pointer (some ⟨200,0,none⟩)),(3,.pointer (some ⟨208,0,none⟩)),(4,.pointer (some ⟨216,0,none⟩)),(5,.pointer (some ⟨224,0,none⟩)),(6,.slice (some ⟨240,0,none⟩) (i+1) cap)]
def plS (b:Int) (i cap:Nat) (rest:List Value):Prop:=i<=255/\i+1<=cap/\(lc b (i+1)++rest).length=4*cap/\∀ x∈rest,zbf x=true
def plI (a b:Int) (N m:Nat) (s:GS):Prop:=∃ i cap rest,i+m=N/\s=⟨zrq i cap,zrp a b i rest,256,0⟩/\plS b i cap rest/\(0<i->b*2^i<=a)
def plJ (C:Ctx) (a b:Int) (s:GS):Prop:=∃ i cap rest,Weak C s ⟨zrq i cap,zrp a b i rest,256,0⟩/\plS b i cap rest/\(0<i->b*2^i<=a)/\a<b*2^(i+1)
def jbd (a b:Int) (i cap:Nat) (rest:List Value) (j:Nat):GS :=
 ⟨tsL [(2,.pointer (some ⟨200,0,none⟩)),(3,.pointer (some ⟨208,0,none⟩)),(4,.pointer (some ⟨216,0,none⟩)),(5,.pointer (some ⟨224,0,none⟩)),(6,.slice (some ⟨240,0,none⟩) (i+1) cap),(9,.pointer (some ⟨256,0,none⟩)),(10,.int .i64 (i - j))],
 hpL G0 [(200,wb (a%(b*2^(i+1 - j)))),(208,wb b),(216,wb 0),(224,wb 0),(240,⟨(lc b (i+1)++rest).toArray,.ty 30⟩),(256,wb (a / (b*2^(i+1 - j))))],400,0⟩
theorem je4 {b:Int} (hb0:0<b) (i:Nat) (h:b*2^i<57896044618658097711785492504343953926634992332820282019728792003956564819968):i<255:=by
 refine Classical.byContradiction λhc=>?_
 have h1:(2:Int)^255<=2^i:=by exact_mod_cast Nat.pow_le_pow_right (by omega) (by omega:255<=i)
 have h2:(1:Int)*2^i<=b*2^i:=Int.mul_le_mul_of_nonneg_right (by omega) (Int.le_of_lt (zbb i))
 have h3:(2:Int)^255=57896044618658097711785492504343953926634992332820282019728792003956564819968:=rfl
 omega
theorem z2t (b:Int) (i:Nat):b*2^(i+1)=b*2^i+b*2^i:=by rw [Int.pow_succ,<-Int.mul_assoc,Int.mul_comm,Int.two_mul]
theorem zti {z:Int} (h0:0<=z) (h1:z<57896044618658097711785492504343953926634992332820282019728792003956564819968):ng z=false:=by
 rw [zel,zg5 h0 h1];simp;exact h0
theorem z4o {z:Int} (h0:57896044618658097711785492504343953926634992332820282019728792003956564819968<=z) (h1:z<115792089237316195423570985008687907853269984665640564039457584007913129639936):ng z=true:=by
 rw [zel];simp
 unfold sz;rw [Int.bmod_def];split<;>omega
theorem zxz {x:Value} (h:x∈(Value.agg #[.int .u64 0,.int .u64 0,.int .u64 0,.int .u64 0]).cells):zbf x=true:=by
 simp [Value.cells] at h;subst h;rfl
theorem zhf {b:Int} {k:Nat} {rest:List Value} {T:TypeId} {D:Nat->Prop} (h:∀ x∈rest,zbf x=true):(Blk.mk (lc b k++rest).toArray T).ids D:=λx hx=>by
 simp only [List.mem_toArray,List.mem_append] at hx
 rcases hx with hx|hx
 ·exact zdl (zq5 b k x hx)
 ·exact zdl (h x hx)
theorem z88 {a m:Int} (h0:0<=a) (hm:0<m):a%m<=a:=by
 have h1:=Int.mul_ediv_add_emod a m
 have h2:=Int.ediv_nonneg h0 (Int.le_of_lt hm)
 have h3:=Int.mul_nonneg (Int.le_of_lt hm) h2
 omega
theorem zs1 (b:Int) (i:Nat) (rest:List Value):(lc b (i+1)++rest).take ((i+1)*4)=lc b (i+1):=by
 rw [show (i+1)*4=(lc b (i+1)).length by simp;omega,List.take_left]
theorem z99 {b Y:Int} (i:Nat) (rest:List Value) (h:b*2^(i+1)=Y):(lc b (i+1)++rest).take ((i+1)*4)++wl Y++(lc b (i+1)++rest).drop ((i+1)*4+(wl Y).length)=lc b (i+2)++rest.drop 4:=by
 rw [zs1,ji1,show (i+1)*4+4=(lc b (i+1)).length+4 by simp;omega,List.drop_append]
 simp only [Nat.add_sub_cancel_left]
 rw [List.drop_eq_nil_of_le (by omega),List.nil_append,<-h]
 rfl
theorem z98 {b Y:Int} (i:Nat) (rest tl:List Value) (h:b*2^(i+1)=Y):(lc b (i+1)++rest).take ((i+1)*4)++wl Y++tl=lc b (i+2)++tl:=by
 rw [zs1,<-h];rfl
theorem z67 {b:Int} {k:Nat} {rest:List Value} {T:TypeId} {ρ:Nat->Nat} (h:∀ x∈rest,zbf x=true):(Blk.mk (lc b k++rest).toArray T).rn ρ=⟨(lc b k++rest).toArray,T⟩:=by
 unfold Blk.rn
 rw [zbs]
 intro x hx
 simp only [List.mem_toArray,List.mem_append] at hx
 rcases hx with hx|hx
 ·exact zb9 (zq5 b k x hx)
 ·exact zb9 (h x hx)
theorem jiw (a b c d:Int) (T:TypeId) (ρ:Nat->Nat):(Blk.mk #[.int .u64 a,.int .u64 b,.int .u64 c,.int .u64 d] T).rn ρ=⟨#[.int .u64 a,.int .u64 b,.int .u64 c,.int .u64 d],T⟩:=by simp [Blk.rn,zak,zan]
theorem jbe (a b:Int) (ha:wr a) (h0:0<=a) (hb:wr b) (hb0:0<b):Ret prog G0 183 #[wd a,wd b] (.tuple #[wd (a / b),wd (a%b)]):=by
 refine zas G0F func183 rfl call183 (by simp) (by simp) (by simp [ntmps183]) ?_
 intro C hC hC0 hY
 repeat' first|refine gwZ ?_|refine gwW ?_|fail
 refine z8e (plJ C a b) ?_ ?_
 ·refine zjj (plI a b 255) (m0:=255) (s0:=⟨zrq 0 1,zrp a b 0 [],256,0⟩) ?_ ⟨0,1,[],by omega,rfl,⟨by omega,by omega,rfl,by simp⟩,by omega⟩ ?_
  ·refine za3 _ 256 hC G0F (m0:=[]) hC0 (by omega) ?_ ?_ ?_
   ·simp [zap,zax,zah,zaj,dom]
   ·simp [zad,zah,zaj,wb,lc,wl,zaf]
   ·simp
  ·rintro m _ ⟨i,cap,rest,him,rfl,⟨hi255,hcap,hlen,hrf⟩,hle⟩
   have bi:Int.bmod (i:Int) 18446744073709551616=i:=bm (by omega) (by omega)
   have fit:i*4+4<=4*(i+1)+rest.length:=by omega
   have rd:List.take 4 (List.drop (i*4) (lc b (i+1)++rest))=[.int .u64 (wi (b*2^i) 0),.int .u64 (wi (b*2^i) 1),.int .u64 (wi (b*2^i) 2),.int .u64 (wi (b*2^i) 3)]:=by
    rw [Nat.mul_comm];exact zq6 b (i+1) i rest (by omega)
   have i0:(0:Int)<=i:=by omega
   have i1:(i:Int)<i+1:=by omega
   have hau:=ha.2
   have hbu:=hb.2
   have hX0:0<b*2^i:=Int.mul_pos hb0 (zbb i)
   have hX1:b*2^i<57896044618658097711785492504343953926634992332820282019728792003956564819968:=by
    by_cases hi0:i=0
    ·subst hi0;simpa using hbu
    ·exact Int.lt_of_le_of_lt (hle (by omega)) hau
   have sza:sz a=a:=zct ha
   have hd:=z2t b i
   have n1:ng (b*2^i)=false:=zti (Int.le_of_lt hX0) hX1
   have hi254:=je4 hb0 i hX1
   generalize hX:b*2^i=X at *
   by_cases hov:X+X<57896044618658097711785492504343953926634992332820282019728792003956564819968
   ·have n2:ng (X+X)=false:=zti (by omega) hov
    have szd:sz (X+X)=X+X:=zg5 (by omega) hov
    by_cases hle2:X+X<=a
    ·have hcmp:¬0<zb8 (sz (X+X)) (sz a):=by rw [szd,sza];unfold zb8;split<;>(try split)<;>omega
     unfold zrq zrp
     repeat' first|refine gwZ ?_|(refine gwX ?_;intro Q hQ _;simp [hC,hY,wb,bi,fit,rd,i0,i1,n1,n2,hcmp];refine gwq hQ ?_)|fail
     refine jed 3 rfl [] rfl (by kernel_rfl) ?_
     intro q hq
     simp [hC,hY]
     refine zxg (c:=lc b (i+1)++rest) (c2:=wl (X+X)) (k:=240) (j:=480) (m:=1) (m':=1) (sl:=i+1) (cap:=cap) (e:=30) (T2:=.ty 30) (sz:=4) (by':=32) (z:=.agg #[.int .u64 0,.int .u64 0,.int .u64 0,.int .u64 0]) rfl (by simp) (by simp) (by simp) (by kernel_rfl) (by simp) (by omega) (by simp) ?_ (by simp) (by simp [wl]) ?_ ?_ ?_ ?_ ?_ ?_ ?_ ?_ ?_ ?_
     ·exact λx hx=>(List.mem_append.1 hx).elim (zq5 b _ x) (hrf x)
     ·simp [wl]
     ·simp [wl,Value.oneCell']
     ·exact λq x hx=>zxz (zt5 hx)
     ·simp
     ·rw [hlen];omega
     ·exact hcap
     ·unfold maxLen;omega
     ·omega
     ·intro hr
      rw [z99 i rest hd]
      simp [ji8,zcx]
      refine hq _ _ _ _ ?_
      simp only [zdh,zcj]
      refine ⟨_,_,m - 1,zp4 (λk=>k) _ 256 hC G0F (m0:=[]) hC0 (by omega) ?_ ?_ ?_ ?_ ?_,⟨i+1,cap,rest.drop 4,by omega,rfl,⟨by omega,hr,?_,λx hx=>hrf x (List.mem_of_mem_drop hx)⟩,λ_=>by rw [hd];exact hle2⟩,by omega⟩
      ·simp [dom,zcm,ren,zay,zak,zan]
      ·simp [jiw,z67 (λx hx=>hrf x (List.mem_of_mem_drop hx):∀ x∈rest.drop 4,zbf x=true),zhf (λx hx=>hrf x (List.mem_of_mem_drop hx):∀ x∈rest.drop 4,zbf x=true),wb]
      ·simp
      ·exact λk _=>rfl
      ·simp
      ·simp at hlen |-;omega
     ·intro hr cap' hc'
      rw [z98 i rest _ hd]
      have hzl:(Builtin.zeroCells (Value.agg #[.int .u64 0,.int .u64 0,.int .u64 0,.int .u64 0]).cells (cap' - (i+1+1))).toList.length=(cap' - (i+1+1))*4:=by simp [zsa,Value.cells]
      have hzf:∀ x∈(Builtin.zeroCells (Value.agg #[.int .u64 0,.int .u64 0,.int .u64 0,.int .u64 0]).cells (cap' - (i+1+1))).toList,zbf x=true:=λx hx=>zxz (zt5 (by simpa using hx))
      generalize (Builtin.zeroCells (Value.agg #[.int .u64 0,.int .u64 0,.int .u64 0,.int .u64 0]).cells (cap' - (i+1+1))).toList=tl at *
      simp [ji8,zcx]
      refine hq _ _ _ _ ?_
      simp only [zdh,zcj]
      refine ⟨_,_,m - 1,zp4 (λk=>if k=240 then 488 else k) _ 256 hC G0F (m0:=[]) hC0 (by omega) ?_ ?_ ?_ ?_ ?_,⟨i+1,cap',tl,by omega,rfl,⟨by omega,hc',?_,hzf⟩,λ_=>by rw [hd];exact hle2⟩,by omega⟩
      ·simp [dom,zcm,ren,zay,zak,zan]
      ·simp [jiw,z67 hzf,zhf hzf,wb]
      ·simp
      ·intro k hk;simp;omega
      ·simp
      ·simp [hzl];omega
    ·have hcmp:0<zb8 (sz (X+X)) (sz a):=by rw [szd,sza];unfold zb8;split<;>(try split)<;>omega
     unfold zrq zrp
     repeat' first|refine gwZ ?_|(refine gwX ?_;intro Q hQ _;simp [hC,hY,wb,bi,fit,rd,i0,i1,n1,n2,hcmp];refine gwq hQ ?_)|fail
     rw [if_neg (by decide),if_pos trivial,zi8]
     refine ⟨i,cap,rest,?_,⟨hi255,hcap,hlen,hrf⟩,by rw [hX];exact hle,by rw [hd];omega⟩
     refine za3 _ 256 hC G0F (m0:=[]) hC0 (by omega) ?_ ?_ ?_
     ·simp [dom]
     ·simp [wb,zhf hrf]
     ·simp
   ·have n2:ng (X+X)=true:=z4o (by omega) (by omega)
    unfold zrq zrp
    repeat' first|refine gwZ ?_|(refine gwX ?_;intro Q hQ _;simp [hC,hY,bi,fit,rd,i0,i1,n1,n2];refine gwq hQ ?_)|fail
    rw [if_neg (by decide),if_pos trivial,zi8]
    refine ⟨i,cap,rest,?_,⟨hi255,hcap,hlen,hrf⟩,by rw [hX];exact hle,by rw [hd];omega⟩
    refine za3 _ 256 hC G0F (m0:=[]) hC0 (by omega) ?_ ?_ ?_
    ·simp [dom]
    ·simp [wb,zhf hrf]
    ·simp
 ·rintro s' ⟨i,cap,rest,hw,⟨hi255,hcap,hlen,hrf⟩,hle,hlt⟩
  refine zqf hw ?_
  clear hw
  have bi:Int.bmod (i:Int) 18446744073709551616=i:=bm (by omega) (by omega)
  have hau:=ha.2
  have hbu:=hb.2
  have sza:sz a=a:=zct ha
  have hlt0:=Int.emod_eq_of_lt h0 hlt
  have hlt1:=Int.ediv_eq_zero_of_lt h0 hlt
  unfold zrq zrp
  repeat' first|refine gwZ ?_|(refine gwX ?_;intro Q hQ _;simp [hC,hY,wb,bi];refine gwq hQ ?_)|fail
  refine zbt (i+1) (jbd a b i cap rest) ?_ ?_ ?_
  ·refine za3 _ 400 hC G0F (m0:=[]) hC0 (by omega) ?_ ?_ ?_
   ·simp [dom]
   ·simp [wb,zhf hrf,hlt0,hlt1,zaf]
   ·simp
  ·intro j hj
   obtain ⟨n,hn⟩:∃ n:Nat,n+j=i:=⟨i - j,by omega⟩
   have e1:i+1 - j=n+1:=by omega
   have e2:i+1 - (j+1)=n:=by omega
   have e3:(i:Int) - (j:Int)=n:=by omega
   have e4:Int.bmod ((n:Int) - 1) 18446744073709551616=(i:Int) - ((j+1:Nat):Int):=by rw [bm (by omega) (by omega)];omega
   have hX0:0<b*2^n:=Int.mul_pos hb0 (zbb n)
   have hX1:b*2^n<57896044618658097711785492504343953926634992332820282019728792003956564819968:=by
    by_cases hi0:i=0
    ·obtain rfl:n=0:=by omega
     simpa using hbu
    ·have h2:(2:Int)^n<=2^i:=by exact_mod_cast Nat.pow_le_pow_right (by omega) (by omega:n<=i)
     exact Int.lt_of_le_of_lt (Int.le_trans (Int.mul_le_mul_of_nonneg_left h2 (Int.le_of_lt hb0)) (hle (by omega))) hau
   have fit:n*4+4<=4*(i+1)+rest.length:=by omega
   have rd:List.take 4 (List.drop (n*4) (lc b (i+1)++rest))=[.int .u64 (wi (b*2^n) 0),.int .u64 (wi (b*2^n) 1),.int .u64 (wi (b*2^n) 2),.int .u64 (wi (b*2^n) 3)]:=by
    rw [Nat.mul_comm];exact zq6 b (i+1) n rest (by omega)
   have i0:(0:Int)<=n:=by omega
   have i1:(n:Int)<i+1:=by omega
   have hm0:=Int.emod_nonneg a (show b*2^(n+1)≠0 by have:=Int.mul_pos hb0 (zbb (n+1));omega)
   have hm1:a%(b*2^(n+1))<=a:=z88 h0 (Int.mul_pos hb0 (zbb (n+1)))
   have hh:=jmm (a:=a) hb0 n
   unfold jbd
   rw [e1,e2,e3]
   have szX:sz (b*2^n)=b*2^n:=zg5 (Int.le_of_lt hX0) hX1
   have szR:sz (a%(b*2^(n+1)))=a%(b*2^(n+1)):=zg5 hm0 (Int.lt_of_le_of_lt hm1 hau)
   rcases hh with ⟨g1,g2,g3⟩|⟨g1,g2,g3⟩
   ·rw [g2,g3,Int.two_mul]
    have hcmp:¬zb8 (sz (b*2^n)) (sz (a%(b*2^(n+1))))<=0:=by rw [szX,szR];unfold zb8;split<;>(try split)<;>omega
    clear g1 g2 g3 hm0 hm1 szX szR hlt0 hlt1
    generalize a%(b*2^(n+1))=R at *
    generalize a / (b*2^(n+1))=q at *
    generalize b*2^n=X at *
    repeat' first|refine gwZ ?_|(refine gwX ?_;intro Q hQ _;simp [hC,hY,wb,bi,fit,rd,i0,i1,hcmp,e4];refine gwq hQ ?_)|fail
    refine za3 _ 400 hC G0F (m0:=[]) hC0 (by omega) ?_ ?_ ?_
    ·simp [dom]
    ·simp [wb,zhf hrf]
    ·simp
   ·rw [g2,g3,Int.two_mul]
    have hcmp:zb8 (sz (b*2^n)) (sz (a%(b*2^(n+1))))<=0:=by rw [szX,szR];unfold zb8;split<;>(try split)<;>omega
    clear g1 g2 g3 hm0 hm1 szX szR hlt0 hlt1
    generalize a%(b*2^(n+1))=R at *
    generalize a / (b*2^(n+1))=q at *
    generalize b*2^n=X at *
    repeat' first|refine gwZ ?_|(refine gwX ?_;intro Q hQ _;simp [hC,hY,wb,bi,fit,rd,i0,i1,hcmp,e4];refine gwq hQ ?_)|fail
    refine za3 _ 400 hC G0F (m0:=[]) hC0 (by omega) ?_ ?_ ?_
    ·simp [dom]
    ·simp [wb,zhf hrf]
    ·simp
  ·have e1:i+1 - (i+1)=0:=by omega
   have e3:¬(0:Int)<=(i:Int) - ((i+1:Nat):Int):=by omega
   unfold jbd
   rw [e1,Int.pow_zero,Int.mul_one]
   generalize (i:Int) - ((i+1:Nat):Int)=z at *
   repeat' first|refine gwZ ?_|(refine gwX ?_;intro Q hQ _;simp [hC,hY,wb,e3];refine gwq hQ ?_)|fail
   refine ⟨.inr trivial,?_⟩
   simp [results183]
@[simp] theorem jnz (a b:Int) (ha:wr a) (h0:0<=a) (hB:wr b) (hb0:0<b) (K:Value->Prop):za2 prog G0 183 #[Value.agg #[.int .u64 (wi (a) 0),.int .u64 (wi (a) 1),.int .u64 (wi (a) 2),.int .u64 (wi (a) 3)],Value.agg #[.int .u64 (wi (b) 0),.int .u64 (wi (b) 1),.int .u64 (wi (b) 2),.int .u64 (wi (b) 3)]] K↔K (.tuple #[wd (a / b),wd (a%b)]):=zac G0W (by kernel_rfl) (jbe a b ha h0 hB hb0)
theorem zxe (a b:Int) (ha:wr a) (h0:0<=a) (hB:wr b) (hb0:0<b):Ret prog G0 172 #[wd a,wd b] (.tuple #[wd (a / b),wd (a%b)]):=by
 refine zas G0F func172 rfl call172 (by simp) (by simp) (by simp [ntmps172]) ?_
 intro C hC hC0 hY
 have s1:0<=zb8 (sz a) 0:=by rw [zct ha];unfold zb8;split<;>(try split)<;>omega
 repeat' first|refine gwZ ?_|(refine gwX ?_;intro Q hQ _;simp [hC,hY,s1,ha,h0,hB,hb0];refine gwq hQ ?_)|fail
 refine ⟨.inr trivial,?_⟩
 simp [results172]
@[simp] theorem jnw (a b:Int) (ha:wr a) (h0:0<=a) (hB:wr b) (hb0:0<b) (K:Value->Prop):za2 prog G0 172 #[Value.agg #[.int .u64 (wi (a) 0),.int .u64 (wi (a) 1),.int .u64 (wi (a) 2),.int .u64 (wi (a) 3)],Value.agg #[.int .u64 (wi (b) 0),.int .u64 (wi (b) 1),.int .u64 (wi (b) 2),.int .u64 (wi (b) 3)]] K↔K (.tuple #[wd (a / b),wd (a%b)]):=zac G0W (by kernel_rfl) (zxe a b ha h0 hB hb0)
theorem zms {p q r s:Bool} (h:(!p||(!q||(!r||!s)))=true):(p&&(q&&(r&&s)))=false:=by cases p<;>cases q<;>cases r<;>cases s<;>simp_all
theorem zu6 (a b:Int) (ha:wr a) (h0:0<=a) (hB:wr b) (hb0:0<b):Ret prog G0 154 #[wd a,wd b] (.tuple #[wd (a / b),wd (a%b),.int .i64 0]):=by
 refine zas G0F func154 rfl call154 (by simp) (by simp) (by simp [ntmps154]) ?_
 intro C hC hC0 hY
 have s1:0<zb8 (sz b) 0:=by rw [zct hB];unfold zb8;split<;>(try split)<;>omega
 have z1:=zms (z1d hB (by omega))
 have l1:=zms <| zgl a ha (λe=>by rw [e] at h0;exact absurd h0 (by decide))
 have l2:=zms <| zgl b hB (λe=>by rw [e] at hb0;exact absurd hb0 (by decide))
 repeat' first|refine gwZ ?_|(refine gwX ?_;intro Q hQ _;simp [hC,hY,s1,ha,h0,hB,hb0,z1,l1,l2];refine gwq hQ ?_)|fail
 refine ⟨.inr trivial,?_⟩
 simp [results154]
@[simp] theorem jnx (a b:Int) (ha:wr a) (h0:0<=a) (hB:wr b) (hb0:0<b) (K:Value->Prop):za2 prog G0 154 #[Value.agg #[.int .u64 (wi (a) 0),.int .u64 (wi (a) 1),.int .u64 (wi (a) 2),.int .u64 (wi (a) 3)],Value.agg #[.int .u64 (wi (b) 0),.int .u64 (wi (b) 1),.int .u64 (wi (b) 2),.int .u64 (wi (b) 3)]] K↔K (.tuple #[wd (a / b),wd (a%b),.int .i64 0]):=zac G0W (by kernel_rfl) (zu6 a b ha h0 hB hb0)
theorem zt8 (a b:Int) (ha:wr a) (h0:0<=a) (hB:wr b) (hb0:0<b):Ret prog G0 134 #[wd a,wd b] (.tuple #[wd (a / b),.int .i64 0]):=by
 refine zas G0F func134 rfl call134 (by simp) (by simp) (by simp [ntmps134]) ?_
 intro C hC hC0 hY
 repeat' first|refine gwZ ?_|(refine gwX ?_;intro Q hQ _;simp [hC,hY,ha,h0,hB,hb0];refine gwq hQ ?_)|fail
 refine ⟨.inr trivial,?_⟩
 simp [results134]
@[simp] theorem jnv (a b:Int) (ha:wr a) (h0:0<=a) (hB:wr b) (hb0:0<b) (K:Value->Prop):za2 prog G0 134 #[Value.agg #[.int .u64 (wi (a) 0),.int .u64 (wi (a) 1),.int .u64 (wi (a) 2),.int .u64 (wi (a) 3)],Value.agg #[.int .u64 (wi (b) 0),.int .u64 (wi (b) 1),.int .u64 (wi (b) 2),.int .u64 (wi (b) 3)]] K↔K (.tuple #[wd (a / b),.int .i64 0]):=zac G0W (by kernel_rfl) (zt8 a b ha h0 hB hb0)
end Go.Gy
namespace Go.Gy
open Go Go.RowKit Go.Proofs Go.Proofs.Tryz
def jhk (n d:Int):Bool:=decide (-2097152<=n/\n<=2097152/\1<=d/\d<=2097152)
def d1E (v n d:Int):Int:=if jhk n d=true/\-1073741824<=v/\v<=1073741824 then 0 else 2
def d1V (v n d:Int):Int:=if jhk n d=true/\-1073741824<=v/\v<=1073741824 then jne (v*n) d else 0
def wyE (v0 v1 v2 n d:Int):Int:=if d1E v0 n d=0 then (if d1E v1 n d=0 then d1E v2 n d else d1E v1 n d) else d1E v0 n d
theorem zr5 (x0 x1 x2 m:Int) (hm:i64 m):Ret prog G0 131 #[.agg #[.int .i64 x0,.int .i64 x1,.int .i64 x2],.int .i64 m] (.bool (decide (inW m x0/\inW m x1/\inW m x2))):=by
 refine zas G0F func131 rfl call131 rfl (by simp) (by simp [ntmps131]) ?_
 intro C hC hC0 hY
 by_cases q:m<0
 ·have e:decide (inW m x0/\inW m x1/\inW m x2)=false:=decide_eq_false (by unfold inW;omega)
  rw [e]
  repeat' first|refine zal ?_|refine zat ?_|refine gwZ ?_|(refine gwX ?_;intro Q hQ _;simp [hC,hY,q];refine gwq hQ ?_)|fail
  refine ⟨.inr trivial,?_⟩
  simp [results131]
 ·have hbm:=ztg hm (Int.not_lt.1 q)
  rcases Classical.em (m<x0) with a0|a0
  ·have e:decide (inW m x0/\inW m x1/\inW m x2)=false:=decide_eq_false (by unfold inW;omega)
   rw [e]
   repeat' first|refine zal ?_|refine zat ?_|refine gwZ ?_|(refine gwX ?_;intro Q hQ _;simp [hC,hY,q,hbm,a0];refine gwq hQ ?_)|fail
   refine ⟨.inr trivial,?_⟩
   simp [results131]
  rcases Classical.em (x0 < -m) with b0|b0
  ·have e:decide (inW m x0/\inW m x1/\inW m x2)=false:=decide_eq_false (by unfold inW;omega)
   rw [e]
   repeat' first|refine zal ?_|refine zat ?_|refine gwZ ?_|(refine gwX ?_;intro Q hQ _;simp [hC,hY,q,hbm,a0,b0];refine gwq hQ ?_)|fail
   refine ⟨.inr trivial,?_⟩
   simp [results131]
  rcases Classical.em (m<x1) with a1|a1
  ·have e:decide (inW m x0/\inW m x1/\inW m x2)=false:=decide_eq_false (by unfold inW;omega)
   rw [e]
   repeat' first|refine zal ?_|refine zat ?_|refine gwZ ?_|(refine gwX ?_;intro Q hQ _;simp [hC,hY,q,hbm,a0,b0,a1];refine gwq hQ ?_)|fail
   refine ⟨.inr trivial,?_⟩
   simp [results131]
  rcases Classical.em (x1 < -m) with b1|b1
  ·have e:decide (inW m x0/\inW m x1/\inW m x2)=false:=decide_eq_false (by unfold inW;omega)
   rw [e]
   repeat' first|refine zal ?_|refine zat ?_|refine gwZ ?_|(refine gwX ?_;intro Q hQ _;simp [hC,hY,q,hbm,a0,b0,a1,b1];refine gwq hQ ?_)|fail
   refine ⟨.inr trivial,?_⟩
   simp [results131]
  rcases Classical.em (m<x2) with a2|a2
  ·have e:decide (inW m x0/\inW m x1/\inW m x2)=false:=decide_eq_false (by unfold inW;omega)
   rw [e]
   repeat' first|refine zal ?_|refine zat ?_|refine gwZ ?_|(refine gwX ?_;intro Q hQ _;simp [hC,hY,q,hbm,a0,b0,a1,b1,a2];refine gwq hQ ?_)|fail
   refine ⟨.inr trivial,?_⟩
   simp [results131]
  rcases Classical.em (x2 < -m) with b2|b2
  ·have e:decide (inW m x0/\inW m x1/\inW m x2)=false:=decide_eq_false (by unfold inW;omega)
   rw [e]
   repeat' first|refine zal ?_|refine zat ?_|refine gwZ ?_|(refine gwX ?_;intro Q hQ _;simp [hC,hY,q,hbm,a0,b0,a1,b1,a2,b2];refine gwq hQ ?_)|fail
   refine ⟨.inr trivial,?_⟩
   simp [results131]
  have e:decide (inW m x0/\inW m x1/\inW m x2)=true:=decide_eq_true (by unfold inW;omega)
  rw [e]
  repeat' first|refine zal ?_|refine zat ?_|refine gwZ ?_|(refine gwX ?_;intro Q hQ _;simp [hC,hY,q,hbm,a0,b0,a1,b1,a2,b2];refine gwq hQ ?_)|fail
  refine ⟨.inr trivial,?_⟩
  simp [results131]
@[simp] theorem jox (x0 x1 x2 m:Int) (hm:i64 m) (K:Value->Prop):za2 prog G0 131 #[.agg #[.int .i64 x0,.int .i64 x1,.int .i64 x2],.int .i64 m] K↔K (.bool (inV m x0 x1 x2)):=zac G0W (by kernel_rfl) (zr5 x0 x1 x2 m hm)
end Go.Gy
