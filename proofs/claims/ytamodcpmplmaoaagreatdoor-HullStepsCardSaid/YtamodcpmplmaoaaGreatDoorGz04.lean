/-
  Lemmas of this claim, in their order (GyL2, GyX7, GyQ1, GyY1, GyY2, GyY3, GyY4, GyY5, GyY6, GyY7, GyZ1, GyZ2, GyZ3, GyRA, GyRB, GyDM, GyQA, GyVB, GyVC, GyVD, GyNA, GyJL, GyRC, GyRF, GyQB, GyDB, GyDC, GyWA).
  Conditions: those of each theorem.
-/
import Derived.Test.YtamodcpmplmaoaaGreatDoorGz03
import Derived.Laws.MathBits
set_option linter.unusedSimpArgs false
set_option linter.unusedVariables false
set_option maxRecDepth 8000
set_option maxHeartbeats 4000000
namespace Go.Gy
open Go Go.RowKit
theorem iD (i:Nat):(0:Int)<2^(64*i):=fw zD
theorem Ap (i:Nat):(2:Int)^(64*(i+1))=2^(64*i)*18446744073709551616:=by
 rw [iN,cx];rfl
def gV (A B:Int) (i:Nat):Int:=(A%2^(64*i))*B
def oh (A B:Int) (i k:Nat):Int:=(gV A B i%2^(64*(i+k))+2^(64*i)*wi A i*(B%2^(64*k))) / 2^(64*(i+k))
def uo (A B:Int) (i k j:Nat):Int:=if i<=j/\j<i+k then wi (gV A B (i+1)) j else wi (gV A B i) j
theorem Aw (A B:Int) (i:Nat):gV A B (i+1)=gV A B i+2^(64*i)*wi A i*B:=by
 unfold gV wi;rw [Ap,mh A _ _ (iD i) zO,eF]
theorem US (A B:Int) (i:Nat):oh A B i 0=0:=by
 unfold oh;have h1:=bQ (gV A B i) (iD (i+0));have h2:=bM (gV A B i) (b:=2^(64*(i+0))) (by have:=iD (i+0);omega);simp only [fF,rS,rM,v9,mO];exact dU h2 h1
theorem Kl (A B:Int) (i k:Nat):0<=oh A B i k/\oh A B i k<18446744073709551616:=by
 unfold oh;have hM:(2:Int)^(64*(i+k))=2^(64*i)*2^(64*k):=nu;have p1:=iD i;have p2:=iD k;have p3:=iD (i+k);generalize hz:gV A B i=z;have h1:=bQ z p3;have h2:=bM z (b:=2^(64*(i+k))) zO;have h3:=bQ B p2;have h4:=bM B (b:=2^(64*k)) zO;have h5:=dJ A i;have h6:=eJ A i;have h7:0<=2^(64*i)*wi A i*(B%2^(64*k)):=bK (bK zO h5) h4
 have h8:2^(64*i)*wi A i*(B%2^(64*k))<=2^(64*i)*18446744073709551615*2^(64*k) :=
  cU (fg zO zO) zO h4 (bK zO zO)
 have h9:(2:Int)^(64*i)*18446744073709551615*2^(64*k)=18446744073709551615*2^(64*(i+k)):=by
  rw [hM,bX (2^(64*i)) 18446744073709551615,bD]
 refine ⟨gN zO zO,rV p3 zO⟩
theorem UR (A B:Int) (i k:Nat):(wi (gV A B i) (i+k)+wi A i*wi B k+oh A B i k) / 18446744073709551616=oh A B i (k+1):=by
 have hM:(2:Int)^(64*(i+k))=2^(64*i)*2^(64*k):=nu;have p2:=iD k;have p3:=iD (i+k);unfold oh;rw [(zO:i+(k+1)=(i+k)+1),Ap,Ap,mh _ _ _ p3 zO,mh B _ _ p2 zO];generalize hz:gV A B i=z;unfold wi;generalize hD:(2:Int)^(64*(i+k))=M at *
 have e:z%M+M*(z / M%18446744073709551616)+2^(64*i)*(A / 2^(64*i)%18446744073709551616)*(B%2^(64*k)+2^(64*k)*(B / 2^(64*k)%18446744073709551616)) =
   (z%M+2^(64*i)*(A / 2^(64*i)%18446744073709551616)*(B%2^(64*k)))+M*(z / M%18446744073709551616+A / 2^(64*i)%18446744073709551616*(B / 2^(64*k)%18446744073709551616)):=by
  rw [hM];generalize (2:Int)^(64*i)=P;generalize (2:Int)^(64*k)=Q;generalize A / P%18446744073709551616=a;generalize B / Q%18446744073709551616=b;generalize B%Q=c;generalize z%(P*Q)=u;generalize z / (P*Q)%18446744073709551616=v;exact He
 rw [e,<-jr (bW p3),g7 _ _ zO];congr 1;omega
theorem atF (A B:Int) (i k:Nat):(wi (gV A B i) (i+k)+wi A i*wi B k+oh A B i k)%18446744073709551616=wi (gV A B (i+1)) (i+k):=by
 have hM:(2:Int)^(64*(i+k))=2^(64*i)*2^(64*k):=nu;have p3:=iD (i+k);rw [Aw];unfold oh;generalize hz:gV A B i=z;unfold wi;generalize hD:(2:Int)^(64*(i+k))=M at *
 have h1:=eY z M;have h2:=eY B (2^(64*k));have h3:=eY (B / 2^(64*k)) 18446744073709551616
 have e:z+2^(64*i)*(A / 2^(64*i)%18446744073709551616)*B=(z%M+2^(64*i)*(A / 2^(64*i)%18446744073709551616)*(B%2^(64*k))) +
   M*(z / M+A / 2^(64*i)%18446744073709551616*(B / 2^(64*k)%18446744073709551616)+18446744073709551616*(A / 2^(64*i)%18446744073709551616*(B / 2^(64*k) / 18446744073709551616))):=by
  have hB:B=B%2^(64*k)+2^(64*k)*(B / 2^(64*k)%18446744073709551616+18446744073709551616*(B / 2^(64*k) / 18446744073709551616)):=by rw [h3];omega
  generalize B / 2^(64*k)%18446744073709551616=b at *
  generalize B / 2^(64*k) / 18446744073709551616=h at *
  generalize B%2^(64*k)=c at *
  rw [hM];rw [hM] at h1;generalize (2:Int)^(64*i)=P at *
  generalize (2:Int)^(64*k)=Q at *
  generalize A / P%18446744073709551616=a;rw [hB]
  have:P*a*(c+Q*(b+18446744073709551616*h))=P*a*c+P*Q*(a*b)+P*Q*(18446744073709551616*(a*h)):=by
   rw [dH,dH Q,dH]
   have e1:P*a*(Q*b)=P*Q*(a*b):=by
    rw [bD P a,bD P Q];congr 1;rw [<-bD,<-bD,bX a Q]
   have e2:P*a*(Q*(18446744073709551616*h))=P*Q*(18446744073709551616*(a*h)):=by
    rw [bD P a,bD P Q];congr 1;rw [rz a Q];congr 1;rw [rz]
   rw [e1,e2];omega
  rw [this,dH,dH];omega
 rw [e,g7 _ _ zO];omega
theorem Ql (A B:Int) (i:Nat) (h0:0<=B) (h1:B<2^(64*4)):0<=gV A B i/\gV A B i<2^(64*(i+4)):=by
 have p1:=iD i;have h2:=bM A (b:=2^(64*i)) zO;have h3:=bQ A p1;unfold gV;refine ⟨bK h2 h0,?_⟩;rw [iN,cx];generalize (2:Int)^(64*i)=P at *
 generalize (2:Int)^(64*4)=Q at *
 have h4:A%P*B<=A%P*Q:=fg zO h2;have h5:A%P*Q<P*Q:=vD h3 zO;omega
theorem Y1 (A B:Int) (i:Nat) (h0:0<=B) (h1:B<2^(64*4)):oh A B i 4=wi (gV A B (i+1)) (i+4):=by
 have hb:=Kl A B i 4;have hz:=Ql A B i h0 h1;unfold oh at *
 rw [bP hz.1 hz.2,bP h0 h1,<-Aw] at *
 unfold wi;omega
theorem Qk (A B:Int) (i j:Nat) (h0:0<=B) (h1:B<2^(64*4)) (hj:i+4<=j):wi (gV A B i) j=0:=by
 have hz:=Ql A B i h0 h1;have e:(2:Int)^(64*j)=2^(64*(i+4))*2^(64*(j - (i+4))):=nJ;have p:=iD (j - (i+4));unfold wi;rw [dU hz.1]
 ·rfl
 ·rw [e];have:(2:Int)^(64*(i+4))*1<=2^(64*(i+4))*2^(64*(j - (i+4))):=fg zO (by have:=iD (i+4);omega);omega
theorem Y0 (A B:Int) (i j:Nat) (hj:j<i):wi (gV A B (i+1)) j=wi (gV A B i) j:=by
 rw [Aw];unfold wi
 have e:(2:Int)^(64*i)=2^(64*j)*(18446744073709551616*2^(64*(i - j - 1))):=by
  rw [show (18446744073709551616:Int)=2^64 by rfl,<-cx,<-cx];congr 1;omega
 rw [e,bD,bD (2^(64*j)),bD 18446744073709551616,g7 _ _ (by have:=iD j;omega)];omega
theorem UT (A B:Int) (i k:Nat):∀ j,upd (uo A B i k) (i+k) (wi (gV A B (i+1)) (i+k)) j=uo A B i (k+1) j:=λj=>by
 unfold upd uo;exact HD
theorem YZ (A B:Int) (i:Nat) (h0:0<=B) (h1:B<2^(64*4)):∀ j,upd (uo A B i 4) (i+4) (oh A B i 4) j=wi (gV A B (i+1)) j:=λj=>by
 unfold upd uo;by_cases e:j=i+4
 ·subst e;rw [ag rfl,Y1 A B i h0 h1]
 ·rw [ae e];by_cases h:i<=j/\j<i+4
  ·rw [ag h]
  ·rw [ae h];by_cases hj:j<i
   ·exact (Y0 A B i j hj).symm
   ·rw [Qk A B i j h0 h1 zO,Qk A B (i+1) j h0 h1 zO]
@[simp] theorem atG (A B:Int) (i k:Nat):uo A B i k (i+k)=wi (gV A B i) (i+k):=by unfold uo;rw [ae zO]

theorem atI (x y d c:Int) (hx:0<=x/\x<18446744073709551616) (hy:0<=y/\y<18446744073709551616) (hd:0<=d/\d<18446744073709551616) (hc:0<=c/\c<18446744073709551616) :
  ((x*y%18446744073709551616+d)%18446744073709551616+c)%18446744073709551616=(d+x*y+c)%18446744073709551616 /\
  ((x*y / 18446744073709551616+(x*y%18446744073709551616+d) / 18446744073709551616)%18446744073709551616+((x*y%18446744073709551616+d)%18446744073709551616+c) / 18446744073709551616)%18446744073709551616=(d+x*y+c) / 18446744073709551616:=by
 have h1:0<=x*y:=bK hx.1 hy.1;have h2:x*y<=18446744073709551615*18446744073709551615:=cU zO zO hy.1 zO;generalize x*y=p at *
 omega
end Go.Gy
namespace Go.Gy
open Go Go.RowKit Go.Proofs Go.Proofs.Tryz
theorem nv {p:Prop} (h:p:=by simp [dom]):p:=h
theorem sO {p:Prop} (h:p:=by simpa using AQ):p:=h
theorem FG {p:Prop} (h:p:=by
 unfold jS;show IntKind.u64.wrap ((BitVec.ofInt 64 x ||| BitVec.ofInt 64 y:BitVec 64).toNat:Int)=_;rw [Qm]):p:=h
theorem GU {p:Prop} (h:p:=by
 refine cB _ 400 hC G0F (m0:=[]) bA zO ?_ ?_ ?_
 ·simp [dom,ha]
 ·simp [lv,vn,e1]
 ·simp):p:=h
theorem Fq {p:Prop} (h:p:=by
 refine cB _ 400 hC G0F (m0:=[]) bA zO ?_ ?_ ?_
 ·simp [dom,hq]
 ·simp [lv,vn,e1]
 ·simp):p:=h
@[simp] theorem auO (D:iH) (n:Nat) (k:IntKind) (f:aJ):aL D (.agg (fa n k f))↔True:=by
 refine ⟨λ_=>trivial,λ_ x hx=>?_⟩;obtain ⟨m,rfl⟩:=uF hx
 trivial
theorem Mm (z:Int) (h0:0<=z) (h1:z<18446744073709551616):jS .and .u64 z 4294967295=z%4294967296:=by
 rw [<-and_low32 z h0 h1];rfl
theorem XR (x y:Int) (VB:0<=x) (hx:x<18446744073709551616) (Qz:0<=y) (hy:y<18446744073709551616):Ret prog G0 127 #[.int .u64 x,.int .u64 y] (.tuple #[.int .u64 (x*y / 18446744073709551616),.int .u64 (x*y%18446744073709551616)]):=by
 refine aU G0F func127 rfl call127 zS zS (by simp [ntmps127]) ?_;intro C hC bA hY;have f32:∀ z:Int,z.fdiv 4294967296=z / 4294967296:=λz=>iO z zO;have a1:=Mm x VB hx;have a2:=Mm y Qz hy;have a3:∀ z:Int,jS .and .u64 (z%18446744073709551616) 4294967295=z%18446744073709551616%4294967296:=λz=>Mm _ zO zO;refine cA (k4 f32 a1 a2 a3) ?_;refine ⟨.inr trivial,?_⟩;have:=mul64_arith x y VB hx Qz hy;simpa [results127] using this
@[simp] theorem aAS (x y:Int) (VB:0<=x) (hx:x<18446744073709551616) (Qz:0<=y) (hy:y<18446744073709551616) (K:fQ):bl prog G0 127 #[.int .u64 x,.int .u64 y] K↔K (.tuple #[.int .u64 (x*y / 18446744073709551616),.int .u64 (x*y%18446744073709551616)]):=ar G0W ah (XR x y VB hx Qz hy)
theorem ad0 (z y:Int) (k:Nat) (h:z%115792089237316195423570985008687907853269984665640564039457584007913129639936=y%115792089237316195423570985008687907853269984665640564039457584007913129639936) (hk:k<4):wi z k=wi y k:=by
 have:k=0\/k=1\/k=2\/k=3:=zO;rcases this with rfl|rfl|rfl|rfl<;>simp only [wi]<;>omega
theorem ajT (z:Int) (h:ng z=true) (k:Nat) (hk:k<4):wi (-z) k=wi (um z) k:=ad0 _ _ _ (by
 rw [mq] at h;simp at h;have:=Kd z;unfold um;rw [ag h];omega) hk
theorem ajS (z:Int) (h:ng z=false) (k:Nat) (hk:k<4):wi z k=wi (um z) k:=ad0 _ _ _ (by
 rw [mq] at h;simp at h;have:=Kd z;unfold um;rw [ae zO];omega) hk
theorem atD (A B:Int) (i k:Nat):0<=wi A i*wi B k/\0<=wi A i*wi B k%18446744073709551616/\0<=(wi A i*wi B k+wi (gV A B i) (i+k))%18446744073709551616:=by
 have h1:=dJ A i;have h2:=dJ B k;exact ⟨bK h1 h2,bM _ zO,bM _ zO⟩
theorem atC (A B:Int) (i k:Nat):(wi A i*wi B k+wi (gV A B i) (i+k)+oh A B i k)%18446744073709551616=wi (gV A B (i+1)) (i+k):=by
 rw [<-atF A B i k];congr 1;omega
theorem aty (A B:Int) (i k:Nat):(wi A i*wi B k / 18446744073709551616+(wi A i*wi B k%18446744073709551616+wi (gV A B i) (i+k)) / 18446744073709551616+((wi A i*wi B k+wi (gV A B i) (i+k))%18446744073709551616+oh A B i k) / 18446744073709551616)%18446744073709551616=oh A B i (k+1):=by
 have h:=(atI (wi A i) (wi B k) (wi (gV A B i) (i+k)) (oh A B i k) ⟨dJ _ _,eJ _ _⟩ ⟨dJ _ _,eJ _ _⟩ ⟨dJ _ _,eJ _ _⟩ (Kl A B i k)).2;rw [<-UR,<-h];simp
def amA (q:Nat) (mi:Bool) (A B:Int) (i:Nat):GS :=
 ⟨tsL [(2,.pointer (some ⟨200,0,none⟩)),(3,.pointer (some ⟨208,0,none⟩)),(4,.pointer (some ⟨216,0,none⟩)),(6,.bool mi),(7,.pointer (some ⟨q,0,none⟩)),(40,.agg (fa 4 .u64 (wi A))),(41,.int .i64 i)],
 hpL G0 [(200,⟨fa 4 .u64 (wi A),.ty 30⟩),(208,⟨fa 4 .u64 (wi B),.ty 30⟩),(216,⟨fa 4 .u64 λ_=>0,.ty 30⟩),(q,⟨fa 8 .u64 (wi (gV A B i)),.ty 96⟩)],600,0⟩
def acv (q:Nat) (mi:Bool) (A B:Int) (i k:Nat):GS :=
 ⟨tsL [(2,.pointer (some ⟨200,0,none⟩)),(3,.pointer (some ⟨208,0,none⟩)),(4,.pointer (some ⟨216,0,none⟩)),(6,.bool mi),(7,.pointer (some ⟨q,0,none⟩)),(40,.agg (fa 4 .u64 (wi A))),(41,.int .i64 i),
   (8,.int .i64 i),(9,.int .u64 (wi A i)),(10,.int .u64 (oh A B i k)),(45,.agg (fa 4 .u64 (wi B))),(46,.int .i64 k)],
 hpL G0 [(200,⟨fa 4 .u64 (wi A),.ty 30⟩),(208,⟨fa 4 .u64 (wi B),.ty 30⟩),(216,⟨fa 4 .u64 λ_=>0,.ty 30⟩),(q,⟨fa 8 .u64 (uo A B i k),.ty 96⟩)],600,0⟩
theorem Ng {x y:Int} (VB:0<=x) (hx:x<18446744073709551616) (Qz:0<=y) (hy:y<18446744073709551616):(jS .or .u64 x y=0↔x=0/\y=0)/\0<=jS .or .u64 x y/\jS .or .u64 x y<18446744073709551616:=by
 have e:jS .or .u64 x y=((BitVec.ofInt 64 x ||| BitVec.ofInt 64 y:BitVec 64).toNat:Int)%18446744073709551616:=by
  exact FG
 have qy:(BitVec.ofInt 64 x).toNat=x.toNat:=by
  rw [oX];congr 1;exact bP VB hx
 have Qy:(BitVec.ofInt 64 y).toNat=y.toNat:=by
  rw [oX];congr 1;exact bP Qz hy
 have hb:=(BitVec.ofInt 64 x ||| BitVec.ofInt 64 y).isLt;rw [e];refine ⟨?_,bM _ zO,bQ _ zO⟩;rw [bP zO zO,BitVec.toNat_or,qy,Qy];constructor
 ·intro h;have h1:x.toNat ||| y.toNat=0:=zO;have:=Nat.or_eq_zero_iff.1 h1;omega
 ·rintro ⟨rfl,rfl⟩;rfl
theorem Bu (D:Int) (j:Nat) (h:4<=j:=by omega):wi D j=wi (D / 115792089237316195423570985008687907853269984665640564039457584007913129639936) (j - 4):=by
 unfold wi;have e:64*j=64*4+64*(j - 4):=zO;rw [e,cx,<-jr (bW (iD 4))]
 rfl
def ovD (D:Int):Bool:=decide (115792089237316195423570985008687907853269984665640564039457584007913129639936<=D)
def orW (D:Int):Int:=jS .or .u64 (jS .or .u64 (jS .or .u64 (wi D 4) (wi D 5)) (wi D 6)) (wi D 7)
theorem asG (D:Int) (h0:0<=D) (h1:D<115792089237316195423570985008687907853269984665640564039457584007913129639936*115792089237316195423570985008687907853269984665640564039457584007913129639936) :
  (!orW D==0)=ovD D:=by
 unfold orW;have o1:=Ng (dJ D 4) (eJ D 4) (dJ D 5) (eJ D 5);have o2:=Ng o1.2.1 o1.2.2 (dJ D 6) (eJ D 6);have o3:=Ng o2.2.1 o2.2.2 (dJ D 7) (eJ D 7);rw [g6];simp only [oY,beq_eq_false_iff_ne,ne_eq,ovD,db];rw [o3.1,o2.1,o1.1,Bu D 4,Bu D 5,Bu D 6,Bu D 7];have hE:0<=D / 115792089237316195423570985008687907853269984665640564039457584007913129639936/\D / 115792089237316195423570985008687907853269984665640564039457584007913129639936<115792089237316195423570985008687907853269984665640564039457584007913129639936:=⟨zO,zO⟩
 have hD:115792089237316195423570985008687907853269984665640564039457584007913129639936<=D↔D / 115792089237316195423570985008687907853269984665640564039457584007913129639936≠0:=zO;rw [hD];generalize D / 115792089237316195423570985008687907853269984665640564039457584007913129639936=E at *
 simp only [wi];omega
theorem UZ {P:Program} {C:Ctx} {n:Nat} {d:List Deferred} {ro:Option Nat} {x y:Code} {s:GS} {K:l6} (S1:GS) (h1:GW P C n d ro x s (dY (λs'=>Weak C s' S1) (λ_ _=>False))) (h2:GW P C n d ro y S1 K):GW P C n d ro (.seq x y) s K :=
 tu (gn h1 λe s' h=>by
  cases e with
  | normal=>exact H0 h h2
  | _=>exact h.elim)
def agW (mi:Bool) (A B:Int):GS :=
 ⟨tsL [(2,.pointer (some ⟨200,0,none⟩)),(3,.pointer (some ⟨208,0,none⟩)),(4,.pointer (some ⟨216,0,none⟩)),(6,.bool mi)],
 hpL G0 [(200,⟨fa 4 .u64 (wi A),.ty 30⟩),(208,⟨fa 4 .u64 (wi B),.ty 30⟩),(216,⟨fa 4 .u64 λ_=>0,.ty 30⟩)],400,0⟩
theorem ad3 (a b:Int):Ret prog G0 101 #[wd a,wd b] (.tuple #[wd (sz a*sz b),.bool (tA a b)]):=by
 refine aU G0F func101 rfl call101 zS zS (by simp [ntmps101]) ?_;intro C hC bA hY;have hA:=LR a;have hB:=LR b;have hB0:0<=um b:=hB.1;have hB1:um b<2^(64*4):=by have:=hB.2;omega
 obtain ⟨D,hD⟩:∃ D,um a*um b=D:=⟨_,rfl⟩
 have eD:gV (um a) (um b) 4=D:=by rw [<-hD];unfold gV;rw [bP zO zO]
 have BX:0<=D/\D<=57896044618658097711785492504343953926634992332820282019728792003956564819968*57896044618658097711785492504343953926634992332820282019728792003956564819968:=by
  rw [<-hD];exact ⟨bK hA.1 hB.1,cU hA.2 hB.2 hB.1 zO⟩
 have Zh:=asG D BX.1 (by have:=BX.2;omega);have HU:=LD a b;have nU:=JP a b;rw [hD] at HU nU;apply gwS
 (refine iy ?_;intro Q hQ hP;simp [hC,hY];refine dq hQ ?_;clear hQ hP Q)
 simp only [wN,wM,Nat.reduceAdd,Nat.reduceMul];apply gwS
 (refine iy ?_;intro Q hQ hP;simp [hC,hY];refine dq hQ ?_;clear hQ hP Q)
 simp only [wN,wM,Nat.reduceAdd,Nat.reduceMul];refine UZ (agW (ng a != ng b) (um a) b) ?_ (UZ (agW (ng a != ng b) (um a) (um b)) ?_ ?_)
 ·cases ha:ng a
  all_goals
   refine cA ha ?_
  ·have e1:=ajS a ha;exact GU
  ·have e1:=ajT a ha;exact GU
 ·cases hq:ng b
  all_goals
   unfold agW;refine cA (k2 hq @vn) ?_
  ·have e1:=ajS b hq;exact Fq
  ·have e1:=ajT b hq;exact Fq
 ·unfold agW;refine iI ?_;refine fD 4 (amA 400 (ng a != ng b) (um a) (um b)) ?_ ?_ ?_
  ·refine cB _ 600 hC G0F (m0:=[]) bA zO ?_ ?_ ?_
   ·exact nv
   ·simp [lv,HP,gV,rM,ct]
   ·simp
  ·intro i hi;have cS:(i:Int)<4:=zO;have hz:(0:Int)<=i:=zO;have hs:Int.bmod ((i:Int)+1) 18446744073709551616=((i+1:Nat):Int):=ee;unfold amA;refine cA (k5 hi cS hz hs @mw) ?_;refine fD 4 (acv 400 (ng a != ng b) (um a) (um b) i) ?_ ?_ ?_
   ·refine cB _ 600 hC G0F (m0:=[]) bA zO ?_ ?_ ?_
    ·simp [dom,US]
    ·have e:fa 8 .u64 (uo (um a) (um b) i 0)=fa 8 .u64 (wi (gV (um a) (um b) i)):=nW λj _=>by unfold uo;rw [ae zO]
     simp [e,lv]
    ·simp
   ·intro k hk;have jR:(k:Int)<4:=zO;have R3:(0:Int)<=k:=zO;have nU:Int.bmod ((k:Int)+1) 18446744073709551616=((k+1:Nat):Int):=ee;have RZ:Int.bmod ((i:Int)+k) 18446744073709551616=((i+k:Nat):Int):=ee;have alh:i+k<8:=zO;have ali:(i:Int)+k<8:=zO;have alj:(0:Int)<=(i:Int)+k:=zO;have alk:((i:Int)+k).toNat=i+k:=zO;have alm:(i:Int)+k<=7:=zO;have aln:i+k<=7:=zO;have hn:=atD (um a) (um b) i k;have hc:=Kl (um a) (um b) i k;unfold acv;refine cA (k22 hi cS hz hk jR R3 RZ alh ali alj alk alm aln nU @mw @qJ @dJ @eJ hn.1 hn.2.1 hn.2.2 hc.1) ?_;refine cB _ 600 hC G0F (m0:=[]) bA zO ?_ ?_ ?_
    ·simp [dom,nU,aty]
    ·have e:fa 8 .u64 (upd (uo (um a) (um b) i k) (i+k) (wi (gV (um a) (um b) (i+1)) (i+k)))=fa 8 .u64 (uo (um a) (um b) i (k+1)):=nW λj _=>UT (um a) (um b) i k j;simp [lv,atC,e]
    ·simp
   ·have hi8:Int.bmod ((i:Int)+4) 18446744073709551616=(i:Int)+4:=bm zO zO;have hi9:(0:Int)<=(i:Int)+4:=zO;have abg:((i:Int)+4).toNat=i+4:=zO;have abh:(i:Int)+4<8:=zO;have abi:(i:Int)<=3:=zO;have abk:i<=3:=zO;have abj:i+4<8:=zO;unfold acv;refine cA (k12 hi cS hz hs hi8 hi9 abg abh abi abj abk @qJ) ?_;refine cB _ 600 hC G0F (m0:=[]) bA zO ?_ ?_ ?_
    ·simp [dom,hs]
    ·have e:fa 8 .u64 (upd (uo (um a) (um b) i 4) (i+4) (oh (um a) (um b) i 4))=fa 8 .u64 (wi (gV (um a) (um b) (i+1))):=nW λj _=>YZ (um a) (um b) i hB0 hB1 j;simp [lv,e]
    ·simp
  ·unfold amA;rw [eD];cases hn:ng a==ng b
   ·have Sr:(ng a != ng b)=true:=by simp [bne,hn]
    rw [Sr];by_cases hx:orW D=0
    ·have AQ:ovD D=false:=by rw [<-Zh];simp [hx]
     unfold orW at hx;by_cases VD:sz D=0
     ·have hw:=Wy D VD;refine cA (k4 @HP @vn hx hw) ?_;refine ⟨.inr trivial,?_⟩;rw [ovD] at AQ;simp [results101,nU hn,tA,hx];have:=ui D BX.1 sO;simp at AQ;omega
     ·have hw:=Kj D VD;refine cA (k4 @HP @vn hx hw) ?_;refine ⟨.inr trivial,?_⟩;rw [ovD] at AQ;simp [results101,nU hn,tA,hx];rw [g6];simp [mq];have h3:=ui D BX.1 sO;have h4:=Wr D BX.1 sO;simp at AQ;omega
    ·have AQ:ovD D=true:=by rw [<-Zh];simp [hx]
     unfold orW at hx;have Jl:(jS .or .u64 (jS .or .u64 (jS .or .u64 (wi D 4) (wi D 5)) (wi D 6)) (wi D 7)==0)=false:=cG;have hx3:(jS .or .u64 (jS .or .u64 (jS .or .u64 (wi D 4) (wi D 5)) (wi D 6)) (wi D 7) != 0)=true:=cG;refine cA (k5 @HP @vn hx Jl hx3) ?_;refine ⟨.inr trivial,?_⟩;rw [ovD] at AQ;simp [results101,nU hn,tA,hx];simp at AQ;omega
   ·have Sr:(ng a != ng b)=false:=by simp [bne,hn]
    rw [Sr];by_cases hx:orW D=0
    ·have AQ:ovD D=false:=by rw [<-Zh];simp [hx]
     unfold orW at hx;refine cA (k3 @HP @vn hx) ?_;refine ⟨.inr trivial,?_⟩;rw [ovD] at AQ;simp [results101,HU hn,tA,hx];rw [g6];simp [mq];have h3:=ui D BX.1 sO;simp at AQ;omega
    ·have AQ:ovD D=true:=by rw [<-Zh];simp [hx]
     unfold orW at hx;have Jl:(jS .or .u64 (jS .or .u64 (jS .or .u64 (wi D 4) (wi D 5)) (wi D 6)) (wi D 7)==0)=false:=cG;have hx3:(jS .or .u64 (jS .or .u64 (jS .or .u64 (wi D 4) (wi D 5)) (wi D 6)) (wi D 7) != 0)=true:=cG;refine cA (k5 @HP @vn hx Jl hx3) ?_;refine ⟨.inr trivial,?_⟩;rw [ovD] at AQ;simp [results101,HU hn,tA,hx];simp at AQ;omega
@[simp] theorem aFp (a b:Int) (K:fQ):bl prog G0 101 #[Value.agg #[.int .u64 (wi (a) 0),.int .u64 (wi (a) 1),.int .u64 (wi (a) 2),.int .u64 (wi (a) 3)],Value.agg #[.int .u64 (wi (b) 0),.int .u64 (wi (b) 1),.int .u64 (wi (b) 2),.int .u64 (wi (b) 3)]] K↔K (.tuple #[wd (sz a*sz b),.bool (tA a b)]):=ar G0W ah (ad3 a b)
theorem sy {p:Prop} (h:p:=by have:=pf _ hm;omega):p:=h
theorem sJ {p:Prop} (h:p:=by simp [ntmps142]):p:=h
theorem Ey {p:Prop} (h:p:=by
 rcases args with ⟨l⟩
 match l,hk with
 | [a,b],_=>exact ⟨a,b,rfl⟩):p:=h
theorem Gz {p:Prop} (h:p:=by
 intro k b c h1 h2;simp at h1 h2;rcases h1 with ⟨rfl,rfl⟩|⟨rfl,rfl⟩<;>rcases h2 with ⟨e2,rfl⟩|⟨e2,rfl⟩<;>first|rfl|omega):p:=h
theorem DS {p:Prop} (h:p:=by
 rw [oQ];exact λx hx=>by simp [hpQ,(zO:¬x=100000),(zO:¬x=100008),(zO:100<=x)]):p:=h
theorem xU {p:Prop} (h:p:=by
 unfold rst;rw [ae];rintro (h1|h1)
 ·omega
 ·have:=Su x h1;omega):p:=h
theorem ye {p:Prop} (h:p:=by
 intro C hC bA hY;refine iI ?_;exact ⟨eX,rfl⟩):p:=h
theorem x5 {p:Prop} (h:p:=by
 intro k hk;have h1:¬k=100000:=λe=>hk (Ja k zO);have h2:¬k=100008:=λe=>hk (Ja k zO);simp [h1,h2]):p:=h
theorem yh {p:Prop} (h:p:=by
 have:=Su k hk;simp [rst,hk,(zO:¬k=100000),(zO:¬k=100008)]):p:=h
theorem Fc {p:Prop} (h:p:=by
 have h1:¬k=100000:=λe=>hk (Ja k zO);have h2:¬k=100008:=λe=>hk (Ja k zO);rw [tE Ks,tE qx];simp [h1,h2]):p:=h

def erV (n:Int):Value:=.iface 41 (.int .i64 n)
@[simp] theorem akx (n:Int):erV n=.iface 41 (.int .i64 n):=rfl
def zB:Blk:=⟨#[.int .u64 0,.int .u64 0,.int .u64 0,.int .u64 0],.ty 30⟩
def eB (n:Int):Blk:=⟨#[.int .i64 n],.ty 41⟩
theorem W0 (n:Int) (W:World):(Instr.typeAssert (erV n) 20 41 true).run prog W=.ok (.tuple #[.int .i64 n,.bool true]) W:=ah
theorem SK (W:World):(Instr.typeAssert .nilIface 20 41 true).run prog W=.ok (.tuple #[.int .i64 0,.bool false]) W:=ah
theorem ajC:Array.replicate 10 undef=#[undef,undef,undef,undef,undef,undef,undef,undef,undef,undef]:=rfl
theorem asW:Array.replicate 7 undef=#[undef,undef,undef,undef,undef,undef,undef]:=rfl
def zu:Array Value:=#[.pointer (some ⟨100000,0,none⟩),.pointer (some ⟨100008,0,none⟩)]
def hpQ (n:Int):Hp:=hpL G0 [(100000,zB),(100008,eB n)]
theorem oQ (n:Int):rst (hpQ n) [100000,100008]=hpQ n:=qi G0F zS
theorem MP (n:Int) (k:Nat) (b:Blk) (D:iH) (h:hpQ n k=some b):b.ids D:=by
 rcases dE h with h|h
 ·simp at h;rcases h with ⟨_,rfl⟩|⟨_,rfl⟩<;>simp [zB,eB]
 ·exact qt _ _ _ h
theorem ayD (n:Int):RecF prog G0 190 zu (hpQ 0) [100000,100008] (erV n) [(100000,zB),(100008,eB n)]:=by
 refine ⟨⟨_,func190⟩,call190,?_,?_⟩
 ·refine U5 (k:=2) func190 rfl λargs c₀ cs W hk hu=>?_
  obtain ⟨p0,p1,rfl⟩:∃ p0 p1,args=#[p0,p1]:=by
   exact Ey
  have hn:f190.ntmps=12:=ntmps190;refine wpSIn_seq (wpSIn_region ?_);simp [wpOpsSIn,List.range,List.range.loop,go_sem,recoverD,hu,hn,SK,ajC];refine wpSIn_seq (wpSIn_region ?_);simp [wpOpsSIn,List.range,List.range.loop,go_sem];refine wpSIn_cond (t:=false) (by simp [Act.eval]) ?_;refine wpSIn_of_wpIn rfl (wpIn_skip ?_);exact ⟨.inl rfl,rfl,rfl,rfl,.tuple #[],by simp [results,results190,go_sem]⟩
 ·refine K0 (B:=200000) (A:=#[.pointer (some ⟨100000,0,none⟩),.pointer (some ⟨100008,0,none⟩),.int .i64 n,.bool true,.tuple #[.int .i64 n,.bool true],erV n,.tuple #[.int .i64 n,.bool true],.int .i64 n,.bool true,undef,undef,undef]) G0F (λk hk=>dA zS hk) func190 rfl (by simp [ntmps190]) ?_ ?_ ?_ ?_ ?_ ?_ zO ?_ ?_
  ·rw [oQ];simp [hpQ,dom];exact bw zS
  ·intro r c₀ cs W Q hu hQ;have R5:∀ v,bp v=true->ren r v=v:=λv hv=>bS hv;simp only [gH,bI,ft,zu] at hQ |-;generalize ren r (.pointer (some ⟨100000,0,none⟩))=p0 at hQ |-;generalize ren r (.pointer (some ⟨100008,0,none⟩))=p1 at hQ |-;simp only [R5 (.int .i64 n) rfl,R5 (.bool true) rfl,R5 (erV n) rfl,R5 (.tuple #[.int .i64 n,.bool true]) zS,kI] at hQ;have hn:f190.ntmps=12:=ntmps190;have hA:=W0 n;simp only [akx] at hA;simp [wpOpsSIn,List.range,List.range.loop,go_sem,recoverD,hu,ac5,erV,hn,hA,ajC];exact hQ
  ·rw [oQ];exact λk b h=>MP 0 k b _ h
  ·rw [oQ];simp [hpQ,dom]
  ·exact Gz
  ·simp [zB,eB]
  ·exact DS
  ·intro C hC bA hY;rw [oQ];refine cA (k3 @hpQ.eq_1 @zB.eq_1 @eB.eq_1) ?_;refine ⟨.inl trivial,by simp [results190],λk hk=>?_⟩;simp [zB,eB,hpQ]
theorem acF (W:World):((do eqGuard .neq 20 (.tmp 4) (.const .nilIface) .nilIface .nilIface;binOp .neq 20 .nilIface .nilIface:Sem Value)).run prog W=.ok (.bool false) W:=ah
def ifE:Value->Bool
 | .iface T (.int .i64 _)=>T==41
 | _=>false
def ifN:Value->Value
 | .iface _ u=>u
 | v=>v
@[simp] theorem ayc (T:TypeId) (n:Int):ifE (.iface T (.int .i64 n))=(T==41):=nr rfl
@[simp] theorem ayd (T:TypeId) (u:Value):ifN (.iface T u)=u:=nr rfl
theorem abS {v:Value} (h:ifE v=true):∃ n,v=erV n:=by
 unfold ifE at h;split at h
 ·rename_i T n;have:T=41:=jz;exact ⟨n,by rw [this];rfl⟩
 ·cases h
theorem Cg {P:Program} {o:Oper} {ts:fp} {hp:Hp} {K:fQ} {v:Value} (ho:∀ x∈o.op.operands.toList,okX ts hp x/\bp (gev ts x)=true) (hv:bp v=true) (hr:∀ W,(execOp (gev ts) o).run P W=.ok (.value v) W):LF P o ts hp K↔K v :=
 ⟨λ⟨_,u,_,h1,h2⟩=>by
  have:=(hr default).symm.trans (h1 default);injection this with this;injection this with this;subst this;exact h2,λh=>⟨ho,v,hv,hr,h⟩⟩
@[simp] theorem anQ (P:Program) (op:BinOp) (T t:TypeId) (v:Value):zq P op T (.iface t v) .nilIface=none:=by cases op<;>rfl
@[simp] theorem aih {dst:Option Tmp} {x:Operand} {T:TypeId} {ps:String} {af:Array Edge} {g:Option (Nat×Bool)} {ts:fp} {hp:Hp} {C:Eff->Prop} (h:ifE (gev ts x)=true) (hx:okX ts hp x) :
  SO prog none ⟨dst,.binOp .neq 20 x (.const .nilIface) 20,T,ps,af,g⟩ ts hp C↔C (val (.bool true) []):=by
 obtain ⟨n,hn⟩:=abS h;refine Cg (K:=λv=>C (val v [])) (v:=.bool true) ?_ rfl λW=>?_
 ·intro y hy;simp [Op.operands] at hy;rcases hy with rfl|rfl
  ·exact ⟨hx,by rw [hn];rfl⟩
  ·exact ⟨rfl,rfl⟩
 ·show (execOp (gev ts) ⟨dst,.binOp .neq 20 x (.const .nilIface) 20,T,ps,af,g⟩).run prog W=_;simp only [execOp,hn]
  kernel_rfl
@[simp] theorem ajt {dst:Option Tmp} {x:Operand} {T:TypeId} {ps:String} {af:Array Edge} {g:Option (Nat×Bool)} {V:XV} {yc nk:Nat} {ts:fp} {hp:Hp} {C:Eff->Prop} (h:ifE (gev ts x)=true) (hx:okX ts hp x) :
  opX prog G0 V yc ⟨dst,.typeAssert x 20 41 false,T,ps,af,g⟩ ts hp nk C↔C (val (ifN (gev ts x)) []):=by
 obtain ⟨n,hn⟩:=abS h;refine Cg (K:=λv=>C (val v [])) ?_ ?_ λW=>?_
 ·intro y hy;simp [Op.operands] at hy;subst hy;exact ⟨hx,by rw [hn];rfl⟩
 ·rw [hn];rfl
 ·simp only [execOp,hn]
  kernel_rfl
theorem ana (n:Int):RecF prog G0 165 zu (hpQ 0) [100000,100008] (erV n) [(100000,zB),(100008,eB n)]:=by
 refine ⟨⟨_,func165⟩,call165,?_,?_⟩
 ·refine U5 (k:=2) func165 rfl λargs c₀ cs W hk hu=>?_
  obtain ⟨p0,p1,rfl⟩:∃ p0 p1,args=#[p0,p1]:=by
   exact Ey
  have hn:f165.ntmps=9:=ntmps165;refine wpSIn_seq (wpSIn_region ?_);simp [wpOpsSIn,List.range,List.range.loop,go_sem,recoverD,hu,hn,asW];refine wpSIn_seq (wpSIn_region ?_);simp [wpOpsSIn,List.range,List.range.loop,go_sem,acF];refine wpSIn_cond (t:=false) (by simp [Act.eval]) ?_;refine wpSIn_of_wpIn rfl (wpIn_skip ?_);exact ⟨.inl rfl,rfl,rfl,rfl,.tuple #[],by simp [results,results165,go_sem]⟩
 ·refine K0 (B:=200000) (A:=#[.pointer (some ⟨100000,0,none⟩),.pointer (some ⟨100008,0,none⟩),erV n,erV n,undef,undef,undef,undef,undef]) G0F (λk hk=>dA zS hk) func165 rfl (by simp [ntmps165]) ?_ ?_ ?_ ?_ ?_ ?_ zO ?_ ?_
  ·rw [oQ];simp [hpQ,dom]
  ·intro r c₀ cs W Q hu hQ;have R5:∀ v,bp v=true->ren r v=v:=λv hv=>bS hv;simp only [gH,bI,ft,zu] at hQ |-;generalize ren r (.pointer (some ⟨100000,0,none⟩))=p0 at hQ |-;generalize ren r (.pointer (some ⟨100008,0,none⟩))=p1 at hQ |-;simp only [R5 (erV n) rfl,kI] at hQ;have hn:f165.ntmps=9:=ntmps165;simp [wpOpsSIn,List.range,List.range.loop,go_sem,recoverD,hu,ac5,erV,hn,asW];exact hQ
  ·rw [oQ];exact λk b h=>MP 0 k b _ h
  ·rw [oQ];simp [hpQ,dom]
  ·exact Gz
  ·simp [zB,eB]
  ·exact DS
  ·intro C hC bA hY;rw [oQ];refine cA (k3 @hpQ.eq_1 @zB.eq_1 @eB.eq_1) ?_;refine ⟨.inl trivial,by simp [results165],λk hk=>?_⟩;simp [zB,eB,hpQ]
theorem Yb {g:FuncId} {oq:List Value} {hp:Hp} {rs:List Nat} {x0 x1 x2 x3:Int} {ws:cf} (hG:∀ k,k<100->hp k=G0 k) (Su:∀ k∈rs,k<100000) (hc:oq.isEmpty=false) (uq:oq.all eh=true)
  (h:Fun prog G0 g oq.toArray hp rs (.ret (.agg #[.int .u64 x0,.int .u64 x1,.int .u64 x2,.int .u64 x3]) ws)) :
  Fun prog G0 179 #[.func (.func g) #[] oq.toArray] hp rs (.ret (.tuple #[.agg #[.int .u64 x0,.int .u64 x1,.int .u64 x2,.int .u64 x3],.int .i64 0]) ws):=by
 have zC:∀ x∈oq,aP (dom (rst hp rs)) x:=λx hx=>(ky (cX.1 uq x hx)).1 (h.ids x cG)
 have Ja:∀ x,100000<=x->rst hp rs x=none:=λx hx=>by
  exact xU
 refine MD (out:=.ret (.tuple #[.agg #[.int .u64 x0,.int .u64 x1,.int .u64 x2,.int .u64 x3],.int .i64 0]) ws) (B:=100000) (B1:=100016) (id:=1) (t:=4) (ts1:=upd (upd (λt=>[Value.func (.func g) #[] oq.toArray][t]?.getD undef) 2 (tO 100000)) 3 (tO 100008))
  (hp1:=upd (upd (rst hp rs) 100000 (some zB)) 100008 (some (eB 0))) zu G0F hG func179 rfl (by simp [ntmps179]) call179 ⟨_,_,_,_,ayD 0⟩ ?_ h.closed ?_ (by simp [ntmps179]) zO Ja ?_ ?_ ?_ ?_ ?_ ?_
 ·simpa using zC
 ·exact ⟨bw zS,h.fits.2⟩
 ·exact ye
 ·exact x5
 ·simp [okT,zu]
 ·simp [zu]
 ·simp [zu]
 ·intro C d hC bA hY;refine tu ?_;refine kN [] ah ?_;intro Q hQ hP;simp [hC,hY,hc,uq];have pf:∀ k∈ak ws,k<100000:=λk hk=>Su k (h.fits.2.1 k hk).1;have qx:(100000:Nat)∉ak ws:=λhm=>sy;have Ks:(100008:Nat)∉ak ws:=λhm=>sy
  have w1:bH (upd (upd (rst hp rs) 100000 (some zB)) 100008 (some (eB 0))) ws 100000=some zB:=by
   rw [da qx];simp
  have w2:bH (upd (upd (rst hp rs) 100000 (some zB)) 100008 (some (eB 0))) ws 100008=some (eB 0):=by
   rw [da Ks];simp
  refine iE (eG:=hp) h (λk hk=>?_) hG trivial ?_
  ·exact yh
  simp only [zB,eB] at w1 w2;simp [w1,w2,zB,eB];refine hQ _ _ _ _ ?_;refine cA (k4 w1 w2 @zB.eq_1 @eB.eq_1) ?_;refine ⟨.inr rfl,by simp [results179],λk hk=>?_⟩;exact Fc
theorem Yw {g:FuncId} {oq:List Value} {hp:Hp} {rs:List Nat} {x0 x1 x2 x3:Int} {ws:cf} (hG:∀ k,k<100->hp k=G0 k) (Su:∀ k∈rs,k<100000) (hc:oq.isEmpty=false) (uq:oq.all eh=true)
  (h:Fun prog G0 g oq.toArray hp rs (.ret (.agg #[.int .u64 x0,.int .u64 x1,.int .u64 x2,.int .u64 x3]) ws)) :
  Fun prog G0 142 #[.func (.func g) #[] oq.toArray] hp rs (.ret (.tuple #[.agg #[.int .u64 x0,.int .u64 x1,.int .u64 x2,.int .u64 x3],.int .i64 0]) ws):=by
 have zC:∀ x∈oq,aP (dom (rst hp rs)) x:=λx hx=>(ky (cX.1 uq x hx)).1 (h.ids x cG)
 have Ja:∀ x,100000<=x->rst hp rs x=none:=λx hx=>by
  exact xU
 refine MD (out:=.ret (.tuple #[.agg #[.int .u64 x0,.int .u64 x1,.int .u64 x2,.int .u64 x3],.int .i64 0]) ws) (B:=100000) (B1:=100016) (id:=1) (t:=4) (ts1:=upd (upd (λt=>[Value.func (.func g) #[] oq.toArray][t]?.getD undef) 2 (tO 100000)) 3 (tO 100008))
  (hp1:=upd (upd (rst hp rs) 100000 (some zB)) 100008 (some (eB 0))) zu G0F hG func142 rfl sJ call142 ⟨_,_,_,_,ana 0⟩ ?_ h.closed ?_ sJ zO Ja ?_ ?_ ?_ ?_ ?_ ?_
 ·simpa using zC
 ·exact ⟨bw zS,h.fits.2⟩
 ·exact ye
 ·exact x5
 ·simp [okT,zu]
 ·simp [zu]
 ·simp [zu]
 ·intro C d hC bA hY;refine tu ?_;refine kN [] ah ?_;intro Q hQ hP;simp [hC,hY,hc,uq];have pf:∀ k∈ak ws,k<100000:=λk hk=>Su k (h.fits.2.1 k hk).1;have qx:(100000:Nat)∉ak ws:=λhm=>sy;have Ks:(100008:Nat)∉ak ws:=λhm=>sy
  have w1:bH (upd (upd (rst hp rs) 100000 (some zB)) 100008 (some (eB 0))) ws 100000=some zB:=by
   rw [da qx];simp
  have w2:bH (upd (upd (rst hp rs) 100000 (some zB)) 100008 (some (eB 0))) ws 100008=some (eB 0):=by
   rw [da Ks];simp
  refine iE (eG:=hp) h (λk hk=>?_) hG trivial ?_
  ·exact yh
  simp only [zB,eB] at w1 w2;simp [w1,w2,zB,eB];refine hQ _ _ _ _ ?_;refine cA (k4 w1 w2 @zB.eq_1 @eB.eq_1) ?_;refine ⟨.inr rfl,by simp [results142],λk hk=>?_⟩;exact Fc
theorem Yv {g:FuncId} {oq:List Value} {hp:Hp} {rs:List Nat} {n:Int} (hG:∀ k,k<100->hp k=G0 k) (Su:∀ k∈rs,k<100000) (hc:oq.isEmpty=false) (uq:oq.all eh=true)
  (h:Fun prog G0 g oq.toArray hp rs (.pan (erV n))) :
  Fun prog G0 142 #[.func (.func g) #[] oq.toArray] hp rs (.ret (.tuple #[.agg #[.int .u64 0,.int .u64 0,.int .u64 0,.int .u64 0],.int .i64 n]) []):=by
 have zC:∀ x∈oq,aP (dom (rst hp rs)) x:=λx hx=>(ky (cX.1 uq x hx)).1 (h.ids x cG)
 have Ja:∀ x,100000<=x->rst hp rs x=none:=λx hx=>by
  exact xU
 refine MD (out:=.pan (erV n) [100000,100008] [(100000,zB),(100008,eB n)] (.tuple #[.agg #[.int .u64 0,.int .u64 0,.int .u64 0,.int .u64 0],.int .i64 n])) (B:=100000) (B1:=100016) (id:=1) (t:=4) (ts1:=upd (upd (λt=>[Value.func (.func g) #[] oq.toArray][t]?.getD undef) 2 (tO 100000)) 3 (tO 100008))
  (hp1:=upd (upd (rst hp rs) 100000 (some zB)) 100008 (some (eB 0))) zu G0F hG func142 rfl sJ call142 ⟨_,_,_,_,ana 0⟩ ?_ h.closed ?_ sJ zO Ja ?_ ?_ ?_ ?_ ?_ ?_
 ·simpa using zC
 ·exact ⟨bw zS,by simp [ak],zS,zS⟩
 ·exact ye
 ·exact x5
 ·simp [okT,zu]
 ·simp [zu]
 ·simp [zu]
 ·intro C d hC bA hY;refine tu ?_;refine kN [] ah ?_;intro Q hQ hP;simp [hC,hY,hc,uq];refine iE (eG:=hp) h (λk hk=>?_) hG trivial ?_
  ·exact yh
  simp;refine hP _ _ λyc=>?_;simp only [CX]
  have e:∀ k,(k<100\/k∈[100000,100008])->hpQ 0 k=upd (upd (rst hp rs) 100000 (some zB)) 100008 (some (eB 0)) k:=λk hk=>by
   rcases hk with hk|hk
   ·simp [hpQ,(zO:¬k=100000),(zO:¬k=100008),rst,hk,hG k hk]
   ·simp at hk;rcases hk with rfl|rfl<;>simp [hpQ]
  have er:rst (upd (upd (rst hp rs) 100000 (some zB)) 100008 (some (eB 0))) [100000,100008]=hpQ 0:=by rw [<-qB e,oQ]
  refine ⟨rfl,by simp [results142,zB,eB],λk hk=>rfl,(ana n).under e,λk hk=>?_,λk hk=>?_,?_⟩
  ·rw [er] at hk;unfold dom at hk |-;by_cases h1:k=100000
   ·subst h1;simp
   ·by_cases h2:k=100008
    ·subst h2;simp
    ·simp only [hpQ,bV,eH,h1,h2,cw] at hk;have zN:=BG hk;simp [h1,h2,rst,zN,hG k zN];exact hk
  ·rw [er];simp [ak] at hk;rcases hk with rfl|rfl
   ·exact ⟨by simp [hpQ,dom],zO,λhd=>hd (Ja _ zO)⟩
   ·exact ⟨by simp [hpQ,dom],zO,λhd=>hd (Ja _ zO)⟩
  ·rw [er];exact λk b hk=>MP 0 k b _ hk
theorem dZ {p:Prop} (h:p:=by decide +kernel):p:=h
theorem w8 {p:Prop} (h:p:=by unfold wi at h h0;unfold uz;omega):p:=h
abbrev rq := @Int.toNat_of_nonneg
abbrev rr := @Int.le_ediv_iff_mul_le
abbrev ic := @Nat.pow_le_pow_right

def bz (x:Int):Int:=if x<=0 then 0 else (Nat.log2 x.toNat:Int)+1
theorem oC {x:Int} (h:0<x):∃ k:Nat,bz x=k+1/\2^k<=x/\x<2^(k+1):=by
 refine ⟨Nat.log2 x.toNat,by unfold bz;rw [ae zO],?_,?_⟩
 ·have:=Nat.log2_self_le (n:=x.toNat) zO;have h2:((2^Nat.log2 x.toNat:Nat):Int)<=(x.toNat:Int):=by exact_mod_cast this
  rw [rq zO] at h2
  exact_mod_cast h2
 ·have:=Nat.lt_log2_self (n:=x.toNat);have h2:(x.toNat:Int)<((2^(Nat.log2 x.toNat+1):Nat):Int):=by exact_mod_cast this
  rw [rq zO] at h2
  exact_mod_cast h2
theorem acz {x:Int} {k:Nat} (h1:2^k<=x) (h2:x<2^(k+1)):bz x=k+1:=by
 have hp:(0:Int)<2^k:=fw zO;unfold bz;rw [ae zO]
 have:Nat.log2 x.toNat=k:=(Nat.log2_eq_iff zO).2 ⟨by
  have:((2^k:Nat):Int)<=(x.toNat:Int):=by rw [rq zO];exact_mod_cast h1
  exact_mod_cast this,by
  have:(x.toNat:Int)<((2^(k+1):Nat):Int):=by rw [rq zO];exact_mod_cast h2
  exact_mod_cast this⟩
 rw [this]
theorem qz {x:Int} (j:Nat) (h:2^j<=x):bz x=j+bz (x / 2^j):=by
 have hp:(0:Int)<2^j:=fw zO
 have h1:0<x / 2^j:=by
  have:=(rr hp (a:=1) (b:=x)).2 zO;omega
 obtain ⟨k,e,l1,l2⟩:=oC h1;rw [e]
 have:=acz (x:=x) (k:=j+k) (by
  have:=(rr hp).1 l1;rw [cx,bX];exact this) (by
  have:=(Int.ediv_lt_iff_lt_mul hp).1 l2;rw [o8,cx,bX];exact this)
 rw [this];omega
theorem abR {s:ByteArray} {m:Int} {C:Eff->Prop} (h0:0<=m) (h1:m<256) (ht:∀ k:Fin 256,(s[k.1]?).map (λb=>b.toNat)=some (if k.1=0 then 0 else Nat.log2 k.1+1)) (h:C (val (.int .u8 (bz m)) [])):OP s m C:=by
 have h2:=ht ⟨m.toNat,zO⟩
 cases hb:s[m.toNat]? with
 | none=>simp [hb] at h2
 | some b =>
  simp only [hb,g5,bf] at h2;rw [agv h0 hb,h2]
  have:((if m.toNat=0 then 0 else Nat.log2 m.toNat+1:Nat):Int)=bz m:=by
   unfold bz;by_cases e:m<=0
   ·rw [ag e,ag zO];rfl
   ·rw [ae e,ae zO];rfl
  exact this▸h
theorem pq {x:Int} (h:x<256):0<=bz x/\bz x<=8:=by
 by_cases h0:0<x
 ·obtain ⟨k,e,l1,l2⟩:=oC h0;rw [e]
  have:k<8:=bu λhk=>by
   have:(2:Int)^8<=2^k:=by exact_mod_cast ic zO (by omega:8<=k)
   omega
  omega
 ·unfold bz;rw [ag zO];omega
@[simp] theorem avM (z:Int):IntKind.u8.wrap z=z%256:=rfl
theorem XH (x:Int) (h0:0<=x) (h1:x<18446744073709551616):Ret prog G0 203 #[.int .u64 x] (.int .i64 (bz x)):=by
 refine aU G0F func203 rfl call203 rfl zS (by simp [ntmps203]) ?_;intro C hC bA hY;have f32:∀ z:Int,z.fdiv 4294967296=z / 4294967296:=λz=>iO z zO;have f16:∀ z:Int,z.fdiv 65536=z / 65536:=λz=>iO z zO;have f8:∀ z:Int,z.fdiv 256=z / 256:=λz=>iO z zO;have n32:4294967296<=x->bz x=32+bz (x / 4294967296):=qz 32;have n16:∀ y:Int,65536<=y->bz y=16+bz (y / 65536):=λy=>qz 16;have n8:∀ y:Int,256<=y->bz y=8+bz (y / 256):=λy=>qz 8
 repeat' (first|refine I6 ?_|(refine iy ?_;intro Q hQ hP;simp [hC,hY,f32,f16,f8];refine dq hQ ?_;clear hQ hP Q)|refine gwC ?_ ?_<;>intro hb<;>try (cases hb;done))
 all_goals
  rename_i c1 c2;simp at c1 c2 hb;refine kN [] ah ?_;intro Q hQ hP;simp [hC,hY];refine abR zO zO dZ ?_;simp;refine hQ _ _ _ _ ?_
  repeat' (first|refine I6 ?_|(refine iy ?_;intro Q hQ hP;simp [hC,hY];refine dq hQ ?_;clear hQ hP Q)|refine gwC ?_ ?_<;>intro hb<;>try (cases hb;done))
  refine ⟨.inr trivial,?_⟩;simp [results203];rw [bP zO zO];have k2:=n16 x;have k3:=n16 (x / 4294967296);have k4:=n8 x;have k5:=n8 (x / 4294967296);have k6:=n8 (x / 65536);have k7:=n8 (x / 4294967296 / 65536);have b1:=pq (x:=x);have b2:=pq (x:=x / 256);have b3:=pq (x:=x / 65536);have b4:=pq (x:=x / 65536 / 256);have b5:=pq (x:=x / 4294967296);have b6:=pq (x:=x / 4294967296 / 256);have b7:=pq (x:=x / 4294967296 / 65536);have b8:=pq (x:=x / 4294967296 / 65536 / 256);rw [bm zO zO]
  try omega
@[simp] theorem aAP (x:Int) (h0:0<=x) (h1:x<18446744073709551616) (K:fQ):bl prog G0 203 #[.int .u64 x] K↔K (.int .i64 (bz x)):=ar G0W ah (XH x h0 h1)
def uz (z:Int):Int:=z%115792089237316195423570985008687907853269984665640564039457584007913129639936
theorem pk {x:Int} (j:Nat) (h:x<2^j):0<=bz x/\bz x<=j:=by
 by_cases h0:0<x
 ·obtain ⟨k,e,l1,l2⟩:=oC h0;rw [e]
  have:k<j:=bu λhk=>by
   have:(2:Int)^j<=2^k:=by exact_mod_cast ic zO (by omega:j<=k)
   omega
  omega
 ·unfold bz;rw [ag zO];omega
theorem qm (z:Int) (k:Nat):0<=bz (wi z k)/\bz (wi z k)<=64:=pk 64 (by have:=eJ z k;omega)
theorem Uv (z:Int) (h:¬wi z 3=0):bz (uz z)=192+bz (wi z 3):=by
 have h0:=dJ z 3;have e:uz z / 2^192=wi z 3:=by unfold uz wi;omega
 have:=qz (x:=uz z) 192 w8;rw [this,e];rfl
theorem Uu (z:Int) (h3:wi z 3=0) (h:¬wi z 2=0):bz (uz z)=128+bz (wi z 2):=by
 have h0:=dJ z 2;have e:uz z / 2^128=wi z 2:=by unfold wi at h3;unfold uz wi;omega
 have:=qz (x:=uz z) 128 w8;rw [this,e];rfl
theorem Ut (z:Int) (h3:wi z 3=0) (h2:wi z 2=0) (h:¬wi z 1=0):bz (uz z)=64+bz (wi z 1):=by
 have h0:=dJ z 1;have e:uz z / 2^64=wi z 1:=by unfold wi at h3 h2;unfold uz wi;omega
 have:=qz (x:=uz z) 64 w8;rw [this,e];rfl
theorem Us (z:Int) (h3:wi z 3=0) (h2:wi z 2=0) (h1:wi z 1=0):uz z=wi z 0:=by
 unfold wi at h3 h2 h1;unfold uz wi;omega
theorem acs (n:Int):BI prog G0 191 #[.bool true,.int .i64 n] (.ret (.tuple #[])):=by
 refine Bj G0F func191 rfl call191 (λv h=>by cases h;simp) zS (by simp [ntmps191]) ?_;intro C hC bA hY
 repeat' (first|refine I6 ?_|(refine iy ?_;intro Q hQ hP;simp [hC,hY];(first|refine dq hQ ?_|refine hP _ _ ah λ_=>?_);clear hQ hP Q)|refine gwC ?_ ?_<;>intro hb<;>try (cases hb;done))
 exact ⟨.inl trivial,by simp [results191]⟩
theorem anp (z:Int):BI prog G0 192 #[wd z,.bool false] (.ret (wd z)):=by
 refine Bj G0F func192 rfl call192 (λv h=>by cases h;simp) zS (by simp [ntmps192]) ?_;intro C hC bA hY
 repeat' (first|refine I6 ?_|((first|refine gwR [1000191] ?_|refine gwD [1000191] ?_);intro Q hQ hP;(repeat first|simp [hC,hY]|refine IN (acs 20) ?_);(first|refine dq hQ ?_|refine hP _ _ ah λ_=>?_);clear hQ hP Q)|refine gwC ?_ ?_<;>intro hb<;>try (cases hb;done))
 exact ⟨.inr trivial,by simp [results192]⟩
theorem adD (z:Int):Ret prog G0 209 #[wd z] (.int .i64 (bz (uz z))):=by
 refine aU G0F func209 rfl call209 rfl zS (by simp [ntmps209]) ?_;intro C hC bA hY;have b0:=qm z 0;have b1:=qm z 1;have b2:=qm z 2;have b3:=qm z 3;have k3:=Uv z;have k2:=Uu z;have k1:=Ut z;have k0:=Us z;have m3:Int.bmod (192+bz (wi z 3)) 18446744073709551616=192+bz (wi z 3):=bm zO zO;have m2:Int.bmod (128+bz (wi z 2)) 18446744073709551616=128+bz (wi z 2):=bm zO zO;have m1:Int.bmod (64+bz (wi z 1)) 18446744073709551616=64+bz (wi z 1):=bm zO zO
 repeat' (first|refine GWL_start ?_|refine GWL_step ?_|refine I6 ?_|(refine iy ?_;intro Q hQ hP;simp [hC,hY,dJ,eJ,m1,m2,m3];(first|refine dq hQ ?_|refine hP _ _ ah λ_=>?_);clear hQ hP Q)|refine gwC ?_ ?_<;>intro hb<;>try (cases hb;done))
 all_goals
  refine ⟨.inr trivial,?_⟩;simp [results209]
  simp_all
@[simp] theorem aA6 (z:Int) (K:fQ):bl prog G0 209 #[Value.agg #[.int .u64 (wi (z) 0),.int .u64 (wi (z) 1),.int .u64 (wi (z) 2),.int .u64 (wi (z) 3)]] K↔K (.int .i64 (bz (uz z))):=ar G0W ah (adD z)
theorem pL {p:Prop} (h:p:=by rw [hZ zO];omega):p:=h
theorem pD {p:Prop} (h:p:=by rw [rv zO];omega):p:=h
abbrev Cx := @Int.mul_ediv_mul_of_pos_left
abbrev kT := @Int.mul_emod_left
abbrev CG := @Int.lt_of_mul_lt_mul_left
abbrev kX := @Int.mul_one
abbrev kQ := @Int.mul_ediv_cancel

theorem emm (a p m:Int):a%m*p%m=a*p%m:=by rw [Int.mul_emod,oW _ (Int.dvd_refl _),<-Int.mul_emod]
theorem acX {x y:Int} {R:Nat} (VB:0<=x) (hx:x<18446744073709551616) (hd:x%2^R=0) (Qz:0<=y) (hy:y<2^R) (hR:R<=64):jS .or .u64 x y=x+y:=by
 have hp:(2:Int)^R<=2^64:=by exact_mod_cast ic zO (by omega:R<=64)
 have e:jS .or .u64 x y=((BitVec.ofInt 64 x ||| BitVec.ofInt 64 y:BitVec 64).toNat:Int)%18446744073709551616:=by
  exact FG
 have qy:(BitVec.ofInt 64 x).toNat=x.toNat:=by
  rw [oX];congr 1;exact bP VB hx
 have Qy:(BitVec.ofInt 64 y).toNat=y.toNat:=by
  rw [oX];congr 1;exact bP Qz zO
 obtain ⟨X,rfl⟩:=Int.eq_ofNat_of_zero_le VB;obtain ⟨Y,rfl⟩:=Int.eq_ofNat_of_zero_le Qz;have vc:X%2^R=0:=by exact_mod_cast hd
 have hY:Y<2^R:=by exact_mod_cast hy
 have hX:X=(X / 2^R) <<< R:=by rw [Nat.shiftLeft_eq];exact (Nat.div_mul_cancel (Nat.dvd_of_mod_eq_zero vc)).symm
 have Zh:X ||| Y=X+Y:=by
  rw [hX];exact (Nat.shiftLeft_add_eq_or_of_lt hY _).symm
 have eG:2^R<=2^64:=ic zO (by omega:R<=64)
 have hb:X+Y<18446744073709551616:=by
  rw [<-Zh];exact Nat.or_lt_two_pow (n:=64) zO zO
 rw [e,BitVec.toNat_or,qy,Qy];simp only [Int.toNat_natCast,Zh];omega
theorem YN {R:Nat} (hR:R<64):(2:Int)^R*2^(64 - R)=18446744073709551616:=by
 rw [<-cx,(zO:R+(64 - R)=64)];rfl
theorem ah7 (z:Int) (R:Nat):wi (z*2^R) 0=(wi z 0*2^R)%18446744073709551616:=by
 simp only [wi,fF,rS,Int.ediv_one];rw [emm]
theorem ah8 (z:Int) (R:Nat) (hR:R<64) (k:Nat):wi (z*2^R) (k+1)=(wi z (k+1)*2^R)%18446744073709551616+wi z k / 2^(64 - R)/\0<=wi z k / 2^(64 - R)/\wi z k / 2^(64 - R)<2^R/\(wi z (k+1)*2^R)%18446744073709551616%2^R=0:=by
 have hM:=YN hR;have hPp:(0:Int)<2^R:=fw zO;have hSp:(0:Int)<2^(64 - R):=fw zO
 have e1:(2:Int)^(64*(k+1))=2^(64*k)*18446744073709551616:=by
  rw [(zO:64*(k+1)=64*k+64),cx];rfl
 have hKp:(0:Int)<2^(64*k):=fw zO;unfold wi;rw [e1];generalize (2:Int)^R=P at *
 generalize (2:Int)^(64 - R)=S at *
 generalize (2:Int)^(64*k)=K at *
 have eu:z*P / (K*18446744073709551616)=z / K / S:=by
  rw [<-hM,show K*(P*S)=(K*S)*P by rw [bX P S,bD],Cx _ _ hPp,jr zO]
 rw [eu,<-jr (bW hKp)];generalize z / K=u at *
 have afW:P ∣ 18446744073709551616:=⟨S,hM.symm⟩
 have h1:0<=u%18446744073709551616 / S:=gN (bM _ zO) zO
 have h2:u%18446744073709551616 / S<P:=by
  have:=bQ u (b:=18446744073709551616) zO;exact (Int.ediv_lt_iff_lt_mul hSp).2 (by rw [hM];exact this)
 have h3:(u / 18446744073709551616%18446744073709551616*P)%18446744073709551616%P=0:=by
  rw [oW _ afW,kT]
 refine ⟨?_,h1,h2,h3⟩
 have e2:u / S=(u / 18446744073709551616)*P+u%18446744073709551616 / S:=by
  have:=eY u 18446744073709551616
  have h4:u=u%18446744073709551616+S*(u / 18446744073709551616*P):=by
   have:S*(u / 18446744073709551616*P)=18446744073709551616*(u / 18446744073709551616):=by
    rw [<-hM,bX P S,bD,bX _ P]
   omega
  conv=>lhs;rw [h4]
  rw [g7 _ _ zO];omega
 rw [e2,emm];have h5:(u / 18446744073709551616*P)%18446744073709551616%P=0:=by rw [oW _ afW,kT]
 have h6:=bM (u / 18446744073709551616*P) (b:=18446744073709551616) zO;have h7:=bQ (u / 18446744073709551616*P) (b:=18446744073709551616) zO
 have h8:(u / 18446744073709551616*P)%18446744073709551616<=18446744073709551616 - P:=by
  obtain ⟨c,hc⟩:=Int.dvd_of_emod_eq_zero h5;rw [hc] at h7 |-;rw [<-hM] at h7 |-;have:c<S:=CG h7 zO;have:P*c<=P*(S - 1):=fg zO zO;rw [kU,kX] at this;exact this
 rw [Int.add_emod,bP h1 zO,bP zO zO]
theorem atB (z:Int) (q i R:Nat) (h:q<=i):wi (z*2^(64*q+R)) i=wi (z*2^R) (i - q):=by
 unfold wi;obtain ⟨j,rfl⟩:∃ j,i=q+j:=⟨i - q,zO⟩
 rw [(zO:q+j - q=j),cx,show z*(2^(64*q)*2^R)=(z*2^R)*2^(64*q) by rw [bX (2^(64*q)),bD],(zO:64*(q+j)=64*j+64*q),cx,
  Cx _ _ (fw zO)]
theorem atz (z:Int) (q i R:Nat) (h:i<q):wi (z*2^(64*q+R)) i=0:=by
 unfold wi;obtain ⟨j,rfl⟩:∃ j,q=i+1+j:=⟨q - (i+1),zO⟩
 rw [show 64*(i+1+j)+R=64*i+(64+(64*j+R)) by omega,cx,cx,show z*(2^(64*i)*(2^64*2^(64*j+R)))=(z*2^(64*j+R)*2^64)*2^(64*i) by
  rw [bX (2^(64*i)),bX (2^64) (2^(64*j+R))];simp only [bD],kQ _ (by have:(0:Int)<2^(64*i):=fw zO;omega)]
 exact kT _ _
theorem YB (z:Int) (q R:Nat) (hq:q<4) (hR:R<64):Ret prog G0 210 #[wd z,.int .i64 (64*q+R)] (wd (z*2^(64*q+R))):=by
 refine aU G0F func210 rfl call210 zS zS (by simp [ntmps210]) ?_;intro C hC bA hY;have t1:(64*(q:Int)+R).tdiv 64=q:=pL;have t2:(64*(q:Int)+R).tmod 64=R:=pD;have m1:min R 64=R:=zO;have m2:Int.bmod (64 - (R:Int)) 18446744073709551616=64 - R:=bm zO zO;have m3:(64 - (R:Int)).toNat=64 - R:=zO;have m4:min (64 - R) 64=64 - R:=zO;have m5:(R:Int)<=64:=zO;have m6:(0:Int)<=64 - R:=zO;have fd:∀ x:Int,x.fdiv (2^(64 - R))=x / 2^(64 - R):=λx=>iO x (bW (fw zO))
 have OR:∀ k,jS .or .u64 ((wi z (k+1)*2^R)%18446744073709551616) (wi z k / 2^(64 - R))=wi (z*2^R) (k+1):=λk=>by
  obtain ⟨e,h1,h2,h3⟩:=ah8 z R hR k;rw [acX (R:=R) (bM _ zO) (bQ _ zO) h3 h1 h2 zO,e]
 have o0:=OR 0;have o1:=OR 1;have o2:=OR 2;have s0:=ah7 z R;have:q=0\/q=1\/q=2\/q=3:=zO;have up:=atB z;have dn:=atz z;rcases this with rfl|rfl|rfl|rfl
 ·simp at t1 t2;refine qv (Kx t1 t2 m1 m2 m3 m4 m5 m6 fd @dJ @eJ) ?_;exact eR (k5 results210 o0 o1 o2 s0)
 ·simp at t1 t2;refine qv (Kx t1 t2 m1 m2 m3 m4 m5 m6 fd @dJ @eJ) ?_;refine ⟨.inr trivial,?_⟩;simp [results210,o0,o1,o2,s0];exact ⟨(dn 1 0 R zO).symm,((up 1 1 R zO).trans s0).symm,(up 1 2 R zO).symm,(up 1 3 R zO).symm⟩
 ·simp at t1 t2;refine qv (Kx t1 t2 m1 m2 m3 m4 m5 m6 fd @dJ @eJ) ?_;refine ⟨.inr trivial,?_⟩;simp [results210,o0,o1,o2,s0];exact ⟨(dn 2 0 R zO).symm,(dn 2 1 R zO).symm,((up 2 2 R zO).trans s0).symm,(up 2 3 R zO).symm⟩
 ·simp at t1 t2;refine qv (Kx t1 t2 m1 m2 m3 m4 m5 m6 fd @dJ @eJ) ?_;refine ⟨.inr trivial,?_⟩;simp [results210,o0,o1,o2,s0];exact ⟨(dn 3 0 R zO).symm,(dn 3 1 R zO).symm,(dn 3 2 R zO).symm,((up 3 3 R zO).trans s0).symm⟩
theorem ahI (z n:Int) (h0:0<=n) (h1:n<256):Ret prog G0 210 #[wd z,.int .i64 n] (wd (z*2^n.toNat)):=by
 have h:=YB z (n / 64).toNat (n%64).toNat zO zO;have e:64*(n / 64).toNat+(n%64).toNat=n.toNat:=zO;have e':(64*((n / 64).toNat:Int)+((n%64).toNat:Int))=n:=zO;rw [e,e'] at h;exact h
@[simp] theorem ayE (z n:Int) (h0:0<=n) (h1:n<256) (K:fQ):bl prog G0 210 #[Value.agg #[.int .u64 (wi (z) 0),.int .u64 (wi (z) 1),.int .u64 (wi (z) 2),.int .u64 (wi (z) 3)],.int .i64 n] K↔K (wd (z*2^n.toNat)):=ar G0W ah (ahI z n h0 h1)
theorem sf {p:Prop} (h:p:=by unfold uz;omega):p:=h
theorem pF {p:Prop} (h:p:=by rw [bm zO zO];omega):p:=h

theorem Ur (a b:Int) (k:Nat) (nZ:100<=k):Fun prog G0 202 #[wd a,wd b] G0 [] (.new (.func (.func 208) #[] #[.pointer (some ⟨k,0,none⟩),.pointer (some ⟨k+1,0,none⟩)]) [(k,wb a),(k+1,wb b)]):=by
 have e0:rst G0 []=G0:=zX G0F [];refine Nc (B:=200) (λj=>if j=k then 200 else if j=k+1 then 208 else j) G0F (λ_ _=>rfl) func202 rfl call202 ga xx ?_ (by simp [ntmps202]) zO xw (λj hj=>?_) ?_ ?_ ?_ ?_
 ·exact EY
 ·rw [e0] at hj;have:=BG hj;rw [ae zO,ae zO]
 ·simp [e0,dom]
 ·simp
 ·exact pE
 ·intro C hC bA hY;rw [e0];refine iI ?_;refine ⟨.inr trivial,?_⟩;simp [results202,ren,aW,aw,aF,wb];intro j hj;have:=BG hj;exact QR
theorem Wv (z:Int):0<=uz z/\uz z<2^256:=sf
def shN (a b:Int):Int:=bz (uz a) - bz (uz b)
theorem adC (a b:Int):-256<=shN a b/\shN a b<=256:=by
 have h1:=pk 256 (Wv a).2;have h2:=pk 256 (Wv b).2;unfold shN;omega
def PV (b N:Int):List (Array Value):=(List.range (N+1).toNat).map λ(i:Nat)=>#[.int .i64 (N - (i:Int)),wd (b*2^(N - (i:Int)).toNat)]
theorem J3 (b N:Int):(PV b N).length=(N+1).toNat:=by simp [PV]
theorem Wl (b N:Int) (i:Nat) (h:i<(N+1).toNat):(PV b N)[i]? = some #[.int .i64 (N - i),wd (b*2^(N - i).toNat)]:=by
 simp [PV,h]
def YA (a b N:Int) (l i:Nat):GS :=
 ⟨tsL [(0,.func (.yield l) #[] #[]),(1,.pointer (some ⟨100,0,none⟩)),(2,.pointer (some ⟨101,0,none⟩)),(4,.int .i64 (N - i))],wHp a b,300,i⟩
theorem YC (a b:Int) (dp:shN a b<256):q9 prog G0 208 #[.pointer (some ⟨100,0,none⟩),.pointer (some ⟨101,0,none⟩)] (wHp a b) [100,101] (PV b (shN a b)):=by
 have e0:rst (wHp a b) [100,101]=wHp a b:=qi G0F zS;refine MW (B:=200) (v:=.tuple #[]) G0F (λk hk=>dA zS hk) func208 rfl call208 ?_ ?_ (by simp [ntmps208]) zO ?_ ?_
 ·rw [e0];simp [aL,cQ,aI,aP,dom,wHp]
 ·exact D4
 ·exact Hs
 ·intro C l stop hC bA hY;rw [e0] at bA |-;have BX:=adC a b;have hN:Int.bmod (bz (uz a) - bz (uz b)) 18446744073709551616=shN a b:=bm (by unfold shN at BX;omega) (by unfold shN at BX;omega);have hlen:=J3 b (shN a b);generalize hn:shN a b=N at *
  generalize zE:PV b N=xs at *
  refine qu 0 (λm s=>∃ i,i<=stop/\i+m=xs.length/\s=YA a b N l i) rfl ?_ ?_
  ·rintro m _ ⟨i,hi,zM,rfl⟩;have aAa:(i:Int)<=257:=zO;by_cases hl:i<xs.length
   ·have g1:(i:Int)<=N:=zO;have g2:N - (i:Int)<256:=zO;have g4:Int.bmod (N - (i:Int) - 1) 18446744073709551616=N - ((i+1:Nat):Int):=pF
    have hx:xs[i]? = some #[.int .i64 (N - (i:Int)),wd (b*2^(N - (i:Int)).toNat)]:=by
     rw [<-zE];exact Wl b N i zO
    simp only [adY] at hx;by_cases hs:i=stop
    ·have q1:(i != stop)=false:=by simp [hs]
     unfold YA;refine cA (k7 @wHp.eq_1 @wb.eq_1 hi g1 g2 hx q1) ?_;refine ⟨.inl trivial,by simp [results208],?_⟩;show i+1=_;omega
    ·have q1:(i != stop)=true:=by simp [hs]
     unfold YA;refine cA (k8 @wHp.eq_1 @wb.eq_1 hi g1 g2 g4 hx q1) ?_;refine ⟨rfl,YA a b N l (i+1),xs.length - (i+1),cB _ 300 hC G0F (m:=[(100,wb a),(101,wb b)]) (m0:=[(100,wb a),(101,wb b)]) bA zO ?_ ?_ ?_,⟨i+1,zO,zO,rfl⟩,zO⟩
     ·exact nv
     ·simp [wb]
     ·simp [wb]
   ·have g1:¬(i:Int)<=N:=zO;unfold YA;refine cA (k3 @wHp.eq_1 @wb.eq_1 g1) ?_;refine ⟨.inl trivial,by simp [results208],?_⟩;show i=_;omega
  ·intro pass;refine tu ?_
   (refine iy ?_;intro Q hQ hP;simp [hC,hY,wHp,wb,hN];refine dq hQ ?_;clear hQ hP Q)
   simp only [wN,wM,Nat.reduceAdd,Nat.reduceMul];refine tu (NL ?_);simp only [kB];refine pass xs.length (YA a b N l 0) _ ?_ ⟨0,zO,zO,rfl⟩;refine cB _ 300 hC G0F (m:=[(100,wb a),(101,wb b)]) (m0:=[(100,wb a),(101,wb b)]) bA zO ?_ ?_ ?_
   ·exact nv
   ·simp [wb]
   ·simp [wb]
end Go.Gy
namespace Go.Gy
open Go Go.RowKit Go.Proofs
theorem xb {p:Prop} (h:p:=by have:=dV (64*j);omega):p:=h
theorem G2 {p:Prop} (h:p:=by
 constructor
 ·rw [ea,vM,bP zO zO]
 ·rw [ea,g7 _ _ zO,dU zO zO];omega):p:=h
abbrev cC := @Int.le_trans
abbrev iK := @Int.pow_succ
abbrev iR := @Int.mul_pos
abbrev rP := @Int.one_mul
abbrev vR := @Int.lt_of_lt_of_le
abbrev fE := @Int.mul_le_mul_of_nonneg_right

theorem qc {z:Int} (h0:-57896044618658097711785492504343953926634992332820282019728792003956564819968<=z) (h1:z<57896044618658097711785492504343953926634992332820282019728792003956564819968):sz z=z:=by
 unfold sz;rw [fe];split<;>omega
theorem tD {z:Int} (h0:0<=z) (h1:z<57896044618658097711785492504343953926634992332820282019728792003956564819968):sz z=z:=qc (cC zD h0) h1
theorem aah (a M:Int) (hM:0<M):(M<=a%(2*M)->a%M=a%(2*M) - M/\a / M=2*(a / (2*M))+1)/\(a%(2*M)<M->a%M=a%(2*M)/\a / M=2*(a / (2*M))):=by
 have h1:=eY a (2*M);have h2:=bM a (b:=2*M) zO;have h3:=bQ a (b:=2*M) zO;have e:2*M*(a / (2*M))=M*(2*(a / (2*M))):=by rw [bX 2 M,bD]
 rw [e] at h1;generalize a%(2*M)=r at *
 generalize 2*(a / (2*M))=k at *
 constructor
 ·intro h;have ea:a=(r - M)+M*(k+1):=sx;exact G2
 ·intro h;have ea:a=r+M*k:=zO;exact G2
theorem dV (k:Nat):(0:Int)<2^k:=fw zO
theorem adZ (c:Int) (t r:Nat) (hr:r<64):jS .or .u64 (wi (c*2^(64*t+r+1)) t) (2^r)=wi (c*2^(64*t+r+1)+2^(64*t+r)) t:=by
 have e1:c*2^(64*t+r+1) / 2^(64*t)=c*2^(r+1):=by
  rw [(zO:64*t+r+1=(r+1)+64*t),cx,<-bD,kQ _ (by have:=dV (64*t);omega)]
 have e2:(c*2^(64*t+r+1)+2^(64*t+r)) / 2^(64*t)=c*2^(r+1)+2^r:=by
  have x1:(2:Int)^(64*t+r+1)=2^(r+1)*2^(64*t):=nJ;have x2:(2:Int)^(64*t+r)=2^r*2^(64*t):=nJ;rw [x1,x2,<-bD,<-eF,kQ _ (by have:=dV (64*t);omega)]
 have hM:(18446744073709551616:Int)=2^(63 - r)*2^(r+1):=by rw [<-cx,(zO:63 - r+(r+1)=64)];rfl
 have afW:(2:Int)^(r+1) ∣ 18446744073709551616:=⟨2^(63 - r),by rw [hM,bX]⟩
 have hp:=dV r;have hp1:(2:Int)^(r+1)=2*2^r:=by rw [iK,bX]
 have h5:(c*2^(r+1))%18446744073709551616%2^(r+1)=0:=by rw [oW _ afW,kT]
 have h6:=bM (c*2^(r+1)) (b:=18446744073709551616) zO;have h7:=bQ (c*2^(r+1)) (b:=18446744073709551616) zO
 have h8:(c*2^(r+1))%18446744073709551616<=18446744073709551616 - 2^(r+1):=by
  obtain ⟨d,hd⟩:=Int.dvd_of_emod_eq_zero h5;rw [hd] at h7 |-;have hs:=dV (63 - r);have hq:=dV (r+1);rw [hM] at h7 |-;generalize (2:Int)^(r+1)=P at *
  generalize (2:Int)^(63 - r)=S at *
  rw [bX S P] at h7 |-;have:d<S:=CG h7 zO;have:P*d<=P*(S - 1):=fg zO zO;rw [kU,kX] at this;exact this
 unfold wi;rw [e1,e2,acX (R:=r+1) h6 h7 h5 zO zO zO,Int.add_emod (c*2^(r+1)),bP (a:=2^r) zO zO,bP (a:=c*2^(r+1)%18446744073709551616+2^r) zO zO]
theorem Ki (c:Int) (t r j:Nat) (hr:r<64) (h:j≠t):wi (c*2^(64*t+r+1)+2^(64*t+r)) j=wi (c*2^(64*t+r+1)) j:=by
 unfold wi;by_cases hj:j<t
 ·obtain ⟨m,rfl⟩:∃ m,t=j+1+m:=⟨t - (j+1),zO⟩
  have e:(2:Int)^(64*(j+1+m)+r)=(2^(64*m+r)*18446744073709551616)*2^(64*j):=by
   rw [(zO:64*(j+1+m)+r=64*m+r+64+64*j),cx,cx];rfl
  rw [iK,e,show c*(2^(64*m+r)*18446744073709551616*2^(64*j)*2)=(c*2*2^(64*m+r)*18446744073709551616)*2^(64*j) by
   simp only [bD,bX,rz],<-eF,kQ _ xb,kQ _ xb,<-eF,kT,kT]
 ·obtain ⟨m,rfl⟩:∃ m,j=t+1+m:=⟨j - (t+1),zO⟩
  have e:(2:Int)^(64*(t+1+m))=2^(64*t+r+1)*2^(64*m+(63 - r)):=by
   rw [<-cx];congr 1;omega
  have hp:=dV (64*t+r);have hq:(2:Int)^(64*t+r+1)=2*2^(64*t+r):=by rw [iK,bX]
  have hc:(c*2^(64*t+r+1)+2^(64*t+r)) / 2^(64*t+r+1)=c:=by
   rw [Int.add_comm,Int.add_mul_ediv_right _ _ zO,dU zO zO];omega
  rw [e,<-jr (bW (dV _)),<-jr (bW (dV _)),hc,kQ _ zO]
def rA (a b:Int) (k:Nat):Int:=a%(b*2^k)
def qA (a b:Int) (k:Nat):Int:=a / (b*2^k)*2^k
theorem afq (a b:Int) (hb:0<b) (k:Nat):(b*2^k<=rA a b (k+1)->rA a b k=rA a b (k+1) - b*2^k/\qA a b k=qA a b (k+1)+2^k)/\(rA a b (k+1)<b*2^k->rA a b k=rA a b (k+1)/\qA a b k=qA a b (k+1)):=by
 have hp:=dV k;have e:b*2^(k+1)=2*(b*2^k):=by rw [iK,<-bD,bX]
 have e2:∀ x:Int,x*2^(k+1)=2*x*2^k:=λx=>by rw [iK,bX (2^k),<-bD,bX x 2]
 have h:=aah a (b*2^k) (iR hb hp);unfold rA qA;rw [e,e2];refine ⟨λh1=>?_,λh1=>?_⟩
 ·obtain ⟨h2,h3⟩:=h.1 h1;exact ⟨h2,by rw [h3,eF,rP]⟩
 ·obtain ⟨h2,h3⟩:=h.2 h1;exact ⟨h2,by rw [h3]⟩
theorem akk (a b:Int):rA a b 0=a%b/\qA a b 0=a / b:=by simp [rA,qA]
theorem aaa (a b:Int) (k:Nat) (h0:0<=a) (h:a<b*2^k):rA a b k=a/\qA a b k=0:=by
 unfold rA qA;rw [bP h0 h,dU h0 h];simp
theorem ang (a b:Int) (Di:0<=a) (kF:0<b) (ha:a<2^256) (hb:b<2^256):a<b*2^(shN a b+1).toNat/\(0<=shN a b->b*2^(shN a b).toNat<2^(bz a).toNat):=by
 have ea:uz a=a:=sf;have eb:uz b=b:=sf;unfold shN;rw [ea,eb];obtain ⟨j,hj,j1,j2⟩:=oC kF;by_cases h0:a=0
 ·subst h0;have e0:bz 0=0:=rfl;rw [e0,hj];exact ⟨iR kF (dV _),λh=>zO⟩
 ·obtain ⟨k,hk,k1,k2⟩:=oC (x:=a) zO;rw [hk,hj];refine ⟨?_,λh=>?_⟩
  ·by_cases hkj:j<=k+1
   ·have e:((k:Int)+1 - (j+1)+1).toNat=k+1 - j:=zO;rw [e];refine vR k2 ?_;have h3:(2:Int)^(k+1)=2^j*2^(k+1 - j):=nJ;rw [h3];exact fE j1 (bW (dV _))
   ·have e:((k:Int)+1 - (j+1)+1).toNat=0:=zO;rw [e,rS,kX];refine vR k2 (cC ?_ j1)
    exact_mod_cast ic zO (by omega:k+1<=j)
  ·have e:((k:Int)+1 - (j+1)).toNat=k - j:=zO;have e':((k:Int)+1).toNat=k+1:=zO;rw [e,e'];have h3:(2:Int)^(k+1)=2^(j+1)*2^(k - j):=nJ;rw [h3];exact vD j2 (dV _)
end Go.Gy
namespace Go.Gy
open Go Go.RowKit Go.Proofs Go.Proofs.Tryz
theorem sW {p:Prop} (h:p:=by exact_mod_cast CB zO hr):p:=h
abbrev fJ := @Int.lt_of_le_of_lt
abbrev rE := @Nat.le_of_lt_succ
abbrev CB := @Nat.pow_lt_pow_right

def X7 (a b:Int) (k:Nat):Hp:=hpL G0 [(200,wb (rA a b k)),(208,wb b),(216,⟨fa 4 .u64 (wi (qA a b k)),.ty 30⟩),(224,zB)]
def X8:Nat->Value:=tsL [(2,.pointer (some ⟨200,0,none⟩)),(3,.pointer (some ⟨208,0,none⟩)),(4,.pointer (some ⟨216,0,none⟩)),(5,.pointer (some ⟨224,0,none⟩))]
theorem X4 (a b:Int) (Di:0<=a) (ha:a<57896044618658097711785492504343953926634992332820282019728792003956564819968) (kF:0<b) (lY:b<57896044618658097711785492504343953926634992332820282019728792003956564819968) :
  Ret prog G0 193 #[wd a,wd b] (.tuple #[wd (a / b),wd (a%b)]):=by
 refine aU G0F func193 rfl call193 zS zS (by simp [ntmps193]) ?_;intro C hC bA hY;have Q6:=ang a b Di kF zO zO;have BX:=adC a b;have gu:bz a<=255:=(pk 255 zO).2
 have dp:shN a b<256:=by
  have ea:uz a=a:=sf;have Sr:=pk 256 (Wv b).2;unfold shN;rw [ea];omega
 have pT:=YC a b dp;generalize shN a b=N at *
 refine iI ?_;refine kN [202] ah ?_;intro Q hQ hP;simp [hC,hY];refine iE (Ur a b 248 zO) zS (λ_ _=>rfl) (by simp [Res.at]) ?_;simp;refine hQ _ _ _ _ ?_;clear hQ hP Q;refine iI ?_;refine Ay (f:=208) (rs:=[248,249]) (xs:=PV b N) (bF:=#[.pointer (some ⟨248,0,none⟩),.pointer (some ⟨249,0,none⟩)]) zS ?_ ?_ (by simp [ntmps193]) X8 (λi=>X7 a b (N+1 - (i:Int)).toNat) 300 (N+1).toNat (by rw [J3];omega) ?_ ?_ ?_ ?_ ?_
 ·rw [hC];refine q9.cast (IterX.rn (λk=>if k=100 then 248 else if k=101 then 249 else k) G0F (λk hk=>dA zS hk) (rs:=[100,101]) ?_ pT) kh zS;refine ⟨λk hk=>?_,?_,?_,?_⟩
  ·have h1:¬k=100:=zO;have h2:¬k=101:=zO;have h3:¬k=200:=zO;have h4:¬k=208:=zO;have h5:¬k=216:=zO;have h6:¬k=224:=zO;have h8:¬k=248:=zO;have h9:¬k=249:=zO;simp [h1,h2,h3,h4,h5,h6,h8,h9,wHp]
  ·simp
  ·simp [wHp,wb,Blk.rn,aw,aF]
  ·simp
 ·intro x hx;simp only [PV,aK] at hx;obtain ⟨i,_,rfl⟩:=hx;simp
 ·have e:=aaa a b (N+1).toNat Di Q6.1;refine cB _ 300 hC G0F (m0:=[]) bA zO ?_ ?_ ?_
  ·exact nv
  ·simp [zB,wb,e.1,e.2,vn,ct]
  ·simp
 ·simp [X7,dom]
 ·intro i hi t;refine Bs ?_ t;simp [dom,X7]
 ·intro i x hi hx C1 l Km MJ Kq;have Ko:=hC;have wy:C1.G=G0:=Km.trans hC;obtain ⟨n,hn⟩:∃ n:Nat,N - (i:Int)=n:=⟨(N - i).toNat,zO⟩
  rw [Wl b N i hi,hn] at hx;have e1:(N+1 - (i:Int)).toNat=n+1:=zO;have e2:(N+1 - ((i+1:Nat):Int)).toNat=n:=zO;simp only [e1,e2];cases hx
  have hD:b*2^n<57896044618658097711785492504343953926634992332820282019728792003956564819968:=by
   have h1:=Q6.2 zO;have h2:(2:Int)^n<=2^N.toNat:=by exact_mod_cast ic zO (by omega:n<=N.toNat)
   have h3:b*2^n<=b*2^N.toNat:=fg h2 zO;have h4:(2:Int)^(bz a).toNat<=2^255:=by exact_mod_cast ic zO (by omega:(bz a).toNat<=255)
   omega
  have RV:0<b*2^n:=iR kF (dV _);have hM0:0<b*2^(n+1):=iR kF (dV _);have hA0:0<=rA a b (n+1):=bM _ zO
  have hA1:rA a b (n+1)<=a:=by
   have h1:=eY a (b*2^(n+1));have h2:0<=b*2^(n+1)*(a / (b*2^(n+1))):=bK zO (gN Di zO);unfold rA;omega
  have szD:sz (b*2^n)=b*2^n:=tD (bW RV) hD;have szA:sz (rA a b (n+1))=rA a b (n+1):=tD hA0 (fJ hA1 ha);obtain ⟨t,r,hr,Kt⟩:∃ t r,r<64/\n=64*t+r:=⟨n / 64,n%64,zO,zO⟩
  have tq:((n:Int)).tdiv 64=t:=pL;have tm:((n:Int)).tmod 64=r:=pD;have t4:t<4:=zO;have QC:(t:Int)<4:=zO;have t0:(0:Int)<=t:=zO;have tb:Int.bmod (t:Int) 18446744073709551616=t:=bm zO zO;have t3:t<=3:=rE t4;have t3':(t:Int)<=3:=Int.le_of_lt_add_one QC;have m1:min r 64=r:=zO
  have m2:(2:Int)^r%18446744073709551616=2^r:=bP (bW (dV _)) (by
   have:(2:Int)^r<2^64:=sW;exact this)
  have Af:=afq a b kF n;replace hC:=wy;replace hY:=Kq;by_cases hle:b*2^n<=rA a b (n+1)
  ·have zz:dv (sz (b*2^n)) (sz (rA a b (n+1)))<=0:=by rw [szD,szA];unfold dv;split<;>(try split)<;>omega
   obtain ⟨s1,s2⟩:=Af.1 hle;have lY:=adZ (a / (b*2^(64*t+r+1))) t r hr;have oL:=Ki (a / (b*2^(64*t+r+1))) t r;rw [<-Kt] at lY oL;replace lY:jS .or .u64 (wi (qA a b (n+1)) t) (2^r)=wi (qA a b n) t:=by rw [s2];exact lY
   replace oL:∀ j,j≠t->wi (qA a b n) j=wi (qA a b (n+1)) j:=λj hj=>by rw [s2];exact oL j hr hj
   have hq:fa 4 .u64 (upd (wi (qA a b (n+1))) t (wi (qA a b n) t))=fa 4 .u64 (wi (qA a b n)):=nW λj _=>by
    unfold upd;split
    ·rename_i h;rw [h]
    ·rename_i h;rw [oL j h]
   unfold X7;refine cA (k2 @bG.eq_1 @X8.eq_1) ?_;intro C2 tP Jd tQ;replace hC:C2.G=G0:=tP.trans Ko;replace hY:=tQ;refine cA (k17 @bG.eq_1 @X8.eq_1 @wb.eq_1 zz tq tm t4 QC t0 t3 t3' tb m1 m2 @mw @qJ lY) ?_;refine cB [] 300 wy G0F MJ zO ?_ ?_ ?_
   ·simp
   ·simp [lv,aM,wb,zB,hq,s1]
   ·simp [wb,zB,hq,s1]
  ·have zz:¬dv (sz (b*2^n)) (sz (rA a b (n+1)))<=0:=by rw [szD,szA];unfold dv;split<;>(try split)<;>omega
   obtain ⟨s1,s2⟩:=Af.2 zO;unfold X7;refine cA (k2 @bG.eq_1 @X8.eq_1) ?_;intro C2 tP Jd tQ;replace hC:C2.G=G0:=tP.trans Ko;replace hY:=tQ;refine cA (k4 @bG.eq_1 @X8.eq_1 @wb.eq_1 zz) ?_;refine cB [] 300 wy G0F MJ zO ?_ ?_ ?_
   ·simp
   ·simp [lv,aM,wb,zB,s1,s2]
   ·simp [wb,zB,s1,s2]
 ·left
  refine ⟨by rw [J3],?_⟩;have e:(N+1 - ((N+1).toNat:Int)).toNat=0:=zO;have ed:=akk a b;rw [e];unfold X7 X8;rw [ed.1,ed.2];refine cA (k3 @wb.eq_1 @vn @zB.eq_1) ?_;exact eR results193
@[simp] theorem ayC (a b:Int) (Di:0<=a) (ha:a<57896044618658097711785492504343953926634992332820282019728792003956564819968) (kF:0<b) (lY:b<57896044618658097711785492504343953926634992332820282019728792003956564819968) (K:fQ) :
  bl prog G0 193 #[Value.agg #[.int .u64 (wi (a) 0),.int .u64 (wi (a) 1),.int .u64 (wi (a) 2),.int .u64 (wi (a) 3)],Value.agg #[.int .u64 (wi (b) 0),.int .u64 (wi (b) 1),.int .u64 (wi (b) 2),.int .u64 (wi (b) 3)]] K↔K (.tuple #[wd (a / b),wd (a%b)]):=ar G0W ah (X4 a b Di ha kF lY)
theorem xy {p:Prop} (h:p:=by rw [gB hb];unfold dv;split<;>(try split)<;>omega):p:=h
theorem lE {p:Prop} (h:p:=by rw [gB ha];unfold dv;split<;>(try split)<;>omega):p:=h
theorem jC {p:Prop} (h:p:=by unfold wr;omega):p:=h
theorem xl {p:Prop} (h:p:=by rw [oO];exact Tz a b _):p:=h
abbrev v7 := @Int.fmod_eq_emod_of_nonneg
abbrev rD := @Int.ediv_le_self
theorem wR {P:Program} {G:Hp} {f:FuncId} {args:ca} {v:Value} (h:BI P G f args (.ret v)):Ret P G f args v:=⟨h.1 v rfl,h.2.1,h.2.2.1,h.2.2.2⟩
@[simp] theorem aA5 (n:Int) (K:fQ):bl prog G0 191 #[.bool true,.int .i64 n] K↔K (.tuple #[]):=ar G0W ah (wR (acs n))
@[simp] theorem aA7 (z:Int) (K:fQ):bl prog G0 192 #[Value.agg #[.int .u64 (wi (z) 0),.int .u64 (wi (z) 1),.int .u64 (wi (z) 2),.int .u64 (wi (z) 3)],.bool false] K↔K (wd z):=ar G0W ah (wR (anp z))
def wr (z:Int):Prop:=-57896044618658097711785492504343953926634992332820282019728792003956564819968<=z/\z<57896044618658097711785492504343953926634992332820282019728792003956564819968
theorem gB {z:Int} (h:wr z):sz z=z:=qc h.1 h.2
theorem L6 {z:Int} (h:wr z):ng z=decide (z<0):=by rw [mq,gB h]
theorem Cb {z:Int} (h:wr z) (h0:0<=z):ng z=false:=by rw [L6 h];simp;exact h0
theorem asp {z:Int} (h:wr z) (h0:z<0):ng z=true:=by rw [L6 h];simp;exact h0
theorem pg (z:Int) (h:wr z) (h1:z ≠ -57896044618658097711785492504343953926634992332820282019728792003956564819968):(!wi z 0==0||(!wi z 1==0||(!wi z 2==0||!wi z 3==9223372036854775808)))=true:=by
 refine bu λhn=>h1 ?_;simp at hn;obtain ⟨w0,w1,w2,w3⟩:=hn;rw [<-gB h,UF,w0,w1,w2,w3];unfold ng;rw [w3];decide
theorem L5 {z:Int} (h:wr z) (h0:z≠0):(!wi z 0==0||(!wi z 1==0||(!wi z 2==0||!wi z 3==0)))=true:=Kj z (by rw [gB h];exact h0)
theorem VE:i64 1:=zD
def lst:Int:=-57896044618658097711785492504343953926634992332820282019728792003956564819968

theorem aaT (a b:Int) (ha:wr a) (hb:wr b) (h0:0<b) (Di:0<=a):Ret prog G0 181 #[wd a,wd b] (.tuple #[wd (a.fdiv b),wd (a.fmod b)]):=by
 refine aU G0F func181 rfl call181 zS zS (by simp [ntmps181]) ?_;intro C hC bA hY;have hz:=L5 hb zO;have hn1:=pg a ha zO;have hn2:=pg b hb zO;have s1:¬dv (sz b) 0<0:=xy;have s2:¬dv (sz a) 0<0:=lE;have RA:b<57896044618658097711785492504343953926634992332820282019728792003956564819968:=hb.2;have ef:a<57896044618658097711785492504343953926634992332820282019728792003956564819968:=ha.2;have e1:a.fdiv b=a / b:=iO a zO;have e2:a.fmod b=a%b:=v7 a zO
 repeat' first|refine cT ?_|(refine iy ?_;intro Q hQ hP;simp [hC,hY,hz,hn1,hn2,s1,s2,lsB,Di,ef,h0,RA];(first|refine dq hQ ?_|refine hP _ _ ah λ_=>?_))|fail
 exact eR (k3 results181 e1 e2)
theorem acE (m b:Int) (hb:0<b):(-(m+1)).fdiv b=-(m / b) - 1/\(-(m+1)).fmod b=b - 1 - m%b:=by
 have h1:=eY m b;have h2:=bM m (b:=b) zO;have h3:=bQ m hb;have e:-(m+1)=(b - 1 - m%b)+b*(-(m / b) - 1):=by rw [kU,jo];omega
 rw [iO _ zO,v7 _ zO];constructor
 ·rw [e,g7 _ _ zO,dU zO zO];omega
 ·rw [e,vM,bP zO zO]
theorem aaS (m b:Int) (ha:wr (-(m+1))) (Y9:-(m+1)≠lst) (hb:wr b) (h0:0<b) (vw:0<=m):Ret prog G0 181 #[wd (-(m+1)),wd b] (.tuple #[wd ((-(m+1)).fdiv b),wd ((-(m+1)).fmod b)]):=by
 refine aU G0F func181 rfl call181 zS zS (by simp [ntmps181]) ?_;intro C hC bA hY;obtain ⟨d1,d2⟩:=acE m b h0;rw [d1,d2];generalize ea:-(m+1)=a at *
 have hz:=L5 hb zO;have hn1:=pg a ha Y9;have hn2:=pg b hb zO;have s1:¬dv (sz b) 0<0:=xy;have s2:dv (sz a) 0<0:=lE;have RA:b<57896044618658097711785492504343953926634992332820282019728792003956564819968:=hb.2;have hmu:m<57896044618658097711785492504343953926634992332820282019728792003956564819968:=by have:=ha.1;unfold lst at Y9;omega
 have Vy:0<=m / b:=gN vw zO;have om:m / b<=m:=rD b vw;have hr0:0<=m%b:=bM m zO;have Zj:m%b<b:=bQ m h0;have em:-(a+1)=m:=zO
 have f1:(ng a==ng 1&&ng (a+1) != ng a)=false:=by
  rw [asp ha zO,Cb (z:=1) jC zO];rfl
 have f2:(ng (a+1)&&ng m)=false:=by rw [Cb (z:=m) (by unfold wr;omega) vw];simp
 have f3:(ng (m / b)&&ng (-(m / b)))=false:=by rw [Cb (z:=m / b) (by unfold wr;omega) Vy];simp
 have f4:(ng (-(m / b)) != ng 1&&ng (-(m / b) - 1) != ng (-(m / b)))=false:=by
  rw [Cb (z:=1) jC zO,asp (z:=-(m / b) - 1) jC zO];cases ng (-(m / b))<;>rfl
 have f5:(ng b != ng 1&&ng (b - 1) != ng b)=false:=by
  rw [Cb hb zO,Cb (z:=1) jC zO];rfl
 have f6:(ng (b - 1) != ng (m%b)&&ng (b - 1 - m%b) != ng (b - 1))=false:=by
  rw [Cb (z:=b - 1) (by unfold wr;have:=hb.2;omega) zO,Cb (z:=m%b) jC hr0];rfl
 have i1:=VE
 repeat' first|refine cT ?_|(refine iy ?_;intro Q hQ hP;simp [hC,hY,hz,hn1,hn2,s1,s2,lsB,h0,RA,vw,hmu,em,f1,f2,f3,f4,f5,f6,i1];(first|refine dq hQ ?_|refine hP _ _ ah λ_=>?_))|fail
 exact eR results181
theorem Nv {α:Type} {f:Nat->α} {x k:Nat} {v:α} (h:k<x):upd f x v k=f k:=ao f v zO
theorem Xl (a b:Int) (ha:wr a) (Y9:a≠lst) (hb:wr b) (h0:0<b):Ret prog G0 181 #[wd a,wd b] (.tuple #[wd (a / b),wd (a%b)]):=by
 rw [<-iO a (bW h0),<-v7 a (bW h0)];by_cases Di:0<=a
 ·exact aaT a b ha hb h0 Di
 ·obtain ⟨m,rfl⟩:∃ m,a=-(m+1):=⟨-a - 1,zO⟩
  exact aaS m b ha Y9 hb h0 zO
@[simp] theorem ayB (a b:Int) (ha:wr a) (Y9:a≠lst) (hb:wr b) (h0:0<b) (K:fQ):bl prog G0 181 #[Value.agg #[.int .u64 (wi (a) 0),.int .u64 (wi (a) 1),.int .u64 (wi (a) 2),.int .u64 (wi (a) 3)],Value.agg #[.int .u64 (wi (b) 0),.int .u64 (wi (b) 1),.int .u64 (wi (b) 2),.int .u64 (wi (b) 3)]] K↔K (.tuple #[wd (a / b),wd (a%b)]) :=
 ar G0W ah (Xl a b ha Y9 hb h0)
def hp2 (a b:Int):Hp:=hpL G0 [(200,wb a),(208,wb b)]
theorem oO (a b:Int):rst (hp2 a b) [200,208]=hp2 a b:=qi G0F zS
theorem Tz (a b:Int) (D:iH) (k:Nat) (c:Blk) (h:hp2 a b k=some c):c.ids D:=by
 rcases dE h with h|h
 ·simp at h;rcases h with ⟨_,rfl⟩|⟨_,rfl⟩<;>simp [wb]
 ·exact qt _ _ _ h
theorem wD (a b:Int) (x:Nat) (hx:300<=x):hp2 a b x=none:=by
 simp [hp2,(zO:¬x=200),(zO:¬x=208),(zO:100<=x)]
theorem Sw (a b:Int) (ha:wr a) (Y9:a≠lst) (hb:wr b) (h0:0<b):Fun prog G0 180 [.pointer (some ⟨200,0,none⟩),.pointer (some ⟨208,0,none⟩)].toArray (hp2 a b) [200,208] (.ret (wd (a / b)) []):=by
 refine wu (B:=300) G0F (λk hk=>dA zS hk) func180 rfl call180 ?_ ?_ ⟨bw zS,ai,zS,zS⟩ (by simp [ntmps180]) zO ?_ ?_
 ·rw [oO];simp [hp2,dom]
 ·exact xl
 ·rw [oO];exact wD a b
 ·intro C hC bA hY;rw [oO] at bA |-
  repeat' first|refine cT ?_|(refine iy ?_;intro Q hQ hP;simp [hC,hY,hp2,wb,ha,Y9,hb,h0];(first|refine dq hQ ?_|refine hP _ _ ah λ_=>?_))|fail
  refine ⟨.inr rfl,by simp [results180],λk hk=>?_⟩;have Ks:k<300:=bu λh=>hk (wD a b k zO);simp (disch:=omega) only [Nv]
  rfl
theorem Ue (a b:Int) (ha:wr a) (Y9:a≠lst) (hb:wr b) (h0:0<b):Ret prog G0 168 #[wd a,wd b] (.tuple #[wd (a / b),.int .i64 0]):=by
 refine aU G0F func168 rfl call168 zS zS (by simp [ntmps168]) ?_;intro C hC bA hY
 repeat' first|refine cT ?_|((first|refine gwR [179] ?_|refine gwD [179] ?_);intro Q hQ hP;(repeat first|simp [hC,hY]|refine iE (eG:=hp2 a b) (Yb (λk hk=>dA zS hk) zS rfl zS (Sw a b ha Y9 hb h0)) (by simp [hp2,wb]) (λk hk=>dA zS hk) trivial ?_);(first|refine dq hQ ?_|refine hP _ _ ah λ_=>?_))|fail
 exact eR results168
@[simp] theorem ayA (a b:Int) (ha:wr a) (Y9:a≠lst) (hb:wr b) (h0:0<b) (K:fQ):bl prog G0 168 #[Value.agg #[.int .u64 (wi (a) 0),.int .u64 (wi (a) 1),.int .u64 (wi (a) 2),.int .u64 (wi (a) 3)],Value.agg #[.int .u64 (wi (b) 0),.int .u64 (wi (b) 1),.int .u64 (wi (b) 2),.int .u64 (wi (b) 3)]] K↔K (.tuple #[wd (a / b),.int .i64 0]) :=
 ar G0W ah (Ue a b ha Y9 hb h0)
theorem D7 {p:Prop} (h:p:=by
 refine cB _ 300 hC G0F (m:=[(100,wb a)]) (m0:=[(100,wb a)]) bA zO ?_ ?_ ?_
 ·exact nv
 ·simp [wb]
 ·simp [wb]):p:=h
abbrev vJ := @Int.zero_mul
theorem ahA (n:Int):BI prog G0 166 #[.bool true,.int .i64 n] (.ret (.tuple #[])):=by
 refine Bj G0F func166 rfl call166 (λv h=>by cases h;simp) zS (by simp [ntmps166]) ?_;intro C hC bA hY
 repeat' (first|refine I6 ?_|(refine iy ?_;intro Q hQ hP;simp [hC,hY];(first|refine dq hQ ?_|refine hP _ _ ah λ_=>?_);clear hQ hP Q)|refine gwC ?_ ?_<;>intro hb<;>try (cases hb;done))
 exact ⟨.inl trivial,by simp [results166]⟩
theorem ahz (n:Int):BI prog G0 166 #[.bool false,.int .i64 n] (.pan (erV n)):=by
 refine Bj G0F func166 rfl call166 (λv h=>fj) zS (by simp [ntmps166]) ?_;intro C hC bA hY
 repeat' (first|refine I6 ?_|(refine iy ?_;intro Q hQ hP;simp [hC,hY];(first|refine dq hQ ?_|refine hP _ _ ah λ_=>?_);clear hQ hP Q)|refine gwC ?_ ?_<;>intro hb<;>try (cases hb;done))
 rfl
@[simp] theorem aBe (n:Int) (K:fQ):bl prog G0 166 #[.bool true,.int .i64 n] K↔K (.tuple #[]):=ar G0W ah (wR (ahA n))
theorem acn (z:Int):Ret prog G0 195 #[wd z] (.int .i64 (bz (uz z) / 2)):=by
 refine aU G0F func195 rfl call195 rfl zS (by simp [ntmps195]) ?_;intro C hC bA hY;have b0:=qm z 0;have b1:=qm z 1;have b2:=qm z 2;have b3:=qm z 3;have k3:=Uv z;have k2:=Uu z;have k1:=Ut z;have k0:=Us z;have m3:Int.bmod (192+bz (wi z 3)) 18446744073709551616=192+bz (wi z 3):=bm zO zO;have m2:Int.bmod (128+bz (wi z 2)) 18446744073709551616=128+bz (wi z 2):=bm zO zO;have m1:Int.bmod (64+bz (wi z 1)) 18446744073709551616=64+bz (wi z 1):=bm zO zO;have t3:(192+bz (wi z 3)).tdiv 2=(192+bz (wi z 3)) / 2:=hZ zO;have t2:(128+bz (wi z 2)).tdiv 2=(128+bz (wi z 2)) / 2:=hZ zO;have t1:(64+bz (wi z 1)).tdiv 2=(64+bz (wi z 1)) / 2:=hZ zO;have t0:(bz (wi z 0)).tdiv 2=bz (wi z 0) / 2:=hZ zO;have u3:Int.bmod ((192+bz (wi z 3)) / 2) 18446744073709551616=(192+bz (wi z 3)) / 2:=bm zO zO;have u2:Int.bmod ((128+bz (wi z 2)) / 2) 18446744073709551616=(128+bz (wi z 2)) / 2:=bm zO zO;have u1:Int.bmod ((64+bz (wi z 1)) / 2) 18446744073709551616=(64+bz (wi z 1)) / 2:=bm zO zO;have u0:Int.bmod (bz (wi z 0) / 2) 18446744073709551616=bz (wi z 0) / 2:=bm zO zO
 repeat' (first|refine GWL_start ?_|refine GWL_step ?_|refine I6 ?_|(refine iy ?_;intro Q hQ hP;simp [hC,hY,dJ,eJ,m1,m2,m3,t0,t1,t2,t3,u0,u1,u2,u3];(first|refine dq hQ ?_|refine hP _ _ ah λ_=>?_);clear hQ hP Q)|refine gwC ?_ ?_<;>intro hb<;>try (cases hb;done))
 all_goals
  refine ⟨.inr trivial,?_⟩;simp [results195]
  simp_all
@[simp] theorem aBd (z:Int) (K:fQ):bl prog G0 195 #[Value.agg #[.int .u64 (wi (z) 0),.int .u64 (wi (z) 1),.int .u64 (wi (z) 2),.int .u64 (wi (z) 3)]] K↔K (.int .i64 (bz (uz z) / 2)):=ar G0W ah (acn z)
theorem ae2 (a:Int) (k:Nat) (nZ:100<=k):Fun prog G0 182 #[wd a] G0 [] (.new (.func (.func 194) #[] #[.pointer (some ⟨k,0,none⟩)]) [(k,wb a)]):=by
 have e0:rst G0 []=G0:=zX G0F [];refine Nc (B:=200) (λj=>if j=k then 200 else j) G0F (λ_ _=>rfl) func182 rfl call182 ga xx ?_ (by simp [ntmps182]) zO xw (λj hj=>?_) ?_ ?_ ?_ ?_
 ·exact E6
 ·rw [e0] at hj;have:=BG hj;rw [ae zO]
 ·simp [e0,dom]
 ·simp
 ·exact pE
 ·intro C hC bA hY;rw [e0]
  repeat' (first|refine I6 ?_|(refine iy ?_;intro Q hQ hP;simp [hC,hY];(first|refine dq hQ ?_|refine hP _ _ ah λ_=>?_);clear hQ hP Q)|refine gwC ?_ ?_<;>intro hb<;>try (cases hb;done))
  refine ⟨.inr trivial,?_⟩;simp [results182,ren,aW,aw,aF,wb];intro j hj hj2;have:=BG hj;omega
theorem anC (t r j:Nat) (hr:r<64):wi (2^(64*t+r)) j=if j=t then 2^r else 0:=by
 by_cases h:j=t
 ·subst h;rw [ag rfl];unfold wi;rw [cx,Int.mul_ediv_cancel_left _ xb]
  exact bP (bW (dV _)) (by
   have:(2:Int)^r<2^64:=sW;exact this)
 ·rw [ae h];have:=Ki 0 t r j hr h;simp only [vJ,Int.zero_add] at this;rw [this,ct]
theorem Wk (t r:Nat) (ht:t<4) (hr:r<64):(#[.int .u64 0,.int .u64 0,.int .u64 0,.int .u64 0]:Array Value).setIfInBounds t (.int .u64 (2^r))=#[.int .u64 (wi (2^(64*t+r)) 0),.int .u64 (wi (2^(64*t+r)) 1),.int .u64 (wi (2^(64*t+r)) 2),.int .u64 (wi (2^(64*t+r)) 3)]:=by
 simp only [anC _ _ _ hr];have:t=0\/t=1\/t=2\/t=3:=zO;rcases this with rfl|rfl|rfl|rfl<;>simp
def Cr (M:Int):List (Array Value):=(List.range (M+1).toNat).map λ(i:Nat)=>#[wd (2^(M - (i:Int)).toNat)]
theorem BL (M:Int):(Cr M).length=(M+1).toNat:=by simp [Cr]
theorem IC (M:Int) (i:Nat) (h:i<(M+1).toNat):(Cr M)[i]? = some #[wd (2^(M - (i:Int)).toNat)]:=by simp [Cr,h]
def aHp (a:Int):Hp:=hpL G0 [(100,wb a)]
def U3 (a M:Int) (l i:Nat):GS :=
 ⟨tsL [(0,.func (.yield l) #[] #[]),(1,.pointer (some ⟨100,0,none⟩)),(3,.int .i64 (M - i))],aHp a,300,i⟩
theorem aj5 (a:Int):q9 prog G0 194 #[.pointer (some ⟨100,0,none⟩)] (aHp a) [100] (Cr (bz (uz a) / 2)):=by
 have e0:rst (aHp a) [100]=aHp a:=qi G0F zS;refine MW (B:=200) (v:=.tuple #[]) G0F (λk hk=>dA zS hk) func194 rfl call194 ?_ ?_ (by simp [ntmps194]) zO ?_ ?_
 ·rw [e0];simp [aL,cQ,aI,aP,dom,aHp]
 ·rw [e0];intro k c hk;rcases dE hk with h|h
  ·simp at h;rcases h with ⟨_,rfl⟩
   simp [wb,aM,aI,aP]
  ·exact qt _ _ _ h
 ·rw [e0];intro x hx;simp [aHp,(zO:¬x=100),(zO:100<=x)]
 ·intro C l stop hC bA hY;rw [e0] at bA |-;have Sr:=pk 256 (Wv a).2;have hM:0<=bz (uz a) / 2/\bz (uz a) / 2<=128:=zO;have hlen:=BL (bz (uz a) / 2)
  repeat' (first|refine I6 ?_|(refine iy ?_;intro Q hQ hP;simp [hC,hY,aHp,wb];(first|refine dq hQ ?_|refine hP _ _ ah λ_=>?_);clear hQ hP Q)|refine gwC ?_ ?_<;>intro hb<;>try (cases hb;done))
  generalize hMe:bz (uz a) / 2=M at *
  generalize zE:Cr M=xs at *
  refine fD (min stop xs.length) (U3 a M l) ?_ ?_ ?_
  ·exact D7
  ·intro i hi;have hs:i<stop:=zO;have hq:(i != stop)=true:=aB;have hle:i<=stop:=zO;obtain ⟨n,hn⟩:∃ n:Nat,M - (i:Int)=n:=⟨(M - i).toNat,zO⟩
   have g1:(i:Int)<=M:=zO
   have hx:xs[i]? = some #[wd (2^n)]:=by
    rw [<-zE,IC M i zO,hn];rfl
   simp only [adY] at hx;have g4:Int.bmod ((n:Int) - 1) 18446744073709551616=M - ((i+1:Nat):Int):=pF;obtain ⟨t,r,hr,Kt⟩:∃ t r,r<64/\n=64*t+r:=⟨n / 64,n%64,zO,zO⟩
   have tq:((n:Int)).tdiv 64=t:=pL;have tm:((n:Int)).tmod 64=r:=pD;have t4:t<4:=zO;have QC:(t:Int)<4:=zO;have t0:(0:Int)<=t:=zO;have tb:Int.bmod (t:Int) 18446744073709551616=t:=bm zO zO;have t3:t<=3:=rE t4;have m1:min r 64=r:=zO
   have m2:(2:Int)^r%18446744073709551616=2^r:=bP (bW (dV _)) (by
    have:(2:Int)^r<2^64:=sW;exact this)
   have AU:=Wk t r t4 hr;rw [<-Kt] at AU;unfold U3
   repeat' (first|refine I6 ?_|(refine iy ?_;intro Q hQ hP;simp [hC,hY,aHp,wb,hs,hq,hle,hn,g1,g4,hx,tq,tm,t4,QC,t0,tb,t3,m1,m2,AU];(first|refine dq hQ ?_|refine hP _ _ ah λ_=>?_);clear hQ hP Q)|refine gwC ?_ ?_<;>intro hb<;>try (cases hb;done))
   exact D7
  ·by_cases h4:xs.length<=stop
   ·rw [vF h4];have g1:¬((xs.length:Int)<=M):=zO;unfold U3
    repeat' (first|refine I6 ?_|(refine iy ?_;intro Q hQ hP;simp [hC,hY,aHp,wb,g1];(first|refine dq hQ ?_|refine hP _ _ ah λ_=>?_);clear hQ hP Q)|refine gwC ?_ ?_<;>intro hb<;>try (cases hb;done))
    refine ⟨.inl trivial,by simp [results194],?_⟩;show xs.length=_;omega
   ·rw [v5 zO];obtain ⟨n,hn⟩:∃ n:Nat,M - (stop:Int)=n:=⟨(M - stop).toNat,zO⟩
    have g1:(stop:Int)<=M:=zO
    have hx:xs[stop]? = some #[wd (2^n)]:=by
     rw [<-zE,IC M stop zO,hn];rfl
    simp only [adY] at hx;obtain ⟨t,r,hr,Kt⟩:∃ t r,r<64/\n=64*t+r:=⟨n / 64,n%64,zO,zO⟩
    have tq:((n:Int)).tdiv 64=t:=pL;have tm:((n:Int)).tmod 64=r:=pD;have t4:t<4:=zO;have QC:(t:Int)<4:=zO;have t0:(0:Int)<=t:=zO;have tb:Int.bmod (t:Int) 18446744073709551616=t:=bm zO zO;have t3:t<=3:=rE t4;have m1:min r 64=r:=zO
    have m2:(2:Int)^r%18446744073709551616=2^r:=bP (bW (dV _)) (by
     have:(2:Int)^r<2^64:=sW;exact this)
    have AU:=Wk t r t4 hr;rw [<-Kt] at AU;unfold U3
    repeat' (first|refine I6 ?_|(refine iy ?_;intro Q hQ hP;simp [hC,hY,aHp,wb,hn,g1,hx,tq,tm,t4,QC,t0,tb,t3,m1,m2,AU];(first|refine dq hQ ?_|refine hP _ _ ah λ_=>?_);clear hQ hP Q)|refine gwC ?_ ?_<;>intro hb<;>try (cases hb;done))
    refine ⟨.inr trivial,by simp [results194],?_⟩;show stop+1=_;omega
theorem Ec {p:Prop} (h:p:=by
 unfold tA;rw [Sa];congr 1;exact propext ⟨λh1 h2=>h1 ⟨cC zD tt0,h2⟩,λh1 h2=>h1 h2.2⟩):p:=h
theorem E0 {p:Prop} (h:p:=by
 unfold Yn
 repeat' first|refine cT ?_|(refine iy ?_;intro Q hQ hP;simp [hC,hY,bG,Yo];(first|refine dq hQ ?_|refine hP _ _ ah λ_=>?_))|fail
 intro C2 tP Jd tQ;replace hC:C2.G=G0:=tP.trans Ko;replace hY:=tQ
 repeat' first|refine cT ?_|(refine iy ?_;intro Q hQ hP;simp [hC,hY,bG,Yo,wb,Sa,htt,hm,zz];(first|refine dq hQ ?_|refine hP _ _ ah λ_=>?_))|fail
 refine cB [] 300 wy G0F MJ zO ?_ ?_ ?_
 ·simp
 ·simp [wb]
 ·simp [wb]):p:=h
abbrev rH := @Int.lt_trans
def rp (a:Int) (K:Nat):Nat->Int
 | 0=>0
 | i+1=>if (rp a K i+2^(K - 1 - i))*(rp a K i+2^(K - 1 - i))<=a then rp a K i+2^(K - 1 - i) else rp a K i
theorem No (a:Int) (K:Nat) (h0:0<=a) (h:a<2^K*2^K):∀ i,i<=K->0<=rp a K i/\rp a K i*rp a K i<=a/\a<(rp a K i+2^(K - i))*(rp a K i+2^(K - i))
 | 0,_=>by simp [rp];exact ⟨h0,h⟩
 | i+1,hi=>by
  obtain ⟨h1,h2,h3⟩:=No a K h0 h i zO;have e1:K - i=(K - 1 - i)+1:=zO;have e2:K - (i+1)=K - 1 - i:=zO;rw [e1,iK] at h3;rw [e2];have hp:=dV (K - 1 - i);unfold rp;split
  ·rename_i hc;refine ⟨zO,hc,?_⟩;rw [Int.add_assoc,(zO:(2:Int)^(K - 1 - i)+2^(K - 1 - i)=2^(K - 1 - i)*2)];exact h3
  ·rename_i hc;exact ⟨h1,h2,zO⟩
def isq (a:Int):Int:=rp a (bz a / 2+1).toNat (bz a / 2+1).toNat
theorem Jn (a:Int) (h0:0<=a):a<2^(bz a / 2+1).toNat*2^(bz a / 2+1).toNat:=by
 rw [<-cx];by_cases h:a=0
 ·subst h;exact dV _
 ·obtain ⟨k,hk,k1,k2⟩:=oC (x:=a) zO;refine vR k2 ?_;rw [hk]
  exact_mod_cast ic zO zO
theorem tW (a:Int) (h0:0<=a):0<=isq a/\isq a*isq a<=a/\a<(isq a+1)*(isq a+1):=by
 have:=No a (bz a / 2+1).toNat h0 (Jn a h0) (bz a / 2+1).toNat (aA _);simpa [isq] using this
theorem adI {x y:Int} (hx:0<=x) (hy:0<=y) (h:x*x<y*y):x<y:=by
 refine bu λhn=>?_;have:y*y<=x*x:=cU zO zO hy hx;omega
theorem Ai {a r:Int} (h0:0<=r) (h1:r*r<=a) (h2:a<(r+1)*(r+1)):isq a=r:=by
 have ha:0<=a:=cC (bK h0 h0) h1;obtain ⟨s0,s1,s2⟩:=tW a ha;have h3:=adI (x:=isq a) (y:=r+1) s0 zO zO;have h4:=adI (x:=r) (y:=isq a+1) h0 zO zO;omega
theorem Wm {x:Int} (B:Int) (hx:0<=x) (hB:0<=B) (h:x*x<B*B):x<B:=adI hx hB h
def Yn (a r:Int):Hp:=hpL G0 [(200,wb a),(208,wb r)]
def Yo:Nat->Value:=tsL [(1,.pointer (some ⟨200,0,none⟩)),(2,.pointer (some ⟨208,0,none⟩))]
theorem Uk (a:Int) (ha:wr a) (h0:0<=a):Ret prog G0 169 #[wd a] (wd (isq a)):=by
 refine aU G0F func169 rfl call169 zS zS (by simp [ntmps169]) ?_;intro C hC bA hY;have s1:0<=dv (sz a) 0:=lE;have Sr:=pk 255 ha.2;have pT:=aj5 a;have eu:uz a=a:=by unfold uz;have:=ha.2;omega
 rw [eu] at pT;have hinv:=No a (bz a / 2+1).toNat h0 (Jn a h0);have alp:isq a=rp a (bz a / 2+1).toNat (bz a / 2+1).toNat:=rfl;have hM:0<=bz a / 2/\bz a / 2<=127:=zO;generalize bz a / 2=M at *
 repeat' first|refine cT ?_|(refine iy ?_;intro Q hQ hP;simp [hC,hY,s1];(first|refine dq hQ ?_|refine hP _ _ ah λ_=>?_))|fail
 refine kN [182] ah ?_;intro Q hQ hP;simp [hC,hY];refine iE (ae2 a 256 zO) zS (λ_ _=>rfl) (by simp [Res.at]) ?_;simp;refine hQ _ _ _ _ ?_;clear hQ hP Q
 repeat' first|refine cT ?_|(refine iy ?_;intro Q hQ hP;simp [hC,hY];(first|refine dq hQ ?_|refine hP _ _ ah λ_=>?_))|fail
 generalize hK:(M+1).toNat=K at *
 refine Ay (f:=194) (rs:=[256]) (xs:=Cr M) (bF:=#[.pointer (some ⟨256,0,none⟩)]) zS ?_ ?_ (by simp [ntmps169]) Yo (λi=>Yn a (rp a K i)) 300 K (by rw [BL];omega) ?_ ?_ ?_ ?_ ?_
 ·rw [hC];refine q9.cast (IterX.rn (λk=>if k=100 then 256 else k) G0F (λk hk=>dA zS hk) (rs:=[100]) ?_ pT) kh zS;refine ⟨λk hk=>?_,?_,?_,?_⟩
  ·simp [aHp,(zO:¬k=100),(zO:¬k=200),(zO:¬k=208),(zO:¬k=256)]
  ·simp
  ·simp [aHp,wb,Blk.rn,aw,aF]
  ·simp
 ·intro x hx;simp only [Cr,aK] at hx;obtain ⟨i,_,rfl⟩:=hx;simp
 ·refine cB _ 300 hC G0F (m0:=[]) bA zO ?_ ?_ ?_
  ·exact nv
  ·simp [wb,rp,ct]
  ·simp
 ·simp [Yn,dom]
 ·intro i hi t;refine Bs ?_ t;simp [dom,Yn]
 ·intro i x hi hx C1 l Km MJ Kq;have Ko:=hC;have wy:C1.G=G0:=Km.trans hC;obtain ⟨n,hn⟩:∃ n:Nat,M - (i:Int)=n:=⟨(M - i).toNat,zO⟩
  rw [IC M i zO,hn] at hx;cases hx;obtain ⟨r0,r1,r2⟩:=hinv i zO;have en:K - 1 - i=n:=zO
  have Su:rp a K (i+1)=if (rp a K i+2^n)*(rp a K i+2^n)<=a then rp a K i+2^n else rp a K i:=by
   rw [rp,en]
  generalize rp a K i=r at *
  have ef:=ha.2;have hr:r<340282366920938463463374607431768211456:=Wm _ r0 zD zO;have hn2:(2:Int)^n<=2^127:=by exact_mod_cast ic zO (by omega:n<=127)
  have R4:=dV n;have t0:0<=r+2^n:=zO;have t1:r+2^n<680564733841876926926749214863536422912:=zO;have Sa:sz (r+2^n)=r+2^n:=tD t0 (rH t1 zD);have tt0:0<=(r+2^n)*(r+2^n):=bK t0 t0
  have hmul:tA (r+2^n) (r+2^n)=decide (¬((r+2^n)*(r+2^n)<57896044618658097711785492504343953926634992332820282019728792003956564819968)):=by
   exact Ec
  have QB:sz a=a:=gB ha;replace hC:=wy;replace hY:=Kq;simp only [Su];generalize htt:(r+2^n)*(r+2^n)=T at *
  by_cases AQ:T<57896044618658097711785492504343953926634992332820282019728792003956564819968
  ·have hm:tA (r+2^n) (r+2^n)=false:=by rw [hmul];simp [AQ]
   have szT:sz T=T:=tD tt0 AQ;by_cases hle:T<=a
   ·have zz:dv (sz T) (sz a)<=0:=by rw [szT,QB];unfold dv;split<;>(try split)<;>omega
    rw [ag hle];exact E0
   ·have zz:¬dv (sz T) (sz a)<=0:=by rw [szT,QB];unfold dv;split<;>(try split)<;>omega
    rw [ae hle];exact E0
  ·have hm:tA (r+2^n) (r+2^n)=true:=by rw [hmul];simp only [AQ,not_false_eq_true,decide_true]
   have hle:¬T<=a:=λh=>AQ (fJ h ef);rw [ae hle];unfold Yn
   repeat' first|refine cT ?_|(refine iy ?_;intro Q hQ hP;simp [hC,hY,bG,Yo];(first|refine dq hQ ?_|refine hP _ _ ah λ_=>?_))|fail
   intro C2 tP Jd tQ;replace hC:C2.G=G0:=tP.trans Ko;replace hY:=tQ
   repeat' first|refine cT ?_|(refine iy ?_;intro Q hQ hP;simp [hC,hY,bG,Yo,wb,Sa,htt,hm];(first|refine dq hQ ?_|refine hP _ _ ah λ_=>?_))|fail
   refine cB [] 300 wy G0F MJ zO ?_ ?_ ?_
   ·simp
   ·simp [wb]
   ·simp [wb]
 ·left
  refine ⟨by rw [BL];omega,?_⟩;rw [<-alp];unfold Yn Yo
  repeat' first|refine cT ?_|(refine iy ?_;intro Q hQ hP;simp [hC,hY,wb];(first|refine dq hQ ?_|refine hP _ _ ah λ_=>?_))|fail
  exact eR results169
@[simp] theorem ayK (a:Int) (ha:wr a) (h0:0<=a) (K:fQ):bl prog G0 169 #[Value.agg #[.int .u64 (wi (a) 0),.int .u64 (wi (a) 1),.int .u64 (wi (a) 2),.int .u64 (wi (a) 3)]] K↔K (wd (isq a)):=ar G0W ah (Uk a ha h0)
theorem EJ {p:Prop} (h:p:=by
 have Ks:k<300:=bu λh=>hk (wD a _ k zO);simp (disch:=omega) only [Nv]
 rfl):p:=h
def hp1 (a:Int):Hp:=hpL G0 [(200,wb a)]
theorem al2 (a:Int) (ha:wr a) (h0:0<=a):isq a<340282366920938463463374607431768211456/\wr (isq a):=by
 obtain ⟨h1,h2,h3⟩:=tW a h0;have ef:=ha.2;have h4:=Wm 340282366920938463463374607431768211456 h1 zD zO;exact ⟨h4,cC zD h1,rH h4 zD⟩
theorem ag6 (a:Int):BI prog G0 144 #[wd a,wd 0] (.pan (erV 30)):=by
 refine Bj G0F func144 rfl call144 (λv h=>fj) zS (by simp [ntmps144]) ?_;intro C hC bA hY
 repeat' first|refine cT ?_|((first|refine gwR [1000166] ?_|refine gwD [1000166] ?_);intro Q hQ hP;(repeat first|simp [hC,hY,ct]|refine IN (ahz 30) ?_);(first|refine dq hQ ?_|refine hP _ _ ah λ_=>?_))|fail
 rfl
theorem S6 {a b:Int} (ha:wr a) (h0:0<=a) (hb:0<b):wr (a / b)/\0<=a / b:=by
 have h1:0<=a / b:=gN h0 zO;exact ⟨⟨cC zD h1,fJ (rD b h0) ha.2⟩,h1⟩
theorem amr {a:Int} (h0:0<=a):a≠lst:=λe=>by rw [e] at h0;exact absurd h0 zD
theorem amE (a b:Int) (ha:wr a) (hb:wr b) (h0:0<=a) (kF:0<b):Ret prog G0 144 #[wd a,wd b] (wd (isq (a / b))):=by
 refine aU G0F func144 rfl call144 zS zS (by simp [ntmps144]) ?_;intro C hC bA hY;have hz:=L5 hb zO;have s1:0<=dv (sz a) 0:=lE;have s2:0<dv (sz b) 0:=xy;obtain ⟨d1,d2⟩:=S6 ha h0 kF;have hl:=amr h0
 repeat' first|refine cT ?_|(refine iy ?_;intro Q hQ hP;simp [hC,hY,hz,s1,s2,ha,hb,kF,hl,d1,d2];(first|refine dq hQ ?_|refine hP _ _ ah λ_=>?_))|fail
 exact eR results144
@[simp] theorem rof (a b:Int) (ha:wr a) (hb:wr b) (h0:0<=a) (kF:0<b) (K:fQ):bl prog G0 144 #[Value.agg #[.int .u64 (wi (a) 0),.int .u64 (wi (a) 1),.int .u64 (wi (a) 2),.int .u64 (wi (a) 3)],Value.agg #[.int .u64 (wi (b) 0),.int .u64 (wi (b) 1),.int .u64 (wi (b) 2),.int .u64 (wi (b) 3)]] K↔K (wd (isq (a / b))):=ar G0W ah (amE a b ha hb h0 kF)
theorem amX (a b:Int) (ha:wr a) (hb:wr b) (h0:0<=a) (kF:0<b):Fun prog G0 143 [.pointer (some ⟨200,0,none⟩),.pointer (some ⟨208,0,none⟩)].toArray (hp2 a b) [200,208] (.ret (wd (isq (a / b))) []):=by
 refine wu (B:=300) G0F (λk hk=>dA zS hk) func143 rfl call143 ?_ ?_ ⟨bw zS,ai,zS,zS⟩ (by simp [ntmps143]) zO ?_ ?_
 ·rw [oO];simp [hp2,dom]
 ·exact xl
 ·rw [oO];exact wD a b
 ·intro C hC bA hY;rw [oO] at bA |-
  repeat' first|refine cT ?_|(refine iy ?_;intro Q hQ hP;simp [hC,hY,hp2,wb,ha,hb,h0,kF];(first|refine dq hQ ?_|refine hP _ _ ah λ_=>?_))|fail
  refine ⟨.inr rfl,by simp [results143],λk hk=>?_⟩;exact EJ
theorem amY (a b:Int) (hz:b=0):Fun prog G0 143 [.pointer (some ⟨200,0,none⟩),.pointer (some ⟨208,0,none⟩)].toArray (hp2 a b) [200,208] (.pan (erV 30)):=by
 refine wu (B:=300) G0F (λk hk=>dA zS hk) func143 rfl call143 ?_ ?_ trivial (by simp [ntmps143]) zO ?_ ?_
 ·rw [oO];simp [hp2,dom]
 ·exact xl
 ·rw [oO];exact wD a b
 ·intro C hC bA hY;rw [oO] at bA |-;subst hz
  repeat' first|refine cT ?_|((first|refine gwR [1000144] ?_|refine gwD [1000144] ?_);intro Q hQ hP;(repeat first|simp [hC,hY,hp2,wb]|refine IN (ag6 a) ?_);(first|refine dq hQ ?_|refine hP _ _ ah λ_=>?_))|fail
  refine ⟨rfl,λk hk=>?_⟩;exact EJ
theorem Yh (a b:Int) (ha:wr a) (hb:wr b) (h0:0<=a) (kF:0<b):Ret prog G0 122 #[wd a,wd b] (.tuple #[wd (isq (a / b)),.int .i64 0]):=by
 refine aU G0F func122 rfl call122 zS zS (by simp [ntmps122]) ?_;intro C hC bA hY
 repeat' first|refine cT ?_|((first|refine gwR [142] ?_|refine gwD [142] ?_);intro Q hQ hP;(repeat first|simp [hC,hY]|refine iE (eG:=hp2 a b) (Yw (λk hk=>dA zS hk) zS rfl zS (amX a b ha hb h0 kF)) (by simp [hp2,wb]) (λk hk=>dA zS hk) trivial ?_);(first|refine dq hQ ?_|refine hP _ _ ah λ_=>?_))|fail
 exact eR (k2 results122 @ct)
@[simp] theorem aBc (a b:Int) (ha:wr a) (hb:wr b) (h0:0<=a) (kF:0<b) (K:fQ):bl prog G0 122 #[Value.agg #[.int .u64 (wi (a) 0),.int .u64 (wi (a) 1),.int .u64 (wi (a) 2),.int .u64 (wi (a) 3)],Value.agg #[.int .u64 (wi (b) 0),.int .u64 (wi (b) 1),.int .u64 (wi (b) 2),.int .u64 (wi (b) 3)]] K↔K (.tuple #[wd (isq (a / b)),.int .i64 0]):=ar G0W ah (Yh a b ha hb h0 kF)
theorem Yi (a b:Int) (hz:b=0):Ret prog G0 122 #[wd a,wd b] (.tuple #[wd 0,.int .i64 30]):=by
 refine aU G0F func122 rfl call122 zS zS (by simp [ntmps122]) ?_;intro C hC bA hY
 repeat' first|refine cT ?_|((first|refine gwR [142] ?_|refine gwD [142] ?_);intro Q hQ hP;(repeat first|simp [hC,hY]|refine iE (eG:=hp2 a b) (Yv (λk hk=>dA zS hk) zS rfl zS (amY a b hz)) (by simp [hp2,wb]) (λk hk=>dA zS hk) trivial ?_);(first|refine dq hQ ?_|refine hP _ _ ah λ_=>?_))|fail
 exact eR (k2 results122 @ct)
@[simp] theorem asT (a b:Int) (hz:b=0) (K:fQ):bl prog G0 122 #[Value.agg #[.int .u64 (wi (a) 0),.int .u64 (wi (a) 1),.int .u64 (wi (a) 2),.int .u64 (wi (a) 3)],Value.agg #[.int .u64 (wi (b) 0),.int .u64 (wi (b) 1),.int .u64 (wi (b) 2),.int .u64 (wi (b) 3)]] K↔K (.tuple #[wd 0,.int .i64 30]):=ar G0W ah (Yi a b hz)
theorem jl {n:Int} (h:i64 n):wr n:=by unfold i64 at h;unfold wr;omega
theorem Yd (a b:Int):Ret prog G0 196 #[wd a,wd b] (wd (a+b)):=by
 refine aU G0F func196 rfl call196 zS zS (by simp [ntmps196]) ?_;intro C hC bA hY;refine iI ?_;exact eR results196
@[simp] theorem aA8 (a b:Int) (K:fQ):bl prog G0 196 #[Value.agg #[.int .u64 (wi (a) 0),.int .u64 (wi (a) 1),.int .u64 (wi (a) 2),.int .u64 (wi (a) 3)],Value.agg #[.int .u64 (wi (b) 0),.int .u64 (wi (b) 1),.int .u64 (wi (b) 2),.int .u64 (wi (b) 3)]] K↔K (wd (a+b)):=ar G0W ah (Yd a b)
theorem Yg (a b:Int):Ret prog G0 184 #[wd a,wd b] (wd (a - b)):=by
 refine aU G0F func184 rfl call184 zS zS (by simp [ntmps184]) ?_;intro C hC bA hY;refine iI ?_;exact eR results184
@[simp] theorem aBb (a b:Int) (K:fQ):bl prog G0 184 #[Value.agg #[.int .u64 (wi (a) 0),.int .u64 (wi (a) 1),.int .u64 (wi (a) 2),.int .u64 (wi (a) 3)],Value.agg #[.int .u64 (wi (b) 0),.int .u64 (wi (b) 1),.int .u64 (wi (b) 2),.int .u64 (wi (b) 3)]] K↔K (wd (a - b)):=ar G0W ah (Yg a b)
theorem Ye (a:Int):Ret prog G0 173 #[wd a] (wd (-a)):=by
 refine aU G0F func173 rfl call173 zS zS (by simp [ntmps173]) ?_;intro C hC bA hY;refine iI ?_;exact eR results173
@[simp] theorem aA9 (a:Int) (K:fQ):bl prog G0 173 #[Value.agg #[.int .u64 (wi (a) 0),.int .u64 (wi (a) 1),.int .u64 (wi (a) 2),.int .u64 (wi (a) 3)]] K↔K (wd (-a)):=ar G0W ah (Ye a)
theorem Yf:Ret prog G0 185 #[] (wd 1):=by
 refine aU G0F func185 rfl call185 zS zS (by simp [ntmps185]) ?_;intro C hC bA hY;have i1:=VE;refine cA i1 ?_;exact eR results185
@[simp] theorem aBa (K:fQ):bl prog G0 185 #[] K↔K (wd 1):=ar G0W ah Yf
theorem PD:Ret prog G0 171 #[] (.agg #[.int .u64 0,.int .u64 0,.int .u64 0,.int .u64 9223372036854775808]):=by
 refine aU G0F func171 rfl call171 zS zS (by simp [ntmps171]) ?_;intro C hC bA hY;refine iI ?_;exact eR results171
@[simp] theorem avj (K:fQ):bl prog G0 171 #[] K↔K (.agg #[.int .u64 0,.int .u64 0,.int .u64 0,.int .u64 9223372036854775808]):=ar G0W ah PD
end Go.Gy
namespace Go.Gy
open Go Go.RowKit Go.Proofs
abbrev kR := @Int.mul_ediv_add_emod
abbrev lf := @Int.mul_add_ediv_left
abbrev vE := @Int.mul_add_emod_self_left
def wl (z:Int):List Value:=[.int .u64 (wi z 0),.int .u64 (wi z 1),.int .u64 (wi z 2),.int .u64 (wi z 3)]
@[simp] theorem anD (z:Int):(wl z).length=4:=rfl
def lc (b:Int):Nat->List Value
 | 0=>[]
 | k+1=>lc b k++wl (b*2^k)
@[simp] theorem ayj (b:Int) (k:Nat):(lc b k).length=4*k:=by
 induction k with
 | zero=>rfl
 | succ k ih=>simp [lc,ih];omega
theorem M0 (b:Int) (k:Nat):∀ x∈lc b k,bU x=true:=by
 induction k with
 | zero=>simp [lc]
 | succ k ih =>
  intro x hx;simp only [lc,bh] at hx;rcases hx with hx|hx
  ·exact ih x hx
  ·simp [wl] at hx;rcases hx with rfl|rfl|rfl|rfl<;>simp
theorem M5 (b:Int):∀ (k j:Nat) (rest:List Value),j<k->((lc b k++rest).drop (4*j)).take 4=wl (b*2^j)
 | 0,j,rest,h=>zO
 | k+1,j,rest,h=>by
  by_cases hj:j<k
  ·rw [lc,gE];exact M5 b k j _ hj
  ·obtain rfl:j=k:=zO;rw [lc,gE,show 4*j=(lc b j).length by simp,List.drop_left,show (4:Nat)=(wl (b*2^j)).length from rfl,List.take_left]
theorem aqz {a b:Int} (hb:0<b) (i:Nat):(a%(b*2^(i+1))<b*2^i/\a / (b*2^i)=2*(a / (b*2^(i+1)))/\a%(b*2^i)=a%(b*2^(i+1))) \/
  (b*2^i<=a%(b*2^(i+1))/\a / (b*2^i)=2*(a / (b*2^(i+1)))+1/\a%(b*2^i)=a%(b*2^(i+1)) - b*2^i):=by
 have e:b*2^(i+1)=2*(b*2^i):=by rw [iK];ac_rfl
 rw [e];have hm:0<b*2^i:=iR hb (fw zD);generalize b*2^i=m at *
 have h1:=bQ a (zO:0<2*m);have h2:=bM a (zO:(2*m)≠0);have h3:=kR a (2*m);generalize a / (2*m)=q at *
 generalize a%(2*m)=s at *
 have ea:a=m*(2*q)+s:=by rw [<-h3,bX 2 m,bD]
 by_cases hs:s<m
 ·left
  refine ⟨hs,?_,?_⟩
  ·rw [ea,lf _ _ zO,dU h2 hs,mO]
  ·rw [ea,vE,bP h2 hs]
 ·right
  have es:a=m*(2*q+1)+(s - m):=by rw [ea,dH,kX];omega
  refine ⟨zO,?_,?_⟩
  ·rw [es,lf _ _ zO,dU zO zO,mO]
  ·rw [es,vE,bP zO zO]
end Go.Gy
namespace Go.Gy
abbrev rN := @Int.le_refl
def fC (a b:Int):Int:=if b<2*(a%b)\/(2*(a%b)=b/\0<=a / b) then a / b+1 else a / b
theorem Lt {a b:Int} (hb:0<b) (h:0<=a):fC a b=(2*a+b) / (2*b):=by
 have h1:=kR a b;have h2:=bM a (zO:b≠0);have h3:=bQ a hb;have h4:=gN h (bW hb);unfold fC;generalize a%b=r at *
 generalize a / b=q at *
 subst h1;have e:2*(b*q+r)+b=2*b*q+(2*r+b):=by rw [dH,<-bD];omega
 rw [e,lf _ _ zO];split
 ·rename_i hc
  rw [show (2*r+b) / (2*b)=1 from by
   rw [(zO:2*r+b=2*b*1+(2*r - b)),lf _ _ zO,dU zO zO];rfl]
 ·rename_i hc;rw [dU zO zO];omega
theorem JD {a b:Int} (hb:0<b) (h:a<0):fC a b=-((2*-a+b) / (2*b)):=by
 have h1:=kR a b;have h2:=bM a (zO:b≠0);have h3:=bQ a hb;have h4:a / b<0:=Int.ediv_neg_of_neg_of_pos h hb;unfold fC;generalize a%b=r at *
 generalize a / b=q at *
 subst h1;have e:2*-(b*q+r)+b=2*b*(-q)+(b - 2*r):=by rw [jo (2*b) q,bD];omega
 rw [e,lf _ _ zO];split
 ·rename_i hc
  rw [show (b - 2*r) / (2*b)=-1 from by
   rw [(zO:b - 2*r=2*b*(-1)+(3*b - 2*r)),lf _ _ zO,dU zO zO];rfl]
  omega
 ·rename_i hc;rw [dU zO zO];omega
theorem Ca {a b:Int} (hb:0<b):fC (-a) b=-fC a b:=by
 by_cases h0:a=0
 ·subst h0;simp [fC];omega
 ·by_cases h:a<0
  ·rw [JD hb h,Lt hb (zO:0<=-a)];omega
  ·rw [Lt hb (zO:0<=a),JD hb (zO:-a<0),Int.neg_neg]
theorem JE {a b:Int} (hb:0<b):-b<=2*(a - fC a b*b)/\2*(a - fC a b*b)<=b/\(2*(a - fC a b*b)=b->fC a b<=0)/\(2*(a - fC a b*b)=-b->0<=fC a b):=by
 have h1:=kR a b;have h2:=bM a (zO:b≠0);have h3:=bQ a hb;unfold fC;generalize a%b=r at *
 generalize a / b=q at *
 subst h1;split
 ·rename_i hc;have e:b*q+r - (q+1)*b=r - b:=by rw [eF,bX q b];omega
  rw [e];omega
 ·rename_i hc;have e:b*q+r - q*b=r:=by rw [bX q b];omega
  rw [e];omega
theorem JC {a b c:Int} (hc:0<c) (h:a<=b):fC a c<=fC b c:=by
 by_cases RX:a=b
 ·subst RX;exact rN _
 refine bu λhn=>?_;obtain ⟨a1,_,_,_⟩:=JE (a:=a) hc;obtain ⟨_,b2,_,_⟩:=JE (a:=b) hc;generalize fC a c=x at *
 generalize fC b c=y at *
 have e:(y+1)*c<=x*c:=fE zO zO;rw [eF,rP] at e;omega
theorem TZ {v d:Int} (hd:0<d):fC (v*d) d=v:=by
 unfold fC;rw [kT,kQ _ zO];split<;>omega
theorem acB {a b p:Int} (hb:0<b) (h0:-p<=a) (h1:a<=p) (hp:0<=p):-p<=fC a b/\fC a b<=p:=by
 have e1:=JC hb h1;have e2:=JC hb h0
 have e3:fC p b<=p:=by
  refine cC (JC hb (show p<=p*b from ?_)) (by rw [TZ hb];exact rN _)
  calc p=p*1:=(kX p).symm
   _<=p*b:=fg zO hp
 have e4:=Ca (a:=p) hb;omega
end Go.Gy
namespace Go.Gy
open Go Go.RowKit Go.Proofs
abbrev vN := @Int.le_add_one
def sm (z:Int):Prop:=-1329227995784915872903807060280344576<=z/\z<=1329227995784915872903807060280344576
theorem sm.wr {z:Int} (h:sm z):wr z:=⟨cC zD h.1,fJ h.2 zD⟩
theorem sm.lst {z:Int} (h:sm z):z≠lst:=λe=>by rw [e] at h;exact absurd h.1 zD
theorem sm.sz {z:Int} (h:sm z):sz z=z:=gB h.wr
theorem sm.up {z:Int} (h:sm z):Gy.wr (z+1):=⟨cC zD (cC h.1 (vN (rN _))),fJ (Int.add_le_add_right h.2 1) zD⟩
theorem i64.sm {z:Int} (h:i64 z):sm z:=⟨cC zD h.1,cC (bW h.2) zD⟩
theorem W9 {a b:Int} (h:a<b):dv a b=-1:=sN
theorem Xb (a:Int):dv a a=0:=sN
theorem Xa {a b:Int} (h:b<a):dv a b=1:=sN
theorem ank {a b:Int} (ha:sm a) (hb:0<b):sm (a / b):=by
 have h1:=Int.ediv_le_ediv hb ha.1;have h2:=Int.ediv_le_ediv hb ha.2;have h3:(1329227995784915872903807060280344576:Int) / b<=1329227995784915872903807060280344576:=rD _ zD
 have h4:-1329227995784915872903807060280344576<=(-1329227995784915872903807060280344576:Int) / b:=by
  rw [rr hb];have:(-1329227995784915872903807060280344576:Int)*b<=-1329227995784915872903807060280344576*1:=Int.mul_le_mul_of_nonpos_left zD hb;omega
 exact ⟨cC h4 h1,cC h2 h3⟩
def jb (n:Int):Blk:=⟨#[.int .i64 n],.ty 3⟩
end Go.Gy
namespace Go.Gy
open Go Go.RowKit Go.Proofs Go.Proofs.Tryz
theorem nc {p:Prop} (h:p:=by simp [aL,cQ,aI,aP,dom]):p:=h
theorem sV {p:Prop} (h:p:=by simp [Res.at,ak]):p:=h
theorem iW {p:Prop} (h:p:=by simp [xsV]):p:=h
theorem kq {p:Prop} (h:p:=by simp [jb]):p:=h
theorem xS {p:Prop} (h:p:=by
 refine ⟨by simp [fq],λt=>Bs nc t,.inr trivial,?_⟩;simp [results162,NA]):p:=h
theorem amh (p:iH) (m:Nat):∃ N,N<=m/\(∀ i,i<N->p i)/\(N=m\/¬p N):=by
 induction m with
 | zero=>exact ⟨0,aA _,λi hi=>absurd hi (jt i),.inl rfl⟩
 | succ m ih =>
  obtain ⟨N,h1,h2,h3⟩:=ih;rcases h3 with rfl|h3
  ·by_cases hp:p N
   ·exact ⟨N+1,aA _,λi hi=>by
     by_cases e:i=N
     ·subst e;exact hp
     ·exact h2 i zO,.inl rfl⟩
   ·exact ⟨N,zO,h2,.inr hp⟩
  ·exact ⟨N,zO,h2,.inr h3⟩
def inW (m x:Int):Prop:=0<=m/\-m<=x/\x<=m
instance inWdec (m x:Int):Decidable (inW m x):=by unfold inW;infer_instance
theorem Nb {m:Int} (h:i64 m) (h0:0<=m):Int.bmod (-m) 18446744073709551616=-m:=by
 have:=h.1;have:=h.2;rw [fe];omega
def YV (x0 x1 x2 m:Int):Hp:=hpL G0 [(200,⟨#[.int .i64 x0,.int .i64 x1,.int .i64 x2],.ty 70⟩),(208,jb m),(216,⟨#[.bool false],.ty 4⟩)]
def NA:Nat->Value:=tsL [(3,.pointer (some ⟨208,0,none⟩)),(4,.pointer (some ⟨216,0,none⟩))]
theorem UP (x0 x1 x2 m:Int) (hm:i64 m) (h0:i64 x0) (h1:i64 x1) (h2:i64 x2):Ret prog G0 162 #[.agg #[.int .i64 x0,.int .i64 x1,.int .i64 x2],.int .i64 m] (.bool (decide (inW m x0/\inW m x1/\inW m x2))):=by
 refine aU G0F func162 rfl call162 zS zS (by simp [ntmps162]) ?_;intro C hC bA hY;obtain ⟨N,hN,dp,dk⟩:=amh (λi=>inW m (vf x0 x1 x2 i)) 3
 repeat' first|refine cT ?_|((first|refine gwR [125] ?_|refine gwD [125] ?_);intro Q hQ _;(repeat first|simp [hC,hY,jb]|refine iE (uW 232 240 1 1 #[.int .i64 x0,.int .i64 x1,.int .i64 x2] zS zO zO zO zO) zS (λk hk=>dA zS hk) sV ?_);refine dq hQ ?_)|fail
 have hT:m<0\/0<=m:=zO;refine Ay (f:=145) (rs:=[240,232]) (xs:=xsV 3 (vf x0 x1 x2)) (bF:=#[.pointer (some ⟨240,0,none⟩)]) zS ?_ iW (by simp [ntmps162]) NA (λ_=>YV x0 x1 x2 m) 300 N (by simp [xsV];omega) ?_ ?_ ?_ ?_ ?_
 ·rw [hC];refine q9.cast (IterX.rn (λk=>if k=100 then 240 else if k=108 then 232 else k) G0F (λk hk=>dA (by simp [uN]) hk) (rs:=[100,108]) ?_ (UN x0 x1 x2)) kh zS;refine ⟨λk hk=>?_,?_,?_,?_⟩
  ·have h1:¬k=100:=zO;have h2:¬k=108:=zO;have h3:¬k=200:=zO;have h4:¬k=208:=zO;have h5:¬k=216:=zO;have h8:¬k=232:=zO;have h9:¬k=240:=zO;simp [h1,h2,h3,h4,h5,h8,h9,pv1,uN]
  ·simp
  ·simp [uN,Blk.rn,aw,aF]
  ·simp
 ·refine cB _ 300 hC G0F (m0:=[]) bA zO ?_ ?_ ?_
  ·exact lO
  ·simp [aM,aI,aP,jb]
  ·simp
 ·simp [YV,dom]
 ·intro i hi t;refine Bs ?_ t;simp [aL,cQ,aI,aP,dom,YV]
 ·intro i x hi hx C1 l Km MJ Kq;have Ko:=hC;have wy:C1.G=G0:=Km.trans hC;obtain ⟨g0,g1,g2⟩:=dp i hi;replace hC:=wy;replace hY:=Kq;have:i=0\/i=1\/i=2:=zO;rcases this with rfl|rfl|rfl
  all_goals
   rw [Co _ _ _ zO] at hx;simp only [bf] at hx;subst hx;simp only [vf] at *
   unfold YV
  all_goals
   refine cA (k3 @bG.eq_1 @NA.eq_1 @jb.eq_1) ?_
  all_goals
   intro C2 tP Jd tQ;replace hC:C2.G=G0:=tP.trans Ko;replace hY:=tQ;have q0:¬m<0:=zO;have q1:=dG.2 g1;have q2:=dG.2 g2;have Zb:=Nb hm g0;refine cA (k7 @bG.eq_1 @NA.eq_1 @jb.eq_1 Zb q0 q1 q2) ?_
  all_goals
   refine cB [] 300 wy G0F MJ zO ?_ ?_ ?_
   ·simp
   ·simp [aM,aI,aP,jb]
   ·exact kq
 ·by_cases Ow:N=3
  ·subst Ow
   left
   refine ⟨iW,?_⟩
   have e:(inW m x0/\inW m x1/\inW m x2)=True:=by
    simp only [jv,iff_true];exact ⟨dp 0 zO,dp 1 zO,dp 2 zO⟩
   simp only [e];unfold YV NA jb;refine iI ?_;exact eR results162
  ·right
   have hN3:N<3:=zO;replace dk:=dk.resolve_left Ow;refine ⟨_,Co _ _ _ hN3,?_⟩
   have e:(inW m x0/\inW m x1/\inW m x2)=False:=by
    simp only [jv,iff_false];rintro ⟨a0,a1,a2⟩;have:N=0\/N=1\/N=2:=zO;rcases this with rfl|rfl|rfl<;>contradiction
   simp only [e]
   have Zh:m<0\/(¬m<0/\vf x0 x1 x2 N < -m)\/(¬m<0/\¬vf x0 x1 x2 N < -m/\m<vf x0 x1 x2 N):=by
    unfold inW at dk;omega
   intro C1 l Km MJ Kq;have Ko:=hC;replace hC:=Km.trans hC;replace hY:=Kq;clear dp hN;have:N=0\/N=1\/N=2:=zO;rcases this with rfl|rfl|rfl
   all_goals
    simp only [vf] at Zh |-;unfold YV
   all_goals
    refine cA (k3 @bG.eq_1 @NA.eq_1 @jb.eq_1) ?_
   all_goals
    intro C2 tP Jd tQ;replace hC:C2.G=G0:=tP.trans Ko;replace hY:=tQ;rcases Zh with q0|⟨q0,q1⟩|⟨q0,q1,q2⟩
    ·
     refine cA (k4 @bG.eq_1 @NA.eq_1 @jb.eq_1 q0) ?_;exact xS
    ·have Zb:=Nb hm (dG.1 q0);refine cA (k6 @bG.eq_1 @NA.eq_1 @jb.eq_1 Zb q0 q1) ?_;exact xS
    ·have Zb:=Nb hm (dG.1 q0);refine cA (k7 @bG.eq_1 @NA.eq_1 @jb.eq_1 Zb q0 q1 q2) ?_;exact xS
def inV (m x0 x1 x2:Int):Bool:=decide (inW m x0/\inW m x1/\inW m x2)
@[simp] theorem avI (x0 x1 x2 m:Int) (hm:i64 m) (h0:i64 x0) (h1:i64 x1) (h2:i64 x2) (K:fQ):bl prog G0 162 #[.agg #[.int .i64 x0,.int .i64 x1,.int .i64 x2],.int .i64 m] K↔K (.bool (inV m x0 x1 x2)):=ar G0W ah (UP x0 x1 x2 m hm h0 h1 h2)
theorem sK {p:Prop} (h:p:=by simp [gT]):p:=h
theorem bO {p:Prop} (h:p:=by (intro k hk;first|rfl|(simp (disch:=omega) only [gT,aj,az,ay,ao,bV,eH,ae,bH]<;>done))):p:=h
theorem RU {p:Prop} (h:p:=by
 simp [aL,cQ,aI,aP,ak]):p:=h
theorem Gx {p:Prop} (h:p:=by
 refine ⟨by simp [fq],nc,zS,.inr rfl,by simp [results106,gT],fU G0F sK bO⟩):p:=h
theorem E7 {p:Prop} (h:p:=by
 have:j=0\/j=1\/j=2\/j=3\/j=4\/j=5:=zO;rcases this with rfl|rfl|rfl|rfl|rfl|rfl<;>assumption):p:=h
abbrev bN := @forall_eq
abbrev dc := @forall_eq_or_imp
def fnI (x:Int):Prop:=-536870912<=x/\x<=536870912
instance fnIdec (x:Int):Decidable (fnI x):=by unfold fnI;infer_instance
theorem Og (M m:Nat) (v:Bool) (cs:ca) (AK:∀ x∈cs,bU x=true) (f:aJ) (pT:IterK prog G0 145 #[.pointer (some ⟨100,0,none⟩)] (hpL G0 [(100,⟨#[.slice (some ⟨108,0,none⟩) m m],.ty 167⟩),(108,⟨cs,.ty 70⟩)]) (ak [(100,⟨#[.slice (some ⟨108,0,none⟩) m m],.ty 167⟩),(108,⟨cs,.ty 70⟩)]) (xsV M f)) (hv:v=true↔∀ j,j<M->fnI (f j)) :
  Fun prog G0 106 #[.slice (some ⟨100,0,none⟩) m m] (hpL G0 [(100,⟨cs,.ty 70⟩)]) [100] (.ret (.bool v) []):=by
 have vq:Blk.fx (Blk.mk cs (.ty 70)):=AK;have BB:∀ D,(Blk.mk cs (.ty 70)).ids D:=λD=>Blk.fx_ids vq D;refine cg (m:=[(100,⟨cs,.ty 70⟩)]) (B:=200) G0F func106 rfl call106 ⟨zS,ai,by simp only [br,bN];exact BB _⟩ ?_ zS zS zS (by simp [ntmps106]) zO ?_
 ·exact RU
 intro C hC bA hY;obtain ⟨N,hN,dp,dk⟩:=amh (λi=>fnI (f i)) M
 repeat' first|refine cT ?_|((first|refine gwR [125] ?_|refine gwD [125] ?_);intro Q hQ _;(repeat first|simp [hC,hY,jb]|refine iE (uW 100 216 m m cs AK zO zO zO zO) zS (λk hk=>dA zS hk) sV ?_);refine dq hQ ?_)|fail
 refine uw (G:=G0) (f:=145) (rs:=[216,100]) (xs:=xsV M f) (bF:=#[.pointer (some ⟨216,0,none⟩)]) (m0:=[(100,⟨cs,.ty 70⟩)]) [216,100] G0F hC bA hY zS ?_ iW (by simp [ntmps106]) [(2,.pointer (some ⟨200,0,none⟩))] [] (λ_=>[(200,⟨#[.bool false],.ty 4⟩)]) 300 N (by simp [xsV];omega) zO zS nv ?_ zS zS zS ?_ zS ?_ ?_
 ·refine tX (m:=[(100,⟨#[.slice (some ⟨108,0,none⟩) m m],.ty 167⟩),(108,⟨cs,.ty 70⟩)]) (B:=200) pT G0F ⟨zS,ai,?_⟩ (λk=>if k=100 then 216 else if k=108 then 100 else k) (λk hk=>?_) kh ai bO ?_ ?_
  ·simp only [aj,az,ay,dc,bN];exact ⟨by simp [aM,aI,aP,ak],BB _⟩
  ·exact QR
  ·have hr:=λρ=>nY AK ρ;simp [hr,Blk.rn,aw,aF]
  ·exact ai
 ·intro k hk b hb;simp only [aj,az,ay] at hk;rcases hk with rfl|rfl
  ·simp at hb;subst hb;simp [aM,aI,aP]
  ·simp at hb;subst hb;exact BB _
 ·intro i hi;simp [aL,cQ,aI,aP,dom,aM]
 ·intro i x hi hx C1 l Km MJ Kq;rw [Co _ _ _ zO] at hx;simp only [bf] at hx;subst hx;obtain ⟨g1,g2⟩:=dp i hi;have q1:=dG.2 g1;have q2:=dG.2 g2;clear hC hY;have hC:=Km;have hY:=Kq;refine cA @bG.eq_1 ?_;intro C2 tP Jd tQ;clear hC hY;have hC:=tP;have hY:=tQ;refine cA (k3 @bG.eq_1 q1 q2) ?_;simp
 ·by_cases Ow:N=M
  ·subst Ow
   left
   refine ⟨iW,?_⟩;have e:=hv.2 dp;subst e
   repeat' first|refine cT ?_|(refine iy ?_;intro Q hQ _;simp [hC,hY,gT,bj,bq];refine dq hQ ?_)|fail
   refine ⟨.inr rfl,by simp [results106],fU G0F sK bO⟩
  ·right
   have hN3:N<M:=zO;replace dk:=dk.resolve_left Ow;refine ⟨_,Co _ _ _ hN3,?_⟩
   have e:v=false:=by
    cases v
    ·rfl
    ·exact absurd (hv.1 rfl N hN3) dk
   subst e
   have Zh:f N < -536870912\/(¬f N < -536870912/\536870912<f N):=by
    unfold fnI at dk;omega
   intro C1 l Km MJ Kq;clear hC hY;have hC:=Km;have hY:=Kq;refine cA @bG.eq_1 ?_;intro C2 tP Jd tQ;clear hC hY;have hC:=tP;have hY:=tQ;rcases Zh with q1|⟨q1,q2⟩
   ·
    refine cA (k2 @bG.eq_1 q1) ?_;exact Gx
   ·
    refine cA (k3 @bG.eq_1 q1 q2) ?_;exact Gx

theorem Xj (x0 x1 x2:Int) (v:Bool) (hv:v=true↔fnI x0/\fnI x1/\fnI x2):Fun prog G0 106 #[.slice (some ⟨100,0,none⟩) 1 1] (hpL G0 [(100,⟨#[.int .i64 x0,.int .i64 x1,.int .i64 x2],.ty 70⟩)]) [100] (.ret (.bool v) []):=by
 refine Og 3 1 _ _ zS _ (r7 x0 x1 x2) ?_;rw [hv];refine ⟨λ⟨h0,h1,h2⟩ j hj=>?_,λh=>⟨h 0 zO,h 1 zO,h 2 zO⟩⟩;have:j=0\/j=1\/j=2:=zO;rcases this with rfl|rfl|rfl<;>assumption
theorem tN (x0 x1 x2 y0 y1 y2:Int) (v:Bool) (hv:v=true↔(fnI x0/\fnI x1/\fnI x2)/\fnI y0/\fnI y1/\fnI y2):Fun prog G0 106 #[.slice (some ⟨100,0,none⟩) 2 2] (hpL G0 [(100,⟨#[.int .i64 x0,.int .i64 x1,.int .i64 x2,.int .i64 y0,.int .i64 y1,.int .i64 y2],.ty 70⟩)]) [100] (.ret (.bool v) []):=by
 refine Og 6 2 _ _ zS _ (P9 x0 x1 x2 y0 y1 y2) ?_;rw [hv];refine ⟨λ⟨⟨h0,h1,h2⟩,h3,h4,h5⟩ j hj=>?_,λh=>⟨⟨h 0 zO,h 1 zO,h 2 zO⟩,h 3 zO,h 4 zO,h 5 zO⟩⟩;exact E7
theorem iY {p:Prop} (h:p:=by simp [aM,aI,aP]):p:=h
theorem aN {p:Prop} (h:p:=by simp [ren,aW,aw,aF]):p:=h
theorem km {p:Prop} (h:p:=by simp [Blk.rn,aw,aF]):p:=h
theorem ax {p:Prop} (h:p:=by simp [ak];rfl):p:=h
theorem FO {p:Prop} (h:p:=by
 intro k hk b hb;simp only [aj,az,ay] at hk;rcases hk with rfl|rfl
 ·simp at hb;subst hb;simp [aM,aI,aP]
 ·simp at hb;subst hb;simp [aM,aI,aP]):p:=h
theorem Fm {p:Prop} (h:p:=by
 rw [e];unfold eaL
 repeat' first|refine cT ?_|((first|refine gwR [106] ?_|refine gwD [106] ?_);intro Q hQ _;(repeat first|simp [hC,hY,gT,bj,bq]|refine aE (Xj (op a0 b0) (op a1 b1) (op a2 b2) _ hw) G0F (B:=200) ⟨zS,ai,iY⟩ (λk=>if k=100 then 408 else k) (λk hk=>ae zO) aN zS km ai ax ?_);refine dq hQ ?_)|fail
 exact eR (k2 results163 @eaV.eq_1)):p:=h
@[simp] theorem aoe (f:Fn):bp (.func f #[] #[])=true:=by simp [bp,pX,bU,Array.all]
def eaE (op:Int->Int->Int) (a0 a1 a2 b0 b1 b2:Int):Int:=if ((fnI a0/\fnI a1/\fnI a2)/\fnI b0/\fnI b1/\fnI b2)/\fnI (op a0 b0)/\fnI (op a1 b1)/\fnI (op a2 b2) then 0 else 20
def eaV (e v:Int):Int:=if e=0 then v else 0
def eaL (g:FuncId) (op:Int->Int->Int) (a0 a1 a2 b0 b1 b2:Int) (i:Nat):List (Nat×Blk):=[(200,⟨#[.int .i64 a0,.int .i64 a1,.int .i64 a2],.ty 70⟩),(208,⟨#[.int .i64 b0,.int .i64 b1,.int .i64 b2],.ty 70⟩),(216,⟨#[.func (.func g) #[] #[]],.ty 194⟩),
 (224,⟨#[.int .i64 (if 0<i then op a0 b0 else 0),.int .i64 (if 1<i then op a1 b1 else 0),.int .i64 (if 2<i then op a2 b2 else 0)],.ty 70⟩)]
theorem aap (g:FuncId) (op:Int->Int->Int) (iT:∀ x y K,fnI x->fnI y->(bl prog G0 g #[.int .i64 x,.int .i64 y] K↔K (.int .i64 (op x y)))) (a0 a1 a2 b0 b1 b2:Int):Ret prog G0 163 #[.agg #[.int .i64 a0,.int .i64 a1,.int .i64 a2],.agg #[.int .i64 b0,.int .i64 b1,.int .i64 b2],.func (.func g) #[] #[]]
  (.tuple #[.agg #[.int .i64 (eaV (eaE op a0 a1 a2 b0 b1 b2) (op a0 b0)),.int .i64 (eaV (eaE op a0 a1 a2 b0 b1 b2) (op a1 b1)),.int .i64 (eaV (eaE op a0 a1 a2 b0 b1 b2) (op a2 b2))],.int .i64 (eaE op a0 a1 a2 b0 b1 b2)]):=by
 refine aU G0F func163 rfl call163 zS zS (by simp [ntmps163]) ?_;intro C hC bA hY;obtain ⟨v,hv⟩:∃ v:Bool,v=true↔(fnI a0/\fnI a1/\fnI a2)/\fnI b0/\fnI b1/\fnI b2:=⟨decide _,decide_eq_true_iff⟩
 cases v with
 | false =>
  have e:eaE op a0 a1 a2 b0 b1 b2=20:=by unfold eaE;rw [ae];intro h;exact absurd (hv.2 h.1) zS
  rw [e]
  repeat' first|refine cT ?_|((first|refine gwR [106] ?_|refine gwD [106] ?_);intro Q hQ _;(repeat first|simp [hC,hY]|refine aE (tN a0 a1 a2 b0 b1 b2 _ hv) G0F (B:=200) ⟨zS,ai,iY⟩ (λk=>if k=100 then 256 else k) (λk hk=>ae zO) aN zS km ai ax ?_);refine dq hQ ?_)|fail
  exact eR (k2 results163 @eaV.eq_1)
 | true =>
  repeat' first|refine cT ?_|((first|refine gwR [106,125] ?_|refine gwD [106,125] ?_);intro Q hQ _;(repeat first|simp [hC,hY]|(first|(refine aE (tN a0 a1 a2 b0 b1 b2 _ hv) G0F (B:=200) ⟨zS,ai,iY⟩ (λk=>if k=100 then 256 else k) (λk hk=>ae zO) aN zS km ai ax ?_)|refine iE (uW 288 296 1 1 #[.int .i64 a0,.int .i64 a1,.int .i64 a2] zS zO zO zO zO) zS (λk hk=>dA zS hk) sV ?_));refine dq hQ ?_)|fail
  obtain ⟨⟨f0,f1,f2⟩,g0,g1,g2⟩:=hv.1 rfl;have s0:=λK=>iT a0 b0 K f0 g0;have s1:=λK=>iT a1 b1 K f1 g1;have s2:=λK=>iT a2 b2 K f2 g2;refine uw (G:=G0) (f:=145) (rs:=[296,288]) (xs:=xsV 3 (vf a0 a1 a2)) (bF:=#[.pointer (some ⟨296,0,none⟩)]) (m0:=[]) [296,288] G0F hC bA hY zS ?_ iW (by simp [ntmps163]) [(3,.pointer (some ⟨200,0,none⟩)),(4,.pointer (some ⟨208,0,none⟩)),(5,.pointer (some ⟨216,0,none⟩)),(6,.pointer (some ⟨224,0,none⟩)),(7,.int .i64 0)] [] (eaL g op a0 a1 a2 b0 b1 b2) 400 3 iW zO zS nv ?_ zS zS (by simp [eaL]) ?_ zS ?_ ?_
  ·refine tX (m:=uN a0 a1 a2) (B:=200) (r7 a0 a1 a2) G0F ⟨by simp [uN],lL,xq⟩ (λk=>if k=100 then 296 else if k=108 then 288 else k) (λk hk=>?_) kh lL bO ?_ ?_
   ·exact QR
   ·simp [uN,Blk.rn,aw,aF]
   ·exact lL
  ·exact FO
  ·intro i hi;simp [eaL,aL,cQ,aI,aP,dom,aM]
  ·intro i x hi hx C1 l Km MJ Kq;rw [Co _ _ _ zO] at hx;simp only [bf] at hx;subst hx;clear hC hY;have hC:=Km;have hY:=Kq;have:i=0\/i=1\/i=2:=zO;rcases this with rfl|rfl|rfl
   all_goals
    simp only [vf];unfold eaL
   all_goals
    refine cA @bG.eq_1 ?_
   all_goals
    intro C2 tP Jd tQ;clear hC hY;have hC:=tP;have hY:=tQ;refine cA (k4 @bG.eq_1 s0 s1 s2) ?_
   all_goals simp
  ·left
   refine ⟨iW,?_⟩;obtain ⟨w,hw⟩:∃ w:Bool,w=true↔fnI (op a0 b0)/\fnI (op a1 b1)/\fnI (op a2 b2):=⟨decide _,decide_eq_true_iff⟩
   cases w with
   | false =>
    have e:eaE op a0 a1 a2 b0 b1 b2=20:=by unfold eaE;rw [ae];intro h;exact absurd (hw.2 h.2) zS
    exact Fm
   | true =>
    have e:eaE op a0 a1 a2 b0 b1 b2=0:=by unfold eaE;rw [ag];exact ⟨hv.1 rfl,hw.1 rfl⟩
    exact Fm
theorem atr (g:FuncId) (op:Int->Int->Int) (iT:∀ x y K,fnI x->fnI y->(bl prog G0 g #[.int .i64 x,.int .i64 y] K↔K (.int .i64 (op x y)))) (a0 a1 a2 b0 b1 b2:Int) (K:fQ):bl prog G0 163 #[.agg #[.int .i64 a0,.int .i64 a1,.int .i64 a2],.agg #[.int .i64 b0,.int .i64 b1,.int .i64 b2],.func (.func g) #[] #[]] K ↔
  K (.tuple #[.agg #[.int .i64 (eaV (eaE op a0 a1 a2 b0 b1 b2) (op a0 b0)),.int .i64 (eaV (eaE op a0 a1 a2 b0 b1 b2) (op a1 b1)),.int .i64 (eaV (eaE op a0 a1 a2 b0 b1 b2) (op a2 b2))],.int .i64 (eaE op a0 a1 a2 b0 b1 b2)]):=ar G0W ah (aap g op iT a0 a1 a2 b0 b1 b2)
def Mi (a b:Int):Int:=a+b
abbrev rT := @Int.natAbs_mul
theorem adK (x y:Int):Ret prog G0 164 #[.int .i64 x,.int .i64 y] (.int .i64 (Int.bmod (x - y) 18446744073709551616)):=by
 refine aU G0F func164 rfl call164 zS zS (by simp [ntmps164]) ?_;intro C hC bA hY;refine iI ?_;exact eR results164
@[simp] theorem atv (x y:Int) (K:fQ):bl prog G0 164 #[.int .i64 x,.int .i64 y] K↔K (.int .i64 (Int.bmod (x - y) 18446744073709551616)):=ar G0W ah (adK x y)
def mg (a b:Int):Int:=a - b
theorem aqd {a b:Int} (h1:fnI a) (h2:fnI b):Int.bmod (a - b) 18446744073709551616=a - b:=by
 obtain ⟨h1,h3⟩:=h1;obtain ⟨h2,h4⟩:=h2;exact bm zO zO
theorem ahP (a0 a1 a2 b0 b1 b2:Int):Ret prog G0 141 #[.agg #[.int .i64 a0,.int .i64 a1,.int .i64 a2],.agg #[.int .i64 b0,.int .i64 b1,.int .i64 b2]]
  (.tuple #[.agg #[.int .i64 (eaV (eaE mg a0 a1 a2 b0 b1 b2) (mg a0 b0)),.int .i64 (eaV (eaE mg a0 a1 a2 b0 b1 b2) (mg a1 b1)),.int .i64 (eaV (eaE mg a0 a1 a2 b0 b1 b2) (mg a2 b2))],.int .i64 (eaE mg a0 a1 a2 b0 b1 b2)]):=by
 refine aU G0F func141 rfl call141 zS zS (by simp [ntmps141]) ?_;intro C hC bA hY;have he:=λK=>atr 164 mg (λx y K hx hy=>by rw [atv,aqd hx hy];rfl) a0 a1 a2 b0 b1 b2 K;refine cA he ?_;exact eR results141
@[simp] theorem aFg (a0 a1 a2 b0 b1 b2:Int) (K:fQ):bl prog G0 141 #[.agg #[.int .i64 a0,.int .i64 a1,.int .i64 a2],.agg #[.int .i64 b0,.int .i64 b1,.int .i64 b2]] K ↔
  K (.tuple #[.agg #[.int .i64 (eaV (eaE mg a0 a1 a2 b0 b1 b2) (mg a0 b0)),.int .i64 (eaV (eaE mg a0 a1 a2 b0 b1 b2) (mg a1 b1)),.int .i64 (eaV (eaE mg a0 a1 a2 b0 b1 b2) (mg a2 b2))],.int .i64 (eaE mg a0 a1 a2 b0 b1 b2)]):=ar G0W ah (ahP a0 a1 a2 b0 b1 b2)
def dtE (a0 a1 a2 b0 b1 b2:Int):Int:=if (fnI a0/\fnI a1/\fnI a2)/\fnI b0/\fnI b1/\fnI b2 then 0 else 20
def dtV (a0 a1 a2 b0 b1 b2:Int):Int:=if (fnI a0/\fnI a1/\fnI a2)/\fnI b0/\fnI b1/\fnI b2 then a0*b0+a1*b1+a2*b2 else 0
theorem uG {a b:Int} (h1:fnI a) (h2:fnI b):-288230376151711744<=a*b/\a*b<=288230376151711744:=by
 obtain ⟨h1,h3⟩:=h1;obtain ⟨h2,h4⟩:=h2
 have h5:(a*b).natAbs<=536870912*536870912:=by
  rw [rT];exact jZ zO zO
 omega
def dtS (a0 a1 a2 b0 b1 b2:Int):Nat->Int
 | 0=>0
 | 1=>a0*b0
 | 2=>a0*b0+a1*b1
 | _=>a0*b0+a1*b1+a2*b2
def dtL (a0 a1 a2 b0 b1 b2:Int) (i:Nat):List (Nat×Blk):=[(200,⟨#[.int .i64 a0,.int .i64 a1,.int .i64 a2],.ty 70⟩),(208,⟨#[.int .i64 b0,.int .i64 b1,.int .i64 b2],.ty 70⟩),(216,jb (dtS a0 a1 a2 b0 b1 b2 i))]
theorem afu (a0 a1 a2 b0 b1 b2:Int):Ret prog G0 98 #[.agg #[.int .i64 a0,.int .i64 a1,.int .i64 a2],.agg #[.int .i64 b0,.int .i64 b1,.int .i64 b2]]
  (.tuple #[.int .i64 (dtV a0 a1 a2 b0 b1 b2),.int .i64 (dtE a0 a1 a2 b0 b1 b2)]):=by
 refine aU G0F func98 rfl call98 zS zS (by simp [ntmps98]) ?_;intro C hC bA hY;obtain ⟨v,hv⟩:∃ v:Bool,v=true↔(fnI a0/\fnI a1/\fnI a2)/\fnI b0/\fnI b1/\fnI b2:=⟨decide _,decide_eq_true_iff⟩
 cases v with
 | false =>
  have e:dtE a0 a1 a2 b0 b1 b2=20:=by unfold dtE;rw [ae];intro h;exact absurd (hv.2 h) zS
  have e2:dtV a0 a1 a2 b0 b1 b2=0:=by unfold dtV;rw [ae];intro h;exact absurd (hv.2 h) zS
  rw [e,e2]
  repeat' first|refine cT ?_|((first|refine gwR [106] ?_|refine gwD [106] ?_);intro Q hQ _;(repeat first|simp [hC,hY]|refine aE (tN a0 a1 a2 b0 b1 b2 _ hv) G0F (B:=200) ⟨zS,ai,iY⟩ (λk=>if k=100 then 248 else k) (λk hk=>ae zO) aN zS km ai ax ?_);refine dq hQ ?_)|fail
  exact eR results98
 | true =>
  have e:dtE a0 a1 a2 b0 b1 b2=0:=by unfold dtE;rw [ag];exact hv.1 rfl
  have e2:dtV a0 a1 a2 b0 b1 b2=a0*b0+a1*b1+a2*b2:=by unfold dtV;rw [ag];exact hv.1 rfl
  rw [e,e2]
  repeat' first|refine cT ?_|((first|refine gwR [106,125] ?_|refine gwD [106,125] ?_);intro Q hQ _;(repeat first|simp [hC,hY]|(first|(refine aE (tN a0 a1 a2 b0 b1 b2 _ hv) G0F (B:=200) ⟨zS,ai,iY⟩ (λk=>if k=100 then 248 else k) (λk hk=>ae zO) aN zS km ai ax ?_)|refine iE (uW 280 288 1 1 #[.int .i64 a0,.int .i64 a1,.int .i64 a2] zS zO zO zO zO) zS (λk hk=>dA zS hk) sV ?_));refine dq hQ ?_)|fail
  obtain ⟨⟨f0,f1,f2⟩,g0,g1,g2⟩:=hv.1 rfl;have m0:=uG f0 g0;have m1:=uG f1 g1;have m2:=uG f2 g2;have s0:Int.bmod (a0*b0) 18446744073709551616=a0*b0:=bm zO zO;have s1:Int.bmod (a1*b1) 18446744073709551616=a1*b1:=bm zO zO;have s2:Int.bmod (a2*b2) 18446744073709551616=a2*b2:=bm zO zO;have s3:Int.bmod (a0*b0+a1*b1) 18446744073709551616=a0*b0+a1*b1:=bm zO zO;have s4:Int.bmod (a0*b0+a1*b1+a2*b2) 18446744073709551616=a0*b0+a1*b1+a2*b2:=bm zO zO;refine uw (G:=G0) (f:=145) (rs:=[288,280]) (xs:=xsV 3 (vf a0 a1 a2)) (bF:=#[.pointer (some ⟨288,0,none⟩)]) (m0:=[]) [288,280] G0F hC bA hY zS ?_ iW (by simp [ntmps98]) [(2,.pointer (some ⟨200,0,none⟩)),(3,.pointer (some ⟨208,0,none⟩)),(4,.pointer (some ⟨216,0,none⟩)),(5,.int .i64 0)] [] (dtL a0 a1 a2 b0 b1 b2) 400 3 iW zO zS nv ?_ zS zS (by simp [dtL,dtS,jb]) ?_ zS ?_ ?_
  ·refine tX (m:=uN a0 a1 a2) (B:=200) (r7 a0 a1 a2) G0F ⟨by simp [uN],lL,xq⟩ (λk=>if k=100 then 288 else if k=108 then 280 else k) (λk hk=>?_) kh lL bO ?_ ?_
   ·exact QR
   ·simp [uN,Blk.rn,aw,aF]
   ·exact lL
  ·exact FO
  ·intro i hi;simp [dtL,jb,aL,cQ,aI,aP,dom,aM]
  ·intro i x hi hx C1 l Km MJ Kq;rw [Co _ _ _ zO] at hx;simp only [bf] at hx;subst hx;clear hC hY;have hC:=Km;have hY:=Kq;have:i=0\/i=1\/i=2:=zO;rcases this with rfl|rfl|rfl
   all_goals
    simp only [vf];unfold dtL
   all_goals
    repeat' first|refine cT ?_|(refine iy ?_;intro Q hQ _;simp [hC,hY,bG,dtS,jb];refine dq hQ ?_)|fail
   all_goals
    intro C2 tP Jd tQ;clear hC hY;have hC:=tP;have hY:=tQ
    repeat' first|refine cT ?_|(refine iy ?_;intro Q hQ _;simp [hC,hY,bG,s0,s1,s2,s3,s4,dtS,jb];refine dq hQ ?_)|fail
   all_goals simp [dtS,jb,s0,s1,s2,s3,s4]
  ·left
   refine ⟨iW,?_⟩;unfold dtL
   repeat' first|refine cT ?_|(refine iy ?_;intro Q hQ _;simp [hC,hY,gT,bj,bq,dtS,jb];refine dq hQ ?_)|fail
   exact eR results98
@[simp] theorem aFd (a0 a1 a2 b0 b1 b2:Int) (K:fQ):bl prog G0 98 #[.agg #[.int .i64 a0,.int .i64 a1,.int .i64 a2],.agg #[.int .i64 b0,.int .i64 b1,.int .i64 b2]] K↔K (.tuple #[.int .i64 (dtV a0 a1 a2 b0 b1 b2),.int .i64 (dtE a0 a1 a2 b0 b1 b2)]):=ar G0W ah (afu a0 a1 a2 b0 b1 b2)
def f2E (a0 a1 a2 b0 b1 b2:Int):Int:=eaE mg a0 a1 a2 b0 b1 b2
def f2V (a0 a1 a2 b0 b1 b2:Int):Int:=if f2E a0 a1 a2 b0 b1 b2=0 then (a0 - b0)*(a0 - b0)+(a1 - b1)*(a1 - b1)+(a2 - b2)*(a2 - b2) else 0
theorem aaH (a0 a1 a2 b0 b1 b2:Int):Ret prog G0 120 #[.agg #[.int .i64 a0,.int .i64 a1,.int .i64 a2],.agg #[.int .i64 b0,.int .i64 b1,.int .i64 b2]]
  (.tuple #[.int .i64 (f2V a0 a1 a2 b0 b1 b2),.int .i64 (f2E a0 a1 a2 b0 b1 b2)]):=by
 refine aU G0F func120 rfl call120 zS zS (by simp [ntmps120]) ?_;intro C hC bA hY;have eV0:∀ z,eaV 0 z=z:=λz=>by simp [eaV]
 by_cases h:((fnI a0/\fnI a1/\fnI a2)/\fnI b0/\fnI b1/\fnI b2)/\fnI (mg a0 b0)/\fnI (mg a1 b1)/\fnI (mg a2 b2)
 ·have he:eaE mg a0 a1 a2 b0 b1 b2=0:=by unfold eaE;rw [ag h]
  have hd:dtE (mg a0 b0) (mg a1 b1) (mg a2 b2) (mg a0 b0) (mg a1 b1) (mg a2 b2)=0:=by unfold dtE;rw [ag ⟨h.2,h.2⟩]
  have hv:dtV (mg a0 b0) (mg a1 b1) (mg a2 b2) (mg a0 b0) (mg a1 b1) (mg a2 b2)=f2V a0 a1 a2 b0 b1 b2:=by unfold dtV f2V f2E;rw [ag ⟨h.2,h.2⟩,he,ag rfl];rfl
  have hF:f2E a0 a1 a2 b0 b1 b2=0:=he;rw [hF];refine cA (k4 he eV0 hd hv) ?_;exact eR results120
 ·have he:eaE mg a0 a1 a2 b0 b1 b2=20:=by unfold eaE;rw [ae h]
  have hF:f2E a0 a1 a2 b0 b1 b2=20:=he;have hv:f2V a0 a1 a2 b0 b1 b2=0:=by unfold f2V;rw [hF,ae zO]
  rw [hF,hv];refine cA he ?_;exact eR results120
@[simp] theorem aBI (a0 a1 a2 b0 b1 b2:Int) (K:fQ):bl prog G0 120 #[.agg #[.int .i64 a0,.int .i64 a1,.int .i64 a2],.agg #[.int .i64 b0,.int .i64 b1,.int .i64 b2]] K↔K (.tuple #[.int .i64 (f2V a0 a1 a2 b0 b1 b2),.int .i64 (f2E a0 a1 a2 b0 b1 b2)]):=ar G0W ah (aaH a0 a1 a2 b0 b1 b2)
theorem Xc (a0 a1 a2 b0 b1 b2:Int) (hf:(fnI a0/\fnI a1/\fnI a2)/\fnI b0/\fnI b1/\fnI b2):Ret prog G0 73 #[.agg #[.int .i64 a0,.int .i64 a1,.int .i64 a2],.agg #[.int .i64 b0,.int .i64 b1,.int .i64 b2]]
  (.tuple #[.agg #[.int .i64 (a1*b2 - a2*b1),.int .i64 (a2*b0 - a0*b2),.int .i64 (a0*b1 - a1*b0)],.int .i64 0]):=by
 refine aU G0F func73 rfl call73 zS zS (by simp [ntmps73]) ?_;intro C hC bA hY;have hv:true=true↔(fnI a0/\fnI a1/\fnI a2)/\fnI b0/\fnI b1/\fnI b2:=⟨λ_=>hf,λ_=>rfl⟩
 obtain ⟨⟨f0,f1,f2⟩,g0,g1,g2⟩:=hf;have m01:=uG f0 g1;have m02:=uG f0 g2;have m10:=uG f1 g0;have m12:=uG f1 g2;have m20:=uG f2 g0;have m21:=uG f2 g1;have s01:Int.bmod (a0*b1) 18446744073709551616=a0*b1:=bm zO zO;have s02:Int.bmod (a0*b2) 18446744073709551616=a0*b2:=bm zO zO;have s10:Int.bmod (a1*b0) 18446744073709551616=a1*b0:=bm zO zO;have s12:Int.bmod (a1*b2) 18446744073709551616=a1*b2:=bm zO zO;have s20:Int.bmod (a2*b0) 18446744073709551616=a2*b0:=bm zO zO;have s21:Int.bmod (a2*b1) 18446744073709551616=a2*b1:=bm zO zO;have t0:Int.bmod (a1*b2 - a2*b1) 18446744073709551616=a1*b2 - a2*b1:=bm zO zO;have t1:Int.bmod (a2*b0 - a0*b2) 18446744073709551616=a2*b0 - a0*b2:=bm zO zO;have t2:Int.bmod (a0*b1 - a1*b0) 18446744073709551616=a0*b1 - a1*b0:=bm zO zO
 repeat' first|refine GWL_start ?_|refine GWL_step ?_|refine cT ?_|((first|refine gwR [106] ?_|refine gwD [106] ?_);intro Q hQ _;(repeat first|simp [hC,hY,s01,s02,s10,s12,s20,s21,t0,t1,t2]|refine aE (tN a0 a1 a2 b0 b1 b2 _ hv) G0F (B:=200) ⟨zS,ai,iY⟩ (λk=>if k=100 then 248 else k) (λk hk=>ae zO) aN zS km ai ax ?_);refine dq hQ ?_)|fail
 exact eR results73
theorem afo {a0 a1 a2 b0 b1 b2:Int} (hf:(fnI a0/\fnI a1/\fnI a2)/\fnI b0/\fnI b1/\fnI b2) (K:fQ):bl prog G0 73 #[.agg #[.int .i64 a0,.int .i64 a1,.int .i64 a2],.agg #[.int .i64 b0,.int .i64 b1,.int .i64 b2]] K↔K (.tuple #[.agg #[.int .i64 (a1*b2 - a2*b1),.int .i64 (a2*b0 - a0*b2),.int .i64 (a0*b1 - a1*b0)],.int .i64 0]):=ar G0W ah (Xc a0 a1 a2 b0 b1 b2 hf)
theorem agP (x0 x1 x2 v0 v1 v2:Int):Ret prog G0 71 #[.agg #[.int .i64 x0,.int .i64 x1,.int .i64 x2,.int .i64 v0,.int .i64 v1,.int .i64 v2]] (.agg #[.int .i64 v0,.int .i64 v1,.int .i64 v2]):=by
 refine aU G0F func71 rfl call71 zS zS (by simp [ntmps71]) ?_;intro C hC bA hY;refine iI ?_;exact eR results71
theorem asb (x0 x1 x2 v0 v1 v2:Int) (K:fQ):bl prog G0 71 #[.agg #[.int .i64 x0,.int .i64 x1,.int .i64 x2,.int .i64 v0,.int .i64 v1,.int .i64 v2]] K↔K (.agg #[.int .i64 v0,.int .i64 v1,.int .i64 v2]):=ar G0W ah (agP x0 x1 x2 v0 v1 v2)
theorem agN (x0 x1 x2 v0 v1 v2:Int) (hf:(fnI x0/\fnI x1/\fnI x2)/\fnI v0/\fnI v1/\fnI v2):Ret prog G0 72 #[.agg #[.int .i64 x0,.int .i64 x1,.int .i64 x2,.int .i64 v0,.int .i64 v1,.int .i64 v2]] (.agg #[.int .i64 (x1*v2 - x2*v1),.int .i64 (x2*v0 - x0*v2),.int .i64 (x0*v1 - x1*v0)]):=by
 refine aU G0F func72 rfl call72 zS zS (by simp [ntmps72]) ?_;intro C hC bA hY;have hc:=afo hf;refine cA hc ?_;exact eR results72
theorem ar9 {x0 x1 x2 v0 v1 v2:Int} (hf:(fnI x0/\fnI x1/\fnI x2)/\fnI v0/\fnI v1/\fnI v2) (K:fQ):bl prog G0 72 #[.agg #[.int .i64 x0,.int .i64 x1,.int .i64 x2,.int .i64 v0,.int .i64 v1,.int .i64 v2]] K↔K (.agg #[.int .i64 (x1*v2 - x2*v1),.int .i64 (x2*v0 - x0*v2),.int .i64 (x0*v1 - x1*v0)]):=ar G0W ah (agN x0 x1 x2 v0 v1 v2 hf)
theorem XP (a0 a1 a2 b0 b1 b2:Int) (h0:i64 (b0 - a0)) (h1:i64 (b1 - a1)) (h2:i64 (b2 - a2)):Ret prog G0 35 #[.agg #[.int .i64 a0,.int .i64 a1,.int .i64 a2],.agg #[.int .i64 b0,.int .i64 b1,.int .i64 b2]] (.agg #[.int .i64 (b0 - a0),.int .i64 (b1 - a1),.int .i64 (b2 - a2)]):=by
 refine aU G0F func35 rfl call35 zS zS (by simp [ntmps35]) ?_;intro C hC bA hY;have t0:Int.bmod (b0 - a0) 18446744073709551616=b0 - a0:=bm h0.1 h0.2;have t1:Int.bmod (b1 - a1) 18446744073709551616=b1 - a1:=bm h1.1 h1.2;have t2:Int.bmod (b2 - a2) 18446744073709551616=b2 - a2:=bm h2.1 h2.2;refine qv (k3 t0 t1 t2) ?_;exact eR results35
theorem agO {a0 a1 a2 b0 b1 b2:Int} (h0:i64 (b0 - a0)) (h1:i64 (b1 - a1)) (h2:i64 (b2 - a2)) (K:fQ):bl prog G0 35 #[.agg #[.int .i64 a0,.int .i64 a1,.int .i64 a2],.agg #[.int .i64 b0,.int .i64 b1,.int .i64 b2]] K↔K (.agg #[.int .i64 (b0 - a0),.int .i64 (b1 - a1),.int .i64 (b2 - a2)]):=ar G0W ah (XP a0 a1 a2 b0 b1 b2 h0 h1 h2)
theorem Xw (a b:Int):Ret prog G0 37 #[wd a,wd b] (wd (a - b)):=by
 refine aU G0F func37 rfl call37 zS zS (by simp [ntmps37]) ?_;intro C hC bA hY;refine iI ?_;exact eR results37
@[simp] theorem aAk (a b:Int) (K:fQ):bl prog G0 37 #[Value.agg #[.int .u64 (wi (a) 0),.int .u64 (wi (a) 1),.int .u64 (wi (a) 2),.int .u64 (wi (a) 3)],Value.agg #[.int .u64 (wi (b) 0),.int .u64 (wi (b) 1),.int .u64 (wi (b) 2),.int .u64 (wi (b) 3)]] K↔K (wd (a - b)):=ar G0W ah (Xw a b)
theorem Dv {p:Prop} (h:p:=by rw [szX,UE];unfold dv;split<;>(try split)<;>omega):p:=h
theorem QX {p:Prop} (h:p:=by
 intro k hk;simp;omega):p:=h
theorem HI {p:Prop} (h:p:=by
 rw [ae zD,ag trivial,Nf];refine ⟨i,cap,rest,?_,⟨aiN,eK,hlen,Qv⟩,by rw [hX];exact hle,by rw [hd];omega⟩;refine cB _ 256 hC G0F (m0:=[]) bA zO ?_ ?_ ?_
 ·exact nv
 ·simp [wb,A7 Qv]
 ·simp):p:=h
theorem GR {p:Prop} (h:p:=by
 clear g1 g2 g3 vw AP szX UE alD KJ;generalize a%(b*2^(n+1))=R at *
 generalize a / (b*2^(n+1))=q at *
 generalize b*2^n=X at *
 refine cA (k8 @wb.eq_1 bi fit rd i0 i1 zz e4) ?_;refine cB _ 400 hC G0F (m0:=[]) bA zO ?_ ?_ ?_
 ·exact nv
 ·simp [wb,A7 Qv]
 ·simp):p:=h
abbrev ke := @Nat.mul_comm
def JM (a b:Int) (i:Nat) (rest:List Value):Hp:=hpL G0 [(200,wb a),(208,wb b),(216,wb 0),(224,wb 0),(240,⟨(lc b (i+1)++rest).toArray,.ty 30⟩)]
def JN (i cap:Nat):Nat->Value:=tsL [(2,.pointer (some ⟨200,0,none⟩)),(3,.pointer (some ⟨208,0,none⟩)),(4,.pointer (some ⟨216,0,none⟩)),(5,.pointer (some ⟨224,0,none⟩)),(6,.slice (some ⟨240,0,none⟩) (i+1) cap)]
def plS (b:Int) (i cap:Nat) (rest:List Value):Prop:=i<=255/\i+1<=cap/\(lc b (i+1)++rest).length=4*cap/\∀ x∈rest,bU x=true
def plI (a b:Int) (N m:Nat) (s:GS):Prop:=∃ i cap rest,i+m=N/\s=⟨JN i cap,JM a b i rest,256,0⟩/\plS b i cap rest/\(0<i->b*2^i<=a)
def plJ (C:Ctx) (a b:Int) (s:GS):Prop:=∃ i cap rest,Weak C s ⟨JN i cap,JM a b i rest,256,0⟩/\plS b i cap rest/\(0<i->b*2^i<=a)/\a<b*2^(i+1)
def ac8 (a b:Int) (i cap:Nat) (rest:List Value) (j:Nat):GS :=
 ⟨tsL [(2,.pointer (some ⟨200,0,none⟩)),(3,.pointer (some ⟨208,0,none⟩)),(4,.pointer (some ⟨216,0,none⟩)),(5,.pointer (some ⟨224,0,none⟩)),(6,.slice (some ⟨240,0,none⟩) (i+1) cap),(9,.pointer (some ⟨256,0,none⟩)),(10,.int .i64 (i - j))],
 hpL G0 [(200,wb (a%(b*2^(i+1 - j)))),(208,wb b),(216,wb 0),(224,wb 0),(240,⟨(lc b (i+1)++rest).toArray,.ty 30⟩),(256,wb (a / (b*2^(i+1 - j))))],400,0⟩
theorem akm {b:Int} (kF:0<b) (i:Nat) (h:b*2^i<57896044618658097711785492504343953926634992332820282019728792003956564819968):i<255:=by
 refine bu λhc=>?_;have h1:(2:Int)^255<=2^i:=by exact_mod_cast ic zO (by omega:255<=i)
 have h2:(1:Int)*2^i<=b*2^i:=fE zO (bW (dV i));have h3:(2:Int)^255=57896044618658097711785492504343953926634992332820282019728792003956564819968:=rfl;omega
theorem aad (b:Int) (i:Nat):b*2^(i+1)=b*2^i+b*2^i:=by rw [iK,<-bD,bX,Int.two_mul]
theorem Po {z:Int} (h0:0<=z) (h1:z<57896044618658097711785492504343953926634992332820282019728792003956564819968):ng z=false:=by
 rw [mq,tD h0 h1];simp;exact h0
theorem acG {z:Int} (h0:57896044618658097711785492504343953926634992332820282019728792003956564819968<=z) (h1:z<115792089237316195423570985008687907853269984665640564039457584007913129639936):ng z=true:=by
 rw [mq];simp;unfold sz;rw [fe];split<;>omega
theorem Vl {x:Value} (h:x∈(Value.agg #[.int .u64 0,.int .u64 0,.int .u64 0,.int .u64 0]).cells):bU x=true:=by
 simp [Value.cells] at h;subst h;rfl
theorem A7 {b:Int} {k:Nat} {rest:List Value} {T:TypeId} {D:iH} (h:∀ x∈rest,bU x=true):(Blk.mk (lc b k++rest).toArray T).ids D:=λx hx=>by
 simp only [eZ,bh] at hx;rcases hx with hx|hx
 ·exact jm (M0 b k x hx)
 ·exact jm (h x hx)
theorem afA {a m:Int} (h0:0<=a) (hm:0<m):a%m<=a:=by
 have h1:=kR a m;have h2:=gN h0 (bW hm);have h3:=bK (bW hm) h2;omega
theorem O4 (b:Int) (i:Nat) (rest:List Value):(lc b (i+1)++rest).take ((i+1)*4)=lc b (i+1):=by
 rw [show (i+1)*4=(lc b (i+1)).length by simp;omega,List.take_left]
theorem agF {b Y:Int} (i:Nat) (rest:List Value) (h:b*2^(i+1)=Y):(lc b (i+1)++rest).take ((i+1)*4)++wl Y++(lc b (i+1)++rest).drop ((i+1)*4+(wl Y).length)=lc b (i+2)++rest.drop 4:=by
 rw [O4,anD,show (i+1)*4+4=(lc b (i+1)).length+4 by simp;omega,List.drop_append];simp only [Nat.add_sub_cancel_left];rw [rU zO,bq,<-h]
 rfl
theorem agE {b Y:Int} (i:Nat) (rest tl:List Value) (h:b*2^(i+1)=Y):(lc b (i+1)++rest).take ((i+1)*4)++wl Y++tl=lc b (i+2)++tl:=by
 rw [O4,<-h];rfl
theorem ab7 {b:Int} {k:Nat} {rest:List Value} {T:TypeId} {ρ:dR} (h:∀ x∈rest,bU x=true):(Blk.mk (lc b k++rest).toArray T).rn ρ=⟨(lc b k++rest).toArray,T⟩:=by
 unfold Blk.rn;rw [fi];intro x hx;simp only [eZ,bh] at hx;rcases hx with hx|hx
 ·exact fY (M0 b k x hx)
 ·exact fY (h x hx)
theorem ajP (a b c d:Int) (T:TypeId) (ρ:dR):(Blk.mk #[.int .u64 a,.int .u64 b,.int .u64 c,.int .u64 d] T).rn ρ=⟨#[.int .u64 a,.int .u64 b,.int .u64 c,.int .u64 d],T⟩:=km
theorem ahm (a b:Int) (ha:wr a) (h0:0<=a) (hb:wr b) (kF:0<b):Ret prog G0 183 #[wd a,wd b] (.tuple #[wd (a / b),wd (a%b)]):=by
 refine aU G0F func183 rfl call183 zS zS (by simp [ntmps183]) ?_;intro C hC bA hY;refine iI ?_;refine aeS (plJ C a b) ?_ ?_
 ·refine jL (plI a b 255) (m0:=255) (s0:=⟨JN 0 1,JM a b 0 [],256,0⟩) ?_ ⟨0,1,[],zO,rfl,⟨zO,zO,rfl,zS⟩,zO⟩ ?_
  ·refine cB _ 256 hC G0F (m0:=[]) bA zO ?_ ?_ ?_
   ·exact lO
   ·simp [aM,aI,aP,wb,lc,wl,ct]
   ·simp
  ·rintro m _ ⟨i,cap,rest,zM,rfl,⟨aiN,eK,hlen,Qv⟩,hle⟩;have bi:Int.bmod (i:Int) 18446744073709551616=i:=bm zO zO;have fit:i*4+4<=4*(i+1)+rest.length:=zO
   have rd:List.take 4 (List.drop (i*4) (lc b (i+1)++rest))=[.int .u64 (wi (b*2^i) 0),.int .u64 (wi (b*2^i) 1),.int .u64 (wi (b*2^i) 2),.int .u64 (wi (b*2^i) 3)]:=by
    rw [ke];exact M5 b (i+1) i rest zO
   have i0:(0:Int)<=i:=zO;have i1:(i:Int)<i+1:=zO;have ef:=ha.2;have RA:=hb.2;have Y8:0<b*2^i:=iR kF (dV i)
   have Xr:b*2^i<57896044618658097711785492504343953926634992332820282019728792003956564819968:=by
    by_cases ma:i=0
    ·subst ma;simpa using RA
    ·exact fJ (hle zO) ef
   have QB:sz a=a:=gB ha;have hd:=aad b i;have n1:ng (b*2^i)=false:=Po (bW Y8) Xr;have az9:=akm kF i Xr;generalize hX:b*2^i=X at *
   by_cases AQ:X+X<57896044618658097711785492504343953926634992332820282019728792003956564819968
   ·have n2:ng (X+X)=false:=Po zO AQ;have szd:sz (X+X)=X+X:=tD zO AQ;by_cases aq8:X+X<=a
    ·have zz:¬0<dv (sz (X+X)) (sz a):=by rw [szd,QB];unfold dv;split<;>(try split)<;>omega
     unfold JN JM;refine cA (k9 @wb.eq_1 bi fit rd i0 i1 n1 n2 zz) ?_;refine ajX 3 rfl [] rfl ah ?_;intro q hq;simp [hC,hY];refine U4 (c:=lc b (i+1)++rest) (c2:=wl (X+X)) (k:=240) (j:=480) (m:=1) (m':=1) (sl:=i+1) (cap:=cap) (e:=30) (T2:=.ty 30) (sz:=4) (o9:=32) (z:=.agg #[.int .u64 0,.int .u64 0,.int .u64 0,.int .u64 0]) rfl zS zS zS ah zS zO zS ?_ zS (by simp [wl]) ?_ ?_ ?_ ?_ ?_ ?_ ?_ ?_ ?_ ?_
     ·exact λx hx=>(bh.1 hx).elim (M0 b _ x) (Qv x)
     ·simp [wl]
     ·simp [wl,Value.oneCell']
     ·exact λq x hx=>Vl (yW hx)
     ·simp
     ·rw [hlen];omega
     ·exact eK
     ·unfold maxLen;omega
     ·omega
     ·intro hr;rw [agF i rest hd];simp [ae4,cJ];refine hq _ _ _ _ ?_;simp only [oH,kB];refine ⟨_,_,m - 1,mC (λk=>k) _ 256 hC G0F (m0:=[]) bA zO ?_ ?_ ?_ ?_ ?_,⟨i+1,cap,rest.drop 4,zO,rfl,⟨zO,hr,?_,λx hx=>Qv x (mJ hx)⟩,λ_=>by rw [hd];exact aq8⟩,zO⟩
      ·simp [dom,fP,ren,aW,aw,aF]
      ·simp [ajP,ab7 (λx hx=>Qv x (mJ hx):∀ x∈rest.drop 4,bU x=true),A7 (λx hx=>Qv x (mJ hx):∀ x∈rest.drop 4,bU x=true),wb]
      ·simp
      ·exact λk _=>rfl
      ·simp
      ·simp at hlen |-;omega
     ·intro hr cM qX;rw [agE i rest _ hd];have hzl:(Builtin.zeroCells (Value.agg #[.int .u64 0,.int .u64 0,.int .u64 0,.int .u64 0]).cells (cM - (i+1+1))).toList.length=(cM - (i+1+1))*4:=by simp [Io,Value.cells]
      have vr:∀ x∈(Builtin.zeroCells (Value.agg #[.int .u64 0,.int .u64 0,.int .u64 0,.int .u64 0]).cells (cM - (i+1+1))).toList,bU x=true:=λx hx=>Vl (yW cG);generalize (Builtin.zeroCells (Value.agg #[.int .u64 0,.int .u64 0,.int .u64 0,.int .u64 0]).cells (cM - (i+1+1))).toList=tl at *
      simp [ae4,cJ];refine hq _ _ _ _ ?_;simp only [oH,kB];refine ⟨_,_,m - 1,mC (λk=>if k=240 then 488 else k) _ 256 hC G0F (m0:=[]) bA zO ?_ ?_ ?_ ?_ ?_,⟨i+1,cM,tl,zO,rfl,⟨zO,qX,?_,vr⟩,λ_=>by rw [hd];exact aq8⟩,zO⟩
      ·simp [dom,fP,ren,aW,aw,aF]
      ·simp [ajP,ab7 vr,A7 vr,wb]
      ·simp
      ·exact QX
      ·simp
      ·simp [hzl];omega
    ·have zz:0<dv (sz (X+X)) (sz a):=by rw [szd,QB];unfold dv;split<;>(try split)<;>omega
     unfold JN JM;refine cA (k9 @wb.eq_1 bi fit rd i0 i1 n1 n2 zz) ?_;exact HI
   ·have n2:ng (X+X)=true:=acG zO zO;unfold JN JM;refine cA (k7 bi fit rd i0 i1 n1 n2) ?_;exact HI
 ·rintro s' ⟨i,cap,rest,hw,⟨aiN,eK,hlen,Qv⟩,hle,dp⟩;refine H0 hw ?_;clear hw;have bi:Int.bmod (i:Int) 18446744073709551616=i:=bm zO zO;have ef:=ha.2;have RA:=hb.2;have QB:sz a=a:=gB ha;have alD:=bP h0 dp;have KJ:=dU h0 dp;unfold JN JM;refine cA (k2 @wb.eq_1 bi) ?_;refine fD (i+1) (ac8 a b i cap rest) ?_ ?_ ?_
  ·refine cB _ 400 hC G0F (m0:=[]) bA zO ?_ ?_ ?_
   ·exact nv
   ·simp [wb,A7 Qv,alD,KJ,ct]
   ·simp
  ·intro j hj;obtain ⟨n,hn⟩:∃ n:Nat,n+j=i:=⟨i - j,zO⟩
   have e1:i+1 - j=n+1:=zO;have e2:i+1 - (j+1)=n:=zO;have e3:(i:Int) - (j:Int)=n:=zO;have e4:Int.bmod ((n:Int) - 1) 18446744073709551616=(i:Int) - ((j+1:Nat):Int):=pF;have Y8:0<b*2^n:=iR kF (dV n)
   have Xr:b*2^n<57896044618658097711785492504343953926634992332820282019728792003956564819968:=by
    by_cases ma:i=0
    ·obtain rfl:n=0:=zO;simpa using RA
    ·have h2:(2:Int)^n<=2^i:=by exact_mod_cast ic zO (by omega:n<=i)
     exact fJ (cC (fg h2 (bW kF)) (hle zO)) ef
   have fit:n*4+4<=4*(i+1)+rest.length:=zO
   have rd:List.take 4 (List.drop (n*4) (lc b (i+1)++rest))=[.int .u64 (wi (b*2^n) 0),.int .u64 (wi (b*2^n) 1),.int .u64 (wi (b*2^n) 2),.int .u64 (wi (b*2^n) 3)]:=by
    rw [ke];exact M5 b (i+1) n rest zO
   have i0:(0:Int)<=n:=zO;have i1:(n:Int)<i+1:=zO;have vw:=bM a (show b*2^(n+1)≠0 by have:=iR kF (dV (n+1));omega);have AP:a%(b*2^(n+1))<=a:=afA h0 (iR kF (dV (n+1)));have hh:=aqz (a:=a) kF n;unfold ac8;rw [e1,e2,e3];have szX:sz (b*2^n)=b*2^n:=tD (bW Y8) Xr;have UE:sz (a%(b*2^(n+1)))=a%(b*2^(n+1)):=tD vw (fJ AP ef);rcases hh with ⟨g1,g2,g3⟩|⟨g1,g2,g3⟩
   ·rw [g2,g3,Int.two_mul];have zz:¬dv (sz (b*2^n)) (sz (a%(b*2^(n+1))))<=0:=Dv;exact GR
   ·rw [g2,g3,Int.two_mul];have zz:dv (sz (b*2^n)) (sz (a%(b*2^(n+1))))<=0:=Dv;exact GR
  ·have e1:i+1 - (i+1)=0:=zO;have e3:¬(0:Int)<=(i:Int) - ((i+1:Nat):Int):=zO;unfold ac8;rw [e1,rS,kX];generalize (i:Int) - ((i+1:Nat):Int)=z at *
   refine cA (k2 @wb.eq_1 e3) ?_;exact eR results183
theorem DC {p:Prop} (h:p:=by rw [gB hB];unfold dv;split<;>(try split)<;>omega):p:=h
@[simp] theorem avk (a b:Int) (ha:wr a) (h0:0<=a) (hB:wr b) (kF:0<b) (K:fQ):bl prog G0 183 #[Value.agg #[.int .u64 (wi (a) 0),.int .u64 (wi (a) 1),.int .u64 (wi (a) 2),.int .u64 (wi (a) 3)],Value.agg #[.int .u64 (wi (b) 0),.int .u64 (wi (b) 1),.int .u64 (wi (b) 2),.int .u64 (wi (b) 3)]] K↔K (.tuple #[wd (a / b),wd (a%b)]):=ar G0W ah (ahm a b ha h0 hB kF)
theorem WX (a b:Int) (ha:wr a) (h0:0<=a) (hB:wr b) (kF:0<b):Ret prog G0 172 #[wd a,wd b] (.tuple #[wd (a / b),wd (a%b)]):=by
 refine aU G0F func172 rfl call172 zS zS (by simp [ntmps172]) ?_;intro C hC bA hY;have s1:0<=dv (sz a) 0:=lE;refine cA (k5 s1 ha h0 hB kF) ?_;exact eR results172
@[simp] theorem ahs (a b:Int) (ha:wr a) (h0:0<=a) (hB:wr b) (kF:0<b) (K:fQ):bl prog G0 172 #[Value.agg #[.int .u64 (wi (a) 0),.int .u64 (wi (a) 1),.int .u64 (wi (a) 2),.int .u64 (wi (a) 3)],Value.agg #[.int .u64 (wi (b) 0),.int .u64 (wi (b) 1),.int .u64 (wi (b) 2),.int .u64 (wi (b) 3)]] K↔K (.tuple #[wd (a / b),wd (a%b)]):=ar G0W ah (WX a b ha h0 hB kF)
theorem uA {p q r s:Bool} (h:(!p||(!q||(!r||!s)))=true):(p&&(q&&(r&&s)))=false:=by cases p<;>cases q<;>cases r<;>cases s<;>simp_all
theorem Th (a b:Int) (ha:wr a) (h0:0<=a) (hB:wr b) (kF:0<b):Ret prog G0 154 #[wd a,wd b] (.tuple #[wd (a / b),wd (a%b),.int .i64 0]):=by
 refine aU G0F func154 rfl call154 zS zS (by simp [ntmps154]) ?_;intro C hC bA hY;have s1:0<dv (sz b) 0:=DC;have z1:=uA (L5 hB zO);have l1:=uA <| pg a ha (λe=>by rw [e] at h0;exact absurd h0 zD);have l2:=uA <| pg b hB (λe=>by rw [e] at kF;exact absurd kF zD);refine cA (k8 s1 ha h0 hB kF z1 l1 l2) ?_;exact eR results154
@[simp] theorem avi (a b:Int) (ha:wr a) (h0:0<=a) (hB:wr b) (kF:0<b) (K:fQ):bl prog G0 154 #[Value.agg #[.int .u64 (wi (a) 0),.int .u64 (wi (a) 1),.int .u64 (wi (a) 2),.int .u64 (wi (a) 3)],Value.agg #[.int .u64 (wi (b) 0),.int .u64 (wi (b) 1),.int .u64 (wi (b) 2),.int .u64 (wi (b) 3)]] K↔K (.tuple #[wd (a / b),wd (a%b),.int .i64 0]):=ar G0W ah (Th a b ha h0 hB kF)
theorem Sx (a b:Int) (ha:wr a) (h0:0<=a) (hB:wr b) (kF:0<b):Ret prog G0 134 #[wd a,wd b] (.tuple #[wd (a / b),.int .i64 0]):=by
 refine aU G0F func134 rfl call134 zS zS (by simp [ntmps134]) ?_;intro C hC bA hY;refine cA (k4 ha h0 hB kF) ?_;exact eR results134
@[simp] theorem avh (a b:Int) (ha:wr a) (h0:0<=a) (hB:wr b) (kF:0<b) (K:fQ):bl prog G0 134 #[Value.agg #[.int .u64 (wi (a) 0),.int .u64 (wi (a) 1),.int .u64 (wi (a) 2),.int .u64 (wi (a) 3)],Value.agg #[.int .u64 (wi (b) 0),.int .u64 (wi (b) 1),.int .u64 (wi (b) 2),.int .u64 (wi (b) 3)]] K↔K (.tuple #[wd (a / b),.int .i64 0]):=ar G0W ah (Sx a b ha h0 hB kF)
theorem DK {p:Prop} (h:p:=by rw [hB.sz];unfold dv;split<;>(try split)<;>omega):p:=h
theorem agY (m b:Int) (hb:0<b):(-(m+1)) / b=-(m / b) - 1/\(-(m+1))%b=b - 1 - m%b:=by
 have h1:=kR m b;have h2:=bM m (zO:b≠0);have h3:=bQ m hb;generalize m%b=r at *
 generalize m / b=q at *
 subst h1;have e:-(b*q+r+1)=b*(-q - 1)+(b - 1 - r):=by rw [kU,jo,kX];omega
 rw [e];constructor
 ·rw [lf _ _ zO,dU zO zO,mO]
 ·rw [vE,bP zO zO]
theorem WW (a b:Int) (ha:sm a) (h0:a<0) (hB:sm b) (kF:0<b):Ret prog G0 172 #[wd a,wd b] (.tuple #[wd (a / b),wd (a%b)]):=by
 refine aU G0F func172 rfl call172 zS zS (by simp [ntmps172]) ?_;intro C hC bA hY;have s1:¬0<=dv (sz a) 0:=by rw [gB ha.wr];unfold dv;split<;>(try split)<;>omega
 obtain ⟨m,hm⟩:∃ m,a=-(m+1):=⟨-a - 1,zO⟩
 obtain ⟨e1,e2⟩:=agY m b kF;rw [hm,e1,e2];have vw:0<=m:=zO;have rX:wr m:=⟨cC zD vw,by have:=ha.1;unfold sm at *;omega⟩
 have hBw:=hB.wr;have e3:- -(m+1) - 1=m:=zO;rw [hm] at s1;refine cA (k6 s1 e3 rX vw hBw kF) ?_;exact eR results172
@[simp] theorem Yc (a b:Int) (ha:sm a) (h0:a<0) (hB:sm b) (kF:0<b) (K:fQ):bl prog G0 172 #[Value.agg #[.int .u64 (wi (a) 0),.int .u64 (wi (a) 1),.int .u64 (wi (a) 2),.int .u64 (wi (a) 3)],Value.agg #[.int .u64 (wi (b) 0),.int .u64 (wi (b) 1),.int .u64 (wi (b) 2),.int .u64 (wi (b) 3)]] K↔K (.tuple #[wd (a / b),wd (a%b)]):=ar G0W ah (WW a b ha h0 hB kF)
theorem WV (a b:Int) (ha:sm a) (hB:sm b) (kF:0<b) (K:fQ):bl prog G0 172 #[Value.agg #[.int .u64 (wi (a) 0),.int .u64 (wi (a) 1),.int .u64 (wi (a) 2),.int .u64 (wi (a) 3)],Value.agg #[.int .u64 (wi (b) 0),.int .u64 (wi (b) 1),.int .u64 (wi (b) 2),.int .u64 (wi (b) 3)]] K↔K (.tuple #[wd (a / b),wd (a%b)]):=by
 by_cases h0:a<0
 ·exact Yc a b ha h0 hB kF K
 ·exact ahs a b ha.wr zO hB.wr kF K
theorem Ok (a b:Int) (ha:sm a) (hB:sm b) (kF:0<b):Ret prog G0 154 #[wd a,wd b] (.tuple #[wd (a / b),wd (a%b),.int .i64 0]):=by
 refine aU G0F func154 rfl call154 zS zS (by simp [ntmps154]) ?_;intro C hC bA hY;have s1:0<dv (sz b) 0:=DK;have z1:=uA (L5 hB.wr zO);have l1:=uA <| pg a ha.wr ha.lst;have l2:=uA <| pg b hB.wr hB.lst;refine cA (k8 s1 ha hB kF z1 l1 l2 @WV) ?_;exact eR results154
theorem adm (a b:Int) (ha:sm a) (hB:sm b) (kF:0<b) (K:fQ):bl prog G0 154 #[Value.agg #[.int .u64 (wi (a) 0),.int .u64 (wi (a) 1),.int .u64 (wi (a) 2),.int .u64 (wi (a) 3)],Value.agg #[.int .u64 (wi (b) 0),.int .u64 (wi (b) 1),.int .u64 (wi (b) 2),.int .u64 (wi (b) 3)]] K↔K (.tuple #[wd (a / b),wd (a%b),.int .i64 0]):=ar G0W ah (Ok a b ha hB kF)
theorem XT (a b:Int) (ha:sm a) (hB:sm b) (h0:0<b):Ret prog G0 211 #[wd a,wd b] (.tuple #[wd (fC a b),.int .i64 0]):=by
 refine aU G0F func211 rfl call211 zS zS (by simp [ntmps211]) ?_;intro C hC bA hY;have hq:=ank ha h0;have r0:=bM a (zO:b≠0);have r1:=bQ a h0;have hr:sm (a%b):=⟨cC zD r0,cC (bW r1) hB.2⟩
 have QS:sm (b - a%b):=⟨cC zD (zO:0<=b - a%b),cC (zO:b - a%b<=b) hB.2⟩
 have s1:=hr.sz;have s2:=QS.sz;have s3:¬dv (sz b) 0<0:=DK;have s4:=hq.sz;have nq:fC a b=if b<2*(a%b)\/(2*(a%b)=b/\0<=a / b) then a / b+1 else a / b:=rfl
 have AM:=adm a b ha hB h0;rw [nq];generalize a%b=r at *
 generalize a / b=q at *
 clear nq;by_cases c1:b<2*r
 ·have hc:dv r (b - r)=1:=Xa zO;rw [ag (.inl c1)];refine cA (k6 AM s1 s2 s3 s4 hc) ?_;exact eR results211
 ·by_cases c2:2*r=b
  ·have hc:dv r (b - r)=0:=by rw [(zO:b - r=r)];exact Xb r
   by_cases c3:0<=q
   ·have hs:0<=dv q 0:=by unfold dv;split<;>(try split)<;>omega
    rw [ag (.inr ⟨c2,c3⟩)];refine cA (k7 AM s1 s2 s3 s4 hc hs) ?_;exact eR results211
   ·have hs:¬0<=dv q 0:=by unfold dv;split<;>(try split)<;>omega
    rw [ae zO];refine cA (k7 AM s1 s2 s3 s4 hc hs) ?_;exact eR results211
  ·have hc:dv r (b - r)=-1:=W9 zO;rw [ae zO];refine cA (k6 AM s1 s2 s3 s4 hc) ?_;exact eR results211
@[simp] theorem ayG (a b:Int) (ha:sm a) (hB:sm b) (h0:0<b) (K:fQ):bl prog G0 211 #[Value.agg #[.int .u64 (wi (a) 0),.int .u64 (wi (a) 1),.int .u64 (wi (a) 2),.int .u64 (wi (a) 3)],Value.agg #[.int .u64 (wi (b) 0),.int .u64 (wi (b) 1),.int .u64 (wi (b) 2),.int .u64 (wi (b) 3)]] K↔K (.tuple #[wd (fC a b),.int .i64 0]):=ar G0W ah (XT a b ha hB h0)
theorem XF (a b c:Int) (ha:i64 a) (hB:i64 b) (hc:i64 c) (RX:sm (a*b)) (h0:0<c) (hq:i64 (fC (a*b) c)):Ret prog G0 205 #[.int .i64 a,.int .i64 b,.int .i64 c] (.tuple #[.int .i64 (fC (a*b) c),.int .i64 0]):=by
 refine aU G0F func205 rfl call205 zS zS (by simp [ntmps205]) ?_;intro C hC bA hY;have s1:=ha.sm.sz;have s2:=hB.sm.sz;have s3:=hq.sm.sz;have AK:=hc.sm;refine cA (CT ha hB hc RX h0 hq s1 s2 s3 AK) ?_;exact eR results205
@[simp] theorem ayF (a b c:Int) (ha:i64 a) (hB:i64 b) (hc:i64 c) (RX:sm (a*b)) (h0:0<c) (hq:i64 (fC (a*b) c)) (K:fQ):bl prog G0 205 #[.int .i64 a,.int .i64 b,.int .i64 c] K↔K (.tuple #[.int .i64 (fC (a*b) c),.int .i64 0]):=ar G0W ah (XF a b c ha hB hc RX h0 hq)
abbrev gF := @of_decide_eq_true
def iC (n d:Int):Bool:=decide (-2097152<=n/\n<=2097152/\1<=d/\d<=2097152)
theorem T5 (n d:Int):Ret prog G0 187 #[.int .i64 n,.int .i64 d] (.bool (iC n d)):=by
 refine aU G0F func187 rfl call187 rfl zS (by simp [ntmps187]) ?_;intro C hC bA hY;by_cases c0:-2097152<=n
 ·by_cases c1:n<=2097152
  ·by_cases c2:1<=d
   ·have ep:iC n d=decide (d<=2097152):=by unfold iC;congr 1;simp only [jv];omega
    rw [ep];refine cA (k3 c0 c1 c2) ?_;exact eR results187
   ·have ep:iC n d=false:=by unfold iC;simp only [decide_eq_false_iff_not];omega
    rw [ep];refine cA (k3 c0 c1 c2) ?_;exact eR results187
  ·have ep:iC n d=false:=by unfold iC;simp only [decide_eq_false_iff_not];omega
   rw [ep];refine cA (k2 c0 c1) ?_;exact eR results187
 ·have ep:iC n d=false:=by unfold iC;simp only [decide_eq_false_iff_not];omega
  rw [ep];refine cA c0 ?_;exact eR results187
@[simp] theorem at3 (n d:Int) (K:fQ):bl prog G0 187 #[.int .i64 n,.int .i64 d] K↔K (.bool (iC n d)):=ar G0W ah (T5 n d)
def d1E (v n d:Int):Int:=if iC n d=true/\-1073741824<=v/\v<=1073741824 then 0 else 2
def d1V (v n d:Int):Int:=if iC n d=true/\-1073741824<=v/\v<=1073741824 then fC (v*n) d else 0
theorem Ih {n d:Int} (h:iC n d=true):-2097152<=n/\n<=2097152/\1<=d/\d<=2097152:=by unfold iC at h;exact gF h
theorem aeZ {a b p q:Int} (h1:-p<=a) (h2:a<=p) (h3:-q<=b) (h4:b<=q):-(p*q)<=a*b/\a*b<=p*q:=by
 have hp:0<=p:=zO;have hq:0<=q:=zO;have e1:0<=(p - a)*(q+b):=bK zO zO;have e2:0<=(p+a)*(q - b):=bK zO zO;have e3:0<=(p - a)*(q - b):=bK zO zO;have e4:0<=(p+a)*(q+b):=bK zO zO;simp only [Int.sub_mul,eF,kU,dH] at e1 e2 e3 e4;generalize p*q=u at *
 generalize a*b=w at *
 generalize p*b=x at *
 generalize a*q=y at *
 omega
theorem Z9 {v n d:Int} (h:iC n d=true) (h1:-1073741824<=v) (h2:v<=1073741824):(-2251799813685248<=v*n/\v*n<=2251799813685248)/\(-2251799813685248<=fC (v*n) d/\fC (v*n) d<=2251799813685248):=by
 obtain ⟨p1,p2,p3,p4⟩:=Ih h;have hm:=aeZ (p:=1073741824) (q:=2097152) h1 h2 p1 p2;exact ⟨hm,acB zO hm.1 hm.2 zD⟩
theorem abO {z:Int} (h:-2251799813685248<=z/\z<=2251799813685248):i64 z:=⟨zO,zO⟩
theorem as7 {z:Int} (h:-2251799813685248<=z/\z<=2251799813685248):sm z:=(abO h).sm
theorem Z8 (v n d:Int) (hv:i64 v) (hn:i64 n) (hd:i64 d):Ret prog G0 199 #[.int .i64 v,.int .i64 n,.int .i64 d] (.tuple #[.int .i64 (d1V v n d),.int .i64 (d1E v n d)]):=by
 refine aU G0F func199 rfl call199 zS zS (by simp [ntmps199]) ?_;intro C hC bA hY
 cases hp:iC n d with
 | false =>
  have e1:d1E v n d=2:=by unfold d1E;rw [ae (by simp [hp])]
  have e2:d1V v n d=0:=by unfold d1V;rw [ae (by simp [hp])]
  rw [e1,e2];refine cA (k2 hn hp) ?_;exact eR results199
 | true =>
  by_cases c1:v < -1073741824
  ·have e1:d1E v n d=2:=by unfold d1E;rw [ae zO]
   have e2:d1V v n d=0:=by unfold d1V;rw [ae zO]
   rw [e1,e2];refine cA (k3 hn hp c1) ?_;exact eR results199
  ·by_cases c2:1073741824<v
   ·have e1:d1E v n d=2:=by unfold d1E;rw [ae zO]
    have e2:d1V v n d=0:=by unfold d1V;rw [ae zO]
    rw [e1,e2];refine cA (k4 hn hp c1 c2) ?_;exact eR results199
   ·have e1:d1E v n d=0:=by unfold d1E;rw [ag ⟨hp,zO,zO⟩]
    have e2:d1V v n d=fC (n*v) d:=by unfold d1V;rw [ag ⟨hp,zO,zO⟩,bX]
    rw [e1,e2];have b:=Z9 (v:=v) hp zO zO;rw [bX] at b;have s1:=as7 b.1;have s2:=abO b.2;have d0:0<d:=by have:=Ih hp;omega
    refine cA (k9 hn hv hd hp c1 c2 s1 s2 d0) ?_;exact eR results199
@[simp] theorem azC (v n d:Int) (hv:i64 v) (hn:i64 n) (hd:i64 d) (K:fQ):bl prog G0 199 #[.int .i64 v,.int .i64 n,.int .i64 d] K↔K (.tuple #[.int .i64 (d1V v n d),.int .i64 (d1E v n d)]):=ar G0W ah (Z8 v n d hv hn hd)
theorem kg {p:Prop} (h:p:=by unfold inW;omega):p:=h
theorem Fz {p:Prop} (h:p:=by
 have e:=ad8 (v2:=v2) c0 c1;rw [e,c2];refine qv (k8 h0 h1 h2 hn hd c0 c1 c2) ?_;exact eR (k2 results188 @eaV.eq_1)):p:=h
theorem EF {p:Prop} (h:p:=by
 rw [e];refine qv (k8 q Zb a0 b0 a1 b1 a2 b2) ?_;exact eR results131):p:=h
abbrev mP := @Classical.em
abbrev bg := @decide_eq_true
def wyE (v0 v1 v2 n d:Int):Int:=if d1E v0 n d=0 then (if d1E v1 n d=0 then d1E v2 n d else d1E v1 n d) else d1E v0 n d
theorem S4 (v n d:Int):d1E v n d=0\/d1E v n d=2:=by unfold d1E;split<;>simp
theorem atJ {v0 v1 v2 n d:Int} (h0:d1E v0 n d=2):wyE v0 v1 v2 n d=2:=by unfold wyE;rw [ae zO];exact h0
theorem atK {v0 v1 v2 n d:Int} (h0:d1E v0 n d=0) (h1:d1E v1 n d=2):wyE v0 v1 v2 n d=2:=by unfold wyE;rw [ag h0,ae zO];exact h1
theorem ad8 {v0 v1 v2 n d:Int} (h0:d1E v0 n d=0) (h1:d1E v1 n d=0):wyE v0 v1 v2 n d=d1E v2 n d:=by unfold wyE;rw [ag h0,ag h1]
theorem YQ (v0 v1 v2 n d:Int) (h0:i64 v0) (h1:i64 v1) (h2:i64 v2) (hn:i64 n) (hd:i64 d):Ret prog G0 188 #[.agg #[.int .i64 v0,.int .i64 v1,.int .i64 v2],.int .i64 n,.int .i64 d]
  (.tuple #[.agg #[.int .i64 (eaV (wyE v0 v1 v2 n d) (d1V v0 n d)),.int .i64 (eaV (wyE v0 v1 v2 n d) (d1V v1 n d)),.int .i64 (eaV (wyE v0 v1 v2 n d) (d1V v2 n d))],.int .i64 (wyE v0 v1 v2 n d)]):=by
 refine aU G0F func188 rfl call188 zS zS (by simp [ntmps188]) ?_;intro C hC bA hY;rcases S4 v0 n d with c0|c0
 ·rcases S4 v1 n d with c1|c1
  ·rcases S4 v2 n d with c2|c2
   ·exact Fz
   ·exact Fz
  ·have e:=atK (v2:=v2) c0 c1;rw [e];refine qv (k7 h0 h1 h2 hn hd c0 c1) ?_;exact eR (k2 results188 @eaV.eq_1)
 ·have e:=atJ (v1:=v1) (v2:=v2) c0;rw [e];refine qv (k6 h0 h1 h2 hn hd c0) ?_;exact eR (k2 results188 @eaV.eq_1)
@[simp] theorem av9 (v0 v1 v2 n d:Int) (h0:i64 v0) (h1:i64 v1) (h2:i64 v2) (hn:i64 n) (hd:i64 d) (K:fQ):bl prog G0 188 #[.agg #[.int .i64 v0,.int .i64 v1,.int .i64 v2],.int .i64 n,.int .i64 d] K ↔
  K (.tuple #[.agg #[.int .i64 (eaV (wyE v0 v1 v2 n d) (d1V v0 n d)),.int .i64 (eaV (wyE v0 v1 v2 n d) (d1V v1 n d)),.int .i64 (eaV (wyE v0 v1 v2 n d) (d1V v2 n d))],.int .i64 (wyE v0 v1 v2 n d)]):=ar G0W ah (YQ v0 v1 v2 n d h0 h1 h2 hn hd)
theorem Qj (x0 x1 x2 m:Int) (hm:i64 m):Ret prog G0 131 #[.agg #[.int .i64 x0,.int .i64 x1,.int .i64 x2],.int .i64 m] (.bool (decide (inW m x0/\inW m x1/\inW m x2))):=by
 refine aU G0F func131 rfl call131 rfl zS (by simp [ntmps131]) ?_;intro C hC bA hY;by_cases q:m<0
 ·have e:decide (inW m x0/\inW m x1/\inW m x2)=false:=aR kg;rw [e];refine qv q ?_;exact eR results131
 ·have Zb:=Nb hm (dG.1 q);rcases mP (m<x0) with a0|a0
  ·have e:decide (inW m x0/\inW m x1/\inW m x2)=false:=aR kg;rw [e];refine qv (k3 q Zb a0) ?_;exact eR results131
  rcases mP (x0 < -m) with b0|b0
  ·have e:decide (inW m x0/\inW m x1/\inW m x2)=false:=aR kg;rw [e];refine qv (k4 q Zb a0 b0) ?_;exact eR results131
  rcases mP (m<x1) with a1|a1
  ·have e:decide (inW m x0/\inW m x1/\inW m x2)=false:=aR kg;rw [e];refine qv (k5 q Zb a0 b0 a1) ?_;exact eR results131
  rcases mP (x1 < -m) with b1|b1
  ·have e:decide (inW m x0/\inW m x1/\inW m x2)=false:=aR kg;rw [e];refine qv (k6 q Zb a0 b0 a1 b1) ?_;exact eR results131
  rcases mP (m<x2) with a2|a2
  ·have e:decide (inW m x0/\inW m x1/\inW m x2)=false:=aR kg;rw [e];refine qv (k7 q Zb a0 b0 a1 b1 a2) ?_;exact eR results131
  rcases mP (x2 < -m) with b2|b2
  ·have e:decide (inW m x0/\inW m x1/\inW m x2)=false:=aR kg;exact EF
  have e:decide (inW m x0/\inW m x1/\inW m x2)=true:=bg kg;exact EF
@[simp] theorem avL (x0 x1 x2 m:Int) (hm:i64 m) (K:fQ):bl prog G0 131 #[.agg #[.int .i64 x0,.int .i64 x1,.int .i64 x2],.int .i64 m] K↔K (.bool (inV m x0 x1 x2)):=ar G0W ah (Qj x0 x1 x2 m hm)
theorem bZ {p:Prop} (h:p:=by simp [jb,aM,aI,aP]):p:=h
theorem sq {p:Prop} (h:p:=by simp [jb,Blk.rn,aw,aF]):p:=h
theorem xd {p:Prop} (h:p:=by simp [ak,ixL];rfl):p:=h
theorem nI {p:Prop} (h:p:=by unfold i64;omega):p:=h
theorem dx {p:Prop} (h:p:=by simp [hr]):p:=h
theorem D6 {p:Prop} (h:p:=by
 refine cA (Kx @jb.eq_1 Tq Zk h0 h1 h2 h3 h4 h5 c0 c1) ?_;refine ⟨.inr rfl,by simp [results161],fU G0F kq bO⟩):p:=h
theorem DZ {p:Prop} (h:p:=by
 refine ⟨.inr rfl,by simp [results178],fU G0F kq bO⟩):p:=h
theorem Et {p:Prop} (h:p:=by
 refine ⟨.inr rfl,by simp [results160],fU G0F kq bO⟩):p:=h
structure SB (b:Blk) (off n:Nat) (f:aJ):Prop where
 rd:rdI b off (6*n) f
 fx:b.fx
 i6:∀ j,j<6*n->i64 (f j)
 nn:n<=2932031007402
def inB (bx tp:Int) (f:aJ) (i:Nat):Bool:=inV bx (f (6*i)) (f (6*i+1)) (f (6*i+2))&&inV tp (f (6*i+3)) (f (6*i+4)) (f (6*i+5))
theorem SB.body {b:Blk} {off n:Nat} {f:aJ} (h:SB b off n f) {i:Nat} (hi:i<n):fB prog 72 b (off+i*6)=some (.agg #[.int .i64 (f (6*i)),.int .i64 (f (6*i+1)),.int .i64 (f (6*i+2)),.int .i64 (f (6*i+3)),.int .i64 (f (6*i+4)),.int .i64 (f (6*i+5))]):=by
 have Xs:=Blk.fx_rd h.fx;have:=tZ (P:=prog) (T:=72) (m:=6) (j:=6*i) (cr isAgg72) (aG sizeOf72) zO h.rd zO;rw [(zO:off+i*6=off+6*i),this,awe]
 rfl
theorem SB.i {b:Blk} {off n:Nat} {f:aJ} (h:SB b off n f) {i:Nat} (hi:i<n) (q:Nat) (hq:q<6):i64 (f (6*i+q)):=h.i6 _ zO
theorem Nz (bx tp x0 x1 x2 v0 v1 v2:Int) (Tq:i64 bx) (Zk:i64 tp) (h0:i64 x0) (h1:i64 x1) (h2:i64 x2) (h3:i64 v0) (h4:i64 v1) (h5:i64 v2) :
  Fun prog G0 161 #[.agg #[.int .i64 x0,.int .i64 x1,.int .i64 x2,.int .i64 v0,.int .i64 v1,.int .i64 v2],.pointer (some ⟨100,0,none⟩),.pointer (some ⟨108,0,none⟩)] (hpL G0 [(100,jb bx),(108,jb tp)]) (ak [(100,jb bx),(108,jb tp)]) (.ret (.bool !(inV bx x0 x1 x2&&inV tp v0 v1 v2)) []):=by
 refine cg (B:=200) G0F func161 rfl call161 ⟨zS,ai,bZ⟩ ?_ zS zS zS (by simp [ntmps161]) zO ?_
 ·exact RU
 intro C hC bA hY
 cases c0:inV bx x0 x1 x2 with
 | true =>
  cases c1:inV tp v0 v1 v2 with
  | true =>
   exact D6
  | false =>
   exact D6
 | false =>
  refine cA (CT @jb.eq_1 Tq Zk h0 h1 h2 h3 h4 h5 c0) ?_;refine ⟨.inr rfl,by simp [results161],fU G0F kq bO⟩
theorem Jp {m:Int} {ρ:dR}:(jb m).rn ρ=jb m:=sq
def agx (b:Blk) (off n cap:Nat) (bx tp:Int) (i:Nat):GS :=
 ⟨tsL [(0,.slice (some ⟨100,off,none⟩) n cap),(1,.func (.func 161) #[] #[.pointer (some ⟨108,0,none⟩),.pointer (some ⟨116,0,none⟩)]),(7,.int .i64 n),(8,.int .i64 i)],
 hpL G0 [(100,b),(108,jb bx),(116,jb tp)],300,0⟩
def ixL (b:Blk) (bx tp:Int):List (Nat×Blk):=[(100,b),(108,jb bx),(116,jb tp)]
theorem Jo {b:Blk} (hb:b.fx) (bx tp:Int):LOk (ixL b bx tp) 200:=⟨by simp [ixL],by simp [ixL,ak],by
 simp only [ixL,aj,az,ay,dc,bN];exact ⟨Blk.fx_ids hb _,bZ,bZ⟩⟩
theorem ab0 (b:Blk) (off n cap:Nat) (f:aJ) (h:SB b off n f) (bx tp:Int) (Tq:i64 bx) (Zk:i64 tp) (N:Nat) (hN:N<=n) (dp:∀ i,i<N->inB bx tp f i=true) (dk:N=n\/inB bx tp f N=false) :
  Fun prog G0 178 #[.slice (some ⟨100,off,none⟩) n cap,.func (.func 161) #[] #[.pointer (some ⟨108,0,none⟩),.pointer (some ⟨116,0,none⟩)]] (hpL G0 (ixL b bx tp)) (ak (ixL b bx tp)) (.ret (.int .i64 (if N=n then -1 else N)) []):=by
 refine cg (B:=200) G0F func178 rfl call178 (Jo h.fx bx tp) ?_ zS zS zS (by simp [ntmps178]) zO ?_
 ·simp [aL,cQ,aI,aP,ak,ixL]
 intro C hC bA hY;have Lk:=h.nn;unfold ixL;refine iI ?_;refine fD N (agx b off n cap bx tp) ?_ ?_ ?_
 ·refine cB _ 300 hC G0F (m0:=[(100,b),(108,jb bx),(116,jb tp)]) bA zO ?_ ?_ ?_
  ·exact lO
  ·have hi:=λD=>Blk.fx_ids h.fx D;simp [aM,aI,aP,jb,hi]
  ·simp
 ·intro i hi;have ew:i<n:=zO;have cS:(i:Int)<n:=zO;have hz:(0:Int)<=i:=zO;have hs:Int.bmod ((i:Int)+1) 18446744073709551616=((i+1:Nat):Int):=ee;have hld:=h.body ew;have hq:=dp i hi;unfold inB at hq;rw [bn] at hq;obtain ⟨q1,q2⟩:=hq;unfold agx
  repeat' first|refine cT ?_|((first|refine gwR [161] ?_|refine gwD [161] ?_);intro Q hQ _;(repeat first|simp [hC,hY,hi,cS,hz,hs,hld,q1,q2,jb]|refine aE (Nz bx tp _ _ _ _ _ _ Tq Zk (h.i ew 0 zO) (h.i ew 1 zO) (h.i ew 2 zO) (h.i ew 3 zO) (h.i ew 4 zO) (h.i ew 5 zO)) G0F (B:=200) ⟨zS,ai,bZ⟩ (λk=>if k=100 then 108 else if k=108 then 116 else k) (λk hk=>(ae zO).trans (ae zO)) aN zS sq ai ax ?_);refine dq hQ ?_)|fail
  refine cB _ 300 hC G0F (m0:=[(100,b),(108,jb bx),(116,jb tp)]) bA zO ?_ ?_ ?_
  ·exact QW
  ·have hi:=λD=>Blk.fx_ids h.fx D;simp [aM,aI,aP,jb,hi]
  ·exact kq
 ·by_cases tF:N=n
  ·subst tF;simp only [aV];unfold agx;refine iI ?_;exact eS results178
  ·have ew:N<n:=zO;have cS:(N:Int)<n:=zO;have hz:(0:Int)<=N:=zO;have hld:=h.body ew;have hq:=dk.resolve_left tF;unfold inB at hq;rw [ae tF];unfold agx
   cases q1:inV bx (f (6*N)) (f (6*N+1)) (f (6*N+2)) with
   | false =>
    repeat' first|refine cT ?_|((first|refine gwR [161] ?_|refine gwD [161] ?_);intro Q hQ _;(repeat first|simp [hC,hY,ew,cS,hz,hld,q1,jb]|refine aE (Nz bx tp _ _ _ _ _ _ Tq Zk (h.i ew 0 zO) (h.i ew 1 zO) (h.i ew 2 zO) (h.i ew 3 zO) (h.i ew 4 zO) (h.i ew 5 zO)) G0F (B:=200) ⟨zS,ai,bZ⟩ (λk=>if k=100 then 108 else if k=108 then 116 else k) (λk hk=>(ae zO).trans (ae zO)) aN zS sq ai ax ?_);refine dq hQ ?_)|fail
    exact DZ
   | true =>
    have q2:inV tp (f (6*N+3)) (f (6*N+4)) (f (6*N+5))=false:=by rw [q1] at hq;simpa using hq
    repeat' first|refine cT ?_|((first|refine gwR [161] ?_|refine gwD [161] ?_);intro Q hQ _;(repeat first|simp [hC,hY,ew,cS,hz,hld,q1,q2,jb]|refine aE (Nz bx tp _ _ _ _ _ _ Tq Zk (h.i ew 0 zO) (h.i ew 1 zO) (h.i ew 2 zO) (h.i ew 3 zO) (h.i ew 4 zO) (h.i ew 5 zO)) G0F (B:=200) ⟨zS,ai,bZ⟩ (λk=>if k=100 then 108 else if k=108 then 116 else k) (λk hk=>(ae zO).trans (ae zO)) aN zS sq ai ax ?_);refine dq hQ ?_)|fail
    exact DZ
def BK (bx tp:Int) (f:aJ) (n:Nat):Bool:=(List.range n).all (inB bx tp f)
theorem IB {bx tp:Int} {f:aJ} {n:Nat}:BK bx tp f n=true↔∀ i,i<n->inB bx tp f i=true:=by simp [BK]
theorem KX {bx tp:Int} {f:aJ} {n N:Nat} (hN:N<=n) (dp:∀ i,i<N->inB bx tp f i=true) (dk:N=n\/inB bx tp f N=false):BK bx tp f n=decide (N=n):=by
 by_cases h:N=n
 ·subst h;rw [bg rfl];exact IB.2 dp
 ·rw [aR h]
  cases hb:BK bx tp f n with
  | false=>rfl
  | true=>have:=IB.1 hb N zO;rw [dk.resolve_left h] at this;cases this
theorem Js (p:Nat->Bool) (m:Nat):∃ N,N<=m/\(∀ i,i<N->p i=true)/\(N=m\/p N=false):=by
 obtain ⟨N,h1,h2,h3⟩:=amh (λi=>p i=true) m;exact ⟨N,h1,h2,h3.imp id (λh=>jz)⟩
theorem akg (b:Blk) (off n cap:Nat) (f:aJ) (h:SB b off n f) (bx tp:Int) (Tq:i64 bx) (Zk:i64 tp) :
  Fun prog G0 160 #[.slice (some ⟨100,off,none⟩) n cap,.func (.func 161) #[] #[.pointer (some ⟨108,0,none⟩),.pointer (some ⟨116,0,none⟩)]] (hpL G0 (ixL b bx tp)) (ak (ixL b bx tp)) (.ret (.bool !(BK bx tp f n)) []):=by
 refine cg (B:=200) G0F func160 rfl call160 (Jo h.fx bx tp) ?_ zS zS zS (by simp [ntmps160]) zO ?_
 ·simp [aL,cQ,aI,aP,ak,ixL]
 intro C hC bA hY;obtain ⟨N,hN,dp,dk⟩:=Js (inB bx tp f) n;rw [KX hN dp dk];have hr:=λρ=>Blk.fx_rn h.fx ρ;unfold ixL;by_cases tF:N=n
 ·have aa4:(decide (N=n))=true:=bg tF;rw [aa4]
  repeat' first|refine cT ?_|((first|refine gwR [178] ?_|refine gwD [178] ?_);intro Q hQ _;(repeat first|simp [hC,hY,tF]|refine aE (ab0 b off n cap f h bx tp Tq Zk N hN dp dk) G0F (B:=200) (Jo h.fx bx tp) (λk=>k) (λk hk=>rfl) aN zS (by simp [ixL,jb,Blk.rn_id]) ai xd ?_);refine dq hQ ?_)|fail
  exact Et
 ·have aa4:(decide (N=n))=false:=aR tF;have hz:(0:Int)<=N:=zO;rw [aa4]
  repeat' first|refine cT ?_|((first|refine gwR [178] ?_|refine gwD [178] ?_);intro Q hQ _;(repeat first|simp [hC,hY,tF,hz]|refine aE (ab0 b off n cap f h bx tp Tq Zk N hN dp dk) G0F (B:=200) (Jo h.fx bx tp) (λk=>k) (λk hk=>rfl) aN zS (by simp [ixL,jb,Blk.rn_id]) ai xd ?_);refine dq hQ ?_)|fail
  exact Et
theorem aT {b:Blk} (hb:b.fx):LOk [(100,b)] 200:=⟨zS,ai,by
 simp only [br,bN];exact Blk.fx_ids hb _⟩
theorem ahQ (b:Blk) (off n cap:Nat) (f:aJ) (h:SB b off n f) (st bx tp:Int) (Tq:i64 bx) (Zk:i64 tp) :
  Fun prog G0 140 #[.agg #[.int .i64 st,.slice (some ⟨100,off,none⟩) n cap],.int .i64 bx,.int .i64 tp] (hpL G0 [(100,b)]) (ak [(100,b)]) (.ret (.bool (BK bx tp f n)) []):=by
 refine cg (B:=200) G0F func140 rfl call140 (aT h.fx) ?_ zS zS zS (by simp [ntmps140]) zO ?_
 ·exact RU
 intro C hC bA hY;have hr:=λρ=>Blk.fx_rn h.fx ρ
 repeat' first|refine cT ?_|((first|refine gwR [160] ?_|refine gwD [160] ?_);intro Q hQ _;(repeat first|simp [hC,hY]|refine aE (akg b off n cap f h bx tp Tq Zk) G0F (B:=200) (Jo h.fx bx tp) (λk=>if k=108 then 208 else if k=116 then 216 else k) (λk hk=>(ae zO).trans (ae zO)) aN zS (by simp [ixL,hr,Jp];simp [jb]) (by simp [ak,ixL]) xd ?_);refine dq hQ ?_)|fail
 refine ⟨.inr rfl,by simp [results140],fU G0F kq bO⟩
def stB (st:Int):Bool:=decide (-1073741824<=st/\st<=1073741824)
theorem ahL (st:Int) (hs:i64 st):stB st=(decide ((if st<Int.bmod (-st) 18446744073709551616 then Int.bmod (-st) 18446744073709551616 else st)<=1073741824)&&decide (-1073741824<=st)):=by
 have h1:=hs.1;have h2:=hs.2;unfold stB;rw [g6];simp only [bn,db];rw [fe];split<;>split<;>omega
def aY (st:Int) (f:aJ) (n:Nat):Bool:=stB st&&decide (1<=n/\n<=4)&&BK 1048576 65536 f n
theorem MT:i64 1048576:=nI
theorem agu:i64 65536:=nI
theorem ahy (b:Blk) (off n cap:Nat) (f:aJ) (h:SB b off n f) (st:Int) (hs:i64 st) :
  Fun prog G0 118 #[.agg #[.int .i64 st,.slice (some ⟨100,off,none⟩) n cap]] (hpL G0 [(100,b)]) (ak [(100,b)]) (.ret (.bool (aY st f n)) []):=by
 refine cg (B:=200) G0F func118 rfl call118 (aT h.fx) ?_ zS zS zS (by simp [ntmps118]) zO ?_
 ·exact RU
 intro C hC bA hY;have hr:=λρ=>Blk.fx_rn h.fx ρ;obtain ⟨m,hm⟩:∃ m,(if st<Int.bmod (-st) 18446744073709551616 then Int.bmod (-st) 18446744073709551616 else st)=m:=⟨_,rfl⟩
 have key:=ahL st hs;rw [hm] at key;unfold aY;rw [key];by_cases c0:m<=1073741824
 ·by_cases c1:-1073741824<=st
  ·by_cases c2:0<n
   ·by_cases c3:n<=4
    ·have c4:(n:Int)<=4:=zO;have e:decide (1<=n/\n<=4)=true:=bg zO;rw [bg c0,bg c1,e]
     repeat' first|refine cT ?_|((first|refine gwR [140] ?_|refine gwD [140] ?_);intro Q hQ _;(repeat first|simp [hC,hY,hm,c0,c1,c2,c3,c4]|refine aE (ahQ b off n cap f h st 1048576 65536 MT agu) G0F (B:=200) (aT h.fx) (λk=>k) (λk hk=>rfl) aN zS dx ai ax ?_);refine dq hQ ?_)|fail
     exact eS results118
    ·have c4:¬(n:Int)<=4:=zO;have e:decide (1<=n/\n<=4)=false:=aR zO;rw [bg c0,bg c1,e];refine cA (k6 hm c0 c1 c2 c3 c4) ?_;exact eS results118
   ·have e:decide (1<=n/\n<=4)=false:=aR zO;rw [bg c0,bg c1,e];refine cA (k4 hm c0 c1 c2) ?_;exact eS results118
  ·rw [bg c0,aR c1];refine cA (k3 hm c0 c1) ?_;exact eS results118
 ·rw [aR c0];refine cA (k2 hm c0) ?_;exact eS results118
end Go.Gy
