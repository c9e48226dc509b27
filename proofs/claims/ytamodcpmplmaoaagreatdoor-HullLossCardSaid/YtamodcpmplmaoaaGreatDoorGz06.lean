/-
  Lemmas of this claim, in their order (GyCG, GyLJ, GyPA, GyEK).
  Conditions: those of each theorem.
-/
import Derived.Test.YtamodcpmplmaoaaGreatDoorGz05
set_option linter.unusedSimpArgs false
set_option linter.unusedVariables false
set_option maxRecDepth 8000
set_option maxHeartbeats 4000000
namespace Go.Gy
open Go Go.RowKit Go.Proofs Go.Proofs.Tryz
theorem z95 (n lo hi:Int):Ret prog G0 111 #[.int .i64 n,.int .i64 lo,.int .i64 hi] (.bool (wiB n lo hi)):=by
 refine zas G0F func111 rfl call111 rfl (by simp) (by simp [ntmps111]) ?_
 intro C hC hC0 hY
 unfold wiB
 by_cases c0:lo<=n
 ·by_cases c1:n<=hi
  ·rw [decide_eq_true ⟨c0,c1⟩]
   (repeat' (first|refine gwZ ?_|(refine gwX ?_;intro Q hQ _;simp [hC,hY,c0,c1];refine gwq hQ ?_)|refine gwC ?_ ?_<;>intro hb))
   refine ⟨.inr trivial,?_⟩
   simp [results111]
  ·rw [decide_eq_false (by omega)]
   (repeat' (first|refine gwZ ?_|(refine gwX ?_;intro Q hQ _;simp [hC,hY,c0,c1];refine gwq hQ ?_)|refine gwC ?_ ?_<;>intro hb))
   refine ⟨.inr trivial,?_⟩
   simp [results111]
 ·rw [decide_eq_false (by omega)]
  (repeat' (first|refine gwZ ?_|(refine gwX ?_;intro Q hQ _;simp [hC,hY,c0];refine gwq hQ ?_)|refine gwC ?_ ?_<;>intro hb))
  refine ⟨.inr trivial,?_⟩
  simp [results111]
@[simp] theorem w11 (n lo hi:Int) (K:Value->Prop):za2 prog G0 111 #[.int .i64 n,.int .i64 lo,.int .i64 hi] K↔K (.bool (wiB n lo hi)):=zad G0W (by kernel_rfl) (z95 n lo hi)
def z39 (b:Blk) (off n cap:Nat) (g bx tp nr md:Int) (i:Nat):GS :=
 ⟨tsL [(1,.pointer (some ⟨200,0,none⟩)),(3,.int .i64 i)],hpL G0 [(100,b),(200,cfB (.slice (some ⟨100,off,none⟩) n cap) g bx tp nr md)],400,0⟩
theorem zrk {f:Nat->Int} {n:Nat}:zpq f n=true↔∀ i,i<n->wiB (f i) 1 1024=true:=by simp [zpq]
theorem zpn (b:Blk) (off n cap:Nat) (f:Nat->Int) (h:MB b off n f) (g bx tp nr md:Int) :
  Fun prog G0 84 #[cfV (.slice (some ⟨100,off,none⟩) n cap) g bx tp nr md] (hpL G0 [(100,b)]) (zab [(100,b)]) (.ret (.string (zfn n f g bx tp nr md)) []):=by
 refine zaw (B:=200) G0F func84 rfl call84 (zaq h.fx) ?_ (by simp [zap,za0,zah,zai]) (by simp) (by simp) (by simp [ntmps84]) (by omega) ?_
 ·simp [zap,za0,zah,zai,zab,cfV]
 intro C hC hC0 hY
 have hid:=λD=>Blk.fx_ids h.fx D
 unfold cfV
 cases h4:wiB n 1 4 with
 | false =>
  have hw:zfn n f g bx tp nr md=⟨#[98,111,100,105,101,115]⟩:=by simp [zfn,h4]
  rw [hw]
  repeat' first|refine gwZ ?_|(refine gwX ?_;intro Q hQ _;simp [hC,hY,h4];refine gwq hQ ?_)|refine gwC ?_ ?_<;>intro hb
  refine ⟨.inr rfl,by simp [results84],kpS G0F⟩
 | true =>
  obtain ⟨N,hN,hlt,hend⟩:=z2i (λi=>wiB (f i) 1 1024) n
  repeat' first|refine gwZ ?_|(refine gwX ?_;intro Q hQ _;simp [hC,hY,h4];refine gwq hQ ?_)|refine gwC ?_ ?_<;>intro hb
  refine zb1 N (z39 b off n cap g bx tp nr md) ?_ ?_ ?_
  ·refine za3 _ 400 hC G0F (m0:=[(100,b)]) hC0 (by omega) ?_ ?_ ?_
   ·simp [zap,za0,zah,zai,dom]
   ·simp [cfB,zac,zah,zai,hid,dom]
   ·simp
  ·intro i hi
   have hi':(i:Int)<n:=by omega
   have hz:(0:Int)<=i:=by omega
   have hnn:=h.nn
   have hs:Int.bmod ((i:Int)+1) 18446744073709551616=((i+1:Nat):Int):=by rw [bm (by omega) (by omega)];rfl
   have hld:=h.at (i:=i) (by omega)
   have hw:=hlt i hi
   unfold z39 cfB
   repeat' first|refine gwZ ?_|(refine gwX ?_;intro Q hQ _;simp [hC,hY,hi',hz,hs,hld,hw];refine gwq hQ ?_)|refine gwC ?_ ?_<;>intro hb
   refine za3 _ 400 hC G0F (m0:=[(100,b)]) hC0 (by omega) ?_ ?_ ?_
   ·simp [zap,za0,zah,zai,dom,hs]
   ·simp [cfB,zac,zah,zai,hid,dom]
   ·simp
  ·by_cases hNn:N=n
   ·have hNs:=hNn.symm
    subst hNs
    have hm:zpq f n=true:=zrk.2 hlt
    cases hg:wiB g 1 1048576 with
    | false =>
     have hw:zfn n f g bx tp nr md=⟨#[99,111,110,115,116,97,110,116]⟩:=by simp [zfn,h4,hm,hg]
     rw [hw]
     unfold z39 cfB
     repeat' first|refine gwZ ?_|(refine gwX ?_;intro Q hQ _;simp [hC,hY,h4,hg];refine gwq hQ ?_)|refine gwC ?_ ?_<;>intro hb
     refine ⟨.inr rfl,by simp [results84],kpS G0F⟩
    | true =>
     cases hx:wiB bx 1 1048576 with
     | false =>
      have hw:zfn n f g bx tp nr md=⟨#[98,111,120]⟩:=by simp [zfn,h4,hm,hg,hx]
      rw [hw]
      unfold z39 cfB
      repeat' first|refine gwZ ?_|(refine gwX ?_;intro Q hQ _;simp [hC,hY,h4,hg,hx];refine gwq hQ ?_)|refine gwC ?_ ?_<;>intro hb
      refine ⟨.inr rfl,by simp [results84],kpS G0F⟩
     | true =>
      cases ht:wiB tp 1 65536 with
      | false =>
       have hw:zfn n f g bx tp nr md=⟨#[116,111,112]⟩:=by simp [zfn,h4,hm,hg,hx,ht]
       rw [hw]
       unfold z39 cfB
       repeat' first|refine gwZ ?_|(refine gwX ?_;intro Q hQ _;simp [hC,hY,h4,hg,hx,ht];refine gwq hQ ?_)|refine gwC ?_ ?_<;>intro hb
       refine ⟨.inr rfl,by simp [results84],kpS G0F⟩
      | true =>
       cases hn:wiB nr 1 (Int.bmod (2*bx) 18446744073709551616) with
       | false =>
        have hw:zfn n f g bx tp nr md=⟨#[110,101,97,114]⟩:=by simp [zfn,h4,hm,hg,hx,ht,hn]
        rw [hw]
        unfold z39 cfB
        repeat' first|refine gwZ ?_|(refine gwX ?_;intro Q hQ _;simp [hC,hY,h4,hg,hx,ht,hn];refine gwq hQ ?_)|refine gwC ?_ ?_<;>intro hb
        refine ⟨.inr rfl,by simp [results84],kpS G0F⟩
       | true =>
        cases hd:wiB md 0 4 with
        | false =>
         have hw:zfn n f g bx tp nr md=⟨#[109,101,116,104,111,100]⟩:=by simp [zfn,h4,hm,hg,hx,ht,hn,hd]
         rw [hw]
         unfold z39 cfB
         repeat' first|refine gwZ ?_|(refine gwX ?_;intro Q hQ _;simp [hC,hY,h4,hg,hx,ht,hn,hd];refine gwq hQ ?_)|refine gwC ?_ ?_<;>intro hb
         refine ⟨.inr rfl,by simp [results84],kpS G0F⟩
        | true =>
         have hw:zfn n f g bx tp nr md=⟨#[]⟩:=by simp [zfn,h4,hm,hg,hx,ht,hn,hd]
         rw [hw]
         unfold z39 cfB
         repeat' first|refine gwZ ?_|(refine gwX ?_;intro Q hQ _;simp [hC,hY,h4,hg,hx,ht,hn,hd];refine gwq hQ ?_)|refine gwC ?_ ?_<;>intro hb
         refine ⟨.inr rfl,by simp [results84],kpS G0F⟩
   ·have hNn':N<n:=by omega
    have hend:=hend.resolve_left hNn
    have hm:zpq f n=false:=by
     cases hm:zpq f n with
     | false=>rfl
     | true=>have:=zrk.1 hm N hNn';rw [hend] at this;cases this
    have hw:zfn n f g bx tp nr md=⟨#[109,97,115,115]⟩:=by simp [zfn,h4,hm]
    rw [hw]
    have hi':(N:Int)<n:=by omega
    have hz:(0:Int)<=N:=by omega
    have hld:=h.at (i:=N) (by omega)
    unfold z39 cfB
    repeat' first|refine gwZ ?_|(refine gwX ?_;intro Q hQ _;simp [hC,hY,hi',hz,hld,hend];refine gwq hQ ?_)|refine gwC ?_ ?_<;>intro hb
    refine ⟨.inr rfl,by simp [results84],kpS G0F⟩
theorem zn2 (b:Blk) (off n cap:Nat) (f:Nat->Int) (h:MB b off n f) (g bx tp nr md:Int) :
  Fun prog G0 53 #[cfV (.slice (some ⟨100,off,none⟩) n cap) g bx tp nr md] (hpL G0 [(100,b)]) (zab [(100,b)]) (.ret (.int .i64 (if zd6 n f g bx tp nr md=true then 0 else 110)) []):=by
 refine zaw (B:=200) G0F func53 rfl call53 (zaq h.fx) ?_ (by simp) (by simp) (by simp) (by simp [ntmps53]) (by omega) ?_
 ·simp [zap,za0,zah,zai,zab,cfV]
 intro C hC hC0 hY
 have hr:=λρ=>Blk.fx_rn h.fx ρ
 have hne:=zs0 n f g bx tp nr md
 unfold cfV
 cases hc:zd6 n f g bx tp nr md with
 | true =>
  rw [hc] at hne
  repeat' first|refine gwZ ?_|((first|refine gwR [84] ?_|refine gwD [84] ?_);intro Q hQ _;(repeat first|simp [hC,hY,hne]|refine zae (zpn b off n cap f h g bx tp nr md) G0F (B:=200) (zaq h.fx) (λk=>k) (λk hk=>rfl) (by simp [ren,za1,zak,zan,cfV]) (by simp) (by simp [hr]) (by simp [zab]) (by simp [zab];rfl) ?_);refine gwq hQ ?_)|refine gwC ?_ ?_<;>intro hb
  refine ⟨.inr rfl,by simp [results53],kpS G0F⟩
 | false =>
  rw [hc] at hne
  repeat' first|refine gwZ ?_|((first|refine gwR [84] ?_|refine gwD [84] ?_);intro Q hQ _;(repeat first|simp [hC,hY,hne]|refine zae (zpn b off n cap f h g bx tp nr md) G0F (B:=200) (zaq h.fx) (λk=>k) (λk hk=>rfl) (by simp [ren,za1,zak,zan,cfV]) (by simp) (by simp [hr]) (by simp [zab]) (by simp [zab];rfl) ?_);refine gwq hQ ?_)|refine gwC ?_ ?_<;>intro hb
  refine ⟨.inr rfl,by simp [results53],kpS G0F⟩
theorem zzu (g bx tp nr md:Int):Ret prog G0 84 #[.agg #[.slice none 0 0,.int .i64 g,.int .i64 bx,.int .i64 tp,.int .i64 nr,.int .i64 md]] (.string ⟨#[98,111,100,105,101,115]⟩):=by
 refine zas G0F func84 rfl call84 (by simp) (by simp) (by simp [ntmps84]) ?_
 intro C hC hC0 hY
 have h4:wiB 0 1 4=false:=by decide
 repeat' first|refine gwZ ?_|(refine gwX ?_;intro Q hQ _;simp [hC,hY,h4];refine gwq hQ ?_)|refine gwC ?_ ?_<;>intro hb
 refine ⟨.inr trivial,?_⟩
 simp [results84]
@[simp] theorem jpg (g bx tp nr md:Int) (K:Value->Prop):za2 prog G0 84 #[.agg #[.slice none 0 0,.int .i64 g,.int .i64 bx,.int .i64 tp,.int .i64 nr,.int .i64 md]] K↔K (.string ⟨#[98,111,100,105,101,115]⟩):=zad G0W (by kernel_rfl) (zzu g bx tp nr md)

theorem zwj (g bx tp nr md:Int):Ret prog G0 53 #[cfV (.slice none 0 0) g bx tp nr md] (.int .i64 110):=by
 unfold cfV
 refine zas G0F func53 rfl call53 (by simp) (by simp) (by simp [ntmps53]) ?_
 intro C hC hC0 hY
 have hne:jb6 ⟨#[98,111,100,105,101,115]⟩ ⟨#[]⟩=true:=by decide +kernel
 repeat' first|refine gwZ ?_|(refine gwX ?_;intro Q hQ _;simp [hC,hY,hne];refine gwq hQ ?_)|refine gwC ?_ ?_<;>intro hb
 refine ⟨.inr trivial,?_⟩
 simp [results53]
@[simp] theorem jno (g bx tp nr md:Int) (K:Value->Prop):za2 prog G0 53 #[.agg #[.slice none 0 0,.int .i64 g,.int .i64 bx,.int .i64 tp,.int .i64 nr,.int .i64 md]] K↔K (.int .i64 110):=zad G0W (by kernel_rfl) (zwj g bx tp nr md)
end Go.Gy
namespace Go.Gy
open Go Go.RowKit
theorem zev {C:Ctx} {G:Hp} {s:GS} {m L:List (Nat×Blk)} (ρ:Nat->Nat) (l:List (Nat×Value)) (B:Nat) (hG:C.G=G) (hGF:zbj G) (hL:LOk L 200) (hfx:∀ p∈L,p.2.fx) (h0:C.hp0=hpL G L) (hB:200<=B)
  (hl:∀ p∈l,s.ts p.1=ren ρ p.2/\s.ts p.1≠zcn/\zap (dom (hpL G (m++L))) p.2)
  (hm:∀ p∈m,s.hp (ρ p.1)=some (p.2.rn ρ)/\p.2.ids (dom (hpL G (m++L)))/\200<=p.1/\p.1<B/\200<=ρ p.1)
  (hi:∀ p∈m,∀ q∈m,ρ p.1=ρ q.1->p.1=q.1) (hid:∀ k,k<200->ρ k=k) (hk:∀ p∈L,s.hp p.1=some p.2):WeakR C ρ s ⟨tsL l,hpL G (m++L),B,s.yc⟩:=by
 refine zpm ρ l B hG hGF h0 (by omega) hl (λp hp=>?_) (λp hp q hq e=>?_) (λk hk=>hid k (by omega)) (λp hp=>?_)
 ·rcases List.mem_append.1 hp with h|h
  ·have:=hm p h
   exact ⟨this.1,this.2.1,by omega,this.2.2.2.1,by omega⟩
  ·have hb:=hL.big p h
   rw [hid p.1 hb.2,Blk.fx_rn (hfx p h) ρ]
   exact ⟨hk p h,Blk.fx_ids (hfx p h) _,hb.1,by omega,hb.1⟩
 ·rcases List.mem_append.1 hp with h|h<;>rcases List.mem_append.1 hq with h'|h'
  ·exact hi p h q h' e
  ·have:=(hm p h).2.2.2.2
   have hb:=hL.big q h'
   rw [hid q.1 hb.2] at e
   omega
  ·have:=(hm q h').2.2.2.2
   have hb:=hL.big p h
   rw [hid p.1 hb.2] at e
   omega
  ·rw [hid p.1 (hL.big p h).2,hid q.1 (hL.big q h').2] at e
   exact e
 ·have hb:=hL.big p hp
  exact ⟨hb.1,zqb (zaf.2 ⟨p,hp,rfl⟩),hid p.1 hb.2⟩
end Go.Gy
namespace Go.Gy
open Go Go.RowKit Go.Proofs Go.Proofs.Tryz
theorem zb4 {n:Nat} {f:Nat->Int} {g bx tp nr md:Int} (h:zd6 n f g bx tp nr md=true) {i:Nat} (hi:i<n):1<=f i/\f i<=1024:=by
 unfold zd6 at h
 simp only [Bool.and_eq_true] at h
 have h2:=h.2.1
 unfold zpq at h2
 rw [List.all_eq_true] at h2
 have:=h2 i (by simpa using hi)
 unfold wiB at this
 simpa using this
theorem zn1 {n:Nat} {f:Nat->Int} {g bx tp nr md:Int} (h:zd6 n f g bx tp nr md=true):1<=g/\g<=1048576:=by
 unfold zd6 at h
 simp only [Bool.and_eq_true] at h
 have:=h.2.2.1
 unfold wiB at this
 simpa using this
theorem zeb {n n2:Nat} {okc rt:Bool}:zoh n n2 okc rt=true↔n=n2/\okc=true/\rt=true:=by
 unfold zoh
 simp
theorem zpd {a m:Int} (h:inW m a):0<=a*a/\a*a<=m*m:=by
 obtain ⟨h0,h1,h2⟩:=h
 by_cases c:0<=a
 ·exact ⟨Int.mul_nonneg c c,Int.mul_le_mul h2 h2 c h0⟩
 ·rw [<-Int.neg_mul_neg]
  exact ⟨Int.mul_nonneg (by omega) (by omega),Int.mul_le_mul (by omega) (by omega) (by omega) h0⟩
theorem zer {b:Blk} {off n:Nat} {f:Nat->Int} (h:SB b off n f) (i:Nat) (hi:i<n) (o:Nat) (e:o=off+i*6):zc2 prog 72 b o=some (.agg #[.int .i64 (f (6*i)),.int .i64 (f (6*i+1)),.int .i64 (f (6*i+2)),.int .i64 (f (6*i+3)),.int .i64 (f (6*i+4)),.int .i64 (f (6*i+5))]):=by rw [e];exact h.body hi
theorem zes {b:Blk} {off n:Nat} {f:Nat->Int} (h:MB b off n f) (i:Nat) (hi:i<n) (o:Nat) (e:o=off+i):zc2 prog 3 b o=some (.int .i64 (f i)):=by rw [e];exact h.at hi
def ezB (cq:Array Value):Blk:=⟨cq,.raw 24 (0,0)⟩
theorem z45 {cq:Array Value} {ρ:Nat->Nat}:(ezB cq).rn ρ=ezB cq:=rfl
theorem zmi {cq:Array Value} {D:Nat->Prop}:(ezB cq).ids D:=trivial
theorem z7q {cq:Array Value} {g:Int} (h1:cq[1]? = some (.int .i64 g)):zc2 prog 3 ⟨cq,.raw 24 (0,0)⟩ 1=some (.int .i64 g):=by
 unfold zc2
 simp [h1,zay,zbc,zha]
theorem eIn {asd:List Nat} {f g:Hp} {k:Nat} (h:k∈asd):zb7 asd f g k=f k:=if_pos h
theorem eNi {asd:List Nat} {f g:Hp} {k:Nat} (h:k∉asd):zb7 asd f g k=g k:=if_neg h
theorem jdb {G:Hp}:∀ {L:List (Nat×Blk)} {k:Nat},k∉zab L->hpL G L k=G k
 | [],_,_=>rfl
 | (q,c)::L,k,h=>by
  simp only [zab,List.map_cons,List.mem_cons,not_or] at h
  rw [zao,if_neg h.1]
  exact jdb h.2
def d2F (f:Nat->Int) (i k:Nat):Int:=(f (6*i) - f (6*k))*(f (6*i) - f (6*k))+(f (6*i+1) - f (6*k+1))*(f (6*i+1) - f (6*k+1))+(f (6*i+2) - f (6*k+2))*(f (6*i+2) - f (6*k+2))
theorem zww {a0 a1 a2 b0 b1 b2:Int} (h:inW 1048576 a0/\inW 1048576 a1/\inW 1048576 a2) (k:inW 1048576 b0/\inW 1048576 b1/\inW 1048576 b2):f2V a0 a1 a2 b0 b1 b2=(a0 - b0)*(a0 - b0)+(a1 - b1)*(a1 - b1)+(a2 - b2)*(a2 - b2):=by
 have e:f2E a0 a1 a2 b0 b1 b2=0:=by
  unfold f2E eaE zgo fnI
  unfold inW at h k
  rw [if_pos (by omega)]
 unfold f2V
 rw [if_pos e]
def zfa (fm fs:Nat->Int) (i:Nat):Int:=fm i*dtV (fs (6*i+3)) (fs (6*i+4)) (fs (6*i+5)) (fs (6*i+3)) (fs (6*i+4)) (fs (6*i+5))
def z2g (fm fs:Nat->Int) (n:Nat):Int:=zb2 (zfa fm fs) n*524288
def jbb (n n2:Nat) (okc rt:Bool):Int:=if zoh n n2 okc rt=true then 0 else 2
def jbc (n n2:Nat) (okc rt:Bool) (fm fs:Nat->Int):Int:=if zoh n n2 okc rt=true then z2g fm fs n2 else 0
theorem z42 {a b c:Int} (h0:inW 65536 a) (h1:inW 65536 b) (h2:inW 65536 c):dtV a b c a b c=a*a+b*b+c*c/\0<=dtV a b c a b c/\dtV a b c a b c<=12884901888:=by
 have e:dtV a b c a b c=a*a+b*b+c*c:=by
  unfold dtV
  rw [if_pos]
  unfold inW at h0 h1 h2
  unfold fnI
  omega
 have s0:=zpd h0
 have s1:=zpd h1
 have s2:=zpd h2
 rw [e]
 refine ⟨rfl,by omega,by omega⟩
theorem zj6 {n:Nat} {fm fs:Nat->Int} {st g bx tp nr md:Int} (hc:zd6 n fm g bx tp nr md=true) (hr:zbi st fs n=true) {i:Nat} (hi:i<n):0<=zfa fm fs i/\zfa fm fs i<=13194139533312:=by
 have h1:=zb4 hc hi
 obtain ⟨_,h2,h3,h4⟩:=zei hr hi
 obtain ⟨_,d0,d1⟩:=z42 h2 h3 h4
 unfold zfa
 exact ⟨Int.mul_nonneg (by omega) d0,Int.mul_le_mul h1.2 d1 d0 (by omega)⟩
def jph (nk i:Nat) (x:Nat->Int) (sl:Value) (ns:List (Nat×Blk)):Prop:=(i=0/\sl=.slice none 0 0/\ns=[])\/∃ (c:Nat) (g:Nat->Int),0<i/\i<=c/\(∀ j,j<4*i->g j=wF x j)/\sl=.slice (some ⟨nk,0,none⟩) i c/\ns=[(nk,zcz c g)]
def zhb (ks off n cap off2 n2 cap2:Nat) (g bx tp nr md st:Int):List (Nat×Blk):=[(200,cfB (.slice (some ⟨100,off,none⟩) n cap) g bx tp nr md),(208,zc5 st ks off2 n2 cap2),(216,wb 0)]
def z5l (L:List (Nat×Blk)) (ks off n cap off2 n2 cap2:Nat) (g bx tp nr md st:Int) (i:Nat) (sl:Value) (ns:List (Nat×Blk)):GS :=
 ⟨tsL [(2,.pointer (some ⟨200,0,none⟩)),(3,.pointer (some ⟨208,0,none⟩)),(4,.pointer (some ⟨216,0,none⟩)),(5,.int .i64 0),(6,sl),(19,.slice (some ⟨ks,off2,none⟩) n2 cap2),(20,.int .i64 n2),(21,.int .i64 i)],
 hpL G0 ((zhb ks off n cap off2 n2 cap2 g bx tp nr md st++ns)++L),300,0⟩
def kiI (L:List (Nat×Blk)) (ks off n cap off2 n2 cap2:Nat) (g bx tp nr md st:Int) (x:Nat->Int) (m:Nat) (s:GS):Prop:=∃ i sl ns,i+m=n2/\jph 224 i x sl ns/\s=z5l L ks off n cap off2 n2 cap2 g bx tp nr md st i sl ns
theorem jdd (L:List (Nat×Blk)) (ks:Nat) (bm bs:Blk) (hT:LTwo G0 L ks bm bs) (off n cap off2 n2 cap2:Nat) (fm fs:Nat->Int) (hm:MB bm off n fm) (hSb:SB bs off2 n2 fs) (hcap:n<=cap) (hcap2:n2<=cap2) (g bx tp nr md st:Int) (hs:i64 st) :
  Fun prog G0 67 #[cfV (.slice (some ⟨100,off,none⟩) n cap) g bx tp nr md,.agg #[.int .i64 st,.slice (some ⟨ks,off2,none⟩) n2 cap2]] (hpL G0 L) (zab L) (.ret (.tuple #[wd (jbc n n2 (zd6 n fm g bx tp nr md) (zbi st fs n2) fm fs),.int .i64 (jbb n n2 (zd6 n fm g bx tp nr md) (zbi st fs n2))]) []):=by
 refine zaw (B:=200) G0F func67 rfl call67 hT.ok ?_ (zal (by simp)) (by simp) (by simp) (by simp [ntmps67]) (by omega) ?_
 ·simp [zap,za0,zah,zai,hT.ia,hT.ib,cfV]
 intro C hC hC0 hY
 have hA:=hT.a
 have hS:=hT.s
 have hne:=hT.ne
 have hLow:=hT.low
 have hks:=hT.k1
 have hks2:=hT.k2
 have hrm:=λρ=>Blk.fx_rn hm.fx ρ
 have hrs:=λρ=>Blk.fx_rn hSb.fx ρ
 have hfit:=zih L ks bm bs hT off n cap off2 n2 cap2 fm fs hm hSb g bx tp nr md st hs
 unfold jbc jbb
 cases hf:zoh n n2 (zd6 n fm g bx tp nr md) (zbi st fs n2) with
 | false =>
  rw [hf] at hfit
  unfold cfV at hfit |-
  repeat' first|refine gwZ ?_|((first|refine gwR [94] ?_|refine gwD [94] ?_);intro Q hQ _;(repeat first|simp [hC,hY,hA,hS,hne,zag]|refine zbv hfit hT.ok zel ?_);refine gwq hQ ?_)|refine gwC ?_ ?_<;>intro hb
  refine ⟨.inr rfl,by simp [results67,zag],kpT G0F⟩
 | true =>
  rw [hf] at hfit
  obtain ⟨hnn,hok,hrt⟩:=zeb.1 hf
  subst hnn
  have hn4:=(zf8 hrt).2.1
  unfold cfV at hfit |-
  repeat' first|refine gwZ ?_|((first|refine gwR [94] ?_|refine gwD [94] ?_);intro Q hQ _;(repeat first|simp [hC,hY,hA,hS,hne,zag]|refine zbv hfit hT.ok zel ?_);refine gwq hQ ?_)|refine gwC ?_ ?_<;>intro hb
  refine zja (kiI L ks off n cap off2 n cap2 g bx tp nr md st (zfa fm fs)) (m0:=n) (s0:=z5l L ks off n cap off2 n cap2 g bx tp nr md st 0 (.slice none 0 0) []) ?_ ⟨0,_,_,by omega,.inl ⟨rfl,rfl,rfl⟩,rfl⟩ ?_
  ·refine zlt _ 300 hC G0F hT.ok hT.fx hC0 (by omega) ?_ ?_ zel
   ·simp [zhb,zap,za0,zah,zai,dom,hA,hS,hne]
   ·simp [zhb,cfB,zc5,wb,zac,zah,zai,dom,hA,hS,hne,zag]
  rintro m _ ⟨i,sl,ns,him,hV,rfl⟩
  by_cases hm0:m=0
  ·obtain rfl:i=n:=by omega
   rcases hV with ⟨h0,_,_⟩|⟨c,gg,hi0,hic,hg,rfl,rfl⟩
   ·exact absurd h0 (by omega)
   have hgi:=λD=>Blk.fx_ids (za9 c gg) D
   have hgr:=λρ=>Blk.fx_rn (za9 c gg) ρ
   have hsum:=z34 c i gg (zfa fm fs) hic (by omega) hg λj hj=>by have:=zj6 hok hrt hj;omega
   have hb:=zit (f:=zfa fm fs) (n:=i) (lo:=0) (hi:=13194139533312) λj hj=>zj6 hok hrt hj
   have hb1:zb2 (zfa fm fs) i<=4*13194139533312:=Int.le_trans hb.2 (Int.mul_le_mul_of_nonneg_right (by omega) (by omega))
   have hb0:0<=zb2 (zfa fm fs) i:=by omega
   have w1:=zci (zkm hb0 (by omega))
   have w2:sz 524288=524288:=by decide
   have i2:i64 524288:=by decide
   have ek:z2g fm fs i=zb2 (zfa fm fs) i*524288:=rfl
   unfold zcz at hgi hgr hsum
   unfold z5l zhb cfB zc5 wb zcz
   repeat' first|refine gwZ ?_|((first|refine gwR [100] ?_|refine gwD [100] ?_);intro Q hQ _;(repeat first|simp [hC,hY,hA,hS,hne,w1,w2,i2,zag]|refine zae hsum G0F (B:=200) (zki c gg) (λk=>if k=100 then 224 else k) (λk hk=>if_neg (by omega)) (by simp [ren,za1,zak,zan]) (by simp) (by simp [hgr]) (by simp [zab]) (by simp [zab];rfl) ?_);refine gwq hQ ?_)|refine gwC ?_ ?_<;>intro hb
   refine ⟨.inr rfl,by simp [results67,ek],kpT G0F⟩
  ·have hin:i<n:=by omega
   have hi':(i:Int)<n:=by omega
   have hz:(0:Int)<=i:=by omega
   have hs':Int.bmod ((i:Int)+1) 18446744073709551616=((i+1:Nat):Int):=by rw [Go.Gy.bm (by omega) (by omega)];rfl
   have hl:=hSb.body hin
   have hml:=hm.at hin
   have hkb:=zj6 hok hrt hin
   have hkx:zfa fm fs i=fm i*dtV (fs (6*i+3)) (fs (6*i+4)) (fs (6*i+5)) (fs (6*i+3)) (fs (6*i+4)) (fs (6*i+5)):=rfl
   have hkb1:Int.bmod (fm i*dtV (fs (6*i+3)) (fs (6*i+4)) (fs (6*i+5)) (fs (6*i+3)) (fs (6*i+4)) (fs (6*i+5))) 18446744073709551616=zfa fm fs i:=by rw [<-hkx];exact Go.Gy.bm (by omega) (by omega)
   have hki:i64 (zfa fm fs i):=⟨by omega,by omega⟩
   rcases hV with ⟨rfl,rfl,rfl⟩|⟨c,gg,hi0,hic,hg,rfl,rfl⟩
   ·simp only [Nat.mul_zero,Nat.zero_mul,Nat.add_zero,Nat.zero_add] at hl hml hkb1
    unfold z5l zhb cfB zc5 wb
    repeat' first|refine gwZ ?_|(refine gwX ?_;intro Q hQ _;simp [hC,hY,hA,hS,hne,hin,hi',hz,hs',hl,hml,zag];refine gwq hQ ?_)|refine gwC ?_ ?_<;>intro hb
    refine zc6 ?_
    simp only [Array.toList]
    refine gwl 10 ?_;intro Q hQ;simp [hC,hY,hA,hS,hne,hin,hi',hz,hs',hl,hml,hkb1,hki,zag];apply hQ
    simp only [wT,wM,Nat.reduceAdd]
    refine ze7 .u64 (m:=4) (i:=0) (j:=508) (by':=32) (z:=.agg #[.int .u64 0,.int .u64 0,.int .u64 0,.int .u64 0]) (T2:=.ty 30) (G:=wF (zfa fm fs)) (ev:=λu=>wi (zfa fm fs 0) u) rfl (by simp) rfl underlying118 (zaj sizeOf30) (by kernel_rfl) (by kernel_rfl) (by omega) (by simp [Value.cells]) (by simp [Value.cells]) (by omega) (by omega) (.inl ⟨rfl,by simp⟩) (by simp) (by simp [zgh]) (λu hu=>?_) (by omega) ?_
    ·unfold wF
     rw [show (4*0+u) / 4=0 by omega,show (4*0+u)%4=u by omega]
    ·rintro k' c' g' hk' hk100 hc' hg'
     obtain rfl:k'=516:=by
      rcases hk' with hk'|⟨c,hk'⟩
      ·exact hk'
      ·simp at hk'
     refine gwl 1 ?_;intro Q hQ;simp [hC,hY,zcx];apply hQ
     simp only [wT,wM,Nat.reduceAdd]
     refine zde ?_
     repeat' first|refine gwZ ?_|(refine gwX ?_;intro Q hQ _;simp [hC,hY,hs'];refine gwq hQ ?_)|refine gwC ?_ ?_<;>intro hb
     refine ⟨λk=>if k=224 then 516 else k,z5l L ks off n cap off2 n cap2 g bx tp nr md st (0+1) (.slice (some ⟨224,0,none⟩) (0+1) c') [(224,zcz c' g')],n - (0+1),?_,⟨0+1,_,_,by omega,.inr ⟨c',g',by omega,hc',hg',rfl,rfl⟩,rfl⟩,by omega⟩
     have hfi:=λD=>Blk.fx_ids (za9 c' g') D
     have hfm:=λρ=>zd8 (show Blk.fx ⟨fa (4*c') .u64 g',.ty 30⟩ from za9 c' g') ρ
     unfold zcz at hfi
     refine zev (s:=GS.mk _ _ _ 0) _ _ 300 hC G0F hT.ok hT.fx hC0 (by omega) ?_ ?_ ?_ ?_ zel
     ·simp [zhb,zcz,dom,zcn,ren,za1,zak,zan,zap,za0,zah,zai,hs',hA,hS,hne]
     ·simp [zhb,zcz,cfB,zc5,wb,Blk.rn,zak,zan,zac,zah,zai,dom,hfi,hfm,hA,hS,hne,zag]
     ·simp [zhb]
     ·intro k hk;simp<;>omega
   ·have hgi:=λD=>Blk.fx_ids (za9 c gg) D
    unfold zcz at hgi
    unfold z5l zhb cfB zc5 wb zcz
    repeat' first|refine gwZ ?_|(refine gwX ?_;intro Q hQ _;simp [hC,hY,hA,hS,hne,hin,hi',hz,hs',hl,hml,zag];refine gwq hQ ?_)|refine gwC ?_ ?_<;>intro hb
    refine zc6 ?_
    simp only [Array.toList]
    refine gwl 10 ?_;intro Q hQ;simp [hC,hY,hA,hS,hne,hin,hi',hz,hs',hl,hml,hkb1,hki,zag];apply hQ
    simp only [wT,wM,Nat.reduceAdd]
    refine ze7 .u64 (m:=4) (i:=i) (j:=508) (by':=32) (z:=.agg #[.int .u64 0,.int .u64 0,.int .u64 0,.int .u64 0]) (T2:=.ty 30) (G:=wF (zfa fm fs)) (ev:=λu=>wi (zfa fm fs i) u) rfl (by simp) rfl underlying118 (zaj sizeOf30) (by kernel_rfl) (by kernel_rfl) (by omega) (by simp [Value.cells]) (by simp [Value.cells]) (by omega) (by omega) (.inr ⟨224,c,gg,by omega,by simp,by simp,hic,hg⟩) (by simp) (by simp [zgh]) (λu hu=>?_) (by omega) ?_
    ·unfold wF
     rw [show (4*i+u) / 4=i by omega,show (4*i+u)%4=u by omega]
    ·rintro k' c' g' hk' hk100 hc' hg'
     have hk':k'=516\/k'=224:=by
      rcases hk' with hk'|⟨c,hk'⟩
      ·exact .inl hk'
      ·simp at hk';exact .inr hk'.1.symm
     rcases hk' with rfl|rfl
     ·
      refine gwl 1 ?_;intro Q hQ;simp [hC,hY,zcx];apply hQ
      simp only [wT,wM,Nat.reduceAdd]
      refine zde ?_
      repeat' first|refine gwZ ?_|(refine gwX ?_;intro Q hQ _;simp [hC,hY,hs'];refine gwq hQ ?_)|refine gwC ?_ ?_<;>intro hb
      refine ⟨λk=>if k=224 then 516 else k,z5l L ks off n cap off2 n cap2 g bx tp nr md st (i+1) (.slice (some ⟨224,0,none⟩) (i+1) c') [(224,zcz c' g')],n - (i+1),?_,⟨i+1,_,_,by omega,.inr ⟨c',g',by omega,hc',hg',rfl,rfl⟩,rfl⟩,by omega⟩
      have hfi:=λD=>Blk.fx_ids (za9 c' g') D
      have hfm:=λρ=>zd8 (show Blk.fx ⟨fa (4*c') .u64 g',.ty 30⟩ from za9 c' g') ρ
      unfold zcz at hfi
      refine zev (s:=GS.mk _ _ _ 0) _ _ 300 hC G0F hT.ok hT.fx hC0 (by omega) ?_ ?_ ?_ ?_ zel
      ·simp [zhb,zcz,dom,zcn,ren,za1,zak,zan,zap,za0,zah,zai,hs',hA,hS,hne]
      ·simp [zhb,zcz,cfB,zc5,wb,Blk.rn,zak,zan,zac,zah,zai,dom,hfi,hfm,hA,hS,hne,zag]
      ·simp [zhb]
      ·intro k hk;simp<;>omega
     ·
      refine gwl 1 ?_;intro Q hQ;simp [hC,hY,zcx];apply hQ
      simp only [wT,wM,Nat.reduceAdd]
      refine zde ?_
      repeat' first|refine gwZ ?_|(refine gwX ?_;intro Q hQ _;simp [hC,hY,hs'];refine gwq hQ ?_)|refine gwC ?_ ?_<;>intro hb
      refine ⟨λk=>k,z5l L ks off n cap off2 n cap2 g bx tp nr md st (i+1) (.slice (some ⟨224,0,none⟩) (i+1) c') [(224,zcz c' g')],n - (i+1),?_,⟨i+1,_,_,by omega,.inr ⟨c',g',by omega,hc',hg',rfl,rfl⟩,rfl⟩,by omega⟩
      have hfi:=λD=>Blk.fx_ids (za9 c' g') D
      have hfm:=λρ=>zd8 (show Blk.fx ⟨fa (4*c') .u64 g',.ty 30⟩ from za9 c' g') ρ
      unfold zcz at hfi
      refine zev (s:=GS.mk _ _ _ 0) _ _ 300 hC G0F hT.ok hT.fx hC0 (by omega) ?_ ?_ ?_ ?_ zel
      ·simp [zhb,zcz,dom,zcn,ren,za1,zak,zan,zap,za0,zah,zai,hs',hA,hS,hne]
      ·simp [zhb,zcz,cfB,zc5,wb,Blk.rn,zak,zan,zac,zah,zai,dom,hfi,hfm,hA,hS,hne,zag]
      ·simp [zhb]
      ·intro k hk;simp<;>omega
end Go.Gy
