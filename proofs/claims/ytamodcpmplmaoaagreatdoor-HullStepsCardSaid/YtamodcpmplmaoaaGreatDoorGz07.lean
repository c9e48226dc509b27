/-
  Lemmas of this claim, in their order (GyEN, GyEO, GyES, GyLI, GyJM, GyJN, GyJA, GyJB, GyJC, GyRS, GyRT, GyJD, GyJE, GyJF, GyEG, GyJG, GyPE, GyJO, GyJH, GyJI, GyJK, GyET, GyPC, GyEA, GyEB, GyEC).
  Conditions: those of each theorem.
-/
import Derived.Test.YtamodcpmplmaoaaGreatDoorGz06
import Derived.RangeFuncNested
set_option linter.unusedSimpArgs false
set_option linter.unusedVariables false
set_option maxRecDepth 20000
set_option maxHeartbeats 16000000
namespace Go.Gy
open Go Go.RowKit Go.Proofs Go.Proofs.Tryz
theorem si {p:Prop} (h:p:=by simp [ntmps119]):p:=h
theorem de {p:Prop} (h:p:=by rcases hT.k8 with h8|h8<;>subst h8<;>kernel_rfl):p:=h
theorem s7 {p:Prop} (h:p:=by
 obtain ⟨p,hp,e⟩:=aC.1 h;have:=hL.big p hp;omega):p:=h
theorem pM {p:Prop} (h:p:=by
 simp [aL,cQ,aI,aP,enM,ak]):p:=h
theorem lP {p:Prop} (h:p:=by
 refine ⟨?_,?_,?_,λk hk=>?_⟩
 ·simp
 ·simp [results119]
 ·first|trivial|omega|(simp;done)|(simp;omega)
 ·have hk:=dp k hk
  first|rfl|(simp (disch:=omega) only [ao]<;>rfl)):p:=h
def lS (f:aJ) (i j:Nat):Int:=f2V (f (6*i)) (f (6*i+1)) (f (6*i+2)) (f (6*j)) (f (6*j+1)) (f (6*j+2))
def epV (fm fs:aJ) (i j:Nat):Array Value:=#[.agg #[.int .i64 (fm i),.int .i64 (fm j),.int .i64 (lS fs i j)]]
def Mx (fm fs:aJ):Nat->List (Array Value)
 | 2=>[epV fm fs 1 0]
 | 3=>[epV fm fs 1 0,epV fm fs 2 0,epV fm fs 2 1]
 | 4=>[epV fm fs 1 0,epV fm fs 2 0,epV fm fs 2 1,epV fm fs 3 0,epV fm fs 3 1,epV fm fs 3 2]
 | _=>[]
def enM (L:cf) (ks off n cap au n2 av:Nat) (g bx tp nr md st:Int):List (Nat×Blk):=(200,cfB (.slice (some ⟨100,off,none⟩) n cap) g bx tp nr md)::(208,cE st ks au n2 av)::L
theorem z7 {L:cf} {ks:Nat} {bm bs:Blk} (hT:LTwo G0 L ks bm bs) (off n cap au n2 av:Nat) (g bx tp nr md st:Int):LOk (enM L ks off n cap au n2 av g bx tp nr md st) 300:=by
 have hL:=hT.ok;refine ⟨?_,?_,?_⟩
 ·intro p hp;rcases aj.1 hp with rfl|hp
  ·simp
  ·rcases aj.1 hp with rfl|hp
   ·simp
   ·have:=hL.big p hp;omega
 ·have h2:∀ q,200<=q->q∉ak L:=λq hq h=>by
   exact s7
  refine fu.2 ⟨λh=>?_,fu.2 ⟨h2 208 zO,hL.one⟩⟩;rcases aj.1 h with e|h
  ·exact absurd e zS
  ·exact h2 200 zO h
 ·have h1:100∈ak (enM L ks off n cap au n2 av g bx tp nr md st):=aD _ (aD _ hT.ia);have h2:ks∈ak (enM L ks off n cap au n2 av g bx tp nr md st):=aD _ (aD _ hT.ib);intro p hp;rcases aj.1 hp with rfl|hp
  ·simp [cfB,aM,aI,aP,h1]
  ·rcases aj.1 hp with rfl|hp
   ·simp [cE,aM,aI,aP,h2]
   ·exact Blk.fx_ids (hT.fx p hp) _
theorem S9 (L:cf) (ks:Nat) (bm bs:Blk) (hT:LTwo G0 L ks bm bs) (off cap au av:Nat) (fm fs:aJ) (hm:MB bm off 1 fm) (fO:SB bs au 1 fs) (eK:1<=av) (g bx tp nr md st:Int) :
  IterK prog G0 119 #[.pointer (some ⟨208,0,none⟩),.pointer (some ⟨200,0,none⟩)] (hpL G0 (enM L ks off 1 cap au 1 av g bx tp nr md st)) (ak (enM L ks off 1 cap au 1 av g bx tp nr md st)) (Mx fm fs 1):=by
 have hL:=z7 hT off 1 cap au 1 av g bx tp nr md st;have dp:∀ k,dom (hpL G0 (enM L ks off 1 cap au 1 av g bx tp nr md st)) k->k<300:=λk hk=>bu λh1=>hk (hL.free G0F zO k zO);refine mZ (B:=300) (v:=.tuple #[]) G0F func119 rfl call119 hL ?_ si zO ?_
 ·exact pM
 intro C l stop hC bA hY;have hA:=hT.a;have hS:=hT.s;have cW:=hT.ne;have pV:=hT.k1;have aH:Mx fm fs 1=[]:=rfl;rw [aH] at hY |-;have b0:=oI fO 0 zO (au) zO;simp only [Nat.reduceMul,Nat.reduceAdd,fF,cD] at b0;have w0:=oJ hm 0 zO (off) zO;unfold enM cfB cE
 repeat' first|refine GWL_start ?_|refine GWL_step ?_|refine cT ?_|(refine iy ?_;intro Q hQ hP;simp [hC,hY,hA,hS,cW,b0,w0];(first|refine hQ _ _ _ _ de ?_|refine hP _ _ de λ_=>?_))|fail
 exact lP
theorem Ta (L:cf) (ks:Nat) (bm bs:Blk) (hT:LTwo G0 L ks bm bs) (off cap au av:Nat) (fm fs:aJ) (hm:MB bm off 2 fm) (fO:SB bs au 2 fs) (eK:2<=av) (g bx tp nr md st:Int) :
  IterK prog G0 119 #[.pointer (some ⟨208,0,none⟩),.pointer (some ⟨200,0,none⟩)] (hpL G0 (enM L ks off 2 cap au 2 av g bx tp nr md st)) (ak (enM L ks off 2 cap au 2 av g bx tp nr md st)) (Mx fm fs 2):=by
 have hL:=z7 hT off 2 cap au 2 av g bx tp nr md st;have dp:∀ k,dom (hpL G0 (enM L ks off 2 cap au 2 av g bx tp nr md st)) k->k<300:=λk hk=>bu λh1=>hk (hL.free G0F zO k zO);refine mZ (B:=300) (v:=.tuple #[]) G0F func119 rfl call119 hL ?_ si zO ?_
 ·exact pM
 intro C l stop hC bA hY;have hA:=hT.a;have hS:=hT.s;have cW:=hT.ne;have pV:=hT.k1;have aH:Mx fm fs 2=[#[.agg #[.int .i64 (fm 1),.int .i64 (fm 0),.int .i64 (f2V (fs 6) (fs 7) (fs 8) (fs 0) (fs 1) (fs 2))]]]:=rfl;rw [aH] at hY |-;have k1:1<=av:=zO;have j1:(1:Int)<=(av:Int):=zO;have b0:=oI fO 0 zO (au) zO;simp only [Nat.reduceMul,Nat.reduceAdd,fF,cD] at b0;have w0:=oJ hm 0 zO (off) zO;have b1:=oI fO 1 zO (au+6) zO;simp only [Nat.reduceMul,Nat.reduceAdd,fF,cD] at b1;have w1:=oJ hm 1 zO (off+1) zO;unfold enM cfB cE;by_cases Af:1<=stop
 ·have q0:(0 != stop)=true:=by simp;omega
  repeat' first|refine GWL_start ?_|refine GWL_step ?_|refine cT ?_|(refine iy ?_;intro Q hQ hP;simp [hC,hY,hA,hS,cW,k1,j1,b0,w0,b1,w1,q0,Af];(first|refine hQ _ _ _ _ de ?_|refine hP _ _ de λ_=>?_))|fail
  exact lP
 ·have:stop=0:=zO;rcases this with rfl
  all_goals
   repeat' first|refine GWL_start ?_|refine GWL_step ?_|refine cT ?_|(refine iy ?_;intro Q hQ hP;simp [hC,hY,hA,hS,cW,k1,j1,b0,w0,b1,w1];(first|refine hQ _ _ _ _ de ?_|refine hP _ _ de λ_=>?_))|fail
  all_goals
   exact lP
theorem Tb (L:cf) (ks:Nat) (bm bs:Blk) (hT:LTwo G0 L ks bm bs) (off cap au av:Nat) (fm fs:aJ) (hm:MB bm off 3 fm) (fO:SB bs au 3 fs) (eK:3<=av) (g bx tp nr md st:Int) :
  IterK prog G0 119 #[.pointer (some ⟨208,0,none⟩),.pointer (some ⟨200,0,none⟩)] (hpL G0 (enM L ks off 3 cap au 3 av g bx tp nr md st)) (ak (enM L ks off 3 cap au 3 av g bx tp nr md st)) (Mx fm fs 3):=by
 have hL:=z7 hT off 3 cap au 3 av g bx tp nr md st;have dp:∀ k,dom (hpL G0 (enM L ks off 3 cap au 3 av g bx tp nr md st)) k->k<300:=λk hk=>bu λh1=>hk (hL.free G0F zO k zO);refine mZ (B:=300) (v:=.tuple #[]) G0F func119 rfl call119 hL ?_ si zO ?_
 ·exact pM
 intro C l stop hC bA hY;have hA:=hT.a;have hS:=hT.s;have cW:=hT.ne;have pV:=hT.k1;have aH:Mx fm fs 3=[#[.agg #[.int .i64 (fm 1),.int .i64 (fm 0),.int .i64 (f2V (fs 6) (fs 7) (fs 8) (fs 0) (fs 1) (fs 2))]],#[.agg #[.int .i64 (fm 2),.int .i64 (fm 0),.int .i64 (f2V (fs 12) (fs 13) (fs 14) (fs 0) (fs 1) (fs 2))]],#[.agg #[.int .i64 (fm 2),.int .i64 (fm 1),.int .i64 (f2V (fs 12) (fs 13) (fs 14) (fs 6) (fs 7) (fs 8))]]]:=rfl;rw [aH] at hY |-;have k1:1<=av:=zO;have j1:(1:Int)<=(av:Int):=zO;have k2:2<=av:=zO;have j2:(2:Int)<=(av:Int):=zO;have b0:=oI fO 0 zO (au) zO;simp only [Nat.reduceMul,Nat.reduceAdd,fF,cD] at b0;have w0:=oJ hm 0 zO (off) zO;have b1:=oI fO 1 zO (au+6) zO;simp only [Nat.reduceMul,Nat.reduceAdd,fF,cD] at b1;have w1:=oJ hm 1 zO (off+1) zO;have b2:=oI fO 2 zO (au+12) zO;simp only [Nat.reduceMul,Nat.reduceAdd,fF,cD] at b2;have w2:=oJ hm 2 zO (off+2) zO;unfold enM cfB cE;by_cases Af:3<=stop
 ·have q0:(0 != stop)=true:=by simp;omega
  have q1:(1 != stop)=true:=aB;have l1:1<=stop:=zO;have q2:(2 != stop)=true:=aB;have l2:2<=stop:=zO
  repeat' first|refine GWL_start ?_|refine GWL_step ?_|refine cT ?_|(refine iy ?_;intro Q hQ hP;simp [hC,hY,hA,hS,cW,k1,j1,k2,j2,b0,w0,b1,w1,b2,w2,q0,q1,l1,q2,l2,Af];(first|refine hQ _ _ _ _ de ?_|refine hP _ _ de λ_=>?_))|fail
  exact lP
 ·have:stop=0\/stop=1\/stop=2:=zO;rcases this with rfl|rfl|rfl
  all_goals
   repeat' first|refine GWL_start ?_|refine GWL_step ?_|refine cT ?_|(refine iy ?_;intro Q hQ hP;simp [hC,hY,hA,hS,cW,k1,j1,k2,j2,b0,w0,b1,w1,b2,w2];(first|refine hQ _ _ _ _ de ?_|refine hP _ _ de λ_=>?_))|fail
  all_goals
   exact lP
theorem Tc (L:cf) (ks:Nat) (bm bs:Blk) (hT:LTwo G0 L ks bm bs) (off cap au av:Nat) (fm fs:aJ) (hm:MB bm off 4 fm) (fO:SB bs au 4 fs) (eK:4<=av) (g bx tp nr md st:Int) :
  IterK prog G0 119 #[.pointer (some ⟨208,0,none⟩),.pointer (some ⟨200,0,none⟩)] (hpL G0 (enM L ks off 4 cap au 4 av g bx tp nr md st)) (ak (enM L ks off 4 cap au 4 av g bx tp nr md st)) (Mx fm fs 4):=by
 have hL:=z7 hT off 4 cap au 4 av g bx tp nr md st;have dp:∀ k,dom (hpL G0 (enM L ks off 4 cap au 4 av g bx tp nr md st)) k->k<300:=λk hk=>bu λh1=>hk (hL.free G0F zO k zO);refine mZ (B:=300) (v:=.tuple #[]) G0F func119 rfl call119 hL ?_ si zO ?_
 ·exact pM
 intro C l stop hC bA hY;have hA:=hT.a;have hS:=hT.s;have cW:=hT.ne;have pV:=hT.k1;have aH:Mx fm fs 4=[#[.agg #[.int .i64 (fm 1),.int .i64 (fm 0),.int .i64 (f2V (fs 6) (fs 7) (fs 8) (fs 0) (fs 1) (fs 2))]],#[.agg #[.int .i64 (fm 2),.int .i64 (fm 0),.int .i64 (f2V (fs 12) (fs 13) (fs 14) (fs 0) (fs 1) (fs 2))]],#[.agg #[.int .i64 (fm 2),.int .i64 (fm 1),.int .i64 (f2V (fs 12) (fs 13) (fs 14) (fs 6) (fs 7) (fs 8))]],#[.agg #[.int .i64 (fm 3),.int .i64 (fm 0),.int .i64 (f2V (fs 18) (fs 19) (fs 20) (fs 0) (fs 1) (fs 2))]],#[.agg #[.int .i64 (fm 3),.int .i64 (fm 1),.int .i64 (f2V (fs 18) (fs 19) (fs 20) (fs 6) (fs 7) (fs 8))]],#[.agg #[.int .i64 (fm 3),.int .i64 (fm 2),.int .i64 (f2V (fs 18) (fs 19) (fs 20) (fs 12) (fs 13) (fs 14))]]]:=rfl;rw [aH] at hY |-;have k1:1<=av:=zO;have j1:(1:Int)<=(av:Int):=zO;have k2:2<=av:=zO;have j2:(2:Int)<=(av:Int):=zO;have k3:3<=av:=zO;have j3:(3:Int)<=(av:Int):=zO;have b0:=oI fO 0 zO (au) zO;simp only [Nat.reduceMul,Nat.reduceAdd,fF,cD] at b0;have w0:=oJ hm 0 zO (off) zO;have b1:=oI fO 1 zO (au+6) zO;simp only [Nat.reduceMul,Nat.reduceAdd,fF,cD] at b1;have w1:=oJ hm 1 zO (off+1) zO;have b2:=oI fO 2 zO (au+12) zO;simp only [Nat.reduceMul,Nat.reduceAdd,fF,cD] at b2;have w2:=oJ hm 2 zO (off+2) zO;have b3:=oI fO 3 zO (au+18) zO;simp only [Nat.reduceMul,Nat.reduceAdd,fF,cD] at b3;have w3:=oJ hm 3 zO (off+3) zO;unfold enM cfB cE;by_cases Af:6<=stop
 ·have q0:(0 != stop)=true:=by simp;omega
  have q1:(1 != stop)=true:=aB;have l1:1<=stop:=zO;have q2:(2 != stop)=true:=aB;have l2:2<=stop:=zO;have q3:(3 != stop)=true:=aB;have l3:3<=stop:=zO;have q4:(4 != stop)=true:=aB;have l4:4<=stop:=zO;have q5:(5 != stop)=true:=aB;have l5:5<=stop:=zO
  repeat' first|refine GWL_start ?_|refine GWL_step ?_|refine cT ?_|(refine iy ?_;intro Q hQ hP;simp [hC,hY,hA,hS,cW,k1,j1,k2,j2,k3,j3,b0,w0,b1,w1,b2,w2,b3,w3,q0,q1,l1,q2,l2,q3,l3,q4,l4,q5,l5,Af];(first|refine hQ _ _ _ _ de ?_|refine hP _ _ de λ_=>?_))|fail
  exact lP
 ·have:stop=0\/stop=1\/stop=2\/stop=3\/stop=4\/stop=5:=zO;rcases this with rfl|rfl|rfl|rfl|rfl|rfl
  all_goals
   repeat' first|refine GWL_start ?_|refine GWL_step ?_|refine cT ?_|(refine iy ?_;intro Q hQ hP;simp [hC,hY,hA,hS,cW,k1,j1,k2,j2,k3,j3,b0,w0,b1,w1,b2,w2,b3,w3];(first|refine hQ _ _ _ _ de ?_|refine hP _ _ de λ_=>?_))|fail
  all_goals
   exact lP
theorem GB {p:Prop} (h:p:=by
 rintro v ns ⟨rfl,rfl⟩;have ha:eo (λk=>k∈ak L) [(1000,cfB (.slice (some ⟨100,off,none⟩) n cap) g bx tp nr md),(1000+1,cE st ks au n2 av)] 100:=.inl hT.ia;have hb:eo (λk=>k∈ak L) [(1000,cfB (.slice (some ⟨100,off,none⟩) n cap) g bx tp nr md),(1000+1,cE st ks au n2 av)] ks:=.inl hT.ib;refine ⟨gb,?_,?_⟩
 ·intro p hp;simp only [aj,az,ay] at hp;rcases hp with rfl|rfl
  ·exact ⟨zO,by simp [cfB,aM,aI,aP];exact ha⟩
  ·exact ⟨zO,by simp [cE,aM,aI,aP];exact hb⟩
 ·intro k b c h1 h2;simp at h1 h2;rcases h1 with ⟨e1,rfl⟩|⟨e1,rfl⟩<;>rcases h2 with ⟨e2,rfl⟩|⟨e2,rfl⟩<;>first|rfl|omega):p:=h
theorem Gu {p:Prop} (h:p:=by
 have h1:¬ks=1000:=zO;have h2:¬ks=1001:=zO;simp [cfB,cE,Blk.rn,aw,aF,h1,h2]):p:=h
def yX (nk ks off n cap au n2 av:Nat) (g bx tp nr md st:Int) (v:Value) (ns:cf):Prop :=
 v=.func (.func 119) #[] #[.pointer (some ⟨nk+1,0,none⟩),.pointer (some ⟨nk,0,none⟩)]/\ns=[(nk,cfB (.slice (some ⟨100,off,none⟩) n cap) g bx tp nr md),(nk+1,cE st ks au n2 av)]
theorem wj {nk ks off n cap au n2 av:Nat} {g bx tp nr md st:Int} {v:Value} {ns:cf} (h:yX nk ks off n cap au n2 av g bx tp nr md st v ns):∀ k∈ak ns,nk<=k/\k<nk+2:=by
 exact tf
theorem aaw (L:cf) (ks:Nat) (bm bs:Blk) (hT:LTwo G0 L ks bm bs) (off n cap au n2 av:Nat) (g bx tp nr md st:Int) :
  FunS prog G0 95 #[cfV (.slice (some ⟨100,off,none⟩) n cap) g bx tp nr md,.agg #[.int .i64 st,.slice (some ⟨ks,au,none⟩) n2 av]] (hpL G0 L) (ak L) (yX 1000 ks off n cap au n2 av g bx tp nr md st):=by
 refine eW (B:=200) G0F func95 rfl call95 hT.ok ?_ ?_ (by simp [ntmps95]) zO ?_
 ·exact Si
 ·exact GB
 intro C hC bA hY;have hA:=hT.a;have hS:=hT.s;have cW:=hT.ne;have jj:=hT.low;have pV:=hT.k1;have n6:=hT.k2;unfold cfV;refine cA (k3 hA hS cW) ?_;refine ⟨.inr trivial,Aj G0F,_,_,λk=>if k=1000 then 200 else if k=1001 then 208 else k,⟨rfl,rfl⟩,λk hk=>?_,zS,zS,by simp [results95,ren,aW,aw,aF],?_⟩
 ·dsimp only;exact QR
 ·exact Gu
theorem C7 {p:Prop} (h:p:=by simp [rnL,cfB,cE,Blk.rn,aw,aF,nZ,hk,h0,h1]):p:=h
theorem FI {p:Prop} (h:p:=by
 funext v ns;apply propext;constructor
 ·rintro ⟨v0,JF,⟨rfl,rfl⟩,rfl,rfl⟩;exact ⟨nh,C7⟩
 ·rintro ⟨rfl,rfl⟩;exact ⟨_,_,⟨rfl,rfl⟩,nh,C7⟩):p:=h
theorem F8 {p:Prop} (h:p:=by
 obtain ⟨p,hp,rfl⟩:=aC.1 hk;have:=hT.ok.big p hp;exact bC _ zO):p:=h
theorem HE {p:Prop} (h:p:=by
 intro p hp;have hb:=hT.ok.big p hp;rw [bC p.1 zO,Blk.fx_rn (hT.fx p hp)];exact ⟨hb.1,hT.mem p hp⟩):p:=h
theorem pN {p:Prop} (h:p:=by
 intro k hk l hl e;rw [kL k hk,kL l hl] at e;exact e):p:=h
theorem Ej {p:Prop} (h:p:=by
 obtain ⟨j,hj,rfl⟩:=DR v ns hV k hk;rw [e2 j hj];refine ⟨zO,λh=>?_⟩;obtain ⟨p,hp,e⟩:=aC.1 h;have:=hT.ok.big p hp;omega):p:=h
theorem EA {p:Prop} (h:p:=by
 obtain ⟨j,hj,rfl⟩:=DR v ns hV k hk;obtain ⟨i,hi,rfl⟩:=DR v ns hV l hl;rw [e2 j hj,e2 i hi] at e;omega):p:=h
theorem Xe (t a:Int):Fun prog G0 68 #[wd a,.pointer (some ⟨100,0,none⟩)] (hpL G0 [(100,wb t)]) (ak [(100,wb t)]) (.ret (wd (t - a)) []):=by
 refine cg (B:=200) G0F func68 rfl call68 ⟨zS,ai,pE⟩ ?_ (bw zS) zS zS (by simp [ntmps68]) zO ?_
 ·intro x hx;simp only [eZ,aj,az,ay] at hx;rcases hx with rfl|rfl
  ·exact bw zS
  ·exact RU
 intro C hC bA hY;refine cA @wb.eq_1 ?_;refine ⟨.inr rfl,by simp [results68],fU G0F (by simp [wb]) bO⟩
theorem S8 {nk Cc ks off n cap au n2 av:Nat} {g bx tp nr md st:Int} {ρ:dR} (nZ:ρ 100=100) (hk:ρ ks=ks) (h0:ρ nk=Cc) (h1:ρ (nk+1)=Cc+1) :
  RR ρ (yX nk ks off n cap au n2 av g bx tp nr md st)=yX Cc ks off n cap au n2 av g bx tp nr md st:=by
 exact FI
theorem K4 (nk:Nat) (rY:200<=nk) (L:cf) (ks:Nat) (bm bs:Blk) (hT:LTwo G0 L ks bm bs) (off n cap au n2 av:Nat) (g bx tp nr md st:Int) :
  FunS prog G0 95 #[cfV (.slice (some ⟨100,off,none⟩) n cap) g bx tp nr md,.agg #[.int .i64 st,.slice (some ⟨ks,au,none⟩) n2 av]] (hpL G0 L) (ak L) (yX nk ks off n cap au n2 av g bx tp nr md st):=by
 have e2:∀ j,j<2->up2 nk (1000+j)=nk+j:=λj hj=>xB;have bC:∀ k,k<1000->up2 nk k=k:=λk hk=>xC;have qx:=hT.k2
 have kL:∀ k∈ak L,up2 nk k=k:=λk hk=>by
  exact F8
 have DR:∀ v ns,yX 1000 ks off n cap au n2 av g bx tp nr md st v ns->∀ k∈ak ns,∃ j,j<2/\k=1000+j:=by
  intro v ns hV k hk;have:=wj hV k hk;exact ⟨k - 1000,zO,zO⟩
 refine (aaw L ks bm bs hT off n cap au n2 av g bx tp nr md st).mvL (eG:=hpL G0 L) (PN:=ak L) G0F hT.ok (up2 nk) (λk hk=>bC k zO) ?_ ?_ (S8 (bC _ zO) (bC _ zO) (e2 0 zO) (e2 1 zO)) hT.ok.low ?_ ?_ (λv ns hV k hk=>?_) (λv ns hV k hk l hl e=>?_)
 ·simp [cfV,ren,aW,aw,aF,bC 100 zO,bC ks zO]
 ·rw [gK kL];simp
 ·exact HE
 ·exact pN
 ·exact Ej
 ·exact EA
end Go.Gy
namespace Go.Gy
open Go Go.RowKit
section
variable {P:Program} {C:Ctx} {n:Nat} {d:List Deferred} {ro:Option Nat} {s:GS} {K:l6}
theorem GI.freeze {r:dR} {a:Act} {W:World} {k t:Nat} {cs:ca} (hk:s.hp k=some ⟨cs,.ty t⟩) (nZ:100<=k) (h:GI P C n d r s a W):GI P C n d r ⟨s.ts,upd s.hp k (some ⟨cs.map (aw r),.raw t (0,0)⟩),s.B,s.yc⟩ a W:=by
 have hD:dom (upd s.hp k (some ⟨cs.map (aw r),.raw t (0,0)⟩))=dom s.hp:=by
  funext q;unfold dom;by_cases e:q=k
  ·subst e;rw [cY,hk];simp
  ·rw [ao _ _ e]
 have hkB:¬s.B<=k:=λhb=>by have:=h.free k hb;rw [hk] at this;cases this
 refine ⟨⟨h.ri.size,?_,λq b hq=>?_,?_,?_,λi hi=>?_,λq hq=>?_,λq hq hd=>?_⟩,λx hx=>?_,h.low,h.flat,h.rounds⟩
 ·show Rel r (dom (upd s.hp k _)) s.ts a;rw [hD];exact h.ri.rel
 ·show W.heap[r q]? = some (b.obj r)/\b.ids (dom (upd s.hp k _));rw [hD];by_cases e:q=k
  ·subst e;have wE:some (Blk.mk (cs.map (aw r)) (.raw t (0,0)))=some b:=(cY _ _ _).symm.trans hq;cases wE;exact ⟨(h.ri.sat q _ hk).1,eX⟩
  ·have wE:s.hp q=some b:=(ao _ _ e).symm.trans hq;exact h.ri.sat q b wE
 ·show Inj r (dom (upd s.hp k _));rw [hD];exact h.ri.inj
 ·obtain ⟨S,ms,h1,h2,h3,h4⟩:=h.ri.ext;refine ⟨S,ms,h1,h2,λi hi=>?_,h4⟩;have cS:dom (upd s.hp k (some ⟨cs.map (aw r),.raw t (0,0)⟩)) i:=hi;rw [hD] at cS;exact h3 i cS
 ·show dom (upd s.hp k _) i/\_;rw [hD];exact h.ri.keep i hi
 ·show upd s.hp k _ q=_;rw [ao _ _ zO];exact h.ri.glob q hq
 ·have vc:dom (upd s.hp k (some ⟨cs.map (aw r),.raw t (0,0)⟩)) q:=hd;rw [hD] at vc;exact h.ri.low q hq vc
 ·show upd s.hp k _ x=none;have qy:s.B<=x:=hx;rw [ao _ _ zO];exact h.free x qy
theorem KS {c:Code} (k:Nat) {t:Nat} {cs:ca} (hk:s.hp k=some ⟨cs,.ty t⟩) (nZ:100<=k) (h:∀ Z7:Array Value,Z7.size=cs.size->(∀ (j:Nat) (v:Value),cs[j]? = some v->bU v=true->Z7[j]? = some v)->GW P C n d ro c ⟨s.ts,upd s.hp k (some ⟨Z7,.raw t (0,0)⟩),s.B,s.yc⟩ K):GW P C n d ro c s K:=λr a W hi =>
 h (cs.map (aw r)) zS (λj v hj hf=>by simp [hj,fY hf]) r a W (hi.freeze hk nZ)
end
end Go.Gy
namespace Go.Gy
open Go Go.RowKit Go.Proofs Go.Proofs.Tryz
def KV (nk ks off n cap au n2 av:Nat) (g bx tp nr md st:Int) (v:Value) (ns:cf):Prop :=
 v=.func (.func 130) #[] #[.pointer (some ⟨nk,0,none⟩),.pointer (some ⟨nk+1,0,none⟩)]/\ns=[(nk,cfB (.slice (some ⟨100,off,none⟩) n cap) g bx tp nr md),(nk+1,cE st ks au n2 av)]
theorem Lr {nk ks off n cap au n2 av:Nat} {g bx tp nr md st:Int} {v:Value} {ns:cf} (h:KV nk ks off n cap au n2 av g bx tp nr md st v ns):∀ k∈ak ns,nk<=k/\k<nk+2:=by
 exact tf
theorem XQ (L:cf) (ks:Nat) (bm bs:Blk) (hT:LTwo G0 L ks bm bs) (off n cap au n2 av:Nat) (g bx tp nr md st:Int) :
  FunS prog G0 105 #[cfV (.slice (some ⟨100,off,none⟩) n cap) g bx tp nr md,.agg #[.int .i64 st,.slice (some ⟨ks,au,none⟩) n2 av]] (hpL G0 L) (ak L) (KV 1000 ks off n cap au n2 av g bx tp nr md st):=by
 refine eW (B:=200) G0F func105 rfl call105 hT.ok ?_ ?_ (by simp [ntmps105]) zO ?_
 ·exact Si
 ·exact GB
 intro C hC bA hY;have hA:=hT.a;have hS:=hT.s;have cW:=hT.ne;have jj:=hT.low;have pV:=hT.k1;have n6:=hT.k2;unfold cfV;refine cA (k3 hA hS cW) ?_;refine ⟨.inr trivial,Aj G0F,_,_,λk=>if k=1000 then 200 else if k=1001 then 208 else k,⟨rfl,rfl⟩,λk hk=>?_,zS,zS,by simp [results105,ren,aW,aw,aF],?_⟩
 ·dsimp only;exact QR
 ·exact Gu
theorem ack {nk Cc ks off n cap au n2 av:Nat} {g bx tp nr md st:Int} {ρ:dR} (nZ:ρ 100=100) (hk:ρ ks=ks) (h0:ρ nk=Cc) (h1:ρ (nk+1)=Cc+1) :
  RR ρ (KV nk ks off n cap au n2 av g bx tp nr md st)=KV Cc ks off n cap au n2 av g bx tp nr md st:=by
 exact FI
theorem TU (nk:Nat) (rY:200<=nk) (L:cf) (ks:Nat) (bm bs:Blk) (hT:LTwo G0 L ks bm bs) (off n cap au n2 av:Nat) (g bx tp nr md st:Int) :
  FunS prog G0 105 #[cfV (.slice (some ⟨100,off,none⟩) n cap) g bx tp nr md,.agg #[.int .i64 st,.slice (some ⟨ks,au,none⟩) n2 av]] (hpL G0 L) (ak L) (KV nk ks off n cap au n2 av g bx tp nr md st):=by
 have e2:∀ j,j<2->up2 nk (1000+j)=nk+j:=λj hj=>xB;have bC:∀ k,k<1000->up2 nk k=k:=λk hk=>xC;have qx:=hT.k2
 have kL:∀ k∈ak L,up2 nk k=k:=λk hk=>by
  exact F8
 have DR:∀ v ns,KV 1000 ks off n cap au n2 av g bx tp nr md st v ns->∀ k∈ak ns,∃ j,j<2/\k=1000+j:=by
  intro v ns hV k hk;have:=Lr hV k hk;exact ⟨k - 1000,zO,zO⟩
 refine (XQ L ks bm bs hT off n cap au n2 av g bx tp nr md st).mvL (eG:=hpL G0 L) (PN:=ak L) G0F hT.ok (up2 nk) (λk hk=>bC k zO) ?_ ?_ (ack (bC _ zO) (bC _ zO) (e2 0 zO) (e2 1 zO)) hT.ok.low ?_ ?_ (λv ns hV k hk=>?_) (λv ns hV k hk l hl e=>?_)
 ·simp [cfV,ren,aW,aw,aF,bC 100 zO,bC ks zO]
 ·rw [gK kL];simp
 ·exact HE
 ·exact pN
 ·exact Ej
 ·exact EA
def IF (fs:aJ) (i:Nat):Value:=.agg #[.int .i64 (fs (6*i)),.int .i64 (fs (6*i+1)),.int .i64 (fs (6*i+2)),.int .i64 (fs (6*i+3)),.int .i64 (fs (6*i+4)),.int .i64 (fs (6*i+5))]
def TT (fm fs:aJ) (n:Nat):List (Array Value):=(List.range n).map λi=>#[.int .i64 (fm i),IF fs i]
theorem Pd (fm fs:aJ) (n:Nat):(TT fm fs n).length=n:=by simp [TT]
theorem M7 (fm fs:aJ) (n i:Nat) (h:i<n):(TT fm fs n)[i]? = some #[.int .i64 (fm i),IF fs i]:=by simp [TT,h]
def agR (L:cf) (ks off n cap au n2 av:Nat) (g bx tp nr md st:Int) (l i:Nat):GS :=
 ⟨tsL [(0,.func (.yield l) #[] #[]),(1,.pointer (some ⟨200,0,none⟩)),(2,.pointer (some ⟨208,0,none⟩)),(7,.slice (some ⟨100,off,none⟩) n cap),(8,.int .i64 n),(9,.int .i64 i)],hpL G0 ([(200,cfB (.slice (some ⟨100,off,none⟩) n cap) g bx tp nr md),(208,cE st ks au n2 av)]++L),400,i⟩
theorem TV (L:cf) (ks:Nat) (bm bs:Blk) (hT:LTwo G0 L ks bm bs) (off n cap au av:Nat) (fm fs:aJ) (hm:MB bm off n fm) (fO:SB bs au n fs) (g bx tp nr md st:Int) :
  IterK prog G0 130 #[.pointer (some ⟨200,0,none⟩),.pointer (some ⟨208,0,none⟩)] (hpL G0 (enM L ks off n cap au n av g bx tp nr md st)) (ak (enM L ks off n cap au n av g bx tp nr md st)) (TT fm fs n):=by
 have hL:=z7 hT off n cap au n av g bx tp nr md st;have dp:∀ k,dom (hpL G0 (enM L ks off n cap au n av g bx tp nr md st)) k->k<300:=λk hk=>bu λh1=>hk (hL.free G0F zO k zO);refine mZ (B:=300) (v:=.tuple #[]) G0F func130 rfl call130 hL ?_ (by simp [ntmps130]) zO ?_
 ·exact pM
 intro C l stop hC bA hY;have hA:=hT.a;have hS:=hT.s;have cW:=hT.ne;have pV:=hT.k1;have n6:=hT.k2;have Lk:=fO.nn;have vq:=hT.fx;have hlen:=Pd fm fs n;have Sp:=jx (G:=G0) (m:=[(200,cfB (.slice (some ⟨100,off,none⟩) n cap) g bx tp nr md),(208,cE st ks au n av)]) hT.ia;have zA:=jx (G:=G0) (m:=[(200,cfB (.slice (some ⟨100,off,none⟩) n cap) g bx tp nr md),(208,cE st ks au n av)]) hT.ib;unfold dom at Sp zA;simp only [bj,bq] at Sp zA
 have fN:∀ (s:GS) (B:Nat) (tl:List (Nat×Value)),400<=B->(∀ p∈tl,s.ts p.1=p.2/\aL (dom (hpL G0 ([(200,cfB (.slice (some ⟨100,off,none⟩) n cap) g bx tp nr md),(208,cE st ks au n av)]++L))) p.2)->(∀ k,k<300->s.hp k=hpL G0 (enM L ks off n cap au n av g bx tp nr md st) k)->Weak C s ⟨tsL tl,hpL G0 ([(200,cfB (.slice (some ⟨100,off,none⟩) n cap) g bx tp nr md),(208,cE st ks au n av)]++L),B,s.yc⟩:=λs B tl hB hl hh=>by
  refine cB tl B hC G0F (m0:=enM L ks off n cap au n av g bx tp nr md st) bA zO hl (λp hp=>?_) (λp hp=>?_)
  ·have hb:=hL.big p hp
   exact ⟨by rw [hh p.1 zO];exact LOk.at hL.one p hp,by
    refine Blk.ids_mono ?_ (hL.ids p hp);intro k hk;exact hL.sub k hk,hb.1,zO⟩
  ·have hb:=hL.big p hp;exact ⟨hb.1,(hh p.1 zO).symm⟩
 unfold enM cfB cE
 repeat' first|refine cT ?_|(refine iy ?_;intro Q hQ hP;simp [hC,hY,hA,hS,cW];(first|refine hQ _ _ _ _ de ?_|refine hP _ _ de λ_=>?_))|fail
 refine fD (min stop n) (agR L ks off n cap au n av g bx tp nr md st l) ?_ ?_ ?_
 ·refine fN _ 400 _ zO ?_ ?_
  ·simp [aL,cQ,aI,aP,dom,hA]
  ·intro k hk;simp [enM,cfB,cE]
 ·intro i hi;have ew:i<n:=zO;have cS:(i:Int)<n:=zO;have hz:(0:Int)<=i:=zO;have hs:Int.bmod ((i:Int)+1) 18446744073709551616=((i+1:Nat):Int):=by rw [Go.Gy.bm zO zO];rfl
  have Ss:(i != stop)=true:=aB;have hle:i<=stop:=zO;have hld:=fO.body ew;have alA:=hm.at ew;have hx:=M7 fm fs n i ew;unfold agR cfB cE;unfold IF at hx
  repeat' first|refine cT ?_|(refine iy ?_;intro Q hQ hP;simp [hC,hY,hA,hS,cW,ew,cS,hz,hs,Ss,hle,hld,alA,hx];(first|refine hQ _ _ _ _ de ?_|refine hP _ _ de λ_=>?_))|fail
  refine fN _ 400 _ zO ?_ ?_
  ·simp [aL,cQ,aI,aP,dom,hA,hs]
  ·intro k hk;simp [enM,cfB,cE]
 ·by_cases h4:n<=stop
  ·rw [vF h4];unfold agR;refine iI ?_;refine ⟨.inl trivial,by simp [results130],by first|(rw [hlen];omega)|omega,λk hk=>?_⟩
   first|rfl|(simp [enM];done)
  ·rw [v5 zO];have ew:stop<n:=zO;have cS:(stop:Int)<n:=zO;have hz:(0:Int)<=stop:=zO;have hld:=fO.body ew;have alA:=hm.at ew;have hx:=M7 fm fs n stop ew;unfold agR cfB cE;unfold IF at hx
   repeat' first|refine cT ?_|(refine iy ?_;intro Q hQ hP;simp [hC,hY,hA,hS,cW,ew,cS,hz,hld,alA,hx];(first|refine hQ _ _ _ _ de ?_|refine hP _ _ de λ_=>?_))|fail
   refine ⟨.inr trivial,by simp [results130],by first|omega|(simp;omega)|(rw [hlen];omega),λk hk=>?_⟩;have hk:=dp k hk
   first|rfl|(simp (disch:=omega) only [ao];done)|(simp (disch:=omega) only [ao];rfl)
theorem jB {p:Prop} (h:p:=by intro q hq;obtain ⟨p,hp,rfl⟩:=aC.1 hq;have HR:=hT.ok.big p hp;(try dsimp only);simp (disch:=omega) only [ao]):p:=h
theorem cF {p:Prop} (h:p:=by (intro k hk;first|exact jj k hk|(simp (disch:=omega) only [jj,gT,aj,az,ay,ao,bV,eH,ae,bH,bj,bq]<;>done))):p:=h
theorem EK {p:Prop} (h:p:=by
 refine ⟨HR.1,?_⟩
 (try dsimp only)
 simp (disch:=omega) only [gT,ao,bV,eH,ae,bH];exact hT.mem p hp):p:=h
theorem yN {p:Prop} (h:p:=by
 intro k hk b lY;rcases aj.1 hk with rfl|hk
 ·simp [upd] at lY;subst lY;simp [cfB,aM,aI,aP,hT.ia]
 ·rcases aj.1 hk with rfl|hk
  ·simp [upd] at lY;subst lY;simp [cE,aM,aI,aP,hT.ib]
  ·obtain ⟨p,hp,rfl⟩:=aC.1 hk;have HR:=hT.ok.big p hp;dsimp only at lY;simp (disch:=omega) only [gT,ao,bV,eH,ae,bH] at lY;rw [hT.mem p hp] at lY;simp only [bf] at lY;subst lY;exact Blk.fx_ids (hT.fx p hp) _):p:=h
def mzF (fm:aJ) (z:lX) (u i:Nat):Int:=fm i*z u i
theorem JB {m x:Int} (h0:1<=m) (h1:m<=1024) (h2:-274877906944<=x) (h3:x<=274877906944):-281474976710656<=m*x/\m*x<=281474976710656:=by
 have a:=fg h3 (zO:(0:Int)<=m);have b:=fg h2 (zO:(0:Int)<=m);have c:=fE h1 (zO:(0:Int)<=274877906944);omega
theorem M6 {f:aJ} {n:Nat} (h:∀ i,i<n->-281474976710656<=f i/\f i<=281474976710656):∀ i,i<=n->-((i:Int)*281474976710656)<=dh f i/\dh f i<=(i:Int)*281474976710656
 | 0,_=>by simp [dh]
 | i+1,hi=>by
  have ih:=M6 h i zO;have:=h i zO;unfold dh;omega
def mbr (k:Nat):Nat:=if k=200 then 288 else if k=208 then 289 else k
theorem JA {k:Nat} (h:k<200):mbr k=k:=by unfold mbr;rw [ae zO,ae zO]
def vcB (x y z:Int):Blk:=⟨#[.int .i64 x,.int .i64 y,.int .i64 z],.ty 33⟩
def ofB (F:Nat):Blk:=⟨#[.func (.func F) #[] #[]],.ty 109⟩
theorem ae5 {L:cf} (hL:LOk L 200):∀ k,k∈288::289::ak L->k=288\/k=289\/(100<=k/\k<200):=λk hk=>by
 rcases aj.1 hk with rfl|hk
 ·exact .inl rfl
 ·rcases aj.1 hk with rfl|hk
  ·exact .inr (.inl rfl)
  ·obtain ⟨p,hp,rfl⟩:=aC.1 hk;exact .inr (.inr (hL.big p hp))
theorem VS (L:cf) (ks:Nat) (bm bs:Blk) (hT:LTwo G0 L ks bm bs) (off n cap au av:Nat) (fm fs:aJ) (hm:MB bm off n fm) (fO:SB bs au n fs) (g bx tp nr md st:Int) (hs:i64 st) (eM:fk n fm g bx tp nr md=true) (jh:aY st fs n=true) (F:Nat) (z:lX)
  (hF:∀ i,i<n->∀ K,bl prog G0 F #[IF fs i] K↔K (.agg #[.int .i64 (z 0 i),.int .i64 (z 1 i),.int .i64 (z 2 i)])) (hz:∀ u i,i<n->-274877906944<=z u i/\z u i<=274877906944) :
  Fun prog G0 70 #[cfV (.slice (some ⟨100,off,none⟩) n cap) g bx tp nr md,.agg #[.int .i64 st,.slice (some ⟨ks,au,none⟩) n av],.func (.func F) #[] #[]] (hpL G0 L) (ak L) (.ret (.tuple #[.agg #[.int .i64 (dh (mzF fm z 0) n),.int .i64 (dh (mzF fm z 1) n),.int .i64 (dh (mzF fm z 2) n)],.int .i64 0]) []):=by
 refine cg (B:=200) G0F func70 rfl call70 hT.ok ?_ (bw zS) zS zS (by simp [ntmps70]) zO ?_
 ·exact Si
 intro C hC bA hY;have hA:=hT.a;have hS:=hT.s;have cW:=hT.ne;have jj:=hT.low;have pV:=hT.k1;have n6:=hT.k2;have eI:=AZ L ks bm bs hT off n cap au n av fm fs hm fO g bx tp nr md st hs;rw [kC.2 ⟨rfl,eM,jh⟩] at eI;have iZ:=TU 288 zO L ks bm bs hT off n cap au n av g bx tp nr md st;have hlen:=Pd fm fs n;have Lj:=(ji jh).2.1;unfold cfV at eI iZ |-
 repeat' first|refine cT ?_|((first|refine gwR [94] ?_|refine gwD [94] ?_);intro Q hQ _;(repeat first|simp [hC,hY,hA,hS,cW]|refine cV eI hT.ok fS ?_);refine dq hQ ?_)|fail
 refine gj ?_;refine By (k3 hA hS cW) ?_;refine cv (f:=.func 105) (cap:=#[]) hC iZ rfl zS rfl rfl aS aq zS aZ aq jB cF (λv ns hV k hk=>by have:=Lr hV k hk;simp;omega) ?_;rintro v ns ⟨rfl,rfl⟩;refine cu ?_
 repeat' first|refine cT ?_|(refine iy ?_;intro Q hQ _;simp [hC,hY,cJ,bH,hA,hS,cW];refine dq hQ ?_)|fail
 simp only [cJ,bH];have iJ:=ae5 hT.ok
 have afZ:∀ k∈ak L,mbr k=k:=λk hk=>by
  obtain ⟨p,hp,rfl⟩:=aC.1 hk;exact JA (hT.ok.big p hp).2
 have Ko:=hC;have hYY:=hY
 have BX:∀ u i,i<=n->-1125899906842624<=dh (mzF fm z u) i/\dh (mzF fm z u) i<=1125899906842624:=λu i hi=>by
  have:=M6 (f:=mzF fm z u) (n:=n) (λj hj=>by
   have Ty:=jN eM hj;have VD:=hz u j hj;exact JB Ty.1 Ty.2 VD.1 VD.2) i hi
  omega
 refine uw (G:=G0) (f:=130) (rs:=288::289::ak L) (xs:=TT fm fs n) (bF:=#[.pointer (some ⟨288,0,none⟩),.pointer (some ⟨289,0,none⟩)]) (m0:=L) (288::289::ak L) G0F hC bA hY zS ?_ ?_ (by simp [ntmps70]) [(5,.pointer (some ⟨216,0,none⟩)),(6,.pointer (some ⟨224,0,none⟩))] [] (λi=>[(216,ofB F),(224,vcB (dh (mzF fm z 0) i) (dh (mzF fm z 1) i) (dh (mzF fm z 2) i))]) 400 n (by rw [hlen];exact aA _) zO (λk hk=>hk) ?_ ?_ zS zS ?_ ?_ ?_ ?_ ?_
 ·refine tX (TV L ks bm bs hT off n cap au av fm fs hm fO g bx tp nr md st) G0F (z7 hT off n cap au n av g bx tp nr md st) mbr (λk hk=>JA zO) (by simp [aF,mbr]) ?_ cF ?_ ?_
  ·show mbr 200::mbr 208::(ak L).map mbr=_;rw [gK afZ];simp [mbr]
  ·intro p hp;rcases aj.1 hp with rfl|hp
   ·simp [mbr,cfB,Blk.rn,aw,aF,upd]
   ·rcases aj.1 hp with rfl|hp
    ·have h3:mbr ks=ks:=JA n6;simp [cE,Blk.rn,aw,aF,upd,h3];simp [mbr,upd]
    ·have HR:=hT.ok.big p hp;rw [JA HR.2,Blk.fx_rn (hT.fx p hp)];exact EK
  ·have key:∀ k∈ak (enM L ks off n cap au n av g bx tp nr md st),(k=200/\mbr k=288)\/(k=208/\mbr k=289)\/(k<200/\mbr k=k):=λk hk=>by
    rcases aj.1 hk with rfl|hk
    ·exact .inl ⟨rfl,rfl⟩
    ·rcases aj.1 hk with rfl|hk
     ·exact .inr (.inl ⟨rfl,rfl⟩)
     ·obtain ⟨p,hp,rfl⟩:=aC.1 hk;have:=(hT.ok.big p hp).2;exact .inr (.inr ⟨this,JA this⟩)
   intro k hk l hl e;have:=key k hk;have:=key l hl;omega
 ·intro x hx;unfold TT at hx;obtain ⟨i,_,rfl⟩:=aK.1 hx;simp [IF]
 ·intro k hk;rcases aj.1 hk with rfl|hk
  ·simp [dom,upd]
  ·rcases aj.1 hk with rfl|hk
   ·simp [dom,upd]
   ·obtain ⟨p,hp,rfl⟩:=aC.1 hk;have HR:=hT.ok.big p hp;refine ⟨HR.1,?_,zO⟩;unfold dom;dsimp only;simp (disch:=omega) only [gT,ao,bV,eH,ae,bH];rw [hT.mem p hp];simp
 ·exact yN
 ·simp [ofB,vcB,dh,upd,bH]
 ·intro i hi;refine ⟨nc,?_⟩;have ho:∀ k,200<=k->k<288->k∉288::289::ak L:=λk h1 h2 h3=>by have:=iJ k h3;omega
  simp only [aj,az,ay,dc,bN];exact ⟨⟨zO,zO,by simpa using ho 216 zO zO,by simp [ofB,aM,aI,aP]⟩,zO,zO,by simpa using ho 224 zO zO,by simp [vcB,aM,aI,aP]⟩
 ·intro p hp;exact .inl (aD _ (aD _ (aC.2 ⟨p,hp,rfl⟩)))
 ·intro i x hi hx C1 j c1 c2 c3;rw [M7 fm fs n i hi] at hx;simp only [bf] at hx;subst hx;have Rt:=hF i hi;have b0:=BX 0 i zO;have b1:=BX 1 i zO;have b2:=BX 2 i zO;have d0:=BX 0 (i+1) zO;have d1:=BX 1 (i+1) zO;have d2:=BX 2 (i+1) zO;have e0:dh (mzF fm z 0) (i+1)=dh (mzF fm z 0) i+fm i*z 0 i:=rfl;have e1:dh (mzF fm z 1) (i+1)=dh (mzF fm z 1) i+fm i*z 1 i:=rfl;have e2:dh (mzF fm z 2) (i+1)=dh (mzF fm z 2) i+fm i*z 2 i:=rfl;rw [e0,e1,e2] at *
  generalize dh (mzF fm z 0) i=A0 at *
  generalize dh (mzF fm z 1) i=A1 at *
  generalize dh (mzF fm z 2) i=A2 at *
  have Ty:=jN eM hi;have k0:=JB Ty.1 Ty.2 (hz 0 i hi).1 (hz 0 i hi).2;have k1:=JB Ty.1 Ty.2 (hz 1 i hi).1 (hz 1 i hi).2;have k2:=JB Ty.1 Ty.2 (hz 2 i hi).1 (hz 2 i hi).2;have q0:Int.bmod (fm i*z 0 i) 18446744073709551616=fm i*z 0 i:=Go.Gy.bm zO zO;have q1:Int.bmod (fm i*z 1 i) 18446744073709551616=fm i*z 1 i:=Go.Gy.bm zO zO;have q2:Int.bmod (fm i*z 2 i) 18446744073709551616=fm i*z 2 i:=Go.Gy.bm zO zO;have r0:Int.bmod (A0+fm i*z 0 i) 18446744073709551616=A0+fm i*z 0 i:=Go.Gy.bm zO zO;have r1:Int.bmod (A1+fm i*z 1 i) 18446744073709551616=A1+fm i*z 1 i:=Go.Gy.bm zO zO;have r2:Int.bmod (A2+fm i*z 2 i) 18446744073709551616=A2+fm i*z 2 i:=Go.Gy.bm zO zO;clear hC hY;have hC:=c1;have hY:=c3;unfold IF at Rt |-;unfold ofB vcB;refine cA @bG.eq_1 ?_;intro C2 tP Jd tQ;clear hC hY;have hC:=tP;have hY:=tQ;refine qv (k7 Rt q0 q1 q2 r0 r1 r2) ?_;simp
 ·refine .inl ⟨hlen.symm,?_⟩;unfold ofB vcB;have hmo:∀ k,200<=k->k<288->(k∈288::289::ak L)=False:=λk h1 h2=>eq_false λh3=>by have:=iJ k h3;omega
  have OG:=hmo 216 zO zO;have OH:=hmo 224 zO zO;refine cA (k3 @gT.eq_1 OG OH) ?_
  refine ⟨.inr rfl,by simp [results70,gT,OG,OH],fU G0F (λp hp=>by
    have HR:=hT.ok.big p hp;have Li:p.1∈288::289::ak L:=aD _ (aD _ (aC.2 ⟨p,hp,rfl⟩));simp (disch:=omega) only [eIn Li,ao,bV,eH,ae,bH]) (λk hk=>by
    have Li:k∉288::289::ak L:=λLi=>by have:=iJ k Li;omega
    simp (disch:=omega) only [eNi Li,ao,bV,eH,ae,bH,jj])⟩
end Go.Gy
namespace Go.Gy
abbrev rL := @Nat.le_of_lt
structure HS where
 N:Int
 v:Nat->Int
def uD (c:Nat):Bool:=c==0||(decide (2<=c)&&(c - 2) / 3%2==0)
def mm (c:Nat) (x y:Int):Int:=if uD c then min x y else max x y
def HS.one (h:HS) (w:aJ):HS:=⟨h.N+1,λc=>if h.N=0 then w c else mm c (h.v c) (w c)⟩
def jO (w:aJ):Bool:=decide (w 0<=w 1)
def HS.tk (h:HS) (w:lX):Nat->HS
 | 0=>h
 | i+1=>if jO (w i)=true/\¬(h.tk w i).N=1073741824 then (h.tk w i).one (w i) else h.tk w i
def jc (w:lX):Nat->Nat
 | 0=>0
 | i+1=>jc w i+if jO (w i) then 1 else 0
theorem uC (w:lX):∀ n,jc w n<=n
 | 0=>aA _
 | n+1=>by have:=uC w n;unfold jc;split<;>omega
theorem z6 {w:lX}:∀ {n:Nat},jc w n=0↔∀ i,i<n->jO (w i)=false
 | 0=>⟨λ_ i hi=>absurd hi (jt i),λ_=>rfl⟩
 | n+1=>by
  unfold jc;constructor
  ·intro h i hi;by_cases c:i=n
   ·subst c
    cases e:jO (w i) with
    | false=>rfl
    | true=>rw [e,ag rfl] at h;omega
   ·have h2:jc w n=0:=zO;exact z6.1 h2 i zO
  ·intro h;rw [z6.2 λi hi=>h i zO,h n zO]
   rfl
theorem YM {h:HS} {w:lX}:∀ {n:Nat},h.N+n<=1073741824->(h.tk w n).N=h.N+jc w n
 | 0,_=>(mO _).symm
 | n+1,hn=>by
  have ih:=YM (h:=h) (w:=w) (n:=n) zO;have:=uC w n;unfold HS.tk jc
  cases e:jO (w n) with
  | false=>rw [ae zS,ih];simp
  | true =>
   rw [ag ⟨rfl,by rw [ih];omega⟩];unfold HS.one;rw [ih];simp;omega
theorem ash {c:Nat} {x y:Int} (h:uD c=true):mm c x y<=x/\mm c x y<=y/\(mm c x y=x\/mm c x y=y):=by
 unfold mm;rw [ag h];omega
theorem asg {c:Nat} {x y:Int} (h:uD c=false):x<=mm c x y/\y<=mm c x y/\(mm c x y=x\/mm c x y=y):=by
 unfold mm;rw [ae (by rw [h];decide)];omega
def bey (c:Nat) (x y:Int):Prop:=if uD c then x<=y else y<=x
theorem aj7 (c:Nat) (x y:Int):bey c (mm c x y) x/\bey c (mm c x y) y/\(mm c x y=x\/mm c x y=y):=by
 unfold bey
 cases h:uD c with
 | true=>exact ash h
 | false=>exact asg h
theorem U8 (c:Nat) (x:Int):bey c x x:=by unfold bey;split<;>omega
theorem KY {c:Nat} {x y z:Int} (h:bey c x y) (k:bey c y z):bey c x z:=by unfold bey at *;split at h<;>simp_all<;>omega
structure TkC (h:HS) (w:lX) (n:Nat) (c:Nat) (x:Int):Prop where
 all:∀ i,i<n->jO (w i)=true->bey c x (w i c)
 old:¬h.N=0->bey c x (h.v c)
 is:(∃ i,i<n/\jO (w i)=true/\x=w i c)\/((¬h.N=0\/jc w n=0)/\x=h.v c)
theorem YL {h:HS} {w:lX} (h0:0<=h.N) (c:Nat):∀ {n:Nat},h.N+n<=1073741824->TkC h w n c ((h.tk w n).v c)
 | 0,_=>⟨λi hi=>absurd hi (jt i),λ_=>U8 c _,.inr ⟨.inr rfl,rfl⟩⟩
 | n+1,hn=>by
  have ih:=YL (h:=h) (w:=w) h0 c (n:=n) zO;have hN:=YM (h:=h) (w:=w) (n:=n) zO;have hle:=uC w n;unfold HS.tk
  cases e:jO (w n) with
  | false =>
   rw [ae zS];refine ⟨λi hi hf=>?_,ih.old,ih.is.imp (λ⟨i,h1,h2⟩=>⟨i,zO,h2⟩) λ⟨h1,h2⟩=>⟨h1.imp id λk=>by unfold jc;rw [k,e];rfl,h2⟩⟩;by_cases ci:i=n
   ·subst ci;rw [e] at hf;cases hf
   ·exact ih.all i zO hf
  | true =>
   rw [ag ⟨rfl,by rw [hN];omega⟩];unfold HS.one;simp only;by_cases z:(h.tk w n).N=0
   ·rw [ag z];rw [hN] at z;have hz:h.N=0:=zO;have cz:jc w n=0:=zO;refine ⟨λi hi hf=>?_,λk=>absurd hz k,.inl ⟨n,zO,e,rfl⟩⟩;by_cases ci:i=n
    ·subst ci;exact U8 c _
    ·rw [z6.1 cz i zO] at hf;cases hf
   ·rw [ae z];obtain ⟨m1,m2,m3⟩:=aj7 c ((h.tk w n).v c) (w n c);refine ⟨λi hi hf=>?_,λk=>KY m1 (ih.old k),?_⟩
    ·by_cases ci:i=n
     ·subst ci;exact m2
     ·exact KY m1 (ih.all i zO hf)
    ·rcases m3 with m3|m3
     ·rw [m3];rcases ih.is with ⟨i,h1,h2⟩|⟨h1,h2⟩
      ·exact .inl ⟨i,zO,h2⟩
      ·refine .inr ⟨.inl ?_,h2⟩;rcases h1 with h1|h1
       ·exact h1
       ·rw [hN,h1] at z;simpa using z
     ·exact .inl ⟨n,zO,e,m3⟩
def HY (n:Nat) (w u:lX) (i:Nat):Nat->Int:=if i<n then w i else u (i - n)
theorem ajM {h:HS} {n:Nat} {w u:lX}:∀ {k:Nat},k<=n->h.tk (HY n w u) k=h.tk w k
 | 0,_=>rfl
 | k+1,hk=>by
  have qx:k<n:=hk;have ih:=ajM (h:=h) (w:=w) (u:=u) (n:=n) (k:=k) (rL qx);have e:HY n w u k=w k:=ag qx;simp only [HS.tk,ih,e]
theorem adQ {h:HS} {n:Nat} {w u:lX}:∀ (m:Nat),h.tk (HY n w u) (n+m)=(h.tk w n).tk u m
 | 0=>ajM (aA _)
 | m+1=>by
  have ih:=adQ (h:=h) (n:=n) (w:=w) (u:=u) m;have e:HY n w u (n+m)=u m:=by unfold HY;rw [ae zO,Nat.add_sub_cancel_left]
  rw [show n+(m+1)=(n+m)+1 from rfl];simp only [HS.tk,ih,e]
def mr (h:HS):Bool:=if h.N=0 then (List.range 14).all λc=>h.v c==0 else decide (0<h.N/\h.N<=1073741824)&&(decide (h.v 0<=h.v 1)&&(List.range 3).all λq=>decide (h.v (2+q)<=h.v (5+q))&&decide (h.v (8+q)<=h.v (11+q)))
def tT (h:HS) (w:aJ):Bool:=!(decide (h.N=0))&&(mr h&&(decide (h.v 0<=w 0/\w 0<=h.v 1)&&(decide (h.v 0<=w 1/\w 1<=h.v 1)&&(List.range 3).all λq=>decide (h.v (2+q)<=w (2+q)/\w (2+q)<=h.v (5+q))&&decide (h.v (8+q)<=w (8+q)/\w (8+q)<=h.v (11+q)))))
theorem G9 {p:Prop} (h:p:=by
 rw [cX];exact ⟨λh c hc=>h c (mM.2 hc),λh c hc=>h c (mM.1 hc)⟩):p:=h
theorem apB {P:Nat->Bool}:((List.range 14).all P)=true↔∀ c,c<14->P c=true:=by
 exact G9
theorem aj4 {P:Nat->Bool}:((List.range 3).all P)=true↔∀ c,c<3->P c=true:=by
 exact G9
theorem adr {h:HS} (z:h.N=0):mr h=true↔∀ c,c<14->h.v c=0:=by
 unfold mr;rw [ag z,apB];simp
theorem PJ {h:HS} (z:¬h.N=0):mr h=true↔(0<h.N/\h.N<=1073741824)/\h.v 0<=h.v 1/\∀ q,q<3->h.v (2+q)<=h.v (5+q)/\h.v (8+q)<=h.v (11+q):=by
 unfold mr;rw [ae z,bn,bn,aj4,db,db];simp only [bn,db]
theorem PI {h:HS} (k:mr h=true):0<=h.N/\h.N<=1073741824:=by
 by_cases z:h.N=0
 ·omega
 ·have:=(PJ z).1 k;omega
def vh (w:lX):Prop:=∀ i q,q<3->w i (2+q)=w i (5+q)/\w i (8+q)=w i (11+q)
theorem ahD {n:Nat} {w u:lX} (h:vh w) (k:vh u):vh (HY n w u):=λi q hq=>by
 unfold HY;split
 ·exact h i q hq
 ·exact k _ q hq
theorem aag {q:Nat} (hq:q<3):uD (2+q)=true/\uD (8+q)=true/\uD (5+q)=false/\uD (11+q)=false:=by
 have:q=0\/q=1\/q=2:=zO;rcases this with rfl|rfl|rfl<;>decide
theorem U9 {c:Nat} {x y:Int} (h:uD c=true):bey c x y↔x<=y:=by unfold bey;rw [ag h]
theorem U7 {c:Nat} {x y:Int} (h:uD c=false):bey c x y↔y<=x:=by unfold bey;rw [ae (by rw [h];decide)]
section
variable {h:HS} {w:lX} {n:Nat}
theorem adS (h0:0<=h.N) (hn:h.N+n<=1073741824) (hw:vh w) {i:Nat} (hi:i<n) (hf:jO (w i)=true) :
  ((h.tk w n).v 0<=w i 0/\w i 0<=(h.tk w n).v 1)/\((h.tk w n).v 0<=w i 1/\w i 1<=(h.tk w n).v 1)/\∀ q,q<3->((h.tk w n).v (2+q)<=w i (2+q)/\w i (2+q)<=(h.tk w n).v (5+q))/\((h.tk w n).v (8+q)<=w i (8+q)/\w i (8+q)<=(h.tk w n).v (11+q)):=by
 have hle:w i 0<=w i 1:=gF hf;have k:=λc=>(YL (h:=h) (w:=w) h0 c hn).all i hi hf;have k0:=(U9 zD).1 (k 0);have k1:=(U7 zD).1 (k 1);refine ⟨⟨k0,zO⟩,⟨zO,k1⟩,λq hq=>?_⟩;obtain ⟨d1,d2,d3,d4⟩:=aag hq;obtain ⟨e1,e2⟩:=hw i q hq;have a:=(U9 d1).1 (k (2+q));have b:=(U9 d2).1 (k (8+q));have c:=(U7 d3).1 (k (5+q));have d:=(U7 d4).1 (k (11+q));refine ⟨⟨a,by rw [e1];exact c⟩,b,by rw [e2];exact d⟩
theorem UL (hr:mr h=true) (hn:h.N+n<=1073741824) (hw:vh w):mr (h.tk w n)=true:=by
 have h0:=(PI hr).1;have hN:=YM (h:=h) (w:=w) (n:=n) hn;by_cases z:(h.tk w n).N=0
 ·have hz:h.N=0:=zO;have cz:jc w n=0:=zO;refine (adr z).2 λc hc=>?_;rcases (YL (h:=h) (w:=w) h0 c hn).is with ⟨i,hi,hf,_⟩|⟨_,e⟩
  ·rw [z6.1 cz i hi] at hf;cases hf
  ·rw [e];exact (adr hz).1 hr c hc
 ·refine (PJ z).2 ⟨⟨zO,by have:=uC w n;omega⟩,?_⟩;by_cases cz:jc w n=0
  ·have hz:¬h.N=0:=zO
   have e:=λc=>(show (h.tk w n).v c=h.v c by
    rcases (YL (h:=h) (w:=w) h0 c hn).is with ⟨i,hi,hf,_⟩|⟨_,e⟩
    ·rw [z6.1 cz i hi] at hf;cases hf
    ·exact e)
   simp only [e];exact ((PJ hz).1 hr).2
  ·obtain ⟨i,hi,hf⟩:∃ i,i<n/\jO (w i)=true:=bu λhc=>cz (z6.2 λi hi=>by
    cases e:jO (w i) with
    | false=>rfl
    | true=>exact absurd ⟨i,hi,e⟩ hc)
   obtain ⟨a,b,c⟩:=adS h0 hn hw hi hf;have hle:w i 0<=w i 1:=gF hf;refine ⟨zO,λq hq=>?_⟩;obtain ⟨c1,c2⟩:=c q hq;omega
theorem anq (hr:mr h=true) (hn:h.N+n<=1073741824) (hw:vh w) {i:Nat} (hi:i<n) (hf:jO (w i)=true):tT (h.tk w n) (w i)=true:=by
 have h0:=(PI hr).1;obtain ⟨a,b,c⟩:=adS h0 hn hw hi hf;have hN:=YM (h:=h) (w:=w) (n:=n) hn;have hc:¬jc w n=0:=λz=>by rw [z6.1 z i hi] at hf;cases hf
 unfold tT;rw [UL hr hn hw,aR zO,bg a,bg b,aj4.2 λq hq=>by rw [bg (c q hq).1,bg (c q hq).2];rfl]
 rfl
theorem anr (hr:mr h=true) (hn:h.N+n<=1073741824) (hz:¬h.N=0):((h.tk w n).v 0<=h.v 0/\h.v 0<=(h.tk w n).v 1)/\((h.tk w n).v 0<=h.v 1/\h.v 1<=(h.tk w n).v 1):=by
 have h0:=(PI hr).1;have k0:=(U9 zD).1 ((YL (h:=h) (w:=w) h0 0 hn).old hz);have k1:=(U7 zD).1 ((YL (h:=h) (w:=w) h0 1 hn).old hz);have:=((PJ hz).1 hr).2.1;omega
end
end Go.Gy
namespace Go.Gy
open Go Go.RowKit Go.Proofs
def fv (N:Nat) (g:fp):Array Value:=Array.ofFn (n:=N) λi=>g i
@[simp] theorem afO (N:Nat) (g:fp):(fv N g).size=N:=by simp [fv]
theorem z8 (N:Nat) (g:fp) {j:Nat} (h:j<N):(fv N g)[j]? = some (g j):=by simp [fv,h]
theorem Vo (N:Nat) (g:fp) {j:Nat} (h:N<=j):(fv N g)[j]? = none:=by simp [fv];omega
theorem BV {N:Nat} {g:fp} {x:Value} (h:x∈fv N g):∃ j,j<N/\x=g j:=by
 obtain ⟨j,hj,rfl⟩:=Array.mem_iff_getElem.1 h;exact ⟨j,by simpa using hj,by simp [fv]⟩
theorem I2 {A:ca} {N:Nat} {g:fp} (hs:A.size=N) (h:∀ j,j<N->A[j]? = some (g j)):A=fv N g:=by
 apply gI;intro j;by_cases hj:j<N
 ·rw [h j hj,z8 N g hj]
 ·rw [Vo N g zO,fG zO]
def rdV (b:Blk) (off N:Nat) (g:fp):Prop:=∀ j,j<N->b.c[off+j]? = some (g j)
theorem am1 (N:Nat) (g:fp) (T:BTy):rdV ⟨fv N g,T⟩ 0 N g:=λj hj=>by
 rw [cD];exact z8 N g hj
theorem rdV.le {b:Blk} {off N M:Nat} {g:fp} (h:rdV b off N g) (hm:M<=N):rdV b off M g:=λj hj=>h j zO
section
variable {P:Program}
theorem ajf {T:TypeId} {m:Nat} (h1:oe P T=some true) (h2:bo P T=some m) (hm:0<m) {b:Blk} {off N j:Nat} {g:fp} (h:rdV b off N g) (hj:j+m<=N) (AM:∀ q,q<m->bU (g (j+q))=true) (H8:b.T.rd=true:=by first|rfl|assumption) :
  fB P T b (off+j)=some (.agg (fv m λq=>g (j+q))):=by
 have Ag:off+j+m<=b.c.size:=by
  have:=h (j+m - 1) zO;have:=(aO.1 this).1;omega
 have he:b.c.extract (off+j) (off+j+m)=fv m λq=>g (j+q):=by
  refine I2 aB λq hq=>?_;rw [rB,ag zO,o8,h (j+q) zO]
 refine A8 ?_ ?_
 ·simp only [eV,h1,h2,ag Ag,he]
 ·simp only [bp,pX];rw [vX];intro x hx;obtain ⟨q,hq,rfl⟩:=BV hx;exact AM q hq
theorem amo {T:TypeId} (h1:oe P T=some false) {b:Blk} {off N j:Nat} {g:fp} (h:rdV b off N g) (hj:j<N) (hs:qS (some (g j))=some (g j)) (AM:bp (g j)=true) (H8:b.T.rd=true:=by first|rfl|assumption):fB P T b (off+j)=some (g j):=by
 refine A8 ?_ AM;simp only [eV,h1,h j hj];exact hs
end
def Pa (w:aJ) (j:Nat):Value :=
 if j<4 then .int .u64 (wi (w 0) j) else if j<8 then .int .u64 (wi (w 1) (j - 4)) else if j<11 then .int .i64 (w (j - 6)) else .int .i64 (w (j - 3))
theorem Am (w:aJ) (j:Nat):bU (Pa w j)=true:=by
 unfold Pa;split<;>(try split)<;>(try split)<;>rfl
def gA (w:aJ):Value:=.agg #[.int .u64 (wi (w 0) 0),.int .u64 (wi (w 0) 1),.int .u64 (wi (w 0) 2),.int .u64 (wi (w 0) 3),.int .u64 (wi (w 1) 0),.int .u64 (wi (w 1) 1),.int .u64 (wi (w 1) 2),.int .u64 (wi (w 1) 3),.int .i64 (w 2),.int .i64 (w 3),.int .i64 (w 4),.int .i64 (w 8),.int .i64 (w 9),.int .i64 (w 10)]
theorem ace (w:aJ):.agg (fv 14 (Pa w))=gA w:=by
 unfold gA;refine congrArg Value.agg (I2 (N:=14) rfl λj hj=>?_).symm;have:j=0\/j=1\/j=2\/j=3\/j=4\/j=5\/j=6\/j=7\/j=8\/j=9\/j=10\/j=11\/j=12\/j=13:=zO;rcases this with rfl|rfl|rfl|rfl|rfl|rfl|rfl|rfl|rfl|rfl|rfl|rfl|rfl|rfl<;>rfl
def pj (w:lX) (j:Nat):Value:=Pa (w (j / 14)) (j%14)
structure LB (b:Blk) (off n:Nat) (w:lX):Prop where
 rd:rdV b off (14*n) (pj w)
 fx:b.fx
 ok:vh w
 i64:∀ i,i<n->∀ c,2<=c->c<14->i64 (w i c)
 wr:∀ i,i<n->wr (w i 0)/\wr (w i 1)
 nn:n<=1256598820000
end Go.Gy
namespace Go.Gy
open Go Go.RowKit
theorem Df {p:Prop} (h:p:=by unfold YG.has;simp only [Ff];exact Xz):p:=h
abbrev CA := @List.nodup_append
section
variable {P:Program} {G:Hp}
structure IterS (P:Program) (G:Hp) (f:FuncId) (bF:ca) (hp:Hp) (rs:List Nat) (w:Nat) (ob:aa2) (xs:List (Array Value)):Prop where
 enter:∀ a w,(callFunc f a).run P w=.ok (.enter f a) w
 cids:∀ x∈bF,eh x=true/\aL (dom (rst hp rs)) x
 closed:∀ k b,rst hp rs k=some b->b.ids (dom (rst hp rs))
 flat:∀ c,(∀ r,(ob c).obj r=(ob c).obj0)/\∀ D,(ob c).ids D
 run:∀ (E:Ext) (l stop:Nat) r S W,GOK G W->Sat r (dom (rst hp rs)) (rst hp rs) W->Inj r (dom (rst hp rs))->(∀ k,k<100->dom (rst hp rs) k->r k=k)->qG P G E ⟨l,xs.map λx=>x.map (ren λ_=>r w),stop,none,some ⟨w,r w,ob⟩⟩->E.X 0 S W->(∀ k,S k->k<W.heap.size) ->
  (∀ i,dom (rst hp rs) i->100<=i->¬S (r i)) ->
  l7 P f (#[Value.func (.yield l) #[] #[]]++bF.map (ren r)) W λe W'=>(∃ v,e=.returned v)/\(∃ S',E.X (min (stop+1) xs.length) S' W')/\W'.heap[r w]? = some (ob (min (stop+1) xs.length)).obj0
theorem abX {f:FuncId} {fn:Func} {c:Code} {bF:ca} {hp:Hp} {rs:List Nat} {xs:List (Array Value)} {B:Nat} {v:Value} {w:Nat} {ob:aa2} (eg:c7 G) (hG:∀ k,k<100->hp k=G k) (hf:P.funcs[f]? = some fn) (hb:fn.body=some c) (gC:∀ a w,(callFunc f a).run P w=.ok (.enter f a) w)
  (ha:∀ x∈bF,eh x=true/\aL (dom (rst hp rs)) x) (oM:∀ k b,rst hp rs k=some b->b.ids (dom (rst hp rs))) (hn:bF.size+1<=fn.ntmps) (hB:100<=B) (eU:∀ x,B<=x->rst hp rs x=none) (Dx:dom (rst hp rs) w) (abf:∀ c,(∀ r,(ob c).obj r=(ob c).obj0)/\∀ D,(ob c).ids D)
  (h:∀ (C:Ctx) (l stop wa:Nat),C.G=G->C.hp0=rst hp rs->C.Y=some ⟨l,xs.map λx=>x.map (ren λ_=>wa),stop,none,some ⟨w,wa,ob⟩⟩->GW P C fn.ntmps [] none c ⟨λt=>(#[Value.func (.yield l) #[] #[]]++bF).getD t undef,rst hp rs,B,0⟩
   (λe s=>(e=.normal\/e=.ret)/\tB P fn.results.toList s.ts s.hp=some v/\s.yc=min (stop+1) xs.length/\s.hp w=some (ob s.yc))):IterS P G f bF hp rs w ob xs:=by
 refine ⟨gC,ha,oM,abf,λE l stop r S W kE jU jk bC hR hX hS nS=>callsIn_of_wp_marks hf hb ⟨fn,hf⟩ ?_⟩;let C:Ctx:=⟨E,rst hp rs,r,G,some ⟨l,xs.map λx=>x.map (ren λ_=>r w),stop,none,some ⟨w,r w,ob⟩⟩⟩
 have hi:GI P C fn.ntmps [] r ⟨λt=>(#[Value.func (.yield l) #[] #[]]++bF).getD t undef,rst hp rs,B,0⟩
   { tmps:=(#[Value.func (.yield l) #[] #[]]++bF.map (ren r))++Array.replicate (fn.ntmps - (#[Value.func (.yield l) #[] #[]]++bF.map (ren r)).size) undef,defers:=[] } W:=by
  have Ag:(#[Value.func (.yield l) #[] #[]]++bF.map (ren r)).size=(#[Value.func (.yield l) #[] #[]]++bF).size:=zS;have arc:#[Value.func (.yield l) #[] #[]]++bF.map (ren r)=(#[Value.func (.yield l) #[] #[]]++bF).map (ren r):=by simp [ren,aW,aw]
  refine ⟨⟨?_,λt=>?_,jU,jk,⟨S,[],hX,hS,λi hi h1=>nS i hi h1,⟨rfl,jX⟩,zS⟩,λi hi=>⟨hi,rfl⟩,λk hk=>?_,bC⟩,eU,hB,eg,λy hy=>by cases hy;exact ⟨hR,Dx,rfl,abf⟩⟩
  ·simp only [Cw,Cy,Ag];simp;omega
  ·right
   exact EZ
  ·show rst hp rs k=G k;simp [rst,hk,hG k hk]
 refine wpIn_mono (h C l stop (r w) rfl rfl rfl r _ W hi) ?_;rintro e a' W' ⟨s',r',Ae,cS⟩;obtain ⟨S',ms,yG,xR,ND,⟨vp,B4⟩,rX⟩:=cS.ri.ext;obtain ⟨he,hr,hy,fN⟩:=Ae
 have dk:∀ gS:World,gS.heap.size=W'.heap.size->gS.os=W'.os->gS.tape=W'.tape->gS.output=W'.output->(∀ k,k∉ms->gS.heap[k]? = W'.heap[k]?) ->
   LeavesIn (Fw P none) 0 P fn a'.tmps (λe W'=>(∃ v,e=.returned v)/\(∃ S',E.X (min (stop+1) xs.length) S' W')/\W'.heap[r w]? = some (ob (min (stop+1) xs.length)).obj0) [] .returning gS:=λgS e1 e2 e3 e4 e5=>by
  have tU:Sat r' (dom s'.hp) s'.hp gS:=λk b hk=>⟨by
   rw [e5 _ (λhm=>cS.ri.ne_mark iV (rX _ hm).1 rfl)];exact (cS.ri.sat k b hk).1,(cS.ri.sat k b hk).2⟩
  refine ⟨_,lW (fn:=fn) cS.ri.rel tU hr,⟨_,rfl⟩,⟨S',?_⟩,?_⟩;rotate_left
  ·have e7:=(tU w _ fN).1;rw [(cS.ri.keep w Dx).2,(abf _).1,hy] at e7;exact e7
  exact xN
 exact nO
end
section
variable {P:Program} {G:Hp}
variable {C:Ctx} {n:Nat} {d:List Deferred} {s:GS} {K:l6}
theorem u9 {g:Value->Value}:∀ (l:List (Tmp×Value)) (A:ca),(l.foldl (λt (p:Tmp×Value)=>t.setIfInBounds p.1 (g p.2)) A).size=A.size
 | [],_=>rfl
 | p::l,A=>by rw [o6,u9 l];simp
theorem acO {w:Nat} {D:iH} {v:Value} (h:zG w v=true) (hw:D w):aL D v:=by
 unfold zG at h;split at h
 ·rename_i cs;simp only [aL,cQ];intro x hx;have Jl:=vX.1 h x hx;split at Jl
  ·rename_i q;have:q.block=w:=by simpa using Jl
   simp only [aI,aP,this];exact hw
  ·exact jm Jl
 ·rename_i q;have:q.block=w:=jz;simp only [aL,cQ,aI,aP,this];exact hw
 ·exact bw h
theorem LI {r:dR} {D:iH} {w:Nat} {g:Value->Value}:∀ (l:List (Tmp×Value)) (ts:fp) (A:ca),(∀ p∈l,p.1<A.size/\zG w p.2=true)->D w->(∀ v,zG w v=true->ren r v=g v)->Rel r D ts { tmps:=A,defers:=[] } ->
  Rel r D (l.foldl (λts p=>upd ts p.1 p.2) ts) { tmps:=l.foldl (λt (p:Tmp×Value)=>t.setIfInBounds p.1 (g p.2)) A,defers:=[] }
 | [],_,_,_,_,_,h=>h
 | p::l,ts,A,hl,hw,hg,h=>by
  have hp:=hl p zS;refine LI l (upd ts p.1 p.2) (A.setIfInBounds p.1 (g p.2)) (λq hq=>by simpa using hl q (aD _ hq)) hw hg ?_;have:=h.put (dst:=some p.1) (λd hd=>by cases hd;exact hp.1) (acO hp.2 hw);rw [hg _ hp.2] at this;exact this
theorem Yk {ro:Option Nat} (Kv:∀ l0,ro=some l0->qF C l0) {t:Tmp} {ps:Array Tmp} {assign body:Code} {f:FuncId} {bF:ca} {rs:List Nat} {xs:List (Array Value)} (hg:s.ts t=.func (.func f) #[] bF) {w:Nat} {ob:aa2} (pT:IterS P C.G f bF s.hp rs w ob xs) (CS:w∈rs) (Kw:100<=w)
  (zE:∀ x∈xs,x.size=ps.size/\∀ v∈x,zG w v=true) (H7:∀ p∈ps,p<n) (gw:fp) (I:Nat->Hp->Prop) {ow:Hp} (B:Nat) (N:Nat) (hN:N<=xs.length)
  (hw:Weak C s ⟨gw,ow,B,s.yc⟩) (h0:I 0 ow) (Vx:∀ c hq,I c hq->hq w=some (ob c)) (nS:∀ k∈rs,(k≠w->ow k=none)/\dom s.hp k)
  (rounds:∀ i x hq,i<N->xs[i]? = some x->I i hq->∀ (C1:Ctx) (l:Nat),C1.G=C.G->C1.hp0=hq->C1.Y=none->GW P C1 n [] (some l) assign ⟨bG ps.toList x.toList gw,hq,B,0⟩
   (dY (λs1=>∀ C2:Ctx,C2.G=C.G->C2.hp0=hq->C2.Y=none->GW P C2 n [] (some l) body s1 (dY (λs2=>∃ ρ wE,WeakR C ρ ⟨gw,s2.hp,s2.B,s.yc⟩ ⟨gw,wE,B,s.yc⟩/\I (i+1) wE/\ρ w=w) (λ_ _=>False))) (λ_ _=>False)))
  (fin:(N=xs.length/\∀ hq,I N hq->K .normal ⟨gw,hq,B,s.yc⟩)\/∃ x,xs[N]? = some x/\∀ hq,I N hq->∀ (C1:Ctx) (l:Nat),C1.G=C.G->C1.hp0=hq->C1.Y=none->GW P C1 n [] (some l) assign ⟨bG ps.toList x.toList gw,hq,B,0⟩
    (dY (λs1=>∀ C2:Ctx,C2.G=C.G->C2.hp0=hq->C2.Y=none->GW P C2 n [] (some l) body s1 (λe s2=>(fq e).isSome=true/\(∀ t,aL (dom s2.hp) (gw t))/\s2.hp w=some (ob (N+1))/\K e ⟨gw,s2.hp,s2.B,s.yc⟩)) (λ_ _=>False)))
  (QO:C.Y≠some .still) {r:dR} {a:Act} {W:World} (ma:GI P C n d r s a W) :
  (Code.rangeFunc (.tmp t) ps assign body).wpIn (Fw P ro) 0 P (λe a' W'=>∃ s' r',K e s'/\GI P C n d r' s' a' W') a W:=by
 obtain ⟨pn,oz⟩:∃ pn:Option Value,pn=none:=⟨_,rfl⟩
 have hi:=ma.weak hw;obtain ⟨So,ms,Y8,MH,Jj,⟨vp,B4⟩,rX⟩:=ma.ri.ext
 have Le:a.eval (.tmp t)=.func (.func f) #[] (bF.map (aF r)):=by
  exact ya
 have eK:bF.map (aF r)=bF.map (ren r):=bY λx hx=>(kA (pT.cids x hx).1).symm;rw [eK] at Le;refine wpIn_rangeFunc ?_;rintro fn ⟨bR,Ox⟩
 obtain ⟨df,l,mks,W1,axf,QK,Qr,hmn,hlW,lY⟩:∃ (df l:Nat) (mks:List Nat) (W1:World),(Instr.enterLoop fn a.tmps ps assign body ro).run P W=.ok (l,mks.map HX) W1 /\
   W1.heap[l]? = some (.loop { state:=.ready,pending:=none,fn,tmps:=a.tmps,params:=ps,assign,body,defers:=df })/\(∀ D∈mks,W.heap.size<=D/\W1.heap[D]? = some (.deferred (some [])))/\mks.Nodup/\W.heap.size<=l/\Below W.heap.size W W1:=by
  cases ro with
  | none =>
   refine ⟨W.heap.size,W.heap.size+1,[W.heap.size],_,run_enterLoop_outer _ _ _ _ _,?_,λD hD=>?_,zS,zO,((mG _ W).alloc (aA _) _).alloc zS _⟩
   ·have:=mU (W.alloc (.deferred (some []))) (.loop { state:=.ready,pending:=none,fn,tmps:=a.tmps,params:=ps,assign,body,defers:=W.heap.size });rwa [Cz] at this
   ·rw [br] at hD;subst hD;exact ⟨aA _,(rG _ _ _ zS).trans (mU W _)⟩
  | some l0 =>
   obtain ⟨_,r0,hl0⟩:=Kv l0 rfl _ _ _ Y8;exact ⟨r0.defers,W.heap.size,[],_,run_enterLoop_inner hl0 _ _ _ _ _,mU W _,(λD hD=>nomatch hD),zS,aA _,(mG _ W).alloc (aA _) _⟩
 obtain ⟨rec,my⟩:∃ rec:LoopState->Option Code->Loop,rec=λst pe=>{ state:=st,pending:=pe,fn,tmps:=a.tmps,params:=ps,assign,body,defers:=df }:=⟨_,rfl⟩
 replace QK:W1.heap[l]? = some (.loop (rec .ready none)):=by rw [my];exact QK
 have alD:l<W1.heap.size:=(aO.1 QK).1;have arv:=lY.size;let zv:Nat->Prop:=λj=>∃ i,i∈rs/\100<=i/\r i=j;obtain ⟨wa,Ff⟩:∃ wa,r w=wa:=⟨_,rfl⟩
 have av1:zv wa:=⟨w,CS,Kw,Ff⟩
 let gx:Array Value->Array Value:=λx=>x.map (ren λ_=>r w)
 -- Qh is said U6 two rounds
 let Lv:LoopState->Option Code->World->Prop:=λst pe V=>V.heap[l]? = some (.loop (rec st pe))/\∀ D∈mks,V.heap[D]? = some (.deferred (some []))
 let XX:Nat->(Nat->Prop)->World->Prop:=λc S V=>(∀ k,So k->S k)/\(∀ D∈ms,S D)/\S l/\(∀ D∈mks,S D)/\(∀ k,S k->¬zv k) /\
  ((c<=N/\∃ hq,I c hq/\(∀ x,B<=x->hq x=none)/\∃ rc,(∀ i,dom hq i->i≠w->S (rc i))/\rc w=wa/\uy S V (λV'=>V'.heap[wa]? = some (ob c).obj0->Own0 C d So ms s.yc a rc gw hq V'/\Lv .ready none V')) \/
  (c=N+1/\∃ e ou BE rc,((pn=none/\(fq e).isSome=true)\/∃ pv,pn=some pv/\e=.panic [{ v:=pv,recovered:=false }])/\K e ⟨gw,ou,BE,s.yc⟩/\(∀ x,BE<=x->ou x=none)/\100<=BE/\uy S V (λV'=>V'.heap[wa]? = some (ob c).obj0->Own0 C d So ms s.yc a rc gw ou V'/\(∀ D∈mks,V'.heap[D]? = some (.deferred (some [])))/\∀ j,fq e=some j->Lv .done (some j) V')))
 let E:Ext:=⟨XX,λc S V V' h hs os tape output size=>⟨h.1,h.2.1,h.2.2.1,h.2.2.2.1,h.2.2.2.2.1,h.2.2.2.2.2.imp (λ⟨hc,hq,hI,hf,rc,h1,h3,h2⟩=>⟨hc,hq,hI,hf,rc,h1,h3,h2.trans (λ_ h=>h) hs os tape output size⟩)
  (λ⟨hc,e,ou,BE,rc,h1,h2,h3,h4,h6⟩=>⟨hc,e,ou,BE,rc,h1,h2,h3,h4,h6.trans (λ_ h=>h) hs os tape output size⟩)⟩⟩
 have sub:∀ i,dom (ow) i->dom s.hp i:=λi hd=>by
  exact Eh
 have Ao:Own0 C d So ms s.yc a r gw (ow) W1:=⟨hi.ri.rel,λk b hk=>⟨(lY.block _ (hi.ri.lt (k:=k) Db)).trans (hi.ri.sat k b hk).1,(hi.ri.sat k b hk).2⟩,hi.ri.inj,
  C.E.ok _ _ _ _ Y8 (λk hk=>lY.block k (MH k hk)) lY.os lY.tape lY.output lY.size,λi hd h1=>Jj i (sub i hd) h1,
  λD hD=>(lY.block D (aO.1 (rX D hD).1).1).trans (rX D hD).1,hi.ri.keep,hi.ri.glob,hi.ri.low⟩
 have OU:∀ i,dom s.hp i->zv (r i)->i∈rs:=λi hd ⟨j,hj,_,e⟩=>by
  exact yO
 let S1:Nat->Prop:=λk=>k<W1.heap.size/\¬zv k;have tH:∀ k,zv k->k<W.heap.size:=λk ⟨i,ot,_,e⟩=>e▸ma.ri.lt (nS i ot).2;have PR:∀ k,So k->S1 k:=λk hk=>⟨pt,λ⟨i,ot,h1,e⟩=>Jj i (nS i ot).2 h1 (e▸hk)⟩
 have PT:∀ D∈ms,S1 D:=λD hD=>⟨xi,λ⟨i,ot,_,e⟩=>ma.ri.ne_mark (nS i ot).2 (rX D hD).1 e⟩
 have Rc:S1 l:=⟨zO,λhc=>pr⟩
 have Rb:∀ D∈mks,S1 D:=λD hD=>⟨(aO.1 (Qr D hD).2).1,λhc=>by have:=tH _ hc;have:=(Qr D hD).1;omega⟩
 have PS:∀ i,dom (ow) i->i≠w->S1 (r i):=λi hd cW=>⟨w9,λhc=>hd ((nS i (OU i (sub i hd) hc)).1 cW)⟩
 have XC:ow w=some (ob 0):=Vx 0 _ h0
 have hwW:W1.heap[wa]? = some (ob 0).obj0:=by
  have:=(Ao.sat w _ XC).1;rw [Ff,(pT.flat 0).1 r] at this;exact this
 have X0:XX 0 S1 W1:=⟨PR,PT,Rc,Rb,λk hk=>hk.2,.inl ⟨fX _,ow,h0,hw.free,r,PS,Ff,λV k1 k2 k3 k4 k5 hV=>⟨Ao.supp (S:=λk=>S1 k\/k=wa) (λk hk=>.inl (PR k hk)) (λi hd=>by
  by_cases c:i=w
  ·exact .inr (by rw [c,Ff])
  ·exact .inl (PS i hd c)) (λD hD=>.inl (PT D hD)) V (λk hk=>hk.elim (k1 k) λe=>by rw [e,hV,hwW]) k2 k3 k4 k5,(k1 l Rc).trans QK,λD hD=>(k1 D (Rb D hD)).trans (Qr D hD).2⟩⟩⟩
 have Oo:∀ {rc:dR} {vx:Hp} {V:World},Sat rc (dom vx) vx V->(∀ k,k<100->vx k=C.G k)->(∀ k,k<100->dom vx k->rc k=k)->GOK C.G V:=λ{rc vx V} h1 h2 h3 k b hk=>by
  exact xV
 -- one round
 have wG:qG P C.G E ⟨l,xs.map gx,N,pn,some ⟨w,r w,ob⟩⟩:=by
  intro c x S V kE hx hc hXc CN Xu;replace Xu:V.heap[wa]? = some (ob c).obj0:=by rw [<-Ff];exact Xu
  obtain ⟨xg,hxg,R6⟩:∃ xg,xs[c]? = some xg/\gx xg=x:=by
   have qy:(xs.map gx)[c]? = some x:=hx;rw [gG,o7] at qy;exact qy
  subst R6;obtain ⟨MZ,NI,kl,kD,TL,wC⟩:=hXc;have hcN:c<=N:=hc
  obtain ⟨qX,hq,hI,Ts,rc,qj,Q4,ml⟩:c<=N/\∃ hq,I c hq/\(∀ x,B<=x->hq x=none)/\∃ rc,(∀ i,dom hq i->i≠w->S (rc i))/\rc w=wa/\uy S V (λV'=>V'.heap[wa]? = some (ob c).obj0->Own0 C d So ms s.yc a rc gw hq V'/\Lv .ready none V'):=by
   exact yB
  obtain ⟨c8,hl,hD⟩:=ml.here Xu;have Q7:=zE xg (mD hxg);have hy:=run_yield (P:=P) (args:=gx xg) hl (by rw [my];simpa [gx] using Q7.1);have ax2:wa<V.heap.size:=(aO.1 Xu).1;have aDq:¬S wa:=λhS=>TL _ hS av1
  -- Ws places of a round: S,and w's
  let SW:Nat->Prop:=λk=>S k\/k=wa;have aqu:∀ k,SW k->k<V.heap.size:=λk hk=>hk.elim (CN k) λe=>by rw [e];exact ax2
  have alL:∀ i,dom hq i->SW (rc i):=λi hd=>by
   by_cases ci:i=w
   ·exact .inr (by rw [ci,Q4])
   ·exact .inl (qj i hd ci)
  rw [my] at hy;refine ⟨fn,_,assign,body,hy,oF ⟨bR,Ox⟩ Ox ?_⟩;have Dx:dom hq w:=by unfold dom;rw [Vx c hq hI];simp
  have abI:=LI (r:=rc) (D:=dom hq) (w:=w) (g:=ren λ_=>r w) (ps.toList.zip xg.toList) gw a.tmps (λp hp1=>⟨xG,Q7.2 _ xn⟩) Dx (λv hv=>by rw [Ff];exact Pr hv Q4) c8.ri
  have Q5:(ps.zip (gx xg)).foldl (λt (p:Tmp×Value)=>t.setIfInBounds p.1 p.2) a.tmps=(ps.toList.zip xg.toList).foldl (λt (p:Tmp×Value)=>t.setIfInBounds p.1 (ren (λ_=>r w) p.2)) a.tmps:=by
   rw [<-re,vQ];simp only [gx,j9];rw [List.zip_map_right,List.foldl_map]
   rfl
  have abL:((ps.zip (gx xg)).foldl (λt (p:Tmp×Value)=>t.setIfInBounds p.1 p.2) a.tmps).size=n:=by
   rw [Q5,u9,ma.ri.size]
  let im:Nat->Prop:=imO rc hq
  let RR:Ending->World->Prop:=λe W'=>(match (YG.mk l (xs.map gx) N pn (some ⟨w,r w,ob⟩)).pan c with|none=>e=.returned (.bool (c != N))|some pv=>e=.panicked [{ v:=pv,recovered:=false }])/\GOK C.G W'/\V.heap.size<=W'.heap.size/\(∀ k,k<V.heap.size->¬S k->¬(YG.mk l (xs.map gx) N pn (some ⟨w,r w,ob⟩)).at k->W'.heap[k]? = V.heap[k]?)/\(YG.mk l (xs.map gx) N pn (some ⟨w,r w,ob⟩)).has (c+1) W' /\
      ∃ S',XX (c+1) S' W'/\(∀ k,S' k->k<W'.heap.size)/\∀ k,S' k->k<V.heap.size->S k
  -- Ws assignment to Ws acd LV
  let C1:Ctx:=⟨jM V im,hq,rc,C.G,none⟩
  have ltV:∀ i,dom hq i->rc i<V.heap.size:=λi hd=>aqu _ (alL i hd)
  have Sd:GI P C1 n [] rc ⟨bG ps.toList xg.toList gw,hq,B,0⟩ { tmps:=(ps.zip (gx xg)).foldl (λt (p:Tmp×Value)=>t.setIfInBounds p.1 p.2) a.tmps,defers:=[] } V:=by
   exact yy
  have To:¬So l:=λh=>by have:=MH _ h;omega
  -- a Nn frame,from its assignment on
  have both:∀ (Kb:l6),GW P C1 n [] (some l) assign ⟨bG ps.toList xg.toList gw,hq,B,0⟩ (dY (λs1=>∀ C2:Ctx,C2.G=C.G->C2.hp0=hq->C2.Y=none->GW P C2 n [] (some l) body s1 Kb) (λ_ _=>False)) ->
    (∀ e s2 (r2:dR) (V1 V2:World) (a1 a2:Act) (r1:dR) (ts1:fp) (hp1:Hp) (y1:Nat) (D1:iH),(∀ k,k<V.heap.size->D1 k->imO r1 hp1 k)->¬D1 l->Kb e s2->RI ⟨jM V im,hq,rc,C.G,none⟩ n [] r1 ts1 hp1 y1 a1 V1 ->
     GI P ⟨jM (V1.putObj l (.loop (rec .busy none))) D1,hq,rc,C.G,none⟩ n [] r2 s2 a2 V2->mA (Fs P) 0 P bR l RR e a2 V2) ->
    assign.wpIn ((Fs P).inRound l) 0 P (Exit.then (λa₁ w₁=>∃ w₂,(Instr.beginRound l).run P w₁=.ok () w₂/\body.wpIn ((Fs P).inRound l) 0 P (mA (Fs P) 0 P bR l RR) a₁ w₂) (λ_ _ _=>False))
     { tmps:=(ps.zip (gx xg)).foldl (λt (p:Tmp×Value)=>t.setIfInBounds p.1 p.2) a.tmps,defers:=[] } V:=λKb hgw dk=>by
   refine wpIn_mono (hgw rc _ V Sd) ?_;rintro e a1 V1 ⟨s1,r1,pf,gi⟩
   cases e with
   | normal =>
    obtain ⟨T1,m1,⟨Sn,os1,tp1,ou1,sz1,RN⟩,ak1,Yz,df1,GG⟩:=gi.ri.ext
    have BC:V1.heap[l]? = some (.loop (rec .ready none)):=by
     exact Fy
    refine ⟨_,run_beginRound BC nD,?_⟩;have Ez:{ rec .ready none with state:=.busy }=rec .busy none:=nD;rw [Ez];have KJ:l<V1.heap.size:=(aO.1 BC).1;let D1:Nat->Prop:=λk=>imO r1 s1.hp k\/k∈m1;let C2:Ctx:=⟨jM (V1.putObj l (.loop (rec .busy none))) D1,hq,rc,C.G,none⟩
    exact Gk
   | _=>exact pf.elim
  -- Qh a round leaves,put P6
  have post:∀ (st:LoopState) (pe:Option Code) (r2:dR) (V1 V2:World) (a1 a2:Act) (r1:dR) (ts1 ts2:fp) (hp1 hp2:Hp) (y1 y2:Nat) (D1:iH),(∀ k,k<V.heap.size->D1 k->imO r1 hp1 k)->¬D1 l->RI ⟨jM V im,hq,rc,C.G,none⟩ n [] r1 ts1 hp1 y1 a1 V1 ->
    RI ⟨jM (V1.putObj l (.loop (rec .busy none))) D1,hq,rc,C.G,none⟩ n [] r2 ts2 hp2 y2 a2 V2 ->
    V2.heap[l]? = some (.loop (rec .busy none))/\GOK C.G (V2.putObj l (.loop (rec st pe)))/\V.heap.size<=(V2.putObj l (.loop (rec st pe))).heap.size/\(∀ k,k<V.heap.size->¬S k->k≠wa->(V2.putObj l (.loop (rec st pe))).heap[k]? = V.heap[k]?)/\r2 w=wa /\
    Own0 C d So ms s.yc a r2 gw hp2 (V2.putObj l (.loop (rec st pe)))/\∃ S':Nat->Prop,(∀ k,So k->S' k)/\(∀ D∈ms,S' D)/\S' l/\(∀ D∈mks,S' D)/\(∀ i,dom hp2 i->i≠w->S' (r2 i))/\uy S' (V2.putObj l (.loop (rec st pe))) (λV'=>V'.heap[wa]? = (V2.putObj l (.loop (rec st pe))).heap[wa]?->Own0 C d So ms s.yc a r2 gw hp2 V'/\Lv st pe V') /\
     (∀ k,S' k->k<(V2.putObj l (.loop (rec st pe))).heap.size)/\(∀ k,S' k->k<V.heap.size->S k):=λst pe r2 V1 V2 a1 a2 r1 ts1 ts2 hp1 hp2 y1 y2 D1 I8 tz BD Nm=>by
   obtain ⟨_,q1,q2,q3,q4,q5,q6⟩:=Ch (S:=SW) (L2:=rec st pe) ma.flat c8 To aqu (λk hk=>.inl (MZ k hk)) (λD hD=>.inl (NI D hD)) alL hl BD I8 tz Nm;have RG:r2 w=wa:=((Nm.keep w Dx).2).trans Q4;have sz:(V2.putObj l (.loop (rec st pe))).heap.size=V2.heap.size:=gO _ _ _;have abC:∀ k,¬S k->k≠wa->¬imO rc hq k:=λk hk qx ⟨i,hd,e⟩=>(alL i hd).elim (λh=>hk (e▸h)) λh=>qx (e.symm.trans h);have hold:∀ i,dom hp2 i->i≠w->V.heap.size<=r2 i\/S (r2 i):=λi hd cW=>(q3 i hd).imp id λh=>h.resolve_right λe=>cW (Nm.inj i w hd (Nm.keep w Dx).1 (e.trans RG.symm));refine ⟨q1,q6,by rw [sz];exact q4,λk hk MO qx=>q5 k hk (abC k MO qx) (λe=>MO (e▸kl)),RG,q2,λk=>S k\/(V.heap.size<=k/\k<V2.heap.size),λk hk=>.inl (MZ k hk),λD hD=>.inl (NI D hD),.inl kl,(λD hD=>.inl (kD D hD)),λi hd cW=>?_,?_,λk hk=>?_,λk hk dp=>?_⟩
   ·rcases hold i hd cW with h|h
    ·exact yS
    ·exact Qn
   ·have RV:∀ D∈mks,(V2.putObj l (.loop (rec st pe))).heap[D]? = some (.deferred (some [])):=λD0 hm=>by
     rw [q5 D0 (CN D0 (kD D0 hm)) (λ⟨i,vc,e⟩=>by
      unfold dom at vc
      cases hb:hq i with
      | none=>exact vc hb
      | some b=>have:=(c8.sat i b hb).1;rw [e,hD D0 hm] at this;exact (Blk.obj_def this).elim) (λe=>by have:=hD D0 hm;rw [e,hl] at this;cases this)]
     exact hD D0 hm
    have OF:l<V2.heap.size:=(aO.1 q1).1;refine λV' k1 k2 k3 k4 k5 hV'=>⟨q2.supp (S:=λk=>(S k\/(V.heap.size<=k/\k<V2.heap.size))\/k=wa) (λk hk=>.inl (.inl (MZ k hk))) (λi hd=>?_) (λD hD=>.inl (.inl (NI D hD))) V' (λk hk=>hk.elim (k1 k) λe=>by rw [e];exact hV') k2 k3 k4 k5,(k1 l (.inl kl)).trans (kV OF),λD hm=>(k1 D (.inl (kD D hm))).trans (RV D hm)⟩
    by_cases cW:i=w
    ·exact .inr (by rw [cW];exact RG)
    rcases hold i hd cW with h|h
    ·exact .inl (.inr ⟨h,by
      unfold dom at hd
      cases hb:hp2 i with
      | none=>exact absurd hb hd
      | some b=>have:=(aO.1 (q2.sat i b hb).1).1;rwa [sz] at this⟩)
    ·exact .inl (.inl h)
   ·exact yf
   ·exact hk.resolve_right zO
  have ZX:∀ S':Nat->Prop,(∀ k,S' k->k<V.heap.size->S k)->∀ k,S' k->¬zv k:=λS' wv k hk hc=>by
   by_cases dp:k<V.heap.size
   ·exact TL k (wv k hk dp) hc
   ·have h5:=tH k hc;have h6:=CN l kl;exact dp zO
  by_cases QT:c<N
  ·refine both _ (rounds c xg hq QT hxg hI C1 l rfl rfl rfl) ?_;intro e s2 r2 V1 V2 a1 a2 r1 ts1 hp1 y1 D1 I8 tz hk BD vu
   cases e with
   | normal =>
    obtain ⟨ρ,wE,hwk,Xp,hρw⟩:=hk;obtain ⟨p1,p2,p3,p4,pw,po,S',p5,p6,p7,p8,p9,lR,lZ,m7⟩:=post .ready none r2 V1 V2 a1 a2 r1 ts1 _ hp1 _ y1 _ D1 I8 tz BD vu.ri;have dk:=run_endRound (P:=P) none p1
    have Xz:(V2.putObj l (.loop (rec .ready none))).heap[wa]? = some (ob (c+1)).obj0:=by
     have h9:=((po.rename hwk).sat w _ (Vx _ _ Xp)).1;simp only [hρw,pw] at h9;rw [(pT.flat (c+1)).1] at h9;exact h9
    rw [my] at dk p2 p3 p4 lR lZ Xz;refine ⟨_,_,dk,?_,p2,p3,(λk hk hS tS=>p4 k hk hS (λe=>tS (by unfold YG.at;exact e.trans Ff.symm))),Df,S',⟨p5,p6,p7,p8,ZX S' m7,.inl ⟨QT,wE,Xp,hwk.free,λk=>r2 (ρ k),λi hd cW=>p9 (ρ i) (hwk.subd (λk hk=>vu.ri.glob k hk) i hd) (λe=>cW (hwk.inj i w hd (by show wE w≠none;rw [Vx _ _ Xp];simp) (e.trans hρw.symm))),by show r2 (ρ w)=wa;rw [hρw,pw],?_⟩⟩,lZ,m7⟩
    ·have h1:(YG.mk l (xs.map gx) N pn (some ⟨w,r w,ob⟩)).pan c=none:=by
      show (if c=N then pn else none)=none;rw [ae zO]
     have h2:(c != N)=true:=aB;rw [h1,h2];rfl
    ·intro V' k1 k2 k3 k4 k5 hV';have:=lR V' k1 k2 k3 k4 k5 (hV'.trans Xz.symm);exact ⟨this.1.rename hwk,by simpa [my] using this.2⟩
   | _=>exact hk.elim
  ·obtain rfl:c=N:=zO
   have Ll:(YG.mk l (xs.map gx) c pn (some ⟨w,r w,ob⟩)).pan c=pn:=by
    exact xX
   cases pn with
   | none =>
    rcases fin with ⟨e,_⟩|⟨x',qy,Ad⟩
    ·obtain ⟨h9,_⟩:=mK.1 hxg;have h9:c<xs.length:=h9;omega
    ·rw [hxg] at qy;cases qy;refine both _ (Ad hq hI C1 l rfl rfl rfl) ?_;intro e s2 r2 V1 V2 a1 a2 r1 ts1 hp1 y1 D1 I8 tz hk BD vu;obtain ⟨pf,qx,hkw,Ks⟩:=hk
     cases ho:fq e with
     | none=>rw [ho] at pf;cases pf
     | some j =>
      obtain ⟨p1,p2,p3,p4,pw,po,S',p5,p6,p7,p8,p9,lR,lZ,m7⟩:=post .done (some j) r2 V1 V2 a1 a2 r1 ts1 _ hp1 _ y1 _ D1 I8 tz BD vu.ri;have dk:=run_endRound (P:=P) (some j) p1
      have Xz:(V2.putObj l (.loop (rec .done (some j)))).heap[wa]? = some (ob (c+1)).obj0:=by
       have h9:=(po.sat w _ hkw).1;rw [pw,(pT.flat (c+1)).1] at h9;exact h9
      rw [my] at dk p2 p3 p4 lR lZ Xz
      have hR:∃ v w',(Instr.endRound l (some j)).run P V2=.ok v w'/\RR (.returned v) w':=by
       refine ⟨_,_,dk,?_,p2,p3,(λk hk hS tS=>p4 k hk hS (λe=>tS (by unfold YG.at;exact e.trans Ff.symm))),Df,S',⟨p5,p6,p7,p8,ZX S' m7,.inr ⟨rfl,e,s2.hp,s2.B,r2,.inl ⟨rfl,pf⟩,Ks,vu.free,vu.low,?_⟩⟩,lZ,m7⟩
       ·rw [Ll];simp
       ·intro V' k1 k2 k3 k4 k5 hV';obtain ⟨q1,q2⟩:=lR V' k1 k2 k3 k4 k5 (hV'.trans Xz.symm);refine ⟨q1,q2.2,λj' QZ=>?_⟩;rw [ho] at QZ;cases QZ;simpa [my] using q2
      exact yQ
   | some pv=>cases oz
 -- behind Ws iterator
 refine ⟨l,mks.map HX,W1,{ target:=.fn (.func f) (bF.map (ren r)),args:=#[.func (.yield l) #[] #[]] },W1,f,#[Value.func (.yield l) #[] #[]]++bF.map (ren r),W1,?_,?_,λf' Vs=>?_,?_,λh=>fj,?_⟩
 ·exact axf
 ·exact yj
 ·exact yi
 ·simp [invoke,go_sem,pT.enter]
 ·have ON:Sat r (dom (rst s.hp rs)) (rst s.hp rs) W1:=λk b hk=>⟨(lY.block _ (ma.ri.lt (k:=k) xD)).trans (ma.ri.sat k b (mu hk)).1,pT.closed k b hk⟩
  have vd:∀ k,dom (rst s.hp rs) k->dom s.hp k:=λk hk=>by
   exact yD
  subst oz;have BY:=pT.run E l N r S1 W1 (Oo Ao.sat Ao.glob Ao.low) ON (λk l' hk hl=>ma.ri.inj k l' (vd k hk) (vd l' hl)) (λk hk hd=>ma.ri.low k hk (vd k hd)) wG X0 (λk hk=>hk.1) (λi hd h1 hS=>hS.2 ?_)
  ·refine o5 (⟨BY.1,λcs _=>BY.2 cs (oR P _)⟩:CallsIn (Fw P ro) 0 P _ _ _ _) ?_;rintro e V ⟨⟨v,rfl⟩,⟨S',hX⟩,alH⟩;obtain ⟨MZ,NI,kl,kD,TL,wC⟩:=hX;rw [Ff] at alH
   have Te:∀ (st:LoopState) (pe:Option Code) (rc:dR) (ou:Hp) (BE:Nat),st≠.busy->(∀ x,BE<=x->ou x=none)->100<=BE->Own0 C d So ms s.yc a rc gw ou V->Lv st pe V ->
     (Instr.endLoop l).run P V=.ok pe (V.putObj l (.loop { rec st pe with state:=.exhausted }))/\GI P C n d rc ⟨gw,ou,BE,s.yc⟩ { a with defers:=mks.map HX++a.defers } (V.putObj l (.loop { rec st pe with state:=.exhausted })):=λst pe rc ou BE Af eU Tm c8 ⟨hl,hD⟩=>by
    have dk:=run_endLoop (P:=P) hl (by rw [my];exact Af);refine ⟨by rw [my] at dk |-;exact dk,?_⟩;have dp:l<V.heap.size:=(aO.1 hl).1;have szV:∀ ob,(V.putObj l ob).heap.size=V.heap.size:=λob=>gO _ _ _
    refine ⟨⟨ma.ri.size,c8.ri,λk b hk=>⟨(eC (λe=>?_)).trans (c8.sat k b hk).1,(c8.sat k b hk).2⟩,c8.inj,
     ⟨So,mks++ms,C.E.ok _ _ _ _ c8.X (λk hk=>eC (λe=>pt)) rfl rfl rfl (by rw [szV];exact aA _),λk hk=>by rw [szV];have:=MH k hk;omega,c8.sep,⟨by simp [vp],CA.2 ⟨hmn,B4,λD hm D' gk e=>?_⟩⟩,λD zJ=>?_⟩,
     c8.keep,c8.glob,c8.low⟩,eU,Tm,ma.flat,ma.rounds⟩
    ·have:=(c8.sat k b hk).1;rw [e,hl] at this;exact (Blk.obj_loop this).elim
    ·have h1:=(aO.1 (rX D' gk).1).1;have h2:=(Qr D hm).1;omega
    ·rcases bh.1 zJ with zJ|zJ
     ·exact ⟨(eC (λe=>by have:=hD D zJ;rw [e,hl] at this;cases this)).trans (hD D zJ),(λhS=>by have h1:=MH _ hS;have h2:=(Qr D zJ).1;omega),QO⟩
     ·exact ⟨(eC (λe=>by have:=c8.mks D zJ;rw [e,hl] at this;cases this)).trans (c8.mks D zJ),(rX D zJ).2⟩
   rcases wC with ⟨qX,hq,hI,eU,rc,qj,Q4,ml⟩|⟨qX,e,ou,BE,rc,ho,hk,eU,Tm,ml⟩
   ·obtain ⟨c8,th⟩:=ml.here alH;have hNl:N=xs.length:=zO;have abz:min (N+1) xs.length=N:=zO;rw [abz] at hI;obtain ⟨f1,f2⟩:=Te .ready none rc hq B zS eU hw.low c8 th;rcases fin with ⟨_,hK⟩|⟨x',qy,_⟩
    ·exact ⟨none,_,f1,_,rc,hK hq hI,f2⟩
    ·obtain ⟨h9,_⟩:=mK.1 qy;omega
   ·obtain ⟨c8,_,th⟩:=ml.here alH;exact Gi
  ·exact yq
theorem WC {ro:Option Nat} (Kv:∀ l0,ro=some l0->qF C l0) {t:Tmp} {ps:Array Tmp} {assign body:Code} {f:FuncId} {bF:ca} {rs:List Nat} {xs:List (Array Value)} (hY:C.Y=none) (hg:s.ts t=.func (.func f) #[] bF) {w:Nat} {ob:aa2} (pT:IterS P C.G f bF s.hp rs w ob xs) (CS:w∈rs) (Kw:100<=w)
  (zE:∀ x∈xs,x.size=ps.size/\∀ v∈x,zG w v=true) (H7:∀ p∈ps,p<n) (gw:fp) (I:Nat->Hp->Prop) {ow:Hp} (B:Nat) (N:Nat) (hN:N<=xs.length)
  (hw:Weak C s ⟨gw,ow,B,s.yc⟩) (h0:I 0 ow) (Vx:∀ c hq,I c hq->hq w=some (ob c)) (nS:∀ k∈rs,(k≠w->ow k=none)/\dom s.hp k)
  (rounds:∀ i x hq,i<N->xs[i]? = some x->I i hq->∀ (C1:Ctx) (l:Nat),C1.G=C.G->C1.hp0=hq->C1.Y=none->GW P C1 n [] (some l) assign ⟨bG ps.toList x.toList gw,hq,B,0⟩
   (dY (λs1=>∀ C2:Ctx,C2.G=C.G->C2.hp0=hq->C2.Y=none->GW P C2 n [] (some l) body s1 (dY (λs2=>∃ ρ wE,WeakR C ρ ⟨gw,s2.hp,s2.B,s.yc⟩ ⟨gw,wE,B,s.yc⟩/\I (i+1) wE/\ρ w=w) (λ_ _=>False))) (λ_ _=>False)))
  (fin:(N=xs.length/\∀ hq,I N hq->K .normal ⟨gw,hq,B,s.yc⟩)\/∃ x,xs[N]? = some x/\∀ hq,I N hq->∀ (C1:Ctx) (l:Nat),C1.G=C.G->C1.hp0=hq->C1.Y=none->GW P C1 n [] (some l) assign ⟨bG ps.toList x.toList gw,hq,B,0⟩
    (dY (λs1=>∀ C2:Ctx,C2.G=C.G->C2.hp0=hq->C2.Y=none->GW P C2 n [] (some l) body s1 (λe s2=>(fq e).isSome=true/\(∀ t,aL (dom s2.hp) (gw t))/\s2.hp w=some (ob (N+1))/\K e ⟨gw,s2.hp,s2.B,s.yc⟩)) (λ_ _=>False))) :
  GW P C n d ro (.rangeFunc (.tmp t) ps assign body) s K:=λr a W hi=>Yk Kv hg pT CS Kw zE H7 gw I B N hN hw h0 Vx nS rounds fin (by rw [hY];simp) hi
end
section
variable {P:Program} {G:Hp}
variable {C:Ctx} {n:Nat} {d:List Deferred} {s:GS} {K:l6}
theorem z3 {ro:Option Nat} (Kv:∀ l0,ro=some l0->qF C l0) {t:Tmp} {ps:Array Tmp} {assign body:Code} {f:FuncId} {bF:ca} {rs:List Nat} {xs:List (Array Value)} {w:Nat} {ob:aa2} {m0:cf} (eg:c7 G) (hG:C.G=G) (h0:C.hp0=hpL G m0) (hY:C.Y=none) (hg:s.ts t=.func (.func f) #[] bF) (pT:IterS P G f bF s.hp rs w ob xs) (CS:w∈rs) (Kw:100<=w)
  (zE:∀ x∈xs,x.size=ps.size/\∀ v∈x,zG w v=true) (H7:∀ p∈ps,p<n) (l:List (Nat×Value)) (m:Nat->List (Nat×Blk)) (B:Nat) (N:Nat) (hN:N<=xs.length) (hB:100<=B)
  (nS:∀ k∈rs,(k≠w->hpL G (m 0) k=none)/\dom s.hp k) (hl:∀ p∈l,s.ts p.1=p.2)
  (vw:∀ p∈m 0,s.hp p.1=some p.2) (hm:∀ i,i<=N->hpL G (m i) w=some (ob i)/\(∀ p∈l,aL (dom (hpL G (m i))) p.2)/\∀ p∈m i,100<=p.1/\p.1<B/\p.2.ids (dom (hpL G (m i))))
  (hk:∀ p∈m0,100<=p.1/\hpL G (m 0) p.1=s.hp p.1/\∀ i,i<=N->dom (hpL G (m i)) p.1)
  (rounds:∀ i x,i<N->xs[i]? = some x->∀ (C1:Ctx) (j:Nat),C1.G=G->C1.hp0=hpL G (m i)->C1.Y=none->GW P C1 n [] (some j) assign ⟨bG ps.toList x.toList (tsL l),hpL G (m i),B,0⟩
   (dY (λs1=>∀ C2:Ctx,C2.G=G->C2.hp0=hpL G (m i)->C2.Y=none->GW P C2 n [] (some j) body s1 (dY (λs2=>∀ p∈m (i+1),s2.hp p.1=some p.2) (λ_ _=>False))) (λ_ _=>False)))
  (fin:(N=xs.length/\K .normal ⟨tsL l,hpL G (m N),B,s.yc⟩)\/∃ x,xs[N]? = some x/\∀ (C1:Ctx) (j:Nat),C1.G=G->C1.hp0=hpL G (m N)->C1.Y=none->GW P C1 n [] (some j) assign ⟨bG ps.toList x.toList (tsL l),hpL G (m N),B,0⟩
    (dY (λs1=>∀ C2:Ctx,C2.G=G->C2.hp0=hpL G (m N)->C2.Y=none->GW P C2 n [] (some j) body s1 (λe s2=>(fq e).isSome=true/\(∀ p∈l,aL (dom s2.hp) p.2)/\s2.hp w=some (ob (N+1))/\K e ⟨tsL l,s2.hp,s2.B,s.yc⟩)) (λ_ _=>False))) :
  GW P C n d ro (.rangeFunc (.tmp t) ps assign body) s K:=by
 have Jq:∀ i,i<=N->∀ s2:GS,s2.yc=s.yc->(∀ p∈m i,s2.hp p.1=some p.2)->s2.ts=tsL l->WeakR C (λk=>k) s2 ⟨tsL l,hpL G (m i),B,s.yc⟩:=λi hi s2 hyc hs ht=>by
  refine ⟨λu=>?_,λk b hb h1=>⟨?_,h1⟩,λk b hb=>?_,λk q _ _ e=>e,λ_ _=>rfl,λk b _ _=>Blk.rn_id b,λk h1 hd=>⟨?_,rfl⟩,λk h1=>?_,hyc.symm,λx hx=>?_,hB⟩
  ·rcases od (l:=l) (t:=u) with h|h
   ·exact Qn
   ·by_cases hj:tsL l u=fP
    ·exact .inl hj
    ·exact .inr ⟨by rw [ht,adq],by rw [ht];exact hj,(hm i hi).2.1 _ h⟩
  ·exact Fa
  ·rcases dE hb with h|h
   ·exact ((hm i hi).2.2 _ h).2.2
   ·exact Blk.flat_ids (eg k b h).2
  ·have h2:C.hp0 k≠none:=hd;rw [h0] at h2
   cases hb:hpL G m0 k with
   | none=>exact absurd hb h2
   | some b =>
    rcases dE hb with h|h
    ·exact (hk _ h).2.2 i hi
    ·have:=(eg k b h).1;omega
  ·rw [hG];exact dA (λp hp=>((hm i hi).2.2 p hp).1) h1
  ·dsimp only at hx |-
   cases hb:hpL G (m i) x with
   | none=>rfl
   | some b =>
    rcases dE hb with h|h
    ·have:=((hm i hi).2.2 _ h).2.1;simp at this;omega
    ·have:=(eg x b h).1;omega
 refine WC Kv (rs:=rs) (xs:=xs) (ob:=ob) hY hg (hG.symm▸pT) CS Kw zE H7 (tsL l) (λi h=>i<=N/\h=hpL G (m i)) (ow:=hpL G (m 0)) B N hN ?_ ⟨fX _,rfl⟩ (λc hq hI=>by rw [hI.2];exact (hm c hI.1).1) nS (λi x hq hi hx hI C1 j c1 c2 c3=>?_) ?_
 ·have k0:=Jq 0 (fX _) ⟨tsL l,s.hp,s.B,s.yc⟩ rfl vw rfl;refine ⟨λu=>?_,λk h1=>?_,k0.ids,λk h1 hd=>?_,k0.glob,rfl,k0.free,hB⟩
  ·rcases od (l:=l) (t:=u) with h|h
   ·exact Qn
   ·exact .inr ⟨(hl _ h).symm,(hm 0 (fX _)).2.1 _ h⟩
  ·exact EO
  ·have h2:C.hp0 k≠none:=hd;rw [h0] at h2
   cases hb:hpL G m0 k with
   | none=>exact absurd hb h2
   | some b =>
    rcases dE hb with h|h
    ·exact (hk _ h).2.1
    ·have:=(eg k b h).1;omega
 ·obtain ⟨_,rfl⟩:=hI;refine gn (rounds i x hi hx C1 j (c1.trans hG) c2 c3) λe s1 hs=>?_
  cases e with
  | normal =>
   intro C2 q1 q2 q3;refine gn (hs C2 (q1.trans hG) q2 q3) λe s2 nU=>?_
   cases e with
   | normal=>exact ⟨λk=>k,_,Jq (i+1) hi ⟨tsL l,s2.hp,s2.B,s.yc⟩ rfl nU rfl,⟨hi,rfl⟩,rfl⟩
   | _=>exact nU.elim
  | _=>exact hs.elim
 ·rcases fin with ⟨f1,f2⟩|⟨x,f1,f2⟩
  ·exact .inl ⟨f1,λhq hI=>by rw [hI.2];exact f2⟩
  ·refine .inr ⟨x,f1,λhq hI C1 j c1 c2 c3=>?_⟩;obtain ⟨_,rfl⟩:=hI;refine gn (f2 C1 j (c1.trans hG) c2 c3) λe s1 hs=>?_
   cases e with
   | normal =>
    intro C2 q1 q2 q3;refine gn (hs C2 (q1.trans hG) q2 q3) λe s2 nU=>⟨nU.1,λu=>?_,nU.2.2.1,nU.2.2.2⟩
    exact Gp
   | _=>exact hs.elim
end
section
variable {P:Program} {G:Hp}
theorem IterS.rn {f:FuncId} {bF:ca} {hp eG:Hp} {rs:List Nat} {xs:List (Array Value)} (ρ:dR) (eg:c7 G) (hG:∀ k,k<100->hp k=G k) (h:Rn ρ hp eG rs) {w:Nat} {ob:aa2} (hi:IterS P G f bF hp rs w ob xs):IterS P G f (bF.map (aF ρ)) eG (rs.map ρ) (ρ w) ob (xs.map λx=>x.map (ren ρ)):=by
 have uq:∀ x,eh x=true->eh (aF ρ x)=true:=λx hx=>by
  exact yr
 have bflat:∀ k b,k<100->hp k=some b->b.rn ρ=b:=λk b hk hb=>by
  exact sX
 have back:∀ k b,rst eG (rs.map ρ) k=some b->∃ q c,rst hp rs q=some c/\ρ q=k/\b=c.rn ρ:=λk b hb=>by
  exact yL
 refine ⟨hi.enter,λx hx=>?_,λk b hb=>?_,hi.flat,λE l stop r S W kE jU jk bC hR hX hS nS=>?_⟩
 ·exact yJ
 ·exact yI
 ·have eK:(bF.map (aF ρ)).map (ren r)=bF.map (ren λk=>r (ρ k)):=by
   exact yR
  rw [eK]
  have ex:((xs.map λx=>x.map (ren ρ)).map λx=>x.map (ren λ_=>r (ρ w)))=xs.map λx=>x.map (ren λ_=>r (ρ w)):=by
   rw [rk];refine gK λx _=>?_;simp only [Function.comp,gD];refine bY λv _=>?_;simp only [Function.comp];rw [lx]
  rw [ex] at hR;rw [mW];refine (hi.run E l stop (λk=>r (ρ k)) S W kE (λk b hk=>⟨?_,hi.closed k b hk⟩) (λk l hk hl e=>?_) (λk hk hd=>?_) hR hX hS (λi hd h1=>?_)).mono (λ_ _ hh=>hh)
  ·exact xM
  ·exact yK
  ·exact ym
  ·exact xW
theorem abW {f:FuncId} {bF u7:ca} {m:cf} {B:Nat} {xs:List (Array Value)} {hp:Hp} {rs:List Nat} {w:Nat} {ob:aa2} (h:IterS P G f bF (hpL G m) (ak m) w ob xs) (eg:c7 G) (hm:LOk m B) (ρ:dR) (bC:∀ k,k<100->ρ k=k) (ea:bF.map (aF ρ)=u7) (er:(ak m).map ρ=rs)
  (hp0:∀ k,k<100->hp k=G k) (tS:∀ p∈m,100<=ρ p.1/\hp (ρ p.1)=some (p.2.rn ρ)) (jk:∀ k∈ak m,∀ l∈ak m,ρ k=ρ l->k=l):IterS P G f u7 hp rs (ρ w) ob (xs.map λx=>x.map (ren ρ)):=by
 exact Eo
end
end Go.Gy
namespace Go.Gy
open Go Go.RowKit Go.Proofs Go.Proofs.Tryz
def loB (lw:aJ):Blk:=⟨#[.int .u64 (wi (lw 0) 0),.int .u64 (wi (lw 0) 1),.int .u64 (wi (lw 0) 2),.int .u64 (wi (lw 0) 3),.int .u64 (wi (lw 1) 0),.int .u64 (wi (lw 1) 1),.int .u64 (wi (lw 1) 2),.int .u64 (wi (lw 1) 3),.int .i64 (lw 2),.int .i64 (lw 3),.int .i64 (lw 4),.int .i64 (lw 8),.int .i64 (lw 9),.int .i64 (lw 10)],.ty 38⟩
def ptB (w:Nat):Blk:=⟨#[.pointer (some ⟨w,0,none⟩)],.ty 82⟩
def sdL (b:Blk) (lw:aJ):List (Nat×Blk):=[(200,b),(208,ptB 200),(209,loB lw)]
def sdX (w lo hi:Nat) (v:Int):Array Value:=#[.agg #[.pointer (some ⟨w,lo,none⟩),.pointer (some ⟨w,hi,none⟩)],.int .i64 v]
def vt (w:Nat) (lw:aJ):List (Array Value):=[sdX w 9 12 (lw 2),sdX w 15 18 (lw 8),sdX w 10 13 (lw 3),sdX w 16 19 (lw 9),sdX w 11 14 (lw 4),sdX w 17 20 (lw 10)]
theorem ahG (w lo hi:Nat) (v:Int):∀ x∈sdX w lo hi v,zG w x=true:=by
 intro x hx;simp [sdX] at hx;rcases hx with rfl|rfl<;>simp [zG]
theorem J2 (w:Nat) (lw:aJ):∀ x∈vt w lw,x.size=2/\∀ v∈x,zG w v=true:=by
 intro x hx;simp [vt] at hx;rcases hx with rfl|rfl|rfl|rfl|rfl|rfl<;>exact ⟨rfl,ahG _ _ _ _⟩
theorem adB (w:Nat) (lw:aJ) (ρ:dR):((vt w lw).map λx=>x.map (ren ρ))=vt (ρ w) lw:=by simp [vt,sdX,ren,aW,aw,aF]
theorem YE (ob:aa2) (Vx:∀ c,(∀ r,(ob c).obj r=(ob c).obj0)/\∀ D,(ob c).ids D) (lw:aJ) :
  IterS prog G0 79 #[.pointer (some ⟨208,0,none⟩),.pointer (some ⟨209,0,none⟩)] (hpL G0 (sdL (ob 0) lw)) [200,208,209] 200 ob (vt 200 lw):=by
 have e0:rst (hpL G0 (sdL (ob 0) lw)) [200,208,209]=hpL G0 (sdL (ob 0) lw):=qi G0F (by simp [sdL]);refine abX (B:=300) (v:=.tuple #[]) G0F (λq hq=>dA (by simp [sdL]) hq) func79 rfl call79 ?_ ?_ (by simp [ntmps79]) zO ?_ ?_ Vx ?_
 ·rw [e0];simp [aL,cQ,aI,aP,dom,sdL]
 ·rw [e0];intro q c hq;rcases dE hq with h|h
  ·simp [sdL] at h;rcases h with ⟨_,rfl⟩|⟨_,rfl⟩|⟨_,rfl⟩
   ·exact (Vx 0).2 _
   ·simp [ptB,aM,aI,aP,dom,sdL]
   ·simp [loB,aM,aI,aP]
  ·exact Blk.flat_ids ((G0F q c h).2)
 ·rw [e0];intro x hx;have h1:¬x=200:=zO;have h2:¬x=208:=zO;have h3:¬x=209:=zO;have h4:100<=x:=zO;simp [sdL,h1,h2,h3,h4]
 ·rw [e0];simp [sdL,dom]
 ·intro C l stop wa hC bA hY;rw [e0] at bA |-;have AK:stop=0\/stop=1\/stop=2\/stop=3\/stop=4\/stop=5\/6<=stop:=zO;unfold sdL vt sdX ptB loB at *
  rcases AK with rfl|rfl|rfl|rfl|rfl|rfl|Af;rotate_left 6
  ·have q0:(0 != stop)=true:=by simp;omega
   have q1:(1 != stop)=true:=aB;have q2:(2 != stop)=true:=aB;have q3:(3 != stop)=true:=aB;have q4:(4 != stop)=true:=aB;have q5:(5 != stop)=true:=aB;have p1:1<=stop:=zO;have p2:2<=stop:=zO;have p3:3<=stop:=zO;have p4:4<=stop:=zO;have p5:5<=stop:=zO
   repeat' first|refine GWL_start ?_|refine GWL_step ?_|refine cT ?_|(refine iy ?_;intro Q hQ _;simp [hC,hY,q0,q1,q2,q3,q4,q5,p1,p2,p3,p4,p5,zG,shX];refine dq hQ ?_)|fail
   all_goals
    simp [results79]
    try omega
  all_goals
   repeat' first|refine GWL_start ?_|refine GWL_step ?_|refine cT ?_|(refine iy ?_;intro Q hQ _;simp [hC,hY,zG,shX];refine dq hQ ?_)|fail
  all_goals
   simp [results79]
theorem FA {p:Prop} (h:p:=by
 rcases hx with rfl|rfl|rfl|rfl|rfl|rfl|rfl|rfl|rfl|rfl|rfl|rfl|rfl|rfl<;>rfl):p:=h
def fV (N:Int) (v:aJ):Array Value:=#[.int .i64 N,.int .u64 (wi (v 0) 0),.int .u64 (wi (v 0) 1),.int .u64 (wi (v 0) 2),.int .u64 (wi (v 0) 3),.int .u64 (wi (v 1) 0),.int .u64 (wi (v 1) 1),.int .u64 (wi (v 1) 2),.int .u64 (wi (v 1) 3),.int .i64 (v 2),.int .i64 (v 3),.int .i64 (v 4),.int .i64 (v 5),.int .i64 (v 6),.int .i64 (v 7),.int .i64 (v 8),.int .i64 (v 9),.int .i64 (v 10),.int .i64 (v 11),.int .i64 (v 12),.int .i64 (v 13)]
def et (N:Int) (v:aJ):Blk:=⟨fV N v,.ty 35⟩
theorem iF (N:Int) (v:aJ):(et N v).fx:=by
 intro x hx;simp [et,fV] at hx;rcases hx with rfl|rfl|rfl|rfl|rfl|rfl|rfl|rfl|rfl|rfl|rfl|rfl|rfl|rfl|rfl|rfl|rfl|rfl|rfl|rfl|rfl<;>rfl
theorem Blk.obj_flatx {b:Blk} (h:b.fx) (r:dR):b.obj r=b.obj0:=by
 obtain ⟨c,T⟩:=b
 cases T with
 | ty t=>exact Blk.obj_flat (λx hx=>h x hx)
 | raw t fr=>rfl
 | mp=>exact h.elim
def Iy (nk w:Nat) (lw:aJ) (v:Value) (ns:cf):Prop :=
 v=.func (.func 79) #[] #[.pointer (some ⟨nk,0,none⟩),.pointer (some ⟨nk+1,0,none⟩)]/\ns=[(nk,ptB w),(nk+1,loB lw)]
theorem uT {nk w:Nat} {lw:aJ} {v:Value} {ns:cf} (h:Iy nk w lw v ns):∀ k∈ak ns,nk<=k/\k<nk+2:=by
 exact tf
theorem B6 (lw:aJ):(loB lw).fx:=by
 intro x hx;simp [loB] at hx;exact FA
theorem ahJ (b:Blk) (hb:b.fx) (lw:aJ) :
  FunS prog G0 46 #[.pointer (some ⟨100,0,none⟩),gA lw] (hpL G0 [(100,b)]) (ak [(100,b)]) (Iy 1000 100 lw):=by
 refine eW (B:=200) G0F func46 rfl call46 (aT hb) ?_ ?_ (by simp [ntmps46]) zO ?_
 ·simp [aL,cQ,aI,aP,ak,gA]
 ·rintro v ns ⟨rfl,rfl⟩;refine ⟨gb,?_,?_⟩
  ·intro p hp;simp only [aj,az,ay] at hp;rcases hp with rfl|rfl
   ·exact ⟨zO,by simp [ptB,aM,aI,aP,eo,ak]⟩
   ·exact ⟨zO,Blk.fx_ids (B6 lw) _⟩
  ·exact Hz
 intro C hC bA hY;unfold gA;refine iI ?_;refine ⟨.inr trivial,zR G0F,_,_,λk=>if k=1000 then 200 else if k=1001 then 208 else k,⟨rfl,rfl⟩,λk hk=>?_,zS,zS,by simp [results46,ren,aW,aw,aF],?_⟩
 ·dsimp only;exact QR
 ·have e:=Blk.fx_rn (B6 lw) (λk=>if k=1000 then 200 else if k=1001 then 208 else k);simp only [aj,az,ay,dc,bN];refine ⟨?_,?_⟩
  ·simp [ptB,Blk.rn,aw,aF]
  ·rw [e];simp [loB]
def sdM (w nk k:Nat):Nat:=if k=100 then w else if k=1000 then nk else if k=1001 then nk+1 else k
theorem YD {nk Cc w w':Nat} {lw:aJ} {ρ:dR} (hw:ρ w=w') (h0:ρ nk=Cc) (h1:ρ (nk+1)=Cc+1):RR ρ (Iy nk w lw)=Iy Cc w' lw:=by
 have e:=Blk.fx_rn (B6 lw) ρ;funext v ns;apply propext;constructor
 ·rintro ⟨v0,JF,⟨rfl,rfl⟩,rfl,rfl⟩;exact ⟨nh,by simp [rnL,ptB,Blk.rn,aw,aF,hw,h0,h1];exact e⟩
 ·rintro ⟨rfl,rfl⟩;refine ⟨_,_,⟨rfl,rfl⟩,nh,?_⟩;simp [rnL,ptB,Blk.rn,aw,aF,hw,h0,h1];exact e.symm
theorem J4 (nk w:Nat) (rY:200<=nk) (hw:100<=w) (h1:w≠nk) (h2:w≠nk+1) (b:Blk) (hb:b.fx) (lw:aJ) :
  FunS prog G0 46 #[.pointer (some ⟨w,0,none⟩),gA lw] (hpL G0 [(w,b)]) [w] (Iy nk w lw):=by
 have e1:sdM w nk 100=w:=ag rfl;have e2:sdM w nk 1000=nk:=rfl;have e3:sdM w nk 1001=nk+1:=rfl;refine (ahJ b hb lw).mvL (eG:=hpL G0 [(w,b)]) (PN:=[w]) G0F (aT hb) (sdM w nk) (λk hk=>?_) ?_ (by simp [ak,e1]) (YD e1 e2 e3) (λk hk=>dA (by simp [hw]) hk) ?_ ai (λv ns hV k hk=>?_) (λv ns hV k hk l hl e=>?_)
 ·unfold sdM;rw [ae zO,ae zO,ae zO]
 ·simp [gA,ren,aW,aw,aF,e1]
 ·intro p hp;simp only [br] at hp;subst hp;simp only [e1];exact ⟨hw,by rw [Blk.fx_rn hb];simp⟩
 ·have h9:=uT hV k hk;have:k=1000\/k=1001:=zO;rcases this with rfl|rfl
  ·rw [e2];exact ⟨zO,by simp;omega⟩
  ·rw [e3];exact ⟨zO,by simp;omega⟩
 ·have h9:=uT hV k hk;have h8:=uT hV l hl;have a:k=1000\/k=1001:=zO;have b:l=1000\/l=1001:=zO;rcases a with rfl|rfl<;>rcases b with rfl|rfl<;>simp only [e2,e3] at e<;>omega
def sdN (w nk k:Nat):Nat:=if k=200 then w else if k=208 then nk else if k=209 then nk+1 else k
theorem J5 (w nk:Nat) (hw:100<=w) (rY:100<=nk) (h1:w≠nk) (h2:w≠nk+1) (ob:aa2) (Vx:∀ c,(ob c).fx) (lw:aJ) {hp:Hp} (hG:∀ k,k<100->hp k=G0 k) (a:hp w=some (ob 0)) (b:hp nk=some (ptB w)) (c:hp (nk+1)=some (loB lw)) :
  IterS prog G0 79 #[.pointer (some ⟨nk,0,none⟩),.pointer (some ⟨nk+1,0,none⟩)] hp [w,nk,nk+1] w ob (vt w lw):=by
 have e1:sdN w nk 200=w:=ag rfl;have e2:sdN w nk 208=nk:=rfl;have e3:sdN w nk 209=nk+1:=rfl;have h:=YE ob (λc=>⟨λr=>Blk.obj_flatx (Vx c) r,λD=>Blk.fx_ids (Vx c) D⟩) lw
 have hL:LOk (sdL (ob 0) lw) 300:=⟨by simp [sdL],by simp [sdL,ak],by
  simp only [sdL,aj,az,ay,dc,bN];exact ⟨Blk.fx_ids (Vx 0) _,by simp [ptB,aM,aI,aP,ak],Blk.fx_ids (B6 lw) _⟩⟩
 have h9:=abW (u7:=#[.pointer (some ⟨nk,0,none⟩),.pointer (some ⟨nk+1,0,none⟩)]) (hp:=hp) (rs:=[w,nk,nk+1]) h G0F hL (sdN w nk) (λk hk=>?_) (by simp [aF,e2,e3]) (by simp [sdL,ak,e1,e2,e3]) hG ?_ ?_
 ·rw [adB,e1] at h9;exact h9
 ·unfold sdN;rw [ae zO,ae zO,ae zO]
 ·simp only [sdL,aj,az,ay,dc,bN,e1,e2,e3];refine ⟨⟨hw,by rw [a,Blk.fx_rn (Vx 0)]⟩,⟨rY,?_⟩,zO,by rw [c,Blk.fx_rn (B6 lw)]⟩;rw [b];simp [ptB,Blk.rn,aw,aF,e1]
 ·simp only [sdL,ak,bI,ft,aj,az,ay];rintro k (rfl|rfl|rfl) l (rfl|rfl|rfl) e<;>simp only [e1,e2,e3] at e<;>omega
theorem sC {p:Prop} (h:p:=by simp [et,fV]):p:=h
theorem HA {p:Prop} (h:p:=by
 unfold dv;apply propext;constructor
 ·intro h;split at h<;>(try split at h)<;>omega
 ·intro h;split<;>(try split)<;>omega):p:=h
theorem FK {p:Prop} (h:p:=by
 refine ⟨rfl,_,0,cB [] 1000 hC G0F (m:=[]) (m0:=[]) bA zO zS zS zS,rfl,?_⟩
 (try rw [Cu])
 intro hr;have:=((Wh z).1 hr).1;omega):p:=h
theorem yF {p:Prop} (h:p:=by
 intro w ns hV k hk;have:=uT hV k hk;omega):p:=h
abbrev Cu := @Bool.eq_false_iff
structure HOk (N:Int) (v:aJ):Prop where
 n:i64 N
 i:∀ c,2<=c->c<14->i64 (v c)
 w0:wr (v 0)
 w1:wr (v 1)
def sdA (i:Nat):Nat:=2+i / 2+i%2*6
theorem Wj {P:iH}:(∀ i,i<6->P (sdA i))↔∀ q,q<3->P (2+q)/\P (8+q):=by
 constructor
 ·intro h q hq;have:q=0\/q=1\/q=2:=zO;rcases this with rfl|rfl|rfl
  ·exact ⟨h 0 zO,h 1 zO⟩
  ·exact ⟨h 2 zO,h 3 zO⟩
  ·exact ⟨h 4 zO,h 5 zO⟩
 ·intro h i hi;have:i=0\/i=1\/i=2\/i=3\/i=4\/i=5:=zO;rcases this with rfl|rfl|rfl|rfl|rfl|rfl
  ·exact (h 0 zO).1
  ·exact (h 0 zO).2
  ·exact (h 1 zO).1
  ·exact (h 1 zO).2
  ·exact (h 2 zO).1
  ·exact (h 2 zO).2
theorem aaK (P:iH) [DecidablePred P]:∃ N,N<=6/\(∀ i,i<N->P i)/\(N=6\/(N<6/\¬P N)):=by
 have key:∀ n,∃ N,N<=n/\(∀ i,i<N->P i)/\(N=n\/(N<n/\¬P N)):=λn=>by
  induction n with
  | zero=>exact ⟨0,aA _,λi hi=>absurd hi (jt i),.inl rfl⟩
  | succ n ih =>
   obtain ⟨N,h1,h2,h3⟩:=ih;rcases h3 with rfl|h3
   ·by_cases h:P N
    ·exact ⟨N+1,aA _,λi hi=>by
      by_cases e:i=N
      ·subst e;exact h
      ·exact h2 i zO,.inl rfl⟩
    ·exact ⟨N,Nat.le_succ _,h2,.inr ⟨Nat.lt_succ_self _,h⟩⟩
   ·exact ⟨N,zO,h2,.inr ⟨zO,h3.2⟩⟩
 exact key 6
theorem Bm (w:Nat) (lw:aJ) (i:Nat) (hi:i<6):(vt w lw)[i]? = some (sdX w (sdA i+7) (sdA i+10) (lw (sdA i))):=by
 have:i=0\/i=1\/i=2\/i=3\/i=4\/i=5:=zO;rcases this with rfl|rfl|rfl|rfl|rfl|rfl<;>rfl
theorem Ms {x y:Int}:(0<dv x y)=(y<x):=by
 exact HA
theorem Wh {N:Int} {v:aJ} (z:¬N=0):mr ⟨N,v⟩=true↔(0<N/\N<=1073741824)/\v 0<=v 1/\∀ i,i<6->v (sdA i)<=v (sdA i+3):=by
 rw [PJ (h:=⟨N,v⟩) z,Wj (P:=λc=>v c<=v (c+3))];refine and_congr gM (and_congr gM (forall_congr' λq=>forall_congr' λhq=>?_));rw [(zO:2+q+3=5+q),(zO:8+q+3=11+q)]
theorem rZ (N:Int) (v:aJ) (c:Nat) (h:2<=c/\c<14):fB prog 3 (et N v) (c+7)=some (.int .i64 (v c)):=by
 have:c=2\/c=3\/c=4\/c=5\/c=6\/c=7\/c=8\/c=9\/c=10\/c=11\/c=12\/c=13:=zO;rcases this with rfl|rfl|rfl|rfl|rfl|rfl|rfl|rfl|rfl|rfl|rfl|rfl<;>simp [et,fV]
theorem Ii {i:Nat} (h:i<6):(2<=sdA i/\sdA i<14)/\2<=sdA i+3/\sdA i+3<14:=by unfold sdA;omega
def oA (N:Int) (v:aJ):Value:=.agg (fV N v)
theorem Tn (N:Int) (v:aJ) (h:HOk N v):Ret prog G0 14 #[oA N v] (.bool (mr ⟨N,v⟩)):=by
 unfold oA fV;refine aU G0F func14 rfl call14 zS zS (by simp [ntmps14]) ?_;intro C hC bA hY;refine iI ?_;by_cases z:N=0
 ·subst z;refine qu 0 (λ_ _=>False) rfl (λ_ _ h=>h.elim) ?_;intro _;refine iI ?_;refine ⟨.inr trivial,?_⟩;simp [results14];have s0:sz (0:Int)=0:=qc zD zD
  have e0:(wi (v 0) 0==0&&(wi (v 0) 1==0&&(wi (v 0) 2==0&&wi (v 0) 3==0)))=decide (v 0=0):=by
   have:=weq (v 0) 0;rw [qc h.w0.1 h.w0.2,s0] at this;exact Rh
  have e1:(wi (v 1) 0==0&&(wi (v 1) 1==0&&(wi (v 1) 2==0&&wi (v 1) 3==0)))=decide (v 1=0):=by
   have:=weq (v 1) 0;rw [qc h.w1.1 h.w1.2,s0] at this;exact Rh
  rw [e0,e1];unfold mr;rw [ag rfl,show List.range 14=[0,1,2,3,4,5,6,7,8,9,10,11,12,13] from rfl];rw [g6];simp only [List.all_cons,List.all_nil,bn,db,beq_iff_eq,and_true];constructor
  ·rintro ⟨⟨a0,a1⟩,⟨a2,a3,a4⟩,⟨a5,a6,a7⟩,⟨a8,a9,RS⟩,Sb,a12,a13⟩;exact ⟨a0,a1,a2,a3,a4,a5,a6,a7,a8,a9,RS,Sb,a12,a13⟩
  ·rintro ⟨a0,a1,a2,a3,a4,a5,a6,a7,a8,a9,RS,Sb,a12,a13⟩;exact ⟨⟨a0,a1⟩,⟨a2,a3,a4⟩,⟨a5,a6,a7⟩,⟨a8,a9,RS⟩,Sb,a12,a13⟩
 ·have s0:sz (v 0)=v 0:=qc h.w0.1 h.w0.2;have s1:sz (v 1)=v 1:=qc h.w1.1 h.w1.2;refine qu 0 (λ_ s=>s=⟨tsL [],hpL G0 [],1000,0⟩/\mr ⟨N,v⟩=false) rfl ?_ ?_
  ·rintro m _ ⟨rfl,hr⟩;refine iI ?_;exact eR (k2 results14 hr)
  intro _;have zb:(N==0)=false:=by simpa using z
  by_cases c1:N<0
  ·
   refine cA (k3 z zb c1) ?_;exact FK
  by_cases c2:1073741824<N
  ·
   refine cA (k4 z zb c1 c2) ?_;exact FK
  by_cases c3:v 1<v 0
  ·
   refine cA (k8 z zb c1 c2 c3 s0 s1 @Ms) ?_;refine ⟨rfl,_,0,cB [] 1000 hC G0F (m:=[]) (m0:=[]) bA zO zS zS zS,rfl,?_⟩
   (try rw [Cu])
   intro hr;have:=((Wh z).1 hr).2.1;omega
  refine cA (k8 z zb c1 c2 c3 s0 s1 @Ms) ?_;have EB:=J4 392 200 zO zO zO zO (et N v) (iF N v) (λ_=>0);unfold gA at EB;simp only [ct] at EB;refine gj ?_;refine qM trivial ?_;refine cv (f:=.func 46) (cap:=#[]) hC EB rfl zS rfl rfl aS aq zS aZ aq sC bO ?_ ?_
  ·exact yF
  rintro w ns ⟨rfl,rfl⟩;refine cu ?_
  repeat' first|refine cT ?_|(refine iy ?_;intro Q hQ _;simp [hC,hY,cJ,bH];refine dq hQ ?_)|fail
  simp only [cJ,bH];have ck:v 0<=v 1:=zO;have cN:0<N/\N<=1073741824:=zO;have vq:=iF N v;have QY:=λD=>Blk.fx_ids vq D;have Ko:=hC;obtain ⟨M,hM,Jh,Ad⟩:=aaK (λi=>v (sdA i)<=v (sdA i+3));refine z3 (G:=G0) (f:=79) (bF:=#[.pointer (some ⟨392,0,none⟩),.pointer (some ⟨393,0,none⟩)]) (rs:=[200,392,393]) (xs:=vt 200 λ_=>0) (w:=200) (ob:=λ_=>et N v) (m0:=[]) (λl0 h=>fj) G0F hC bA hY zS ?_ zS zO ?_ (by simp [ntmps14]) [] (λ_=>[(200,et N v)]) 1000 M (by simp [vt];omega) zO ?_ zS ?_ ?_ zS ?_ ?_
  ·refine J5 200 392 zO zO zO zO (λ_=>et N v) (λ_=>iF N v) (λ_=>0) bO ?_ ?_ ?_
   ·simp [et,fV,upd]
   ·simp [upd]
   ·simp [upd]
  ·exact J2 200 _
  ·simp [dom,upd]
  ·simp [et,fV,upd]
  ·simp [QY]
  ·intro i x hi hx C1 j c1 c2 c3;have hi6:i<6:=zO;rw [Bm _ _ _ hi6] at hx;simp only [bf] at hx;subst hx;obtain ⟨r1,r2⟩:=Ii hi6;have l0:=rZ N v _ r1;have l1:=rZ N v _ r2;have hle:=Jh i hi;have dp:¬v (sdA i+3)<v (sdA i):=zO;generalize sdA i=a at *
   unfold sdX;clear hC hY;have hC:=c1;have hY:=c3;refine cA @bG.eq_1 ?_;intro C2 tP Jd tQ;clear hC hY;have hC:=tP;have hY:=tQ;refine cA (k3 l0 l1 dp) ?_;simp
  ·rcases Ad with rfl|⟨Rw,aba⟩
   ·refine .inl ⟨by simp [vt],?_⟩;refine iI ?_;refine ⟨.inr trivial,?_⟩;have hr:mr ⟨N,v⟩=true:=(Wh z).2 ⟨cN,ck,Jh⟩;simp [results14,hr]
   ·refine .inr ⟨_,Bm _ _ _ Rw,?_⟩;intro C1 j c1 c2 c3
    have hr:mr ⟨N,v⟩=false:=by
     cases e:mr ⟨N,v⟩ with
     | false=>rfl
     | true=>exact absurd (((Wh z).1 e).2.2 M Rw) aba
    obtain ⟨r1,r2⟩:=Ii Rw;have l0:=rZ N v _ r1;have l1:=rZ N v _ r2;have dp:v (sdA M+3)<v (sdA M):=zO;generalize sdA M=a at *
    unfold sdX;clear hC hY;have hC:=c1;have hY:=c3;refine cA @bG.eq_1 ?_;intro C2 tP Jd tQ;clear hC hY;have hC:=tP;have hY:=tQ;refine cA (k3 l0 l1 dp) ?_;refine ⟨rfl,zS,zS,?_⟩;refine ⟨rfl,_,0,cB [] 1000 Ko G0F (m:=[]) (m0:=[]) bA zO zS zS zS,rfl,?_⟩;simp [hr]
theorem iX {p:Prop} (h:p:=by simp [spV]):p:=h
theorem Xh (a n:Int) (hi:i64 n):Ret prog G0 97 #[wd a,.int .i64 n] (wd (a+n)):=by
 refine aU G0F func97 rfl call97 zS zS (by simp [ntmps97]) ?_;intro C hC bA hY;refine cA hi ?_;exact eR results97
@[simp] theorem azG (a n:Int) (hi:i64 n) (K:fQ):bl prog G0 97 #[Value.agg #[.int .u64 (wi (a) 0),.int .u64 (wi (a) 1),.int .u64 (wi (a) 2),.int .u64 (wi (a) 3)],.int .i64 n] K↔K (wd (a+n)):=ar G0W ah (Xh a n hi)
def spV (lo hi:Int):Value:=.agg #[.int .u64 (wi lo 0),.int .u64 (wi lo 1),.int .u64 (wi lo 2),.int .u64 (wi lo 3),.int .u64 (wi hi 0),.int .u64 (wi hi 1),.int .u64 (wi hi 2),.int .u64 (wi hi 3)]
@[simp] theorem as8 (lo hi:Int):bp (spV lo hi)=true:=iX
def zQ (lo hi a:Int):Bool:=decide (dv (sz lo) (sz a)<=0)&&decide (dv (sz a) (sz hi)<=0)
theorem IX (lo hi a:Int):Ret prog G0 50 #[spV lo hi,wd a] (.bool (zQ lo hi a)):=by
 refine aU G0F func50 rfl call50 rfl zS (by simp [ntmps50]) ?_;intro C hC bA hY;unfold spV zQ;by_cases h1:dv (sz lo) (sz a)<=0
 ·rw [bg h1];refine cA h1 ?_;exact eR results50
 ·rw [aR h1];refine cA h1 ?_;exact eR results50
theorem MA (lo hi:Int) (hl:wr lo) (hh:wr hi) (h0:lo<=hi) (h1:i64 (hi - lo)):Ret prog G0 44 #[spV lo hi] (.tuple #[.int .i64 (hi - lo),.bool true]):=by
 refine aU G0F func44 rfl call44 zS zS (by simp [ntmps44]) ?_;intro C hC bA hY;have w:=jl h1;have s1:=gB w;have g1:=L6 hl;have g2:=L6 hh;have g3:=Cb w zO;have n0:0<=hi - lo:=zO;have n1:lo<=hi:=h0
 have AQ:(!decide (hi<0) != decide (lo<0)||!decide (hi<0))=true:=by
  by_cases a:hi<0
  ·have b:lo<0:=zO;simp [a,b]
  ·simp [a]
 unfold spV;refine cA (k8 h1 s1 g1 g2 g3 n0 n1 AQ) ?_;exact eR results44
theorem Fp {p:Prop} (h:p:=by
 constructor
 ·intro h;split at h<;>(try split at h)<;>omega
 ·intro h;split<;>(try split)<;>omega):p:=h
theorem FP {p:Prop} (h:p:=by
 refine ⟨rfl,nc,zS,.inr trivial,?_⟩;simp [results18,OE]):p:=h
structure LsOk (w:aJ):Prop where
 w0:wr (w 0)
 w1:wr (w 1)
 i:∀ c,2<=c->c<14->i64 (w c)
 r:∀ q,q<3->w (2+q)=w (5+q)/\w (8+q)=w (11+q)
theorem wz {N:Int} {v:aJ} (h:HOk N v) (K:fQ):bl prog G0 14 #[oA N v] K↔K (.bool (mr ⟨N,v⟩)):=ar G0W ah (Tn N v h)
theorem OJ {lo hi a:Int} (h0:wr lo) (h1:wr hi) (h2:wr a):zQ lo hi a=decide (lo<=a/\a<=hi):=by
 unfold zQ;rw [qc h0.1 h0.2,qc h1.1 h1.2,qc h2.1 h2.2,Bool.decide_and]
 have key:∀ x y:Int,decide (dv x y<=0)=decide (x<=y):=λx y=>by
  apply decide_eq_decide.2;unfold dv;exact Fp
 rw [key,key]
theorem Lg {N:Int} {v w:aJ}:tT ⟨N,v⟩ w=true↔¬N=0/\mr ⟨N,v⟩=true/\(v 0<=w 0/\w 0<=v 1)/\(v 0<=w 1/\w 1<=v 1)/\∀ i,i<6->v (sdA i)<=w (sdA i)/\w (sdA i)<=v (sdA i+3):=by
 unfold tT;rw [Wj (P:=λc=>v c<=w c/\w c<=v (c+3)),bn,bn,bn,bn,aj4,db,db];simp only [oY,decide_eq_false_iff_not,bn,db];refine and_congr gM (and_congr gM (and_congr gM (and_congr gM (forall_congr' λq=>forall_congr' λhq=>?_))));rw [(zO:2+q+3=5+q),(zO:8+q+3=11+q)]
theorem Aa (N:Int) (v lw:aJ) (h:HOk N v) (hl:LsOk lw):Ret prog G0 18 #[oA N v,gA lw] (.bool (tT ⟨N,v⟩ lw)):=by
 have hR:=wz h;unfold oA fV at hR |-;unfold gA;refine aU G0F func18 rfl call18 zS zS (by simp [ntmps18]) ?_;intro C hC bA hY;have e1:=OJ h.w0 h.w1 hl.w0;have e2:=OJ h.w0 h.w1 hl.w1;by_cases z:N=0
 ·have OE:tT ⟨N,v⟩ lw=false:=by
   cases e:tT ⟨N,v⟩ lw with
   | false=>rfl
   | true=>exact absurd z (Lg.1 e).1
  subst z;refine iI ?_;exact eR (k2 results18 OE)
 have zb:(N==0)=false:=by simpa using z
 cases hr:mr ⟨N,v⟩ with
 | false =>
  have OE:tT ⟨N,v⟩ lw=false:=by
   cases e:tT ⟨N,v⟩ lw with
   | false=>rfl
   | true=>exact absurd ((Lg.1 e).2.1) (by rw [hr];decide)
  rw [hr] at hR;refine cA (k3 zb z hR) ?_;exact eR (k2 results18 OE)
 | true =>
  rw [hr] at hR;have hE0:=λ(K:fQ)=>ar (K:=K) G0W ah (IX (v 0) (v 1) (lw 0));have hE1:=λ(K:fQ)=>ar (K:=K) G0W ah (IX (v 0) (v 1) (lw 1));unfold spV wd at hE0 hE1
  cases h1:zQ (v 0) (v 1) (lw 0) with
  | false =>
   have OE:tT ⟨N,v⟩ lw=false:=by
    cases e:tT ⟨N,v⟩ lw with
    | false=>rfl
    | true=>rw [e1,bg ((Lg.1 e).2.2.1)] at h1;cases h1
   refine cA (k6 zb z hR hE0 hE1 h1) ?_;exact eR (k2 results18 OE)
  | true =>
   cases h2:zQ (v 0) (v 1) (lw 1) with
   | false =>
    have OE:tT ⟨N,v⟩ lw=false:=by
     cases e:tT ⟨N,v⟩ lw with
     | false=>rfl
     | true=>rw [e2,bg ((Lg.1 e).2.2.2.1)] at h2;cases h2
    refine cA (k7 zb z hR hE0 hE1 h1 h2) ?_;exact eR (k2 results18 OE)
   | true =>
    have MJ:=gF (e1.symm.trans h1);have Jd:=gF (e2.symm.trans h2);refine cA (k7 zb z hR hE0 hE1 h1 h2) ?_;have EB:=J4 440 200 zO zO zO zO (et N v) (iF N v) lw;unfold gA at EB;refine gj ?_;refine qM trivial ?_;refine cv (f:=.func 46) (cap:=#[]) hC EB rfl zS rfl rfl aS aq zS aZ aq sC bO ?_ ?_
    ·exact yF
    rintro w ns ⟨rfl,rfl⟩;refine cu ?_
    repeat' first|refine cT ?_|(refine iy ?_;intro Q hQ _;simp [hC,hY,cJ,bH];refine dq hQ ?_)|fail
    simp only [cJ,bH];have vq:=iF N v;have QY:=λD=>Blk.fx_ids vq D;have Ko:=hC;obtain ⟨M,hM,Jh,Ad⟩:=aaK (λi=>v (sdA i)<=lw (sdA i)/\lw (sdA i)<=v (sdA i+3));refine z3 (G:=G0) (f:=79) (bF:=#[.pointer (some ⟨440,0,none⟩),.pointer (some ⟨441,0,none⟩)]) (rs:=[200,440,441]) (xs:=vt 200 lw) (w:=200) (ob:=λ_=>et N v) (m0:=[]) (λl0 h=>fj) G0F hC bA hY zS ?_ zS zO ?_ (by simp [ntmps18]) [(4,.pointer (some ⟨216,0,none⟩))] (λ_=>[(200,et N v),(216,⟨#[.bool false],.ty 4⟩)]) 1000 M (by simp [vt];omega) zO ?_ zS ?_ ?_ zS ?_ ?_
    ·refine J5 200 440 zO zO zO zO (λ_=>et N v) (λ_=>iF N v) lw bO ?_ ?_ ?_
     ·simp [et,fV,upd]
     ·simp [upd]
     ·simp [upd]
    ·exact J2 200 _
    ·simp [dom,upd]
    ·simp [et,fV,upd]
    ·simp [QY,aL,cQ,aI,aP,aM,dom]
    ·intro i x hi hx C1 j c1 c2 c3;have hi6:i<6:=zO;rw [Bm _ _ _ hi6] at hx;simp only [bf] at hx;subst hx;obtain ⟨r1,r2⟩:=Ii hi6;have l0:=rZ N v _ r1;have l1:=rZ N v _ r2;have hle:=Jh i hi;have q0:¬lw (sdA i)<v (sdA i):=zO;have q1:¬v (sdA i+3)<lw (sdA i):=zO;generalize sdA i=a at *
     unfold sdX;clear hC hY;have hC:=c1;have hY:=c3;refine cA @bG.eq_1 ?_;intro C2 tP Jd tQ;clear hC hY;have hC:=tP;have hY:=tQ;refine cA (k4 l0 l1 q0 q1) ?_;simp
    ·rcases Ad with rfl|⟨Rw,aba⟩
     ·refine .inl ⟨by simp [vt],?_⟩;refine iI ?_;refine ⟨.inr trivial,?_⟩;have OE:tT ⟨N,v⟩ lw=true:=Lg.2 ⟨z,hr,MJ,Jd,Jh⟩;simp [results18,OE]
     ·refine .inr ⟨_,Bm _ _ _ Rw,?_⟩;intro C1 j c1 c2 c3
      have OE:tT ⟨N,v⟩ lw=false:=by
       cases e:tT ⟨N,v⟩ lw with
       | false=>rfl
       | true=>exact absurd ((Lg.1 e).2.2.2.2 M Rw) aba
      obtain ⟨r1,r2⟩:=Ii Rw;have l0:=rZ N v _ r1;have l1:=rZ N v _ r2;by_cases q0:lw (sdA M)<v (sdA M)
      ·generalize sdA M=a at *
       unfold sdX;clear hC hY;have hC:=c1;have hY:=c3;refine cA @bG.eq_1 ?_;intro C2 tP Jd tQ;clear hC hY;have hC:=tP;have hY:=tQ;refine cA (k3 l0 l1 q0) ?_;exact FP
      ·have q1:v (sdA M+3)<lw (sdA M):=zO;generalize sdA M=a at *
       unfold sdX;clear hC hY;have hC:=c1;have hY:=c3;refine cA @bG.eq_1 ?_;intro C2 tP Jd tQ;clear hC hY;have hC:=tP;have hY:=tQ;refine cA (k4 l0 l1 q0 q1) ?_;exact FP
end Go.Gy
namespace Go.Gy
open Go Go.RowKit
theorem roN {q:Nat×List Nat×List Nat} (h:q∈([]:Tr)):q.2.2=[]:=fj
theorem ro1 {k:Nat} {rd:List Nat} {tr:Tr} (h:∀ q∈tr,q.2.2=[]):∀ q∈oa k rd [] tr,q.2.2=[]:=by
 unfold oa
 cases rd with
 | nil=>exact h
 | cons a l=>intro q hq;rcases aj.1 hq with rfl|hq;exact rfl;exact h q hq
theorem ro2 {k:Nat} {rd:List Nat} {tr:Tr} (h:∀ q∈tr,q.2.2=[]):∀ q∈(k,rd,[])::tr,q.2.2=[]:=λq hq=>by
 rcases aj.1 hq with rfl|hq;exact rfl;exact h q hq
theorem IT {md:Region.Mode} {ops:Array Oper}:∀ {tr:Tr},(∀ q∈tr,q.2.2=[])->chk md ops tr=true
 | [],_=>rfl
 | (i,rd,wr)::tl,h=>by
  have hw:wr=[]:=h (i,rd,wr) zS;subst hw;unfold chk;rw [IT (λq hq=>h q (by simp [hq])),Bool.and_true,cX];intro q hq;rw [h q (by simp [hq])];simp [ako]
theorem Z0 {md:Region.Mode} {ops:Array Oper} {i:Nat} {rd wr:List Nat} {tl:Tr} (h:(tl.all λq=>wU md ops i q.1)=true) (h2:chk md ops tl=true):chk md ops ((i,rd,wr)::tl)=true:=by
 unfold chk;rw [h2,Bool.and_true,cX];intro q hq;rw [cX.1 h q hq,Bool.or_true]
end Go.Gy
namespace Go.Gy
open Go Go.RowKit Go.Proofs Go.Proofs.Tryz
theorem lN {p:Prop} (h:p:=by simp [v3]):p:=h
theorem jD {p:Prop} (h:p:=by simp [stP]):p:=h
theorem E5 {p:Prop} (h:p:=by
 simp at hx;rcases hx with rfl|rfl|rfl|rfl|rfl|rfl
 ·exact u1
 all_goals simp [aI,aP]):p:=h
theorem Gn {p:Prop} (h:p:=by
 simp only [stP];refine Blk.ids_of λx hx=>?_;simp at hx;rcases hx with rfl|rfl
 ·simp [aI,aP]
 ·exact u2):p:=h
structure LAny (L:cf):Prop where
 ok:LOk L 200
 fx:∀ p∈L,p.2.fx
section
variable {L:cf}
theorem LAny.mem (h:LAny L) (p:Nat×Blk) (hp:p∈L):hpL G0 L p.1=some p.2:=LOk.at h.ok.one p hp
theorem LAny.low (h:LAny L) (k:Nat) (hk:k<100):hpL G0 L k=G0 k:=h.ok.low k hk
end
def SlI (L:cf) (p:qE):Prop:=∀ n cap,aI (λk=>k∈ak L) (.slice p n cap)
theorem qP {P:Program} {G:Hp} {L:cf} {B:Nat} {f:FuncId} {args:ca} {v:Value} {hp:Hp} {nk:Nat} {K:Eff->Prop} (h:Fun P G f args (hpL G L) (ak L) (.ret v [])) (hL:LOk L B) (hm:∀ p∈L,hp p.1=some p.2) (hK:K ((Res.ret v []).eff (ak L))):qO P G f args hp nk K:=by
 exact Ea
def v3 (x y z:Int):Value:=.agg #[.int .i64 x,.int .i64 y,.int .i64 z]
section
variable {L:cf} {p p2:qE} {n cap n2 av:Nat} {g bx tp nr md st:Int}
theorem ZP (h1:SlI L p) (h2:SlI L p2):∀ x∈#[cfV (.slice p n cap) g bx tp nr md,.agg #[.int .i64 st,.slice p2 n2 av]],aL (λk=>k∈ak L) x:=by
 have a:=h1 n cap;have b:=h2 n2 av;simp only [cfV,eZ,aj,az,ay,dc,bN];simp [aL,cQ,aI,aP] at a b |-;exact ⟨a,b⟩
theorem SJ {p3:qE} {n3 apV:Nat} {st3:Int} (h1:SlI L p) (h2:SlI L p2) (h3:SlI L p3):∀ x∈#[cfV (.slice p n cap) g bx tp nr md,.agg #[.int .i64 st,.slice p2 n2 av],.agg #[.int .i64 st3,.slice p3 n3 apV]],aL (λk=>k∈ak L) x:=by
 have a:=h1 n cap;have b:=h2 n2 av;have c:=h3 n3 apV;simp only [cfV,eZ,aj,az,ay,dc,bN];simp [aL,cQ,aI,aP] at a b c |-;exact ⟨a,b,c⟩
theorem asc (hT:LAny L) (h1:SlI L p) (h2:SlI L p2) {x0 x1 x2 e:Int} (OO:Fun prog G0 70 #[cfV (.slice p n cap) g bx tp nr md,.agg #[.int .i64 st,.slice p2 n2 av],.func (.func 71) #[] #[]] (hpL G0 L) (ak L) (.ret (.tuple #[v3 x0 x1 x2,.int .i64 e]) [])) :
  Fun prog G0 38 #[cfV (.slice p n cap) g bx tp nr md,.agg #[.int .i64 st,.slice p2 n2 av]] (hpL G0 L) (ak L) (.ret (.tuple #[v3 x0 x1 x2,.int .i64 e]) []):=by
 refine cg (B:=200) G0F func38 rfl call38 hT.ok (ZP h1 h2) (bw lN) zS zS (by simp [ntmps38]) zO ?_;intro C hC bA hY;have jj:=hT.low;unfold cfV v3 at OO |-
 repeat' first|refine cT ?_|((first|refine gwR [70] ?_|refine gwD [70] ?_);intro Q hQ _;(repeat first|simp [hC,hY]|refine cV OO hT.ok fS ?_);refine dq hQ ?_)|fail
 exact eT results38
theorem asa (hT:LAny L) (h1:SlI L p) (h2:SlI L p2) {x0 x1 x2 e:Int} (OO:Fun prog G0 70 #[cfV (.slice p n cap) g bx tp nr md,.agg #[.int .i64 st,.slice p2 n2 av],.func (.func 72) #[] #[]] (hpL G0 L) (ak L) (.ret (.tuple #[v3 x0 x1 x2,.int .i64 e]) [])) :
  Fun prog G0 39 #[cfV (.slice p n cap) g bx tp nr md,.agg #[.int .i64 st,.slice p2 n2 av]] (hpL G0 L) (ak L) (.ret (.tuple #[v3 x0 x1 x2,.int .i64 e]) []):=by
 refine cg (B:=200) G0F func39 rfl call39 hT.ok (ZP h1 h2) (bw lN) zS zS (by simp [ntmps39]) zO ?_;intro C hC bA hY;have jj:=hT.low;unfold cfV v3 at OO |-
 repeat' first|refine cT ?_|((first|refine gwR [70] ?_|refine gwD [70] ?_);intro Q hQ _;(repeat first|simp [hC,hY]|refine cV OO hT.ok fS ?_);refine dq hQ ?_)|fail
 exact eT results39
end
def stP (st:Int) (p:qE) (n cap:Nat):Blk:=⟨#[.int .i64 st,.slice p n cap],.ty 27⟩
def lsL (L:cf) (p pa pb:qE) (n cap na dj nb jT:Nat) (g bx tp nr md je vl:Int):List (Nat×Blk):=(200,cfB (.slice p n cap) g bx tp nr md)::(208,stP je pa na dj)::(216,stP vl pb nb jT)::L
section
variable {L:cf} {p pa pb:qE} {n cap na dj nb jT:Nat} {g bx tp nr md je vl:Int}
theorem ach (hT:LAny L) (h1:SlI L p) (h2:SlI L pa) (h3:SlI L pb):LOk (lsL L p pa pb n cap na dj nb jT g bx tp nr md je vl) 300:=by
 have hL:=hT.ok
 have h9:∀ q,200<=q->q∉ak L:=λq hq h=>by
  exact s7
 have mono:∀ {p:qE} {n cap:Nat},SlI L p->aI (λk=>k∈ak (lsL L p pa pb n cap na dj nb jT g bx tp nr md je vl)) (.slice p n cap):=by
  intro p n cap h;have:=h n cap
  cases p with
  | none=>simp [aI,aP]
  | some a =>
   simp [aI,aP] at this |-;exact aD _ (aD _ (aD _ this))
 refine ⟨?_,?_,?_⟩
 ·intro p hp;simp only [lsL,aj] at hp;rcases hp with rfl|rfl|rfl|hp
  ·simp
  ·simp
  ·simp
  ·have:=hL.big p hp;omega
 ·show (200::208::216::ak L).Nodup;simp only [fu,aj,not_or];exact ⟨⟨zO,zO,h9 200 zO⟩,⟨zO,h9 208 zO⟩,h9 216 zO,hL.one⟩
 ·intro q hq;have k1:=h1 n cap;have k2:=h2 na dj;have k3:=h3 nb jT;have up:∀ {v:Value},aI (λk=>k∈ak L) v->aI (λk=>k∈ak (lsL L p pa pb n cap na dj nb jT g bx tp nr md je vl)) v:=λ{v} h=>iz (λk hk=>aD _ (aD _ (aD _ hk))) h;have u1:=up k1;have u2:=up k2;have u3:=up k3;simp only [lsL,aj] at hq;rcases hq with rfl|rfl|rfl|hq
  ·simp only [cfB];refine Blk.ids_of λx hx=>?_;exact E5
  ·exact Gn
  ·simp only [stP];refine Blk.ids_of λx hx=>?_;simp at hx;rcases hx with rfl|rfl
   ·simp [aI,aP]
   ·exact u3
  ·exact Blk.fx_ids (hT.fx q hq) _
theorem Lh (hT:LAny L) (h1:SlI L p) (h2:SlI L pa) (h3:SlI L pb) {F:Nat} (hF:¬F=35) {x0 x1 x2 e y0 y1 y2 e':Int} (d0:i64 (y0 - x0)) (d1:i64 (y1 - x1)) (d2:i64 (y2 - x2))
  (hFa:Fun prog G0 F #[cfV (.slice p n cap) g bx tp nr md,.agg #[.int .i64 je,.slice pa na dj]] (hpL G0 L) (ak L) (.ret (.tuple #[v3 x0 x1 x2,.int .i64 e]) []))
  (hFb:Fun prog G0 F #[cfV (.slice p n cap) g bx tp nr md,.agg #[.int .i64 vl,.slice pb nb jT]] (hpL G0 L) (ak L) (.ret (.tuple #[v3 y0 y1 y2,.int .i64 e']) [])) :
  Fun prog G0 34 #[.func (.func F) #[] #[],.pointer (some ⟨200,0,none⟩),.pointer (some ⟨208,0,none⟩),.pointer (some ⟨216,0,none⟩)] (hpL G0 (lsL L p pa pb n cap na dj nb jT g bx tp nr md je vl)) (ak (lsL L p pa pb n cap na dj nb jT g bx tp nr md je vl)) (.ret (v3 (y0 - x0) (y1 - x1) (y2 - x2)) []):=by
 have Ot:=ach (n:=n) (cap:=cap) (na:=na) (dj:=dj) (nb:=nb) (jT:=jT) (g:=g) (bx:=bx) (tp:=tp) (nr:=nr) (md:=md) (je:=je) (vl:=vl) hT h1 h2 h3;refine cg (B:=300) G0F func34 rfl call34 Ot ?_ (bw lN) zS zS (by simp [ntmps34]) zO ?_
 ·simp [aL,cQ,aI,aP,lsL,ak]
 intro C hC bA hY;have jj:=Ot.low (G:=G0);have iw:=agO d0 d1 d2;have XA:∀ k,300<=k->∀ p∈L,¬p.1=k:=λk hk p hp=>by have:=hT.ok.big p hp;omega
 unfold cfV v3 at hFa hFb;unfold v3;unfold lsL cfB stP at jj |-;have hF1:(F=35)=False:=eq_false hF;have hF2:(35=F)=False:=eq_false λh=>hF h.symm
 repeat' first|refine cT ?_|((first|refine gwR [F] ?_|refine gwD [F] ?_);intro Q hQ _;(repeat first|simp [hC,hY]|refine cV hFa hT.ok fS ?_|refine cV hFb hT.ok fS ?_);refine dq hQ ?_)|fail
 refine cA iw ?_;refine ⟨.inr rfl,by simp [results34],fU G0F (λq hq=>?_) (λk hk=>?_)⟩
 ·have hb:=Ot.big q hq;simp (disch:=omega) only [ao]
 ·simp (disch:=omega) only [ao]
theorem Jg (hT:LAny L) (h1:SlI L p) (h2:SlI L pa) (h3:SlI L pb) {lo hi e:Int} (he:¬e=0)
  (QJ:Fun prog G0 36 #[cfV (.slice p n cap) g bx tp nr md,.agg #[.int .i64 je,.slice pa na dj]] (hpL G0 L) (ak L) (.ret (.tuple #[spV lo hi,.int .i64 e]) [])) :
  Fun prog G0 10 #[cfV (.slice p n cap) g bx tp nr md,.agg #[.int .i64 je,.slice pa na dj],.agg #[.int .i64 vl,.slice pb nb jT]] (hpL G0 L) (ak L) (.ret (.tuple #[gA λ_=>0,.int .i64 e]) []):=by
 refine cg (B:=200) G0F func10 rfl call10 hT.ok (SJ h1 h2 h3) (bw (by simp [gA])) zS zS (by simp [ntmps10]) zO ?_;intro C hC bA hY;have jj:=hT.low;have RD:(e != 0)=true:=by simpa using he
 unfold cfV spV at QJ;unfold cfV
 repeat' first|refine cT ?_|((first|refine gwR [36] ?_|refine gwD [36] ?_);intro Q hQ _;(repeat first|simp [hC,hY,he,RD]|refine cV QJ hT.ok fS ?_);refine dq hQ ?_)|fail
 refine ⟨.inr rfl,by simp [results10,gA,ct],Aj G0F⟩
theorem Tx (hT:LAny L) (h1:SlI L p) (h2:SlI L pa) (h3:SlI L pb) {lo hi lo2 Ze e:Int} (he:¬e=0)
  (QJ:Fun prog G0 36 #[cfV (.slice p n cap) g bx tp nr md,.agg #[.int .i64 je,.slice pa na dj]] (hpL G0 L) (ak L) (.ret (.tuple #[spV lo hi,.int .i64 0]) []))
  (Rq:Fun prog G0 36 #[cfV (.slice p n cap) g bx tp nr md,.agg #[.int .i64 vl,.slice pb nb jT]] (hpL G0 L) (ak L) (.ret (.tuple #[spV lo2 Ze,.int .i64 e]) [])) :
  Fun prog G0 10 #[cfV (.slice p n cap) g bx tp nr md,.agg #[.int .i64 je,.slice pa na dj],.agg #[.int .i64 vl,.slice pb nb jT]] (hpL G0 L) (ak L) (.ret (.tuple #[gA λ_=>0,.int .i64 e]) []):=by
 refine cg (B:=200) G0F func10 rfl call10 hT.ok (SJ h1 h2 h3) (bw (by simp [gA])) zS zS (by simp [ntmps10]) zO ?_;intro C hC bA hY;have jj:=hT.low;have RD:(e != 0)=true:=by simpa using he
 unfold cfV spV at QJ Rq;unfold cfV
 repeat' first|refine cT ?_|((first|refine gwR [36] ?_|refine gwD [36] ?_);intro Q hQ _;(repeat first|simp [hC,hY,he,RD]|refine cV QJ hT.ok fS ?_|refine cV Rq hT.ok fS ?_);refine dq hQ ?_)|fail
 refine ⟨.inr rfl,by simp [results10,gA,ct],Aj G0F⟩
def lsN (lo hi x0 x1 x2 y0 y1 y2:Int):Nat->Int
 | 0=>lo
 | 1=>hi
 | 2=>x0
 | 3=>x1
 | 4=>x2
 | 5=>x0
 | 6=>x1
 | 7=>x2
 | 8=>y0
 | 9=>y1
 | 10=>y2
 | 11=>y0
 | 12=>y1
 | 13=>y2
 | _=>0
theorem abw (hT:LAny L) (h1:SlI L p) (h2:SlI L pa) (h3:SlI L pb) {lo hi lo2 Ze p0 p1 p2 q0 q1 q2:Int}
  (QJ:Fun prog G0 36 #[cfV (.slice p n cap) g bx tp nr md,.agg #[.int .i64 je,.slice pa na dj]] (hpL G0 L) (ak L) (.ret (.tuple #[spV lo hi,.int .i64 0]) []))
  (Rq:Fun prog G0 36 #[cfV (.slice p n cap) g bx tp nr md,.agg #[.int .i64 vl,.slice pb nb jT]] (hpL G0 L) (ak L) (.ret (.tuple #[spV lo2 Ze,.int .i64 0]) []))
  (hMP:Fun prog G0 34 #[.func (.func 38) #[] #[],.pointer (some ⟨200,0,none⟩),.pointer (some ⟨208,0,none⟩),.pointer (some ⟨216,0,none⟩)] (hpL G0 (lsL L p pa pb n cap na dj nb jT g bx tp nr md je vl)) (ak (lsL L p pa pb n cap na dj nb jT g bx tp nr md je vl)) (.ret (v3 p0 p1 p2) []))
  (hML:Fun prog G0 34 #[.func (.func 39) #[] #[],.pointer (some ⟨200,0,none⟩),.pointer (some ⟨208,0,none⟩),.pointer (some ⟨216,0,none⟩)] (hpL G0 (lsL L p pa pb n cap na dj nb jT g bx tp nr md je vl)) (ak (lsL L p pa pb n cap na dj nb jT g bx tp nr md je vl)) (.ret (v3 q0 q1 q2) [])) :
  Fun prog G0 10 #[cfV (.slice p n cap) g bx tp nr md,.agg #[.int .i64 je,.slice pa na dj],.agg #[.int .i64 vl,.slice pb nb jT]] (hpL G0 L) (ak L) (.ret (.tuple #[gA (lsN (lo2 - hi) (Ze - lo) p0 p1 p2 q0 q1 q2),.int .i64 0]) []):=by
 have Ot:=ach (n:=n) (cap:=cap) (na:=na) (dj:=dj) (nb:=nb) (jT:=jT) (g:=g) (bx:=bx) (tp:=tp) (nr:=nr) (md:=md) (je:=je) (vl:=vl) hT h1 h2 h3;refine cg (B:=200) G0F func10 rfl call10 hT.ok (SJ h1 h2 h3) (bw (by simp [gA])) zS zS (by simp [ntmps10]) zO ?_;intro C hC bA hY;have jj:=hT.low
 have aqr:∀ {hp:Hp},hp 200=some (cfB (.slice p n cap) g bx tp nr md)->hp 208=some (stP je pa na dj)->hp 216=some (stP vl pb nb jT)->(∀ q∈L,hp q.1=some q.2)->∀ q∈lsL L p pa pb n cap na dj nb jT g bx tp nr md je vl,hp q.1=some q.2:=λa b c d q hq=>by
  simp only [lsL,aj] at hq;rcases hq with rfl|rfl|rfl|hq
  ·exact a
  ·exact b
  ·exact c
  ·exact d q hq
 unfold cfV spV at QJ Rq;unfold v3 at hMP hML;unfold cfV gA
 repeat' first|refine cT ?_|((first|refine gwR [36] ?_|refine gwD [36] ?_);intro Q hQ _;(repeat first|simp [hC,hY]|refine cV QJ hT.ok fS ?_|refine cV Rq hT.ok fS ?_);refine dq hQ ?_)|fail
 repeat' first|refine cT ?_|((first|refine gwR [34] ?_|refine gwD [34] ?_);intro Q hQ _;(repeat first|simp [hC,hY]|refine qP hMP Ot (aqr (by simp [cfB]) jD jD fS) ?_|refine qP hML Ot (aqr (by simp [cfB]) jD jD fS) ?_);refine hQ _ _ _ _ ?_ ?_;(focus (first|(rfl;done)|(refine IT ?_;(repeat (first|(exact λq hq=>roN hq;done)|refine ro1 ?_|refine ro2 ?_));done)|(refine Z0 ah (IT ?_);(repeat (first|(exact λq hq=>roN hq;done)|refine ro1 ?_|refine ro2 ?_));done))))|fail
 refine ⟨.inr rfl,by simp [results10,lsN],Aj G0F⟩
end
theorem xv {p:Prop} (h:p:=by rw [qH,hf];rfl):p:=h
theorem Gm {p:Prop} (h:p:=by
 rw [<-AK];refine cB _ 300 hC G0F (m0:=loL b off n cap) bA zO ?_ ?_ ?_
 ·simp [aL,cQ,aI,aP,dom,loL,hs]
 ·simp [loL,slB,aM,aI,aP,kL,dom]
 ·simp [loL,slB]):p:=h
abbrev rf := @List.length_append
def lix (w:lX) (n:Nat):List Nat:=(List.range n).filter λi=>jO (w i)
theorem qH (w:lX) (n:Nat):jc w (n+1)=jc w n+if jO (w n) then 1 else 0:=rfl
theorem Ju (w:lX) (n:Nat):lix w (n+1)=lix w n++if jO (w n) then [n] else []:=by
 unfold lix;rw [vU,List.filter_append];congr 1;cases h:jO (w n)<;>simp [h]
theorem ql (w:lX):∀ n,(lix w n).length=jc w n
 | 0=>rfl
 | n+1=>by
  rw [Ju,rf,ql w n,jc];split<;>rfl
theorem aca {w:lX}:∀ {n i:Nat},i<n->jO (w i)=true->(lix w n)[jc w i]? = some i
 | 0,i,h,_=>absurd h (jt i)
 | n+1,i,h,hf=>by
  rw [Ju];by_cases e:i=n
  ·subst e;rw [g8 (by rw [ql];exact aA _),ql,Nat.sub_self,ag hf]
   rfl
  ·have ih:=aca (w:=w) (n:=n) (i:=i) zO hf;rw [ig (mK.1 ih).1];exact ih
theorem VM {w:lX} {n i:Nat} (h:i∈lix w n):i<n/\jO (w i)=true:=by
 unfold lix at h;rw [vS,mM] at h;exact h
theorem Z5 {w:lX} {n m:Nat} (h:n<=m):jc w n<=jc w m:=by
 induction m with
 | zero=>rw [Nat.le_zero.1 h];exact aA _
 | succ m ih =>
  by_cases e:n=m+1
  ·rw [e];exact aA _
  ·have:=ih zO;rw [qH];omega
theorem O8 (w:lX) (stop:Nat):∀ n,∃ N,N<=n/\(∀ i,i<N->jO (w i)=true->jc w i<stop)/\((N=n/\jc w n<=stop)\/(N<n/\jO (w N)=true/\jc w N=stop))
 | 0=>⟨0,aA _,λi hi=>absurd hi (jt i),.inl ⟨rfl,fX _⟩⟩
 | n+1=>by
  obtain ⟨N,h1,h2,h3⟩:=O8 w stop n;rcases h3 with ⟨rfl,h3⟩|h3
  ·cases hf:jO (w N) with
   | false =>
    refine ⟨N+1,aA _,λi hi BB=>?_,.inl ⟨rfl,by rw [qH,hf];exact h3⟩⟩;by_cases e:i=N
    ·subst e;rw [hf] at BB;cases BB
    ·exact h2 i zO BB
   | true =>
    by_cases e:jc w N=stop
    ·exact ⟨N,Nat.le_succ _,h2,.inr ⟨Nat.lt_succ_self _,hf,e⟩⟩
    ·refine ⟨N+1,aA _,λi hi BB=>?_,.inl ⟨rfl,by rw [qH,hf,ag rfl];omega⟩⟩;by_cases e2:i=N
     ·subst e2;omega
     ·exact h2 i zO BB
  ·exact ⟨N,zO,h2,.inr ⟨zO,h3.2⟩⟩
theorem LB.loss {b:Blk} {off n:Nat} {w:lX} (h:LB b off n w) {i:Nat} (hi:i<n):fB prog 38 b (off+i*14)=some (gA (w i)):=by
 have Xs:=Blk.fx_rd h.fx;have:=ajf (P:=prog) (T:=38) (m:=14) (j:=14*i) (cr isAgg38) (aG sizeOf38) zO h.rd zO (λq hq=>by unfold pj;exact Am _ _);rw [(zO:off+i*14=off+14*i),this,<-ace];refine congrArg some (congrArg Value.agg (I2 zS λj hj=>?_));rw [z8 _ _ hj];unfold pj;rw [(zO:(14*i+j) / 14=i),(zO:(14*i+j)%14=j)]
theorem LB.ok1 {b:Blk} {off n:Nat} {w:lX} (h:LB b off n w) {i:Nat} (hi:i<n):LsOk (w i):=⟨(h.wr i hi).1,(h.wr i hi).2,h.i64 i hi,h.ok i⟩
theorem Of {w:aJ} (h:LsOk w):(dv (sz (w 0)) (sz (w 1))<=0)=(jO w=true):=by
 rw [qc h.w0.1 h.w0.2,qc h.w1.1 h.w1.2];unfold jO dv;apply propext;rw [db];exact Fp
def slB (k off n cap:Nat):Blk:=⟨#[.slice (some ⟨k,off,none⟩) n cap],.ty 36⟩
def Zw (nk k off n cap:Nat) (v:Value) (ns:cf):Prop:=v=.func (.func 80) #[] #[.pointer (some ⟨nk,0,none⟩)]/\ns=[(nk,slB k off n cap)]
theorem acf (b:Blk) (hb:b.fx) (off n cap:Nat) :
  FunS prog G0 48 #[.slice (some ⟨100,off,none⟩) n cap] (hpL G0 [(100,b)]) (ak [(100,b)]) (Zw 1000 100 off n cap):=by
 refine eW (B:=200) G0F func48 rfl call48 (aT hb) ?_ ?_ (by simp [ntmps48]) zO ?_
 ·exact RU
 ·rintro v ns ⟨rfl,rfl⟩;refine ⟨gb,?_,?_⟩
  ·simp [slB,aM,aI,aP,eo,ak]
  ·intro k b c h1 h2;simp at h1 h2;obtain ⟨_,rfl⟩:=h1;obtain ⟨_,rfl⟩:=h2
   rfl
 intro C hC bA hY;refine iI ?_;refine ⟨.inr trivial,zR G0F,_,_,λk=>if k=1000 then 200 else k,⟨rfl,rfl⟩,λk hk=>ae zO,zS,zS,by simp [results48,ren,aW,aw,aF],?_⟩;simp [slB,Blk.rn,aw,aF]
def loL (b:Blk) (off n cap:Nat):List (Nat×Blk):=[(100,b),(108,slB 100 off n cap)]
theorem TQ {b:Blk} (hb:b.fx) (off n cap:Nat):LOk (loL b off n cap) 200:=⟨by simp [loL],by simp [loL,ak],by
 simp only [loL,aj,az,ay,dc,bN];exact ⟨Blk.fx_ids hb _,by simp [slB,aM,aI,aP,ak]⟩⟩
def Jv (w:lX) (n:Nat):List (Array Value):=(lix w n).map λi=>#[gA (w i)]
theorem O9 (w:lX) (n:Nat):(Jv w n).length=jc w n:=by rw [Jv,mW,ql]
theorem VN {w:lX} {n i:Nat} (h:i<n) (hf:jO (w i)=true):(Jv w n)[jc w i]? = some #[gA (w i)]:=by
 rw [Jv,gG,aca h hf]
 rfl
def agG (b:Blk) (off n cap:Nat) (w:lX) (l i:Nat):GS :=
 ⟨tsL [(0,.func (.yield l) #[] #[]),(1,.pointer (some ⟨108,0,none⟩)),(5,.slice (some ⟨100,off,none⟩) n cap),(6,.int .i64 n),(7,.int .i64 i)],hpL G0 (loL b off n cap),300,jc w i⟩
theorem XO (b:Blk) (off n cap:Nat) (w:lX) (h:LB b off n w) :
  IterK prog G0 80 #[.pointer (some ⟨108,0,none⟩)] (hpL G0 (loL b off n cap)) (ak (loL b off n cap)) (Jv w n):=by
 refine mZ (B:=200) (v:=.tuple #[]) G0F func80 rfl call80 (TQ h.fx off n cap) ?_ (by simp [ntmps80]) zO ?_
 ·simp [aL,cQ,aI,aP,loL,ak]
 intro C l stop hC bA hY;have Lk:=h.nn;have kL:=λD=>Blk.fx_ids h.fx D;have hL:=TQ h.fx off n cap;have dp:∀ k,dom (hpL G0 (loL b off n cap)) k->k<200:=λk hk=>bu λh1=>hk (hL.free G0F zO k zO);obtain ⟨N,hN,Jh,Ad⟩:=O8 w stop n;have hlen:=O9 w n;unfold loL slB;refine iI ?_;refine fD N (agG b off n cap w l) ?_ ?_ ?_
 ·refine cB _ 300 hC G0F (m0:=loL b off n cap) bA zO ?_ ?_ ?_
  ·simp [aL,cQ,aI,aP,dom,loL]
  ·simp [loL,slB,aM,aI,aP,kL,dom]
  ·simp [loL,slB]
 ·intro i hi;have ew:i<n:=zO;have cS:(i:Int)<n:=zO;have hz:(0:Int)<=i:=zO;have hs:Int.bmod ((i:Int)+1) 18446744073709551616=((i+1:Nat):Int):=ee;have hld:=h.loss ew;have eM:=Of (h.ok1 ew);unfold agG loL slB;unfold gA at hld
  cases hf:jO (w i) with
  | true =>
   have Af:=Jh i hi hf;have hx:=VN ew hf;unfold gA at hx;have Ss:(jc w i != stop)=true:=aB;have hle:jc w i<=stop:=zO;have AK:jc w (i+1)=jc w i+1:=xv;rw [hf] at eM;have abD:(dv (sz (w i 0)) (sz (w i 1))<=0)=True:=eM.trans zS;refine cA (k9 ew cS hz hs Ss hle hld hx abD) ?_;exact Gm
  | false =>
   have AK:jc w (i+1)=jc w i:=xv;rw [hf] at eM;have abD:(dv (sz (w i 0)) (sz (w i 1))<=0)=False:=eM.trans zS;refine cA (k6 ew cS hz hs hld abD) ?_;exact Gm
 ·rcases Ad with ⟨rfl,hc⟩|⟨OF,hf,hc⟩
  ·unfold agG;refine iI ?_;refine ⟨.inl trivial,by simp [results80],by rw [hlen];omega,λk hk=>?_⟩;have hk:=dp k hk
   first|rfl|(simp (disch:=omega) only [ao])
  ·have cS:(N:Int)<n:=zO;have hz:(0:Int)<=N:=zO;have hld:=h.loss OF;have hx:=VN OF hf;have eM:=Of (h.ok1 OF);rw [hf] at eM;have abD:(dv (sz (w N 0)) (sz (w N 1))<=0)=True:=eM.trans zS;have AK:jc w (N+1)=jc w N+1:=xv;have abB:=Z5 (w:=w) (n:=N+1) (m:=n) zO;unfold agG loL slB;unfold gA at hld hx;subst hc;refine cA (k6 OF cS hz hld hx abD) ?_;refine ⟨.inr trivial,by simp [results80],by rw [hlen];first|omega|(simp;omega),λk hk=>?_⟩;have hk:=dp k hk
   first|rfl|(simp (disch:=omega) only [ao];done)|(simp (disch:=omega) only [ao];rfl)
def amp (nk k:Nat):Nat:=if k=1000 then nk else k
theorem agK {nk k off n cap:Nat} {ρ:dR} (h0:ρ 1000=nk) (h1:ρ k=k):RR ρ (Zw 1000 k off n cap)=Zw nk k off n cap:=by
 funext v ns;apply propext;constructor
 ·rintro ⟨v0,JF,⟨rfl,rfl⟩,rfl,rfl⟩;exact ⟨by simp [ren,aW,aw,aF,h0],by simp [rnL,slB,Blk.rn,aw,aF,h0,h1]⟩
 ·rintro ⟨rfl,rfl⟩;exact ⟨_,_,⟨rfl,rfl⟩,by simp [ren,aW,aw,aF,h0],by simp [rnL,slB,Blk.rn,aw,aF,h0,h1]⟩
theorem Ba {nk k off n cap:Nat} {v:Value} {ns:cf} (h:Zw nk k off n cap v ns):∀ q∈ak ns,q=nk:=by
 obtain ⟨rfl,rfl⟩:=h;intro q hq;simpa [ak] using hq
theorem XN (nk:Nat) (rY:200<=nk) (b:Blk) (hb:b.fx) (off n cap:Nat) :
  FunS prog G0 48 #[.slice (some ⟨100,off,none⟩) n cap] (hpL G0 [(100,b)]) [100] (Zw nk 100 off n cap):=by
 have e1:amp nk 100=100:=rfl;have e2:amp nk 1000=nk:=rfl;refine (acf b hb off n cap).mvL (eG:=hpL G0 [(100,b)]) (PN:=[100]) G0F (aT hb) (amp nk) (λk hk=>ae zO) ?_ (by simp [ak,e1]) (agK e2 e1) (λk hk=>dA zS hk) ?_ ai (λv ns hV k hk=>?_) (λv ns hV k hk l hl e=>by rw [Ba hV k hk,Ba hV l hl])
 ·simp [ren,aW,aw,aF,e1]
 ·intro p hp;simp only [br] at hp;subst hp;simp only [e1];exact ⟨zO,by rw [Blk.fx_rn hb];simp⟩
 ·rw [Ba hV k hk,e2];exact ⟨zO,aB⟩
theorem TR (nk:Nat) (rY:200<=nk) (b:Blk) (off n cap:Nat) (w:lX) (h:LB b off n w) {hp:Hp} (hG:∀ k,k<100->hp k=G0 k) (ha:hp 100=some b) (hc:hp nk=some (slB 100 off n cap)) :
  IterK prog G0 80 #[.pointer (some ⟨nk,0,none⟩)] hp [100,nk] (Jv w n):=by
 refine tX (XO b off n cap w h) G0F (TQ h.fx off n cap) (λk=>if k=108 then nk else k) (λk hk=>ae zO) kh (by simp [loL,ak]) hG ?_ ?_
 ·simp only [loL,aj,az,ay,dc,bN];refine ⟨⟨zS,?_⟩,aB,?_⟩
  ·rw [Blk.fx_rn h.fx];exact ha
  ·simp [slB,Blk.rn,aw,aF];exact hc
 ·simp only [loL,ak,bI,ft,aj,az,ay];rintro k (rfl|rfl) l (rfl|rfl) e<;>simp at e<;>omega
end Go.Gy
namespace Go.Gy
open Go Go.RowKit Go.Proofs
abbrev j4 := @List.getD_eq_getElem?_getD
abbrev vI := @Nat.min_le_left
abbrev gZ := @List.getElem?_eq_getElem
theorem Ma {P:Program} {C:Ctx} {n:Nat} {d:List Deferred} {ro:Option Nat} {x y:Code} {s:GS} {K:l6} (S1:GS) (h1:GW P C n d ro x s (dY (λs'=>Weak C s' S1) (λ_ _=>False))) (h2:GW P C n d ro y S1 K):GW P C n d ro (.seq x y) s K :=
 tu (gn h1 λe s' h=>by
  cases e with
  | normal=>exact H0 h h2
  | _=>exact h.elim)
def HS.hq (h:HS) (w:lX) (l:List Nat):Nat->HS
 | 0=>h
 | c+1=>(h.hq w l c).one (w (l.getD c 0))
theorem agd (h:HS) (w:lX) (l:List Nat):∀ c,(h.hq w l c).N=h.N+c
 | 0=>(mO _).symm
 | c+1=>by
  have ih:=agd h w l c;unfold HS.hq HS.one;simp only [ih];omega
theorem TB (h:HS) (w:lX) (l l2:List Nat):∀ c,c<=l.length->h.hq w (l++l2) c=h.hq w l c
 | 0,_=>rfl
 | c+1,hc=>by
  have ih:=TB h w l l2 c zO
  have e:(l++l2).getD c 0=l.getD c 0:=by
   rw [j4,j4,ig zO]
  unfold HS.hq;rw [ih,e]
def tkM (h:HS) (w:lX) (n:Nat):Nat:=min (jc w n) (1073741824 - h.N).toNat
theorem adR {h:HS} {w:lX} (h0:0<=h.N/\h.N<=1073741824):∀ n,h.tk w n=h.hq w (lix w n) (tkM h w n)
 | 0=>by
  have:tkM h w 0=0:=by unfold tkM;rw [show jc w 0=0 from rfl];omega
  rw [this]
  rfl
 | n+1=>by
  have ih:=adR (h:=h) (w:=w) h0 n;have hl:=ql w n;have hN:=agd h w (lix w n) (tkM h w n);have hle:tkM h w n<=jc w n:=vI _ _;unfold HS.tk;rw [ih];rw [Ju]
  cases hf:jO (w n) with
  | false =>
   have e:tkM h w (n+1)=tkM h w n:=by unfold tkM;rw [qH,hf];rfl
   rw [ae zS,e];simp
  | true =>
   by_cases hm:(h.hq w (lix w n) (tkM h w n)).N=1073741824
   ·have e:tkM h w (n+1)=tkM h w n:=by unfold tkM at *;rw [qH,hf,ag rfl];omega
    rw [ae (by simp [hm]),e,TB _ _ _ _ _ zO]
   ·have e:tkM h w (n+1)=tkM h w n+1:=by unfold tkM at *;rw [qH,hf,ag rfl];omega
    have e2:tkM h w n=jc w n:=by unfold tkM at *;omega
    rw [ag ⟨rfl,hm⟩,e]
    have e3:(lix w n++if (true:Bool)=true then [n] else []).getD (tkM h w n) 0=n:=by
     rw [ag rfl,j4,g8 zO,hl,e2,Nat.sub_self]
     rfl
    show _=HS.one _ _;rw [TB _ _ _ _ _ zO,e3]
theorem HOk.one {N:Int} {v w:aJ} (h:HOk N v) (hl:LsOk w) (h0:0<=N) (hN:N<1073741824):HOk (HS.one ⟨N,v⟩ w).N (HS.one ⟨N,v⟩ w).v:=by
 have key:∀ {P:Int->Prop} (c:Nat),P (v c)->P (w c)->P ((HS.one ⟨N,v⟩ w).v c):=λ{P} c h1 h2=>by
  unfold HS.one mm;simp only;split
  ·exact h2
  ·split
   ·rcases Int.le_total (v c) (w c) with h|h
    ·rw [Int.min_eq_left h];exact h1
    ·rw [Int.min_eq_right h];exact h2
   ·rcases Int.le_total (v c) (w c) with h|h
    ·rw [Int.max_eq_right h];exact h2
    ·rw [Int.max_eq_left h];exact h1
 refine ⟨⟨?_,?_⟩,λc h1 h2=>key (P:=i64) c (h.i c h1 h2) (hl.i c h1 h2),key (P:=wr) 0 h.w0 hl.w0,key (P:=wr) 1 h.w1 hl.w1⟩<;>(unfold HS.one;simp only;omega)
theorem HOk.hq {h:HS} (hk:HOk h.N h.v) (h0:0<=h.N) {w:lX} {l:List Nat} (hl:∀ i∈l,LsOk (w i)):∀ c,c<=l.length->h.N+c<=1073741824->HOk (h.hq w l c).N (h.hq w l c).v
 | 0,_,_=>hk
 | c+1,h1,h2=>by
  have ih:=HOk.hq hk h0 hl c zO zO;have hN:=agd h w l c
  have hm:l.getD c 0∈l:=by
   rw [j4,gZ zO];exact mE _
  have:=HOk.one ih (hl _ hm) zO zO;exact this
def stc (c:Nat):Nat:=if c<2 then c else 2+2*((c - 2)%3)+(c - 2) / 6
def mxv (V v:aJ) (k c:Nat):Int:=if stc c<k then V c else v c
theorem agX {V v:aJ} {c:Nat} (h:c<14):mxv V v 8 c=V c:=by
 have:stc c<8:=by unfold stc;split<;>omega
 unfold mxv;rw [ag this]
theorem CQ {N:Int} {v v':aJ} (h:∀ c,c<14->v c=v' c):fV N v=fV N v':=by
 unfold fV;rw [h 0 zO,h 1 zO,h 2 zO,h 3 zO,h 4 zO,h 5 zO,h 6 zO,h 7 zO,h 8 zO,h 9 zO,h 10 zO,h 11 zO,h 12 zO,h 13 zO]
theorem asm (N:Int) (V v:aJ):fV N (mxv V v 8)=fV N V:=CQ λc hc=>agX hc
theorem afn {x y:Int}:(dv x y<0)=(x<y):=by
 exact HA
theorem ajo {c:Nat} (h:uD c=true) (x y:Int):mm c x y=min x y:=ag h
theorem ajn {c:Nat} (h:uD c=false) (x y:Int):mm c x y=max x y:=by unfold mm;rw [ae (by rw [h];decide)]
def P4 (h:HS) (w:lX) (n:Nat):HS:=if mr h=true then h.tk w n else h
def CR (h:HS):Value:=oA h.N h.v
end Go.Gy
namespace Go.Gy
open Go Go.RowKit Go.Proofs Go.Proofs.Tryz
theorem ki {p:Prop} (h:p:=by simp only;omega):p:=h
theorem kr {p:Prop} (h:p:=by simp [cJ]):p:=h
theorem tg {p:Prop} (h:p:=by
 simp [aM,aI,aP,ez,hiz,mxv,stc,V1,z]):p:=h
theorem Fg {p:Prop} (h:p:=by
 refine cA (k8 zb hs sl0 sl1 sv0 sv1 @afn z1) ?_;refine cB _ 1400 hC G0F (m0:=[(200,et N' v'),(208,zhB)]) vw zO ?_ ?_ ?_
 ·exact lO
 ·exact tg
 ·simp [et,fV,mxv,stc,V1,z]):p:=h
theorem Fl {p:Prop} (h:p:=by
 refine cA (CT zb hs @mxv.eq_1 @stc.eq_1 sl0 sl1 sv0 sv1 @Ms z1) ?_;refine cB _ 1500 hC G0F (m0:=[(200,et N' v'),(208,zhB)]) vw zO ?_ ?_ ?_
 ·exact lO
 ·exact tg
 ·simp [et,fV,mxv,stc,V1,z]):p:=h
abbrev lj := @Option.some.inj
def zhB:Blk:=et 0 λ_=>0
def tkL (h:HS):List (Nat×Blk):=[(200,et h.N h.v),(208,zhB)]
theorem Ld (b:Blk) (off n cap:Nat) (w:lX) (hL:LB b off n w) (N:Int) (v:aJ) (h:HOk N v) :
  Fun prog G0 16 #[oA N v,.slice (some ⟨100,off,none⟩) n cap] (hpL G0 [(100,b)]) (ak [(100,b)]) (.ret (CR (P4 ⟨N,v⟩ w n)) []):=by
 have hR:=wz h;unfold oA fV at hR |-;refine cg (B:=200) G0F func16 rfl call16 (aT hL.fx) ?_ (bw (by simp [CR,oA,fV])) zS zS (by simp [ntmps16]) zO ?_
 ·exact RU
 intro C hC bA hY;unfold P4
 cases hr:mr ⟨N,v⟩ with
 | false =>
  rw [hr] at hR;refine cA hR ?_;refine ⟨.inr rfl,?_,zR G0F⟩;simp [results16,CR,oA,fV]
 | true =>
  rw [hr] at hR;refine cA hR ?_;have DV:=XN 248 zO b hL.fx off n cap;refine gj ?_;refine qM trivial ?_;refine cv (f:=.func 48) (cap:=#[]) hC DV rfl zS rfl rfl aS aq zS aZ aq zS bO ?_ ?_
  ·intro w ns hV k hk;rw [Ba hV k hk];omega
  rintro w' ns ⟨rfl,rfl⟩;refine cu ?_
  repeat' first|refine cT ?_|(refine iy ?_;intro Q hQ _;simp [hC,hY,cJ,bH];refine dq hQ ?_)|fail
  simp only [cJ,bH];have Ko:=hC;have hYY:=hY;have hN:=PI hr;simp only at hN;have hlen:=O9 w n;have hM:tkM ⟨N,v⟩ w n<=jc w n:=vI _ _;have hM2:N+tkM ⟨N,v⟩ w n<=1073741824:=by unfold tkM;simp only;omega
  have Xx:∀ i∈lix w n,LsOk (w i):=λi hi=>hL.ok1 (VM hi).1;have eM:∀ c,c<=tkM ⟨N,v⟩ w n->HOk (HS.hq ⟨N,v⟩ w (lix w n) c).N (HS.hq ⟨N,v⟩ w (lix w n) c).v:=λc hc=>HOk.hq (h:=⟨N,v⟩) h hN.1 Xx c (by rw [ql];omega) ki;have Lk:=agd ⟨N,v⟩ w (lix w n);have QY:=λN v D=>Blk.fx_ids (iF N v) D;refine Cq (G:=G0) (f:=80) (rs:=[100,248]) (xs:=Jv w n) (bF:=#[.pointer (some ⟨248,0,none⟩)]) (m0:=[(100,b)]) [100,248] G0F hC bA hY zS ?_ ?_ (by simp [ntmps16]) [(2,.pointer (some ⟨200,0,none⟩)),(4,.pointer (some ⟨208,0,none⟩))] [] (λc=>tkL (HS.hq ⟨N,v⟩ w (lix w n) c)) 1000 (tkM ⟨N,v⟩ w n) (by rw [hlen];exact hM) zO zS nv ?_ zS zS ?_ ?_ zS ?_ ?_
  ·exact TR 248 zO b off n cap w hL (by (intro k hk;first|rfl|(simp (disch:=omega) only [gT,aj,az,ay,ao,bV,eH,ae,bH]<;>done))) zS zS
  ·intro x hx;unfold Jv at hx;obtain ⟨i,_,rfl⟩:=aK.1 hx;simp [gA]
  ·intro k hk b' Vr;simp only [aj,az,ay] at hk;rcases hk with rfl|rfl
   ·simp at Vr;subst Vr;exact Blk.fx_ids hL.fx _
   ·simp at Vr;subst Vr;simp [slB,aM,aI,aP]
  ·simp [tkL,HS.hq,zhB,et,fV,ct]
  ·intro i hi;simp [tkL,zhB,aL,cQ,aI,aP,dom,QY]
  ·intro c x hc hx C1 j c1 c2 c3;have oM:c<(lix w n).length:=by rw [ql];omega
   have Jl:x=#[gA (w ((lix w n).getD c 0))]:=by
    unfold Jv at hx;rw [gG,gZ oM] at hx;rw [j4,gZ oM];exact (lj hx).symm
   subst Jl;have RF:LsOk (w ((lix w n).getD c 0)):=Xx _ (by rw [j4,gZ oM];exact mE _);have hH:=eM c zO;have Rv:=Lk c;have e1:HS.hq ⟨N,v⟩ w (lix w n) (c+1)=(HS.hq ⟨N,v⟩ w (lix w n) c).one (w ((lix w n).getD c 0)):=rfl;rw [e1];simp only at Rv;have lY:0<=(HS.hq ⟨N,v⟩ w (lix w n) c).N:=zO;have oL:(HS.hq ⟨N,v⟩ w (lix w n) c).N<1073741824:=zO;clear Rv e1;generalize w ((lix w n).getD c 0)=lw at *
   generalize HS.hq ⟨N,v⟩ w (lix w n) c=H at *
   obtain ⟨N',v'⟩:=H;simp only at hH lY oL;clear hC hY hr hR eM Xx QY Lk oM hx;have hC:=c1;have hY:=c3;unfold tkL gA;simp only [HS.one];have hs:Int.bmod (N'+1) 18446744073709551616=N'+1:=bm zO zO;have hbN:(N'==1073741824)=false:=aB;have hNe:¬N'=1073741824:=zO;refine cA @bG.eq_1 ?_;intro C2 tP Jd tQ tS;clear hC hY;have hC:=tP;have hY:=tQ;generalize hVd:(λc=>if N'=0 then lw c else mm c (v' c) (lw c))=V;have hV:∀ c,V c=if N'=0 then lw c else mm c (v' c) (lw c):=λc=>by rw [<-hVd]
   have QY:=λN v D=>Blk.fx_ids (iF N v) D;have hil:=λD=>Blk.fx_ids (B6 lw) D;refine Is ?_;have vw:C2.hp0=hpL G0 [(200,et N' v'),(208,zhB)]:=Jd;have hiz:=λD=>Blk.fx_ids (iF 0 λ_=>0) D;have ez:zhB=et 0 λ_=>0:=rfl;refine Ma ⟨tsL [(2,.pointer (some ⟨200,0,none⟩)),(4,.pointer (some ⟨208,0,none⟩)),(5,.pointer (some ⟨1000,0,none⟩))],hpL G0 [(200,et N' v'),(208,zhB),(1000,loB lw)],1100,0⟩ ?_ ?_
   ·unfold et fV;refine cA (k2 hbN hNe) ?_;refine cB _ 1100 hC G0F (m0:=[(200,et N' v'),(208,zhB)]) vw zO ?_ ?_ ?_
    ·exact lO
    ·simp [aM,aI,aP,hil,ez,hiz];simp [loB]
    ·exact sC
   refine Ma ⟨tsL [(2,.pointer (some ⟨200,0,none⟩)),(4,.pointer (some ⟨208,0,none⟩)),(5,.pointer (some ⟨1000,0,none⟩)),(6,.pointer (some ⟨1124,0,none⟩))],hpL G0 [(200,et N' v'),(208,zhB),(1000,loB lw),(1124,⟨#[.bool (N'==0)],.ty 4⟩)],1200,0⟩ ?_ ?_
   ·unfold et fV;refine cA (k2 hbN hNe) ?_;refine cB _ 1200 hC G0F (m0:=[(200,et N' v'),(208,zhB)]) vw zO ?_ ?_ ?_
    ·exact lO
    ·simp [aM,aI,aP,hil,ez,hiz]
    ·exact sC
   have sl0:=qc RF.w0.1 RF.w0.2;have sl1:=qc RF.w1.1 RF.w1.2;have sv0:=qc hH.w0.1 hH.w0.2;have sv1:=qc hH.w1.1 hH.w1.2;refine Ma ⟨tsL [(2,.pointer (some ⟨200,0,none⟩)),(4,.pointer (some ⟨208,0,none⟩)),(5,.pointer (some ⟨1000,0,none⟩)),(6,.pointer (some ⟨1124,0,none⟩))],hpL G0 [(200,et (N'+1) (mxv V v' 1)),(208,zhB),(1000,loB lw),(1124,⟨#[.bool (N'==0)],.ty 4⟩)],1400,0⟩ ?_ ?_
   ·have V0:V 0=if N'=0 then lw 0 else min (v' 0) (lw 0):=by rw [hV,ajo zD]
    have AK:N'=0\/(¬N'=0/\lw 0<v' 0)\/(¬N'=0/\¬lw 0<v' 0):=zO;unfold et fV loB;rcases AK with z|⟨z,z1⟩|⟨z,z1⟩
    ·have zb:(N'==0)=true:=by simpa using z
     have V1:V 0=lw 0:=V0.trans (ag z);refine cA (k2 zb hs) ?_;refine cB _ 1400 hC G0F (m0:=[(200,et N' v'),(208,zhB)]) vw zO ?_ ?_ ?_
     ·exact lO
     ·exact tg
     ·simp [et,fV,mxv,stc,V1,z]
    ·have zb:(N'==0)=false:=by simpa using z
     have V1:V 0=lw 0:=by rw [V0,ae z];omega
     exact Fg
    ·have zb:(N'==0)=false:=by simpa using z
     have V1:V 0=v' 0:=by rw [V0,ae z];omega
     exact Fg
   refine Ma ⟨tsL [(2,.pointer (some ⟨200,0,none⟩)),(4,.pointer (some ⟨208,0,none⟩)),(5,.pointer (some ⟨1000,0,none⟩)),(6,.pointer (some ⟨1124,0,none⟩))],hpL G0 [(200,et (N'+1) (mxv V v' 2)),(208,zhB),(1000,loB lw),(1124,⟨#[.bool (N'==0)],.ty 4⟩)],1500,0⟩ ?_ ?_
   ·have VH:V 1=if N'=0 then lw 1 else max (v' 1) (lw 1):=by rw [hV,ajn zD]
    have AK:N'=0\/(¬N'=0/\v' 1<lw 1)\/(¬N'=0/\¬v' 1<lw 1):=zO;unfold et fV loB;rcases AK with z|⟨z,z1⟩|⟨z,z1⟩
    ·have zb:(N'==0)=true:=by simpa using z
     have V1:V 1=lw 1:=VH.trans (ag z);refine cA (k4 zb hs @mxv.eq_1 @stc.eq_1) ?_;refine cB _ 1500 hC G0F (m0:=[(200,et N' v'),(208,zhB)]) vw zO ?_ ?_ ?_
     ·exact lO
     ·exact tg
     ·simp [et,fV,mxv,stc,V1,z]
    ·have zb:(N'==0)=false:=by simpa using z
     have V1:V 1=lw 1:=by rw [VH,ae z];omega
     exact Fl
    ·have zb:(N'==0)=false:=by simpa using z
     have V1:V 1=v' 1:=by rw [VH,ae z];omega
     exact Fl
   have EB:=J4 1508 200 zO zO zO zO (et (N'+1) (mxv V v' 2)) (iF _ _) lw;unfold gA at EB;refine tu ?_;refine gj ?_;refine qM @loB.eq_1 ?_;refine cv (f:=.func 46) (cap:=#[]) hC EB rfl zS rfl rfl aS aq zS aZ aq zS bO ?_ ?_
   ·exact yF
   rintro w'' ns ⟨rfl,rfl⟩;refine cu ?_;simp only [kB];refine Is ?_;have aCF:=hC
   have ja:∀ i,i<6->V (sdA i)=(if N'=0 then lw (sdA i) else min (v' (sdA i)) (lw (sdA i)))/\V (sdA i+3)=(if N'=0 then lw (sdA i) else max (v' (sdA i+3)) (lw (sdA i))):=λi hi=>by
    have q:∀ q,q<3->(uD (2+q)=true/\uD (8+q)=true/\uD (5+q)=false/\uD (11+q)=false):=λq hq=>aag hq
    have key:uD (sdA i)=true/\uD (sdA i+3)=false/\lw (sdA i+3)=lw (sdA i):=by
     have h0:=RF.r 0 zO;have h1:=RF.r 1 zO;have h2:=RF.r 2 zO;have:i=0\/i=1\/i=2\/i=3\/i=4\/i=5:=zO;rcases this with rfl|rfl|rfl|rfl|rfl|rfl
     ·exact ⟨zD,zD,h0.1.symm⟩
     ·exact ⟨zD,zD,h0.2.symm⟩
     ·exact ⟨zD,zD,h1.1.symm⟩
     ·exact ⟨zD,zD,h1.2.symm⟩
     ·exact ⟨zD,zD,h2.1.symm⟩
     ·exact ⟨zD,zD,h2.2.symm⟩
    rw [hV,hV,ajo key.1,ajn key.2.1,key.2.2];exact ⟨rfl,rfl⟩
   refine z3 (G:=G0) (ro:=some j) (f:=79) (bF:=#[.pointer (some ⟨1508,0,none⟩),.pointer (some ⟨1509,0,none⟩)]) (rs:=[200,1508,1509]) (xs:=vt 200 lw) (w:=200) (ob:=λi=>et (N'+1) (mxv V v' (2+i))) (m0:=[(200,et N' v'),(208,zhB)]) (λl0 h=>by cases h;exact tS) G0F hC vw hY kr ?_ zS zO ?_ (by simp [ntmps16]) [(2,.pointer (some ⟨200,0,none⟩)),(4,.pointer (some ⟨208,0,none⟩)),(6,.pointer (some ⟨1124,0,none⟩))] (λi=>[(200,et (N'+1) (mxv V v' (2+i))),(208,zhB),(1124,⟨#[.bool (N'==0)],.ty 4⟩)]) 2000 6 (by simp [vt]) zO ?_ ?_ ?_ ?_ ?_ ?_ ?_
   ·refine J5 200 1508 zO zO zO zO _ (λi=>iF _ _) lw bO ?_ ?_ ?_
    ·simp [bH,upd]
    ·simp [bH,upd]
    ·simp [bH,upd]
   ·exact J2 200 _
   ·simp [dom,upd,bH]
   ·exact kr
   ·simp [bH,upd]
   ·intro i hi;simp [aL,cQ,aI,aP,aM,dom,QY,ez]
   ·simp [bH,upd,dom]
   ·intro i x hi hx C3 j3 c1 c2 c3;rw [Bm _ _ _ hi] at hx;simp only [bf] at hx;subst hx;obtain ⟨va,vb⟩:=ja i hi;clear ja EB hC hY;have hC:=c1;have hY:=c3;have:i=0\/i=1\/i=2\/i=3\/i=4\/i=5:=zO;rcases this with rfl|rfl|rfl|rfl|rfl|rfl
    all_goals
     simp only [sdA,Nat.reduceAdd,Nat.reduceMul,Nat.reduceDiv,Nat.reduceMod] at va vb |-;unfold sdX et fV;simp only [mxv,stc,Nat.reduceAdd,Nat.reduceLT,Nat.reduceMul,Nat.reduceSub,Nat.reduceDiv,Nat.reduceMod,aV,cw];refine cA @bG.eq_1 ?_;intro C4 hC4 hh4 hY4;clear hC hY;have hC:=hC4;have hY:=hY4;by_cases z:N'=0
     ·have zb:(N'==0)=true:=by simpa using z
      rw [ag z] at va vb;refine cA zb ?_;simp [va,vb,zb,z]
     ·have zb:(N'==0)=false:=by simpa using z
      rw [ae z] at va vb;refine cA zb ?_;simp [va,vb,zb,z];constructor<;>split<;>omega
   ·refine .inl ⟨by simp [vt],?_⟩;have e8:et (N'+1) (mxv V v' (2+6))=et (N'+1) V:=by unfold et;rw [asm]
    rw [e8];simp [l8,dY]
  ·have jh:mr ⟨N,v⟩=true:=hr;simp only [aV];rw [adR (h:=⟨N,v⟩) hN n];have hNm:=Lk (tkM ⟨N,v⟩ w n);simp only at hNm;have hMd:tkM ⟨N,v⟩ w n=min (jc w n) (1073741824 - N).toNat:=rfl;generalize tkM ⟨N,v⟩ w n=M at *
   by_cases Ad:M=jc w n
   ·refine .inl ⟨by rw [hlen];exact Ad,?_⟩;generalize HS.hq ⟨N,v⟩ w (lix w n) M=H;unfold tkL zhB et fV;simp only [oH,kB,eP];refine cA (k2 @gT.eq_1 @ct) ?_;refine ⟨.inr rfl,by simp [results16,CR,oA,fV],fU G0F sK bO⟩
   ·have hMl:M<(lix w n).length:=by rw [ql];omega
    have hx:(Jv w n)[M]? = some #[gA (w ((lix w n).getD M 0))]:=by
     unfold Jv;rw [gG,gZ hMl,j4,gZ hMl]
     rfl
    have Rv:(HS.hq ⟨N,v⟩ w (lix w n) M).N=1073741824:=zO;refine .inr ⟨_,hx,?_⟩;intro C1 j c1 c2 c3;generalize w ((lix w n).getD M 0)=lw;generalize HS.hq ⟨N,v⟩ w (lix w n) M=H at *
    obtain ⟨N',v'⟩:=H;simp only at Rv;clear hR eM Xx Lk hC hY;have hC:=c1;have hY:=c3;unfold tkL zhB et fV gA;refine cA (k3 @bG.eq_1 Rv @ct) ?_;intro C2 tP Jd tQ tS;clear hC hY;have hC:=tP;have hY:=tQ;refine cA (k2 Rv @ct) ?_;refine ⟨rfl,nc,zS,?_⟩;clear hC hY;have hC:=Ko;have hY:=hYY;simp only [eP];refine cA (k2 @gT.eq_1 @ct) ?_;refine ⟨.inr rfl,by simp [results16,CR,oA,fV,Rv],fU G0F sK bO⟩
def l9:Nat->List (Nat×Nat)
 | 2=>[(1,0)]
 | 3=>[(1,0),(2,0),(2,1)]
 | 4=>[(1,0),(2,0),(2,1),(3,0),(3,1),(3,2)]
 | _=>[]
theorem aat (fm fs:aJ) {n:Nat} (hn:1<=n/\n<=4):Mx fm fs n=(l9 n).map λp=>epV fm fs p.1 p.2:=by
 have:n=1\/n=2\/n=3\/n=4:=zO;rcases this with rfl|rfl|rfl|rfl<;>rfl
theorem H2 {n:Nat} {p:Nat×Nat} (h:p∈l9 n):p.2<p.1/\p.1<n:=by
 unfold l9 at h;split at h<;>simp at h
 ·subst h;simp
 ·rcases h with rfl|rfl|rfl<;>simp
 ·rcases h with rfl|rfl|rfl|rfl|rfl|rfl<;>simp
theorem aas (n:Nat):(l9 n).length<=6:=by
 unfold l9;split<;>simp
def pS (F:lX):List (Nat×Nat)->Int
 | []=>0
 | p::l=>F p.1 p.2+pS F l
theorem ac2 (F:lX):∀ l m,pS F (l++m)=pS F l+pS F m
 | [],m=>by simp [pS]
 | p::l,m=>by
  simp only [bj,pS,ac2 F l m];omega
theorem Ig (F:lX) {l:List (Nat×Nat)} {j:Nat} (hj:j<l.length):pS F (l.take (j+1))=pS F (l.take j)+F l[j].1 l[j].2:=by
 rw [show l.take (j+1)=l.take j++[l[j]] by simp,ac2];simp [pS]
theorem Bq (F:lX) {n:Nat} (hn:1<=n/\n<=4):Kc F n=pS F (l9 n):=by
 have:n=1\/n=2\/n=3\/n=4:=zO;rcases this with rfl|rfl|rfl|rfl<;>simp only [Kc,dh,pS,l9]<;>omega
theorem Xg (L:cf) (ks:Nat) (bm bs:Blk) (hT:LTwo G0 L ks bm bs) (off n cap au av:Nat) (fm fs:aJ) (hm:MB bm off n fm) (fO:SB bs au n fs) (eK:n<=av) (hn:1<=n/\n<=4) (g bx tp nr md st:Int) :
  IterK prog G0 119 #[.pointer (some ⟨208,0,none⟩),.pointer (some ⟨200,0,none⟩)] (hpL G0 (enM L ks off n cap au n av g bx tp nr md st)) (ak (enM L ks off n cap au n av g bx tp nr md st)) ((l9 n).map λp=>epV fm fs p.1 p.2):=by
 rw [<-aat fm fs hn];have:n=1\/n=2\/n=3\/n=4:=zO;rcases this with rfl|rfl|rfl|rfl
 ·exact S9 L ks bm bs hT off cap au av fm fs hm fO eK g bx tp nr md st
 ·exact Ta L ks bm bs hT off cap au av fm fs hm fO eK g bx tp nr md st
 ·exact Tb L ks bm bs hT off cap au av fm fs hm fO eK g bx tp nr md st
 ·exact Tc L ks bm bs hT off cap au av fm fs hm fO eK g bx tp nr md st
def zW (g:Int) (fm fs:aJ) (n:Nat):Int:=Kc (λi k=>lu g (fm i) (fm k) (lS fs i k)) n
def zV (g:Int) (fm fs:aJ) (n:Nat):Int:=Kc (λi k=>uE g (fm i) (fm k) (lS fs i k)) n
def JO (fs:aJ) (n:Nat):Int:=Kc (λi k=>if lS fs i k=0 then 1 else 0) n
theorem Mz {st:Int} {fs:aJ} {n:Nat} (hr:aY st fs n=true) {i k:Nat} (hi:i<n) (hk:k<n):0<=lS fs i k/\lS fs i k<=13194139533312:=by
 obtain ⟨⟨⟨_,a0,a1⟩,⟨_,b0,b1⟩,⟨_,c0,c1⟩⟩,_⟩:=jy hr hi;obtain ⟨⟨⟨_,d0,d1⟩,⟨_,e0,e1⟩,⟨_,f0,f1⟩⟩,_⟩:=jy hr hk;have s0:=ug (a:=fs (6*i) - fs (6*k)) (m:=2097152) ⟨zO,zO,zO⟩;have s1:=ug (a:=fs (6*i+1) - fs (6*k+1)) (m:=2097152) ⟨zO,zO,zO⟩;have s2:=ug (a:=fs (6*i+2) - fs (6*k+2)) (m:=2097152) ⟨zO,zO,zO⟩;unfold lS f2V;split<;>omega
theorem DD {p:Prop} (h:p:=by simp at hp1;subst hp1;exact λx hx=>jm (hc x hx)):p:=h
theorem DO {p:Prop} (h:p:=by simp [hb,h1,Blk.rn];exact (fi (λx hx=>fY (hc x hx))).symm):p:=h
theorem jn {f:FuncId} {c:ca} {T:TypeId} {n nk b:Nat} {x:Int} {v:Value} {hp:Hp} {K:Eff->Prop} (h:Fun prog G0 f #[.int .i64 x,.slice (some ⟨100,0,none⟩) n n] (hpL G0 [(100,⟨c,.ty T⟩)]) [100] (.ret v [])) (hc:∀ x∈c,bU x=true) (hv:bp v=true) (hb:100<=b)
  (h1:hp b=some ⟨c,.ty T⟩) (hK:K ((Res.ret v []).eff [b])):qO prog G0 f #[.int .i64 x,.slice (some ⟨b,0,none⟩) n n] hp nk K :=
 aE h G0F (B:=200) ⟨zS,ai,λp hp1=>DD⟩ (λk=>if k=100 then b else k) (λk hk=>ae zO) aN hv
  DO ai ai hK
theorem BZ {f:FuncId} {c:ca} {T:TypeId} {n nk b:Nat} {v:Value} {hp:Hp} {K:Eff->Prop} (h:Fun prog G0 f #[.slice (some ⟨100,0,none⟩) n n] (hpL G0 [(100,⟨c,.ty T⟩)]) [100] (.ret v [])) (hc:∀ x∈c,bU x=true) (hv:bp v=true) (hb:100<=b)
  (h1:hp b=some ⟨c,.ty T⟩) (hK:K ((Res.ret v []).eff [b])):qO prog G0 f #[.slice (some ⟨b,0,none⟩) n n] hp nk K :=
 aE h G0F (B:=200) ⟨zS,ai,λp hp1=>DD⟩ (λk=>if k=100 then b else k) (λk hk=>ae zO) aN hv
  DO ai ai hK
theorem xQ {p:Prop} (h:p:=by
 rw [hd];refine qv (k4 RQ NP a01 WU) ?_;exact eS results121):p:=h
theorem HF {p:Prop} (h:p:=by
 rw [hd];refine qv (k8 RQ NP a01 WU RS aj1 Sb apz) ?_;exact eS results121):p:=h
theorem aaz (kJ n0:Int):Fun prog G0 121 #[.int .i64 kJ,.slice (some ⟨100,0,none⟩) 1 1] (hpL G0 [(100,⟨#[.int .i64 n0],.ty 3⟩)]) (ak [(100,(⟨#[.int .i64 n0],.ty 3⟩:Blk))]) (.ret (.bool (decide ((1<=n0/\n0<=kJ)))) []):=by
 refine cg (B:=200) G0F func121 rfl call121 ⟨zS,ai,iY⟩ ?_ zS zS zS (by simp [ntmps121]) zO ?_
 ·exact RU
 intro C hC bA hY;by_cases RQ:1<=n0;rotate_left
 ·have NP:n0<1:=zO;have hd:decide ((1<=n0/\n0<=kJ))=false:=aR zO;rw [hd];refine qv (k2 RQ NP) ?_;exact eS results121
 have NP:¬n0<1:=zO;by_cases a01:n0<=kJ;rotate_left
 ·have WU:kJ<n0:=zO;have hd:decide ((1<=n0/\n0<=kJ))=false:=aR zO;exact xQ
 have WU:¬kJ<n0:=zO;have hd:decide ((1<=n0/\n0<=kJ))=true:=bg zO;exact xQ
theorem aaA (kJ n0 n1:Int):Fun prog G0 121 #[.int .i64 kJ,.slice (some ⟨100,0,none⟩) 2 2] (hpL G0 [(100,⟨#[.int .i64 n0,.int .i64 n1],.ty 3⟩)]) (ak [(100,(⟨#[.int .i64 n0,.int .i64 n1],.ty 3⟩:Blk))]) (.ret (.bool (decide ((1<=n0/\n0<=kJ)/\(1<=n1/\n1<=kJ)))) []):=by
 refine cg (B:=200) G0F func121 rfl call121 ⟨zS,ai,iY⟩ ?_ zS zS zS (by simp [ntmps121]) zO ?_
 ·exact RU
 intro C hC bA hY;by_cases RQ:1<=n0;rotate_left
 ·have NP:n0<1:=zO;have hd:decide ((1<=n0/\n0<=kJ)/\(1<=n1/\n1<=kJ))=false:=aR zO;rw [hd];refine qv (k2 RQ NP) ?_;exact eS results121
 have NP:¬n0<1:=zO;by_cases a01:n0<=kJ;rotate_left
 ·have WU:kJ<n0:=zO;have hd:decide ((1<=n0/\n0<=kJ)/\(1<=n1/\n1<=kJ))=false:=aR zO;exact xQ
 have WU:¬kJ<n0:=zO;by_cases RS:1<=n1;rotate_left
 ·have aj1:n1<1:=zO;have hd:decide ((1<=n0/\n0<=kJ)/\(1<=n1/\n1<=kJ))=false:=aR zO;rw [hd];refine qv (k6 RQ NP a01 WU RS aj1) ?_;exact eS results121
 have aj1:¬n1<1:=zO;by_cases Sb:n1<=kJ;rotate_left
 ·have apz:kJ<n1:=zO;have hd:decide ((1<=n0/\n0<=kJ)/\(1<=n1/\n1<=kJ))=false:=aR zO;exact HF
 have apz:¬kJ<n1:=zO;have hd:decide ((1<=n0/\n0<=kJ)/\(1<=n1/\n1<=kJ))=true:=bg zO;exact HF
theorem Td (r a n:Int) (hi:i64 n) (w1:wr (r*r)) (w2:wr (r*r*n)) (w3:wr (a*a)) (hr:wr r) (ha:wr a):Ret prog G0 123 #[wd r,wd a,.int .i64 n] (.bool (decide (r*r*n=a*a))):=by
 refine aU G0F func123 rfl call123 rfl zS (by simp [ntmps123]) ?_;intro C hC bA hY;have s1:=gB w1;have s2:=gB w2;have s3:=gB w3;have s4:=gB hr;have s5:=gB ha;have s6:=gB (jl hi);refine cA (k7 hi s1 s2 s3 s4 s5 s6) ?_;refine ⟨.inr trivial,?_⟩;simp [results123];rw [weq,s2,s3]
@[simp] theorem awc (r a n:Int) (hi:i64 n) (w1:wr (r*r)) (w2:wr (r*r*n)) (w3:wr (a*a)) (hr:wr r) (ha:wr a) (K:fQ):bl prog G0 123 #[Value.agg #[.int .u64 (wi (r) 0),.int .u64 (wi (r) 1),.int .u64 (wi (r) 2),.int .u64 (wi (r) 3)],Value.agg #[.int .u64 (wi (a) 0),.int .u64 (wi (a) 1),.int .u64 (wi (a) 2),.int .u64 (wi (a) 3)],.int .i64 n] K↔K (.bool (decide (r*r*n=a*a))):=ar G0W ah (Td r a n hi w1 w2 w3 hr ha)
theorem BR {kJ n0:Int} (h:(1<=n0/\n0<=kJ)):Fun prog G0 121 #[.int .i64 kJ,.slice (some ⟨100,0,none⟩) 1 1] (hpL G0 [(100,⟨#[.int .i64 n0],.ty 3⟩)]) [100] (.ret (.bool true) []):=by
 have e:=aaz kJ n0;rw [bg h] at e;exact e
theorem BS {kJ n0 n1:Int} (h:(1<=n0/\n0<=kJ)/\(1<=n1/\n1<=kJ)):Fun prog G0 121 #[.int .i64 kJ,.slice (some ⟨100,0,none⟩) 2 2] (hpL G0 [(100,⟨#[.int .i64 n0,.int .i64 n1],.ty 3⟩)]) [100] (.ret (.bool true) []):=by
 have e:=aaA kJ n0 n1;rw [bg h] at e;exact e
theorem aav {g m w q:Int} (h:EIn g m w q) (hq:0<q):Ret prog G0 96 #[.int .i64 g,.int .i64 m,.int .i64 w,.int .i64 q] (.tuple #[.int .i64 (lu g m w q),.int .i64 (uE g m w q),.int .i64 0]):=by
 refine aU G0F func96 rfl call96 zS zS (by simp [ntmps96]) ?_;intro C hC bA hY;have k1:=h.gm;have k2:=h.gmw;have k3:=h.a;have k4:=h.aa;have k5:=h.lo hq;have k6:=h.hi hq;have k7:=(h.holds hq).1;have k8:=agJ k5.1 k5.2 h.q0 h.q1;have k9:=Oa g m w q;have Kw:(1<=g/\g<=1048576):=⟨h.g0,h.g1⟩
 have kf:(1<=m/\m<=1024)/\(1<=w/\w<=1024):=⟨⟨h.m0,h.m1⟩,h.w0,h.w1⟩
 have Vy:¬q<0:=zO;have om:¬13194139533312<q:=by have:=h.q1;omega
 have iq:i64 q:=⟨zO,zO⟩
 have eA:enA g m w=g*m*w*1048576:=rfl;have eL:lu g m w q=isq (enA g m w*enA g m w / q):=rfl;have iA:i64 (enA g m w):=⟨zO,zO⟩
 have iL:i64 (lu g m w q):=⟨zO,zO⟩
 have wA:=jl iA;have wL:=jl iL;have wq:=jl iq;have Rf:wr (enA g m w*enA g m w):=⟨cC zD k4.1,fJ k4.2 zD⟩
 have w2:wr (lu g m w q*lu g m w q):=⟨cC zD k8.1,fJ k8.2.1 zD⟩
 have w3:wr (lu g m w q*lu g m w q*q):=⟨cC zD k8.2.2.1,fJ k8.2.2.2 zD⟩
 have b1:Int.bmod (g*m) 18446744073709551616=g*m:=bm zO zO;have b2:Int.bmod (g*m*w) 18446744073709551616=g*m*w:=bm zO zO;have b3:Int.bmod (g*m*w*1048576) 18446744073709551616=g*m*w*1048576:=bm zO zO;have b4:Int.bmod (lu g m w q+1) 18446744073709551616=lu g m w q+1:=bm zO zO;have s1:=gB wA;have s2:=gB Rf;have s3:=gB wL;rw [k9];generalize lu g m w q=R at *
 simp only [eA] at iA wA Rf k4 s1 s2 eL k7 k9 |-;have hR:=eL.symm;clear eL eA;by_cases c:R*R*q=g*m*w*1048576*(g*m*w*1048576)
 ·rw [ag c]
  repeat' first|refine cT ?_|((first|refine gwR [121] ?_|refine gwD [121] ?_);intro Q hQ _;(repeat first|simp [hC,hY,Vy,om,b1,b2,b3,b4,iq,iA,iL,wA,wL,wq,Rf,w2,w3,s1,s2,s3,hR,k4.1,hq,c]|refine jn (BR Kw) zS rfl zS zS ?_|refine jn (BS kf) zS rfl zS zS ?_);refine dq hQ ?_)|fail
  refine qu 0 (λ_ _=>False) rfl (λ_ _ h=>h.elim) ?_;intro _
  repeat' first|refine cT ?_|((first|refine gwR [121] ?_|refine gwD [121] ?_);intro Q hQ _;(repeat first|simp [hC,hY,Vy,om,b1,b2,b3,b4,iq,iA,iL,wA,wL,wq,Rf,w2,w3,s1,s2,s3,hR,k4.1,hq,c]|refine jn (BR Kw) zS rfl zS zS ?_|refine jn (BS kf) zS rfl zS zS ?_);refine dq hQ ?_)|fail
  exact eR results96
 ·rw [ae c]
  repeat' first|refine cT ?_|((first|refine gwR [121] ?_|refine gwD [121] ?_);intro Q hQ _;(repeat first|simp [hC,hY,Vy,om,b1,b2,b3,b4,iq,iA,iL,wA,wL,wq,Rf,w2,w3,s1,s2,s3,hR,k4.1,hq,c]|refine jn (BR Kw) zS rfl zS zS ?_|refine jn (BS kf) zS rfl zS zS ?_);refine dq hQ ?_)|fail
  refine qu 0 (λ_ _=>False) rfl (λ_ _ h=>h.elim) ?_;intro _
  repeat' first|refine cT ?_|((first|refine gwR [121] ?_|refine gwD [121] ?_);intro Q hQ _;(repeat first|simp [hC,hY,Vy,om,b1,b2,b3,b4,iq,iA,iL,wA,wL,wq,Rf,w2,w3,s1,s2,s3,hR,k4.1,hq,c]|refine jn (BR Kw) zS rfl zS zS ?_|refine jn (BS kf) zS rfl zS zS ?_);refine dq hQ ?_)|fail
  exact eR (Gy.k2 results96 b4)
@[simp] theorem ayJ (a:Int) (K:fQ):bl prog G0 122 #[Value.agg #[.int .u64 (wi (a) 0),.int .u64 (wi (a) 1),.int .u64 (wi (a) 2),.int .u64 (wi (a) 3)],.agg #[.int .u64 0,.int .u64 0,.int .u64 0,.int .u64 0]] K↔K (.tuple #[wd 0,.int .i64 30]):=by
 have:=asT a 0 rfl K;simpa [ct] using this
theorem afB {g m w q:Int} (h:EIn g m w q) (hq:q=0):Ret prog G0 96 #[.int .i64 g,.int .i64 m,.int .i64 w,.int .i64 q] (.tuple #[.int .i64 0,.int .i64 0,.int .i64 30]):=by
 refine aU G0F func96 rfl call96 zS zS (by simp [ntmps96]) ?_;intro C hC bA hY;subst hq;have k1:=h.gm;have k2:=h.gmw;have Kw:(1<=g/\g<=1048576):=⟨h.g0,h.g1⟩
 have kf:(1<=m/\m<=1024)/\(1<=w/\w<=1024):=⟨⟨h.m0,h.m1⟩,h.w0,h.w1⟩
 have Vy:¬(0:Int)<0:=zO;have om:¬(13194139533312:Int)<0:=zO;have i0:i64 0:=zD;have z0:(0:Int)=0:=rfl;have b1:Int.bmod (g*m) 18446744073709551616=g*m:=bm zO zO;have b2:Int.bmod (g*m*w) 18446744073709551616=g*m*w:=bm zO zO;have b3:Int.bmod (g*m*w*1048576) 18446744073709551616=g*m*w*1048576:=bm zO zO;have iA:i64 (g*m*w*1048576):=⟨zO,zO⟩
 have s1:=gB (jl iA);have k4:=h.aa;have Rf:wr (g*m*w*1048576*(g*m*w*1048576)):=⟨cC zD k4.1,fJ k4.2 zD⟩
 have s2:=gB Rf
 repeat' first|refine cT ?_|((first|refine gwR [121] ?_|refine gwD [121] ?_);intro Q hQ _;(repeat first|simp [hC,hY,Vy,om,b1,b2,b3,i0,z0,iA,s1,s2]|refine jn (BR Kw) zS rfl zS zS ?_|refine jn (BS kf) zS rfl zS zS ?_);refine dq hQ ?_)|fail
 refine qu 0 (λm s=>s=⟨tsL [(10,.int .i64 30)],hpL G0 [],1000,0⟩) rfl ?_ ?_
 ·rintro m _ rfl;refine iI ?_;exact eR results96
 ·intro _
  repeat' first|refine cT ?_|((first|refine gwR [121] ?_|refine gwD [121] ?_);intro Q hQ _;(repeat first|simp [hC,hY,Vy,om,b1,b2,b3,i0,z0,iA,s1,s2]|refine jn (BR Kw) zS rfl zS zS ?_|refine jn (BS kf) zS rfl zS zS ?_);refine dq hQ ?_)|fail
  refine ⟨rfl,_,0,cB _ 1000 hC G0F (m0:=[]) bA zO ?_ ?_ ?_,rfl⟩
  ·exact lO
  ·simp [aM,aI,aP,dom]
  ·simp
theorem aau {g m w q a b:Int} (h:EIn g m w q) (hq:0<q) (e1:lu g m w q=a) (e2:uE g m w q=b) (K:fQ):bl prog G0 96 #[.int .i64 g,.int .i64 m,.int .i64 w,.int .i64 q] K↔K (.tuple #[.int .i64 a,.int .i64 b,.int .i64 0]):=by
 subst e1 e2;exact ar G0W ah (aav h hq)
end Go.Gy
