/-
  Lemmas of this claim, in their order (GyEN, GyEO, GyES, GyLI, GyJM, GyJN, GyJA, GyJB, GyJC, GyRS, GyRT, GyJD, GyJE, GyJF, GyEG, GyJG, GyPE, GyJO, GyJH, GyJI, GyJK, GyET, GyPC, GyEA, GyEB, GyEC).
  Conditions: those of each theorem.
-/
import Derived.Test.YtamodcpmplmaoaaGreatDoorGz06
import Derived.RangeFuncNested
set_option linter.unusedSimpArgs false
set_option linter.unusedVariables false
set_option maxRecDepth 20000
set_option maxHeartbeats 16000000
namespace Go.Gy
open Go Go.RowKit Go.Proofs Go.Proofs.Tryz
def zfp (f:Nat->Int) (i j:Nat):Int:=f2V (f (6*i)) (f (6*i+1)) (f (6*i+2)) (f (6*j)) (f (6*j+1)) (f (6*j+2))
def epV (fm fs:Nat->Int) (i j:Nat):Array Value:=#[.agg #[.int .i64 (fm i),.int .i64 (fm j),.int .i64 (zfp fs i j)]]
def z2y (fm fs:Nat->Int):Nat->List (Array Value)
 | 2=>[epV fm fs 1 0]
 | 3=>[epV fm fs 1 0,epV fm fs 2 0,epV fm fs 2 1]
 | 4=>[epV fm fs 1 0,epV fm fs 2 0,epV fm fs 2 1,epV fm fs 3 0,epV fm fs 3 1,epV fm fs 3 2]
 | _=>[]
def enM (L:List (Nat×Blk)) (ks off n cap off2 n2 cap2:Nat) (g bx tp nr md st:Int):List (Nat×Blk):=(200,cfB (.slice (some ⟨100,off,none⟩) n cap) g bx tp nr md)::(208,zc0 st ks off2 n2 cap2)::L
theorem zi4 {L:List (Nat×Blk)} {ks:Nat} {bm bs:Blk} (hT:LTwo G0 L ks bm bs) (off n cap off2 n2 cap2:Nat) (g bx tp nr md st:Int):LOk (enM L ks off n cap off2 n2 cap2 g bx tp nr md st) 300:=by
 have hL:=hT.ok
 refine ⟨?_,?_,?_⟩
 ·intro p hp
  rcases List.mem_cons.1 hp with rfl|hp
  ·simp
  ·rcases List.mem_cons.1 hp with rfl|hp
   ·simp
   ·have:=hL.big p hp;omega
 ·have h2:∀ q,200<=q->q∉zaa L:=λq hq h=>by
   obtain ⟨p,hp,e⟩:=zag.1 h
   have:=hL.big p hp
   omega
  refine List.nodup_cons.2 ⟨λh=>?_,List.nodup_cons.2 ⟨h2 208 (by omega),hL.one⟩⟩
  rcases List.mem_cons.1 h with e|h
  ·exact absurd e (by simp)
  ·exact h2 200 (by omega) h
 ·have h1:100∈zaa (enM L ks off n cap off2 n2 cap2 g bx tp nr md st):=List.mem_cons_of_mem _ (List.mem_cons_of_mem _ hT.ia)
  have h2:ks∈zaa (enM L ks off n cap off2 n2 cap2 g bx tp nr md st):=List.mem_cons_of_mem _ (List.mem_cons_of_mem _ hT.ib)
  intro p hp
  rcases List.mem_cons.1 hp with rfl|hp
  ·simp [cfB,zad,zah,zaj,h1]
  ·rcases List.mem_cons.1 hp with rfl|hp
   ·simp [zc0,zad,zah,zaj,h2]
   ·exact Blk.fx_ids (hT.fx p hp) _
theorem zuy (L:List (Nat×Blk)) (ks:Nat) (bm bs:Blk) (hT:LTwo G0 L ks bm bs) (off cap off2 cap2:Nat) (fm fs:Nat->Int) (hm:MB bm off 1 fm) (hSb:SB bs off2 1 fs) (hcap:1<=cap2) (g bx tp nr md st:Int) :
  IterK prog G0 119 #[.pointer (some ⟨208,0,none⟩),.pointer (some ⟨200,0,none⟩)] (hpL G0 (enM L ks off 1 cap off2 1 cap2 g bx tp nr md st)) (zaa (enM L ks off 1 cap off2 1 cap2 g bx tp nr md st)) (z2y fm fs 1):=by
 have hL:=zi4 hT off 1 cap off2 1 cap2 g bx tp nr md st
 have hlt:∀ k,dom (hpL G0 (enM L ks off 1 cap off2 1 cap2 g bx tp nr md st)) k->k<300:=λk hk=>Classical.byContradiction λh1=>hk (hL.free G0F (by omega) k (by omega))
 refine zdm (B:=300) (v:=.tuple #[]) G0F func119 rfl call119 hL ?_ (by simp [ntmps119]) (by omega) ?_
 ·simp [zap,zax,zah,zaj,enM,zaa]
 intro C l stop hC hC0 hY
 have hA:=hT.a
 have hS:=hT.s
 have hne:=hT.ne
 have hks:=hT.k1
 have exs:z2y fm fs 1=[]:=rfl
 rw [exs] at hY |-
 have b0:=zew hSb 0 (by omega) (off2) (by omega)
 simp only [Nat.reduceMul,Nat.reduceAdd,Nat.mul_zero,Nat.zero_add] at b0
 have w0:=zex hm 0 (by omega) (off) (by omega)
 unfold enM cfB zc0
 repeat' first|refine zal ?_|refine zat ?_|refine gwZ ?_|(refine gwX ?_;intro Q hQ hP;simp [hC,hY,hA,hS,hne,b0,w0];(first|refine hQ _ _ _ _ (by rcases hT.k8 with h8|h8<;>subst h8<;>kernel_rfl) ?_|refine hP _ _ (by rcases hT.k8 with h8|h8<;>subst h8<;>kernel_rfl) λ_=>?_))|fail
 refine ⟨?_,?_,?_,λk hk=>?_⟩
 ·simp
 ·simp [results119]
 ·first|trivial|omega|(simp;done)|(simp;omega)
 ·have hk:=hlt k hk
  first|rfl|(simp (disch:=omega) only [zab]<;>rfl)
theorem zuz (L:List (Nat×Blk)) (ks:Nat) (bm bs:Blk) (hT:LTwo G0 L ks bm bs) (off cap off2 cap2:Nat) (fm fs:Nat->Int) (hm:MB bm off 2 fm) (hSb:SB bs off2 2 fs) (hcap:2<=cap2) (g bx tp nr md st:Int) :
  IterK prog G0 119 #[.pointer (some ⟨208,0,none⟩),.pointer (some ⟨200,0,none⟩)] (hpL G0 (enM L ks off 2 cap off2 2 cap2 g bx tp nr md st)) (zaa (enM L ks off 2 cap off2 2 cap2 g bx tp nr md st)) (z2y fm fs 2):=by
 have hL:=zi4 hT off 2 cap off2 2 cap2 g bx tp nr md st
 have hlt:∀ k,dom (hpL G0 (enM L ks off 2 cap off2 2 cap2 g bx tp nr md st)) k->k<300:=λk hk=>Classical.byContradiction λh1=>hk (hL.free G0F (by omega) k (by omega))
 refine zdm (B:=300) (v:=.tuple #[]) G0F func119 rfl call119 hL ?_ (by simp [ntmps119]) (by omega) ?_
 ·simp [zap,zax,zah,zaj,enM,zaa]
 intro C l stop hC hC0 hY
 have hA:=hT.a
 have hS:=hT.s
 have hne:=hT.ne
 have hks:=hT.k1
 have exs:z2y fm fs 2=[#[.agg #[.int .i64 (fm 1),.int .i64 (fm 0),.int .i64 (f2V (fs 6) (fs 7) (fs 8) (fs 0) (fs 1) (fs 2))]]]:=rfl
 rw [exs] at hY |-
 have k1:1<=cap2:=by omega
 have j1:(1:Int)<=(cap2:Int):=by omega
 have b0:=zew hSb 0 (by omega) (off2) (by omega)
 simp only [Nat.reduceMul,Nat.reduceAdd,Nat.mul_zero,Nat.zero_add] at b0
 have w0:=zex hm 0 (by omega) (off) (by omega)
 have b1:=zew hSb 1 (by omega) (off2+6) (by omega)
 simp only [Nat.reduceMul,Nat.reduceAdd,Nat.mul_zero,Nat.zero_add] at b1
 have w1:=zex hm 1 (by omega) (off+1) (by omega)
 unfold enM cfB zc0
 by_cases hst:1<=stop
 ·have q0:(0 != stop)=true:=by simp;omega
  repeat' first|refine zal ?_|refine zat ?_|refine gwZ ?_|(refine gwX ?_;intro Q hQ hP;simp [hC,hY,hA,hS,hne,k1,j1,b0,w0,b1,w1,q0,hst];(first|refine hQ _ _ _ _ (by rcases hT.k8 with h8|h8<;>subst h8<;>kernel_rfl) ?_|refine hP _ _ (by rcases hT.k8 with h8|h8<;>subst h8<;>kernel_rfl) λ_=>?_))|fail
  refine ⟨?_,?_,?_,λk hk=>?_⟩
  ·simp
  ·simp [results119]
  ·first|trivial|omega|(simp;done)|(simp;omega)
  ·have hk:=hlt k hk
   first|rfl|(simp (disch:=omega) only [zab]<;>rfl)
 ·have:stop=0:=by omega
  rcases this with rfl
  all_goals
   repeat' first|refine zal ?_|refine zat ?_|refine gwZ ?_|(refine gwX ?_;intro Q hQ hP;simp [hC,hY,hA,hS,hne,k1,j1,b0,w0,b1,w1];(first|refine hQ _ _ _ _ (by rcases hT.k8 with h8|h8<;>subst h8<;>kernel_rfl) ?_|refine hP _ _ (by rcases hT.k8 with h8|h8<;>subst h8<;>kernel_rfl) λ_=>?_))|fail
  all_goals
   refine ⟨?_,?_,?_,λk hk=>?_⟩
   ·simp
   ·simp [results119]
   ·first|trivial|omega|(simp;done)|(simp;omega)
   ·have hk:=hlt k hk
    first|rfl|(simp (disch:=omega) only [zab]<;>rfl)
theorem zu0 (L:List (Nat×Blk)) (ks:Nat) (bm bs:Blk) (hT:LTwo G0 L ks bm bs) (off cap off2 cap2:Nat) (fm fs:Nat->Int) (hm:MB bm off 3 fm) (hSb:SB bs off2 3 fs) (hcap:3<=cap2) (g bx tp nr md st:Int) :
  IterK prog G0 119 #[.pointer (some ⟨208,0,none⟩),.pointer (some ⟨200,0,none⟩)] (hpL G0 (enM L ks off 3 cap off2 3 cap2 g bx tp nr md st)) (zaa (enM L ks off 3 cap off2 3 cap2 g bx tp nr md st)) (z2y fm fs 3):=by
 have hL:=zi4 hT off 3 cap off2 3 cap2 g bx tp nr md st
 have hlt:∀ k,dom (hpL G0 (enM L ks off 3 cap off2 3 cap2 g bx tp nr md st)) k->k<300:=λk hk=>Classical.byContradiction λh1=>hk (hL.free G0F (by omega) k (by omega))
 refine zdm (B:=300) (v:=.tuple #[]) G0F func119 rfl call119 hL ?_ (by simp [ntmps119]) (by omega) ?_
 ·simp [zap,zax,zah,zaj,enM,zaa]
 intro C l stop hC hC0 hY
 have hA:=hT.a
 have hS:=hT.s
 have hne:=hT.ne
 have hks:=hT.k1
 have exs:z2y fm fs 3=[#[.agg #[.int .i64 (fm 1),.int .i64 (fm 0),.int .i64 (f2V (fs 6) (fs 7) (fs 8) (fs 0) (fs 1) (fs 2))]],#[.agg #[.int .i64 (fm 2),.int .i64 (fm 0),.int .i64 (f2V (fs 12) (fs 13) (fs 14) (fs 0) (fs 1) (fs 2))]],#[.agg #[.int .i64 (fm 2),.int .i64 (fm 1),.int .i64 (f2V (fs 12) (fs 13) (fs 14) (fs 6) (fs 7) (fs 8))]]]:=rfl
 rw [exs] at hY |-
 have k1:1<=cap2:=by omega
 have j1:(1:Int)<=(cap2:Int):=by omega
 have k2:2<=cap2:=by omega
 have j2:(2:Int)<=(cap2:Int):=by omega
 have b0:=zew hSb 0 (by omega) (off2) (by omega)
 simp only [Nat.reduceMul,Nat.reduceAdd,Nat.mul_zero,Nat.zero_add] at b0
 have w0:=zex hm 0 (by omega) (off) (by omega)
 have b1:=zew hSb 1 (by omega) (off2+6) (by omega)
 simp only [Nat.reduceMul,Nat.reduceAdd,Nat.mul_zero,Nat.zero_add] at b1
 have w1:=zex hm 1 (by omega) (off+1) (by omega)
 have b2:=zew hSb 2 (by omega) (off2+12) (by omega)
 simp only [Nat.reduceMul,Nat.reduceAdd,Nat.mul_zero,Nat.zero_add] at b2
 have w2:=zex hm 2 (by omega) (off+2) (by omega)
 unfold enM cfB zc0
 by_cases hst:3<=stop
 ·have q0:(0 != stop)=true:=by simp;omega
  have q1:(1 != stop)=true:=by simp;omega
  have l1:1<=stop:=by omega
  have q2:(2 != stop)=true:=by simp;omega
  have l2:2<=stop:=by omega
  repeat' first|refine zal ?_|refine zat ?_|refine gwZ ?_|(refine gwX ?_;intro Q hQ hP;simp [hC,hY,hA,hS,hne,k1,j1,k2,j2,b0,w0,b1,w1,b2,w2,q0,q1,l1,q2,l2,hst];(first|refine hQ _ _ _ _ (by rcases hT.k8 with h8|h8<;>subst h8<;>kernel_rfl) ?_|refine hP _ _ (by rcases hT.k8 with h8|h8<;>subst h8<;>kernel_rfl) λ_=>?_))|fail
  refine ⟨?_,?_,?_,λk hk=>?_⟩
  ·simp
  ·simp [results119]
  ·first|trivial|omega|(simp;done)|(simp;omega)
  ·have hk:=hlt k hk
   first|rfl|(simp (disch:=omega) only [zab]<;>rfl)
 ·have:stop=0\/stop=1\/stop=2:=by omega
  rcases this with rfl|rfl|rfl
  all_goals
   repeat' first|refine zal ?_|refine zat ?_|refine gwZ ?_|(refine gwX ?_;intro Q hQ hP;simp [hC,hY,hA,hS,hne,k1,j1,k2,j2,b0,w0,b1,w1,b2,w2];(first|refine hQ _ _ _ _ (by rcases hT.k8 with h8|h8<;>subst h8<;>kernel_rfl) ?_|refine hP _ _ (by rcases hT.k8 with h8|h8<;>subst h8<;>kernel_rfl) λ_=>?_))|fail
  all_goals
   refine ⟨?_,?_,?_,λk hk=>?_⟩
   ·simp
   ·simp [results119]
   ·first|trivial|omega|(simp;done)|(simp;omega)
   ·have hk:=hlt k hk
    first|rfl|(simp (disch:=omega) only [zab]<;>rfl)
theorem zu1 (L:List (Nat×Blk)) (ks:Nat) (bm bs:Blk) (hT:LTwo G0 L ks bm bs) (off cap off2 cap2:Nat) (fm fs:Nat->Int) (hm:MB bm off 4 fm) (hSb:SB bs off2 4 fs) (hcap:4<=cap2) (g bx tp nr md st:Int) :
  IterK prog G0 119 #[.pointer (some ⟨208,0,none⟩),.pointer (some ⟨200,0,none⟩)] (hpL G0 (enM L ks off 4 cap off2 4 cap2 g bx tp nr md st)) (zaa (enM L ks off 4 cap off2 4 cap2 g bx tp nr md st)) (z2y fm fs 4):=by
 have hL:=zi4 hT off 4 cap off2 4 cap2 g bx tp nr md st
 have hlt:∀ k,dom (hpL G0 (enM L ks off 4 cap off2 4 cap2 g bx tp nr md st)) k->k<300:=λk hk=>Classical.byContradiction λh1=>hk (hL.free G0F (by omega) k (by omega))
 refine zdm (B:=300) (v:=.tuple #[]) G0F func119 rfl call119 hL ?_ (by simp [ntmps119]) (by omega) ?_
 ·simp [zap,zax,zah,zaj,enM,zaa]
 intro C l stop hC hC0 hY
 have hA:=hT.a
 have hS:=hT.s
 have hne:=hT.ne
 have hks:=hT.k1
 have exs:z2y fm fs 4=[#[.agg #[.int .i64 (fm 1),.int .i64 (fm 0),.int .i64 (f2V (fs 6) (fs 7) (fs 8) (fs 0) (fs 1) (fs 2))]],#[.agg #[.int .i64 (fm 2),.int .i64 (fm 0),.int .i64 (f2V (fs 12) (fs 13) (fs 14) (fs 0) (fs 1) (fs 2))]],#[.agg #[.int .i64 (fm 2),.int .i64 (fm 1),.int .i64 (f2V (fs 12) (fs 13) (fs 14) (fs 6) (fs 7) (fs 8))]],#[.agg #[.int .i64 (fm 3),.int .i64 (fm 0),.int .i64 (f2V (fs 18) (fs 19) (fs 20) (fs 0) (fs 1) (fs 2))]],#[.agg #[.int .i64 (fm 3),.int .i64 (fm 1),.int .i64 (f2V (fs 18) (fs 19) (fs 20) (fs 6) (fs 7) (fs 8))]],#[.agg #[.int .i64 (fm 3),.int .i64 (fm 2),.int .i64 (f2V (fs 18) (fs 19) (fs 20) (fs 12) (fs 13) (fs 14))]]]:=rfl
 rw [exs] at hY |-
 have k1:1<=cap2:=by omega
 have j1:(1:Int)<=(cap2:Int):=by omega
 have k2:2<=cap2:=by omega
 have j2:(2:Int)<=(cap2:Int):=by omega
 have k3:3<=cap2:=by omega
 have j3:(3:Int)<=(cap2:Int):=by omega
 have b0:=zew hSb 0 (by omega) (off2) (by omega)
 simp only [Nat.reduceMul,Nat.reduceAdd,Nat.mul_zero,Nat.zero_add] at b0
 have w0:=zex hm 0 (by omega) (off) (by omega)
 have b1:=zew hSb 1 (by omega) (off2+6) (by omega)
 simp only [Nat.reduceMul,Nat.reduceAdd,Nat.mul_zero,Nat.zero_add] at b1
 have w1:=zex hm 1 (by omega) (off+1) (by omega)
 have b2:=zew hSb 2 (by omega) (off2+12) (by omega)
 simp only [Nat.reduceMul,Nat.reduceAdd,Nat.mul_zero,Nat.zero_add] at b2
 have w2:=zex hm 2 (by omega) (off+2) (by omega)
 have b3:=zew hSb 3 (by omega) (off2+18) (by omega)
 simp only [Nat.reduceMul,Nat.reduceAdd,Nat.mul_zero,Nat.zero_add] at b3
 have w3:=zex hm 3 (by omega) (off+3) (by omega)
 unfold enM cfB zc0
 by_cases hst:6<=stop
 ·have q0:(0 != stop)=true:=by simp;omega
  have q1:(1 != stop)=true:=by simp;omega
  have l1:1<=stop:=by omega
  have q2:(2 != stop)=true:=by simp;omega
  have l2:2<=stop:=by omega
  have q3:(3 != stop)=true:=by simp;omega
  have l3:3<=stop:=by omega
  have q4:(4 != stop)=true:=by simp;omega
  have l4:4<=stop:=by omega
  have q5:(5 != stop)=true:=by simp;omega
  have l5:5<=stop:=by omega
  repeat' first|refine zal ?_|refine zat ?_|refine gwZ ?_|(refine gwX ?_;intro Q hQ hP;simp [hC,hY,hA,hS,hne,k1,j1,k2,j2,k3,j3,b0,w0,b1,w1,b2,w2,b3,w3,q0,q1,l1,q2,l2,q3,l3,q4,l4,q5,l5,hst];(first|refine hQ _ _ _ _ (by rcases hT.k8 with h8|h8<;>subst h8<;>kernel_rfl) ?_|refine hP _ _ (by rcases hT.k8 with h8|h8<;>subst h8<;>kernel_rfl) λ_=>?_))|fail
  refine ⟨?_,?_,?_,λk hk=>?_⟩
  ·simp
  ·simp [results119]
  ·first|trivial|omega|(simp;done)|(simp;omega)
  ·have hk:=hlt k hk
   first|rfl|(simp (disch:=omega) only [zab]<;>rfl)
 ·have:stop=0\/stop=1\/stop=2\/stop=3\/stop=4\/stop=5:=by omega
  rcases this with rfl|rfl|rfl|rfl|rfl|rfl
  all_goals
   repeat' first|refine zal ?_|refine zat ?_|refine gwZ ?_|(refine gwX ?_;intro Q hQ hP;simp [hC,hY,hA,hS,hne,k1,j1,k2,j2,k3,j3,b0,w0,b1,w1,b2,w2,b3,w3];(first|refine hQ _ _ _ _ (by rcases hT.k8 with h8|h8<;>subst h8<;>kernel_rfl) ?_|refine hP _ _ (by rcases hT.k8 with h8|h8<;>subst h8<;>kernel_rfl) λ_=>?_))|fail
  all_goals
   refine ⟨?_,?_,?_,λk hk=>?_⟩
   ·simp
   ·simp [results119]
   ·first|trivial|omega|(simp;done)|(simp;omega)
   ·have hk:=hlt k hk
    first|rfl|(simp (disch:=omega) only [zab]<;>rfl)
def zib (nk ks off n cap off2 n2 cap2:Nat) (g bx tp nr md st:Int) (v:Value) (ns:List (Nat×Blk)):Prop :=
 v=.func (.func 119) #[] #[.pointer (some ⟨nk+1,0,none⟩),.pointer (some ⟨nk,0,none⟩)]/\ns=[(nk,cfB (.slice (some ⟨100,off,none⟩) n cap) g bx tp nr md),(nk+1,zc0 st ks off2 n2 cap2)]
theorem zhc {nk ks off n cap off2 n2 cap2:Nat} {g bx tp nr md st:Int} {v:Value} {ns:List (Nat×Blk)} (h:zib nk ks off n cap off2 n2 cap2 g bx tp nr md st v ns):∀ k∈zaa ns,nk<=k/\k<nk+2:=by
 obtain ⟨rfl,rfl⟩:=h
 intro k hk
 simp [zaa] at hk
 omega
theorem z21 (L:List (Nat×Blk)) (ks:Nat) (bm bs:Blk) (hT:LTwo G0 L ks bm bs) (off n cap off2 n2 cap2:Nat) (g bx tp nr md st:Int) :
  FunS prog G0 95 #[cfV (.slice (some ⟨100,off,none⟩) n cap) g bx tp nr md,.agg #[.int .i64 st,.slice (some ⟨ks,off2,none⟩) n2 cap2]] (hpL G0 L) (zaa L) (zib 1000 ks off n cap off2 n2 cap2 g bx tp nr md st):=by
 refine zet (B:=200) G0F func95 rfl call95 hT.ok ?_ ?_ (by simp [ntmps95]) (by omega) ?_
 ·simp [zap,zax,zah,zaj,hT.ia,hT.ib,cfV]
 ·rintro v ns ⟨rfl,rfl⟩
  have ha:zc7 (λk=>k∈zaa L) [(1000,cfB (.slice (some ⟨100,off,none⟩) n cap) g bx tp nr md),(1000+1,zc0 st ks off2 n2 cap2)] 100:=.inl hT.ia
  have hb:zc7 (λk=>k∈zaa L) [(1000,cfB (.slice (some ⟨100,off,none⟩) n cap) g bx tp nr md),(1000+1,zc0 st ks off2 n2 cap2)] ks:=.inl hT.ib
  refine ⟨by simp [zap,zax,zah,zaj,zc7,zaa],?_,?_⟩
  ·intro p hp
   simp only [List.mem_cons,List.not_mem_nil,or_false] at hp
   rcases hp with rfl|rfl
   ·exact ⟨by omega,by simp [cfB,zad,zah,zaj];exact ha⟩
   ·exact ⟨by omega,by simp [zc0,zad,zah,zaj];exact hb⟩
  ·intro k b c h1 h2
   simp at h1 h2
   rcases h1 with ⟨e1,rfl⟩|⟨e1,rfl⟩<;>rcases h2 with ⟨e2,rfl⟩|⟨e2,rfl⟩<;>first|rfl|omega
 intro C hC hC0 hY
 have hA:=hT.a
 have hS:=hT.s
 have hne:=hT.ne
 have hLow:=hT.low
 have hks:=hT.k1
 have hks2:=hT.k2
 unfold cfV
 repeat' first|refine gwZ ?_|(refine gwX ?_;intro Q hQ _;simp [hC,hY,hA,hS,hne];refine gwq hQ ?_)|fail
 refine ⟨.inr trivial,kpT G0F,_,_,λk=>if k=1000 then 200 else if k=1001 then 208 else k,⟨rfl,rfl⟩,λk hk=>?_,by simp,by simp,by simp [results95,ren,zay,zak,zan],?_⟩
 ·dsimp only
  rw [if_neg (by omega),if_neg (by omega)]
 ·have h1:¬ks=1000:=by omega
  have h2:¬ks=1001:=by omega
  simp [cfB,zc0,Blk.rn,zak,zan,h1,h2]
theorem zxt (t a:Int):Fun prog G0 68 #[wd a,.pointer (some ⟨100,0,none⟩)] (hpL G0 [(100,wb t)]) (zaa [(100,wb t)]) (.ret (wd (t - a)) []):=by
 refine zar (B:=200) G0F func68 rfl call68 ⟨by simp,by simp [zaa],by simp [wb,zad,zah,zaj]⟩ ?_ (zai (by simp)) (by simp) (by simp) (by simp [ntmps68]) (by omega) ?_
 ·intro x hx
  simp only [List.mem_toArray,List.mem_cons,List.not_mem_nil,or_false] at hx
  rcases hx with rfl|rfl
  ·exact zai (by simp)
  ·simp [zap,zax,zah,zaj,zaa]
 intro C hC hC0 hY
 repeat' first|refine gwZ ?_|(refine gwX ?_;intro Q hQ _;simp [hC,hY,wb];refine gwq hQ ?_)|fail
 refine ⟨.inr rfl,by simp [results68],zb4 G0F (by simp [wb]) (by (intro k hk;first|rfl|(simp (disch:=omega) only [zb3,List.mem_cons,List.not_mem_nil,or_false,zab,zaq,zaw,if_neg,zbi]<;>done)))⟩
theorem zux {nk nk' ks off n cap off2 n2 cap2:Nat} {g bx tp nr md st:Int} {ρ:Nat->Nat} (h100:ρ 100=100) (hk:ρ ks=ks) (h0:ρ nk=nk') (h1:ρ (nk+1)=nk'+1) :
  RR ρ (zib nk ks off n cap off2 n2 cap2 g bx tp nr md st)=zib nk' ks off n cap off2 n2 cap2 g bx tp nr md st:=by
 funext v ns
 apply propext
 constructor
 ·rintro ⟨v0,ns0,⟨rfl,rfl⟩,rfl,rfl⟩
  exact ⟨by simp [ren,zay,zak,zan,h0,h1],by simp [rnL,cfB,zc0,Blk.rn,zak,zan,h100,hk,h0,h1]⟩
 ·rintro ⟨rfl,rfl⟩
  exact ⟨_,_,⟨rfl,rfl⟩,by simp [ren,zay,zak,zan,h0,h1],by simp [rnL,cfB,zc0,Blk.rn,zak,zan,h100,hk,h0,h1]⟩
theorem zop (nk:Nat) (hnk:200<=nk) (L:List (Nat×Blk)) (ks:Nat) (bm bs:Blk) (hT:LTwo G0 L ks bm bs) (off n cap off2 n2 cap2:Nat) (g bx tp nr md st:Int) :
  FunS prog G0 95 #[cfV (.slice (some ⟨100,off,none⟩) n cap) g bx tp nr md,.agg #[.int .i64 st,.slice (some ⟨ks,off2,none⟩) n2 cap2]] (hpL G0 L) (zaa L) (zib nk ks off n cap off2 n2 cap2 g bx tp nr md st):=by
 have e2:∀ j,j<2->up2 nk (1000+j)=nk+j:=λj hj=>by unfold up2;rw [if_pos (by omega),if_pos (by omega)];omega
 have hlow:∀ k,k<1000->up2 nk k=k:=λk hk=>by unfold up2;rw [if_neg (by omega)]
 have hk2:=hT.k2
 have hid:∀ k∈zaa L,up2 nk k=k:=λk hk=>by
  obtain ⟨p,hp,rfl⟩:=zag.1 hk
  have:=hT.ok.big p hp
  exact hlow _ (by omega)
 have hkk:∀ v ns,zib 1000 ks off n cap off2 n2 cap2 g bx tp nr md st v ns->∀ k∈zaa ns,∃ j,j<2/\k=1000+j:=by
  intro v ns hV k hk
  have:=zhc hV k hk
  exact ⟨k - 1000,by omega,by omega⟩
 refine (z21 L ks bm bs hT off n cap off2 n2 cap2 g bx tp nr md st).mvL (hp':=hpL G0 L) (rs':=zaa L) G0F hT.ok (up2 nk) (λk hk=>hlow k (by omega)) ?_ ?_ (zux (hlow _ (by omega)) (hlow _ (by omega)) (e2 0 (by omega)) (e2 1 (by omega))) hT.ok.low ?_ ?_ (λv ns hV k hk=>?_) (λv ns hV k hk l hl e=>?_)
 ·simp [cfV,ren,zay,zak,zan,hlow 100 (by omega),hlow ks (by omega)]
 ·rw [List.map_congr_left hid];simp
 ·intro p hp
  have hb:=hT.ok.big p hp
  rw [hlow p.1 (by omega),Blk.fx_rn (hT.fx p hp)]
  exact ⟨hb.1,hT.mem p hp⟩
 ·intro k hk l hl e
  rw [hid k hk,hid l hl] at e
  exact e
 ·obtain ⟨j,hj,rfl⟩:=hkk v ns hV k hk
  rw [e2 j hj]
  refine ⟨by omega,λh=>?_⟩
  obtain ⟨p,hp,e⟩:=zag.1 h
  have:=hT.ok.big p hp
  omega
 ·obtain ⟨j,hj,rfl⟩:=hkk v ns hV k hk
  obtain ⟨i,hi,rfl⟩:=hkk v ns hV l hl
  rw [e2 j hj,e2 i hi] at e
  omega
end Go.Gy
namespace Go.Gy
open Go Go.RowKit
section
variable {P:Program} {C:Ctx} {n:Nat} {d:List Deferred} {ro:Option Nat} {s:GS} {K:Exit->GS->Prop}
theorem GI.freeze {r:Nat->Nat} {a:Act} {W:World} {k t:Nat} {cs:Array Value} (hk:s.hp k=some ⟨cs,.ty t⟩) (h100:100<=k) (h:GI P C n d r s a W):GI P C n d r ⟨s.ts,upd s.hp k (some ⟨cs.map (zak r),.raw t (0,0)⟩),s.B,s.yc⟩ a W:=by
 have hD:dom (upd s.hp k (some ⟨cs.map (zak r),.raw t (0,0)⟩))=dom s.hp:=by
  funext q
  unfold dom
  by_cases e:q=k
  ·subst e
   rw [za9,hk]
   simp
  ·rw [zab _ _ e]
 have hkB:¬s.B<=k:=λhb=>by have:=h.free k hb;rw [hk] at this;cases this
 refine ⟨⟨h.ri.size,?_,λq b hq=>?_,?_,?_,λi hi=>?_,λq hq=>?_,λq hq hd=>?_⟩,λx hx=>?_,h.low,h.flat,h.rounds⟩
 ·show Rel r (dom (upd s.hp k _)) s.ts a
  rw [hD]
  exact h.ri.rel
 ·show W.heap[r q]? = some (b.obj r)/\b.ids (dom (upd s.hp k _))
  rw [hD]
  by_cases e:q=k
  ·subst e
   have hq':some (Blk.mk (cs.map (zak r)) (.raw t (0,0)))=some b:=(za9 _ _ _).symm.trans hq
   cases hq'
   exact ⟨(h.ri.sat q _ hk).1,trivial⟩
  ·have hq':s.hp q=some b:=(zab _ _ e).symm.trans hq
   exact h.ri.sat q b hq'
 ·show Inj r (dom (upd s.hp k _))
  rw [hD]
  exact h.ri.inj
 ·obtain ⟨S,ms,h1,h2,h3,h4⟩:=h.ri.ext
  refine ⟨S,ms,h1,h2,λi hi=>?_,h4⟩
  have hi':dom (upd s.hp k (some ⟨cs.map (zak r),.raw t (0,0)⟩)) i:=hi
  rw [hD] at hi'
  exact h3 i hi'
 ·show dom (upd s.hp k _) i/\_
  rw [hD]
  exact h.ri.keep i hi
 ·show upd s.hp k _ q=_
  rw [zab _ _ (by omega)]
  exact h.ri.glob q hq
 ·have hd':dom (upd s.hp k (some ⟨cs.map (zak r),.raw t (0,0)⟩)) q:=hd
  rw [hD] at hd'
  exact h.ri.low q hq hd'
 ·show upd s.hp k _ x=none
  have hx':s.B<=x:=hx
  rw [zab _ _ (by omega)]
  exact h.free x hx'
theorem zn4 {c:Code} (k:Nat) {t:Nat} {cs:Array Value} (hk:s.hp k=some ⟨cs,.ty t⟩) (h100:100<=k) (h:∀ cs':Array Value,cs'.size=cs.size->(∀ (j:Nat) (v:Value),cs[j]? = some v->zbf v=true->cs'[j]? = some v)->GW P C n d ro c ⟨s.ts,upd s.hp k (some ⟨cs',.raw t (0,0)⟩),s.B,s.yc⟩ K):GW P C n d ro c s K:=λr a W hi =>
 h (cs.map (zak r)) (by simp) (λj v hj hf=>by simp [hj,zb9 hf]) r a W (hi.freeze hk h100)
end
end Go.Gy
namespace Go.Gy
open Go Go.RowKit Go.Proofs Go.Proofs.Tryz
def zua (nk ks off n cap off2 n2 cap2:Nat) (g bx tp nr md st:Int) (v:Value) (ns:List (Nat×Blk)):Prop :=
 v=.func (.func 130) #[] #[.pointer (some ⟨nk,0,none⟩),.pointer (some ⟨nk+1,0,none⟩)]/\ns=[(nk,cfB (.slice (some ⟨100,off,none⟩) n cap) g bx tp nr md),(nk+1,zc0 st ks off2 n2 cap2)]
theorem zph {nk ks off n cap off2 n2 cap2:Nat} {g bx tp nr md st:Int} {v:Value} {ns:List (Nat×Blk)} (h:zua nk ks off n cap off2 n2 cap2 g bx tp nr md st v ns):∀ k∈zaa ns,nk<=k/\k<nk+2:=by
 obtain ⟨rfl,rfl⟩:=h
 intro k hk
 simp [zaa] at hk
 omega
theorem zy3 (L:List (Nat×Blk)) (ks:Nat) (bm bs:Blk) (hT:LTwo G0 L ks bm bs) (off n cap off2 n2 cap2:Nat) (g bx tp nr md st:Int) :
  FunS prog G0 105 #[cfV (.slice (some ⟨100,off,none⟩) n cap) g bx tp nr md,.agg #[.int .i64 st,.slice (some ⟨ks,off2,none⟩) n2 cap2]] (hpL G0 L) (zaa L) (zua 1000 ks off n cap off2 n2 cap2 g bx tp nr md st):=by
 refine zet (B:=200) G0F func105 rfl call105 hT.ok ?_ ?_ (by simp [ntmps105]) (by omega) ?_
 ·simp [zap,zax,zah,zaj,hT.ia,hT.ib,cfV]
 ·rintro v ns ⟨rfl,rfl⟩
  have ha:zc7 (λk=>k∈zaa L) [(1000,cfB (.slice (some ⟨100,off,none⟩) n cap) g bx tp nr md),(1000+1,zc0 st ks off2 n2 cap2)] 100:=.inl hT.ia
  have hb:zc7 (λk=>k∈zaa L) [(1000,cfB (.slice (some ⟨100,off,none⟩) n cap) g bx tp nr md),(1000+1,zc0 st ks off2 n2 cap2)] ks:=.inl hT.ib
  refine ⟨by simp [zap,zax,zah,zaj,zc7,zaa],?_,?_⟩
  ·intro p hp
   simp only [List.mem_cons,List.not_mem_nil,or_false] at hp
   rcases hp with rfl|rfl
   ·exact ⟨by omega,by simp [cfB,zad,zah,zaj];exact ha⟩
   ·exact ⟨by omega,by simp [zc0,zad,zah,zaj];exact hb⟩
  ·intro k b c h1 h2
   simp at h1 h2
   rcases h1 with ⟨e1,rfl⟩|⟨e1,rfl⟩<;>rcases h2 with ⟨e2,rfl⟩|⟨e2,rfl⟩<;>first|rfl|omega
 intro C hC hC0 hY
 have hA:=hT.a
 have hS:=hT.s
 have hne:=hT.ne
 have hLow:=hT.low
 have hks:=hT.k1
 have hks2:=hT.k2
 unfold cfV
 repeat' first|refine gwZ ?_|(refine gwX ?_;intro Q hQ _;simp [hC,hY,hA,hS,hne];refine gwq hQ ?_)|fail
 refine ⟨.inr trivial,kpT G0F,_,_,λk=>if k=1000 then 200 else if k=1001 then 208 else k,⟨rfl,rfl⟩,λk hk=>?_,by simp,by simp,by simp [results105,ren,zay,zak,zan],?_⟩
 ·dsimp only
  rw [if_neg (by omega),if_neg (by omega)]
 ·have h1:¬ks=1000:=by omega
  have h2:¬ks=1001:=by omega
  simp [cfB,zc0,Blk.rn,zak,zan,h1,h2]
theorem z38 {nk nk' ks off n cap off2 n2 cap2:Nat} {g bx tp nr md st:Int} {ρ:Nat->Nat} (h100:ρ 100=100) (hk:ρ ks=ks) (h0:ρ nk=nk') (h1:ρ (nk+1)=nk'+1) :
  RR ρ (zua nk ks off n cap off2 n2 cap2 g bx tp nr md st)=zua nk' ks off n cap off2 n2 cap2 g bx tp nr md st:=by
 funext v ns
 apply propext
 constructor
 ·rintro ⟨v0,ns0,⟨rfl,rfl⟩,rfl,rfl⟩
  exact ⟨by simp [ren,zay,zak,zan,h0,h1],by simp [rnL,cfB,zc0,Blk.rn,zak,zan,h100,hk,h0,h1]⟩
 ·rintro ⟨rfl,rfl⟩
  exact ⟨_,_,⟨rfl,rfl⟩,by simp [ren,zay,zak,zan,h0,h1],by simp [rnL,cfB,zc0,Blk.rn,zak,zan,h100,hk,h0,h1]⟩
theorem zvp (nk:Nat) (hnk:200<=nk) (L:List (Nat×Blk)) (ks:Nat) (bm bs:Blk) (hT:LTwo G0 L ks bm bs) (off n cap off2 n2 cap2:Nat) (g bx tp nr md st:Int) :
  FunS prog G0 105 #[cfV (.slice (some ⟨100,off,none⟩) n cap) g bx tp nr md,.agg #[.int .i64 st,.slice (some ⟨ks,off2,none⟩) n2 cap2]] (hpL G0 L) (zaa L) (zua nk ks off n cap off2 n2 cap2 g bx tp nr md st):=by
 have e2:∀ j,j<2->up2 nk (1000+j)=nk+j:=λj hj=>by unfold up2;rw [if_pos (by omega),if_pos (by omega)];omega
 have hlow:∀ k,k<1000->up2 nk k=k:=λk hk=>by unfold up2;rw [if_neg (by omega)]
 have hk2:=hT.k2
 have hid:∀ k∈zaa L,up2 nk k=k:=λk hk=>by
  obtain ⟨p,hp,rfl⟩:=zag.1 hk
  have:=hT.ok.big p hp
  exact hlow _ (by omega)
 have hkk:∀ v ns,zua 1000 ks off n cap off2 n2 cap2 g bx tp nr md st v ns->∀ k∈zaa ns,∃ j,j<2/\k=1000+j:=by
  intro v ns hV k hk
  have:=zph hV k hk
  exact ⟨k - 1000,by omega,by omega⟩
 refine (zy3 L ks bm bs hT off n cap off2 n2 cap2 g bx tp nr md st).mvL (hp':=hpL G0 L) (rs':=zaa L) G0F hT.ok (up2 nk) (λk hk=>hlow k (by omega)) ?_ ?_ (z38 (hlow _ (by omega)) (hlow _ (by omega)) (e2 0 (by omega)) (e2 1 (by omega))) hT.ok.low ?_ ?_ (λv ns hV k hk=>?_) (λv ns hV k hk l hl e=>?_)
 ·simp [cfV,ren,zay,zak,zan,hlow 100 (by omega),hlow ks (by omega)]
 ·rw [List.map_congr_left hid];simp
 ·intro p hp
  have hb:=hT.ok.big p hp
  rw [hlow p.1 (by omega),Blk.fx_rn (hT.fx p hp)]
  exact ⟨hb.1,hT.mem p hp⟩
 ·intro k hk l hl e
  rw [hid k hk,hid l hl] at e
  exact e
 ·obtain ⟨j,hj,rfl⟩:=hkk v ns hV k hk
  rw [e2 j hj]
  refine ⟨by omega,λh=>?_⟩
  obtain ⟨p,hp,e⟩:=zag.1 h
  have:=hT.ok.big p hp
  omega
 ·obtain ⟨j,hj,rfl⟩:=hkk v ns hV k hk
  obtain ⟨i,hi,rfl⟩:=hkk v ns hV l hl
  rw [e2 j hj,e2 i hi] at e
  omega
def zql (fs:Nat->Int) (i:Nat):Value:=.agg #[.int .i64 (fs (6*i)),.int .i64 (fs (6*i+1)),.int .i64 (fs (6*i+2)),.int .i64 (fs (6*i+3)),.int .i64 (fs (6*i+4)),.int .i64 (fs (6*i+5))]
def jak (fm fs:Nat->Int) (n:Nat):List (Array Value):=(List.range n).map λi=>#[.int .i64 (fm i),zql fs i]
theorem zs8 (fm fs:Nat->Int) (n:Nat):(jak fm fs n).length=n:=by simp [jak]
theorem zrg (fm fs:Nat->Int) (n i:Nat) (h:i<n):(jak fm fs n)[i]? = some #[.int .i64 (fm i),zql fs i]:=by simp [jak,h]
def jkp (L:List (Nat×Blk)) (ks off n cap off2 n2 cap2:Nat) (g bx tp nr md st:Int) (l i:Nat):GS :=
 ⟨tsL [(0,.func (.yield l) #[] #[]),(1,.pointer (some ⟨200,0,none⟩)),(2,.pointer (some ⟨208,0,none⟩)),(7,.slice (some ⟨100,off,none⟩) n cap),(8,.int .i64 n),(9,.int .i64 i)],hpL G0 ([(200,cfB (.slice (some ⟨100,off,none⟩) n cap) g bx tp nr md),(208,zc0 st ks off2 n2 cap2)]++L),400,i⟩
theorem zvq (L:List (Nat×Blk)) (ks:Nat) (bm bs:Blk) (hT:LTwo G0 L ks bm bs) (off n cap off2 cap2:Nat) (fm fs:Nat->Int) (hm:MB bm off n fm) (hSb:SB bs off2 n fs) (g bx tp nr md st:Int) :
  IterK prog G0 130 #[.pointer (some ⟨200,0,none⟩),.pointer (some ⟨208,0,none⟩)] (hpL G0 (enM L ks off n cap off2 n cap2 g bx tp nr md st)) (zaa (enM L ks off n cap off2 n cap2 g bx tp nr md st)) (jak fm fs n):=by
 have hL:=zi4 hT off n cap off2 n cap2 g bx tp nr md st
 have hlt:∀ k,dom (hpL G0 (enM L ks off n cap off2 n cap2 g bx tp nr md st)) k->k<300:=λk hk=>Classical.byContradiction λh1=>hk (hL.free G0F (by omega) k (by omega))
 refine zdm (B:=300) (v:=.tuple #[]) G0F func130 rfl call130 hL ?_ (by simp [ntmps130]) (by omega) ?_
 ·simp [zap,zax,zah,zaj,enM,zaa]
 intro C l stop hC hC0 hY
 have hA:=hT.a
 have hS:=hT.s
 have hne:=hT.ne
 have hks:=hT.k1
 have hks2:=hT.k2
 have hnn:=hSb.nn
 have hfx:=hT.fx
 have hlen:=zs8 fm fs n
 have hd1:=zii (G:=G0) (m:=[(200,cfB (.slice (some ⟨100,off,none⟩) n cap) g bx tp nr md),(208,zc0 st ks off2 n cap2)]) hT.ia
 have hd2:=zii (G:=G0) (m:=[(200,cfB (.slice (some ⟨100,off,none⟩) n cap) g bx tp nr md),(208,zc0 st ks off2 n cap2)]) hT.ib
 unfold dom at hd1 hd2
 simp only [List.cons_append,List.nil_append] at hd1 hd2
 have hkp:∀ (s:GS) (B:Nat) (tl:List (Nat×Value)),400<=B->(∀ p∈tl,s.ts p.1=p.2/\zap (dom (hpL G0 ([(200,cfB (.slice (some ⟨100,off,none⟩) n cap) g bx tp nr md),(208,zc0 st ks off2 n cap2)]++L))) p.2)->(∀ k,k<300->s.hp k=hpL G0 (enM L ks off n cap off2 n cap2 g bx tp nr md st) k)->Weak C s ⟨tsL tl,hpL G0 ([(200,cfB (.slice (some ⟨100,off,none⟩) n cap) g bx tp nr md),(208,zc0 st ks off2 n cap2)]++L),B,s.yc⟩:=λs B tl hB hl hh=>by
  refine za3 tl B hC G0F (m0:=enM L ks off n cap off2 n cap2 g bx tp nr md st) hC0 (by omega) hl (λp hp=>?_) (λp hp=>?_)
  ·have hb:=hL.big p hp
   exact ⟨by rw [hh p.1 (by omega)];exact LOk.at hL.one p hp,by
    refine Blk.ids_mono ?_ (hL.ids p hp)
    intro k hk
    exact hL.sub k hk,hb.1,by omega⟩
  ·have hb:=hL.big p hp
   exact ⟨hb.1,(hh p.1 (by omega)).symm⟩
 unfold enM cfB zc0
 repeat' first|refine gwZ ?_|(refine gwX ?_;intro Q hQ hP;simp [hC,hY,hA,hS,hne];(first|refine hQ _ _ _ _ (by rcases hT.k8 with h8|h8<;>subst h8<;>kernel_rfl) ?_|refine hP _ _ (by rcases hT.k8 with h8|h8<;>subst h8<;>kernel_rfl) λ_=>?_))|fail
 refine zbt (min stop n) (jkp L ks off n cap off2 n cap2 g bx tp nr md st l) ?_ ?_ ?_
 ·refine hkp _ 400 _ (by omega) ?_ ?_
  ·simp [zap,zax,zah,zaj,dom,hA]
  ·intro k hk
   simp [enM,cfB,zc0]
 ·intro i hi
  have hin:i<n:=by omega
  have hi':(i:Int)<n:=by omega
  have hz:(0:Int)<=i:=by omega
  have hs:Int.bmod ((i:Int)+1) 18446744073709551616=((i+1:Nat):Int):=by rw [Go.Gy.bm (by omega) (by omega)];rfl
  have hq2:(i != stop)=true:=by simp;omega
  have hle:i<=stop:=by omega
  have hld:=hSb.body hin
  have hld2:=hm.at hin
  have hx:=zrg fm fs n i hin
  unfold jkp cfB zc0
  unfold zql at hx
  repeat' first|refine gwZ ?_|(refine gwX ?_;intro Q hQ hP;simp [hC,hY,hA,hS,hne,hin,hi',hz,hs,hq2,hle,hld,hld2,hx];(first|refine hQ _ _ _ _ (by rcases hT.k8 with h8|h8<;>subst h8<;>kernel_rfl) ?_|refine hP _ _ (by rcases hT.k8 with h8|h8<;>subst h8<;>kernel_rfl) λ_=>?_))|fail
  refine hkp _ 400 _ (by omega) ?_ ?_
  ·simp [zap,zax,zah,zaj,dom,hA,hs]
  ·intro k hk
   simp [enM,cfB,zc0]
 ·by_cases h4:n<=stop
  ·rw [Nat.min_eq_right h4]
   unfold jkp
   repeat' first|refine gwZ ?_|refine gwW ?_|fail
   refine ⟨.inl trivial,by simp [results130],by first|(rw [hlen];omega)|omega,λk hk=>?_⟩
   first|rfl|(simp [enM];done)
  ·rw [Nat.min_eq_left (by omega)]
   have hin:stop<n:=by omega
   have hi':(stop:Int)<n:=by omega
   have hz:(0:Int)<=stop:=by omega
   have hld:=hSb.body hin
   have hld2:=hm.at hin
   have hx:=zrg fm fs n stop hin
   unfold jkp cfB zc0
   unfold zql at hx
   repeat' first|refine gwZ ?_|(refine gwX ?_;intro Q hQ hP;simp [hC,hY,hA,hS,hne,hin,hi',hz,hld,hld2,hx];(first|refine hQ _ _ _ _ (by rcases hT.k8 with h8|h8<;>subst h8<;>kernel_rfl) ?_|refine hP _ _ (by rcases hT.k8 with h8|h8<;>subst h8<;>kernel_rfl) λ_=>?_))|fail
   refine ⟨.inr trivial,by simp [results130],by first|omega|(simp;omega)|(rw [hlen];omega),λk hk=>?_⟩
   have hk:=hlt k hk
   first|rfl|(simp (disch:=omega) only [zab];done)|(simp (disch:=omega) only [zab];rfl)
def mzF (fm:Nat->Int) (z:Nat->Nat->Int) (u i:Nat):Int:=fm i*z u i
theorem zi7 {m x:Int} (h0:1<=m) (h1:m<=1024) (h2:-274877906944<=x) (h3:x<=274877906944):-281474976710656<=m*x/\m*x<=281474976710656:=by
 have a:=Int.mul_le_mul_of_nonneg_left h3 (show (0:Int)<=m by omega)
 have b:=Int.mul_le_mul_of_nonneg_left h2 (show (0:Int)<=m by omega)
 have c:=Int.mul_le_mul_of_nonneg_right h1 (show (0:Int)<=274877906944 by omega)
 omega
theorem zkn {f:Nat->Int} {n:Nat} (h:∀ i,i<n->-281474976710656<=f i/\f i<=281474976710656):∀ i,i<=n->-((i:Int)*281474976710656)<=zbv f i/\zbv f i<=(i:Int)*281474976710656
 | 0,_=>by simp [zbv]
 | i+1,hi=>by
  have ih:=zkn h i (by omega)
  have:=h i (by omega)
  unfold zbv
  omega
def mbr (k:Nat):Nat:=if k=200 then 288 else if k=208 then 289 else k
theorem zpi {k:Nat} (h:k<200):mbr k=k:=by unfold mbr;rw [if_neg (by omega),if_neg (by omega)]
def vcB (x y z:Int):Blk:=⟨#[.int .i64 x,.int .i64 y,.int .i64 z],.ty 33⟩
def ofB (F:Nat):Blk:=⟨#[.func (.func F) #[] #[]],.ty 109⟩
theorem z8o {L:List (Nat×Blk)} (hL:LOk L 200):∀ k,k∈288::289::zaa L->k=288\/k=289\/(100<=k/\k<200):=λk hk=>by
 rcases List.mem_cons.1 hk with rfl|hk
 ·exact .inl rfl
 ·rcases List.mem_cons.1 hk with rfl|hk
  ·exact .inr (.inl rfl)
  ·obtain ⟨p,hp,rfl⟩:=zag.1 hk
   exact .inr (.inr (hL.big p hp))
theorem zy6 (L:List (Nat×Blk)) (ks:Nat) (bm bs:Blk) (hT:LTwo G0 L ks bm bs) (off n cap off2 cap2:Nat) (fm fs:Nat->Int) (hm:MB bm off n fm) (hSb:SB bs off2 n fs) (g bx tp nr md st:Int) (hs:i64 st) (hok:zdr n fm g bx tp nr md=true) (hrt:zbl st fs n=true) (F:Nat) (z:Nat->Nat->Int)
  (hF:∀ i,i<n->∀ K,za2 prog G0 F #[zql fs i] K↔K (.agg #[.int .i64 (z 0 i),.int .i64 (z 1 i),.int .i64 (z 2 i)])) (hz:∀ u i,i<n->-274877906944<=z u i/\z u i<=274877906944) :
  Fun prog G0 70 #[cfV (.slice (some ⟨100,off,none⟩) n cap) g bx tp nr md,.agg #[.int .i64 st,.slice (some ⟨ks,off2,none⟩) n cap2],.func (.func F) #[] #[]] (hpL G0 L) (zaa L) (.ret (.tuple #[.agg #[.int .i64 (zbv (mzF fm z 0) n),.int .i64 (zbv (mzF fm z 1) n),.int .i64 (zbv (mzF fm z 2) n)],.int .i64 0]) []):=by
 refine zar (B:=200) G0F func70 rfl call70 hT.ok ?_ (zai (by simp)) (by simp) (by simp) (by simp [ntmps70]) (by omega) ?_
 ·simp [zap,zax,zah,zaj,hT.ia,hT.ib,cfV]
 intro C hC hC0 hY
 have hA:=hT.a
 have hS:=hT.s
 have hne:=hT.ne
 have hLow:=hT.low
 have hks:=hT.k1
 have hks2:=hT.k2
 have hfit:=zki L ks bm bs hT off n cap off2 n cap2 fm fs hm hSb g bx tp nr md st hs
 rw [zdk.2 ⟨rfl,hok,hrt⟩] at hfit
 have hpr:=zvp 288 (by omega) L ks bm bs hT off n cap off2 n cap2 g bx tp nr md st
 have hlen:=zs8 fm fs n
 have hn4:=(zez hrt).2.1
 unfold cfV at hfit hpr |-
 repeat' first|refine gwZ ?_|((first|refine gwR [94] ?_|refine gwD [94] ?_);intro Q hQ _;(repeat first|simp [hC,hY,hA,hS,hne]|refine za7 hfit hT.ok zdd ?_);refine gwq hQ ?_)|fail
 refine zc3 ?_
 simp only [Array.toList]
 refine gwl 2 ?_;intro Q hQ;simp [hC,hY,hA,hS,hne];apply hQ
 simp only [wT,wM,Nat.reduceAdd]
 refine zeo (f:=.func 105) (cap:=#[]) hC hpr rfl (by simp) rfl rfl (by simp [okT]) (by simp [gev]) (by simp) (by simp [okX,zcm]) (by simp [gev]) (by intro q hq;obtain ⟨p,hp,rfl⟩:=zag.1 hq;have hpb:=hT.ok.big p hp;(try dsimp only);simp (disch:=omega) only [zab]) (by (intro k hk;first|exact hLow k hk|(simp (disch:=omega) only [hLow,zb3,List.mem_cons,List.not_mem_nil,or_false,zab,zaq,zaw,if_neg,zbi,List.cons_append,List.nil_append]<;>done))) (λv ns hV k hk=>by have:=zph hV k hk;simp;omega) ?_
 rintro v ns ⟨rfl,rfl⟩
 refine zdc ?_
 repeat' first|refine gwZ ?_|(refine gwX ?_;intro Q hQ _;simp [hC,hY,zcx,zbi,hA,hS,hne];refine gwq hQ ?_)|fail
 simp only [zcx,zbi]
 have hall:=z8o hT.ok
 have hidL:∀ k∈zaa L,mbr k=k:=λk hk=>by
  obtain ⟨p,hp,rfl⟩:=zag.1 hk
  exact zpi (hT.ok.big p hp).2
 have hCC:=hC
 have hYY:=hY
 have hbd:∀ u i,i<=n->-1125899906842624<=zbv (mzF fm z u) i/\zbv (mzF fm z u) i<=1125899906842624:=λu i hi=>by
  have:=zkn (f:=mzF fm z u) (n:=n) (λj hj=>by
   have hmm:=zbu hok hj
   have hzz:=hz u j hj
   exact zi7 hmm.1 hmm.2 hzz.1 hzz.2) i hi
  omega
 refine zgf (G:=G0) (f:=130) (rs:=288::289::zaa L) (xs:=jak fm fs n) (caps:=#[.pointer (some ⟨288,0,none⟩),.pointer (some ⟨289,0,none⟩)]) (m0:=L) (288::289::zaa L) G0F hC hC0 hY (by simp) ?_ ?_ (by simp [ntmps70]) [(5,.pointer (some ⟨216,0,none⟩)),(6,.pointer (some ⟨224,0,none⟩))] [] (λi=>[(216,ofB F),(224,vcB (zbv (mzF fm z 0) i) (zbv (mzF fm z 1) i) (zbv (mzF fm z 2) i))]) 400 n (by rw [hlen];exact Nat.le_refl _) (by omega) (λk hk=>hk) ?_ ?_ (by simp) (by simp) ?_ ?_ ?_ ?_ ?_
 ·refine zep (zvq L ks bm bs hT off n cap off2 cap2 fm fs hm hSb g bx tp nr md st) G0F (zi4 hT off n cap off2 n cap2 g bx tp nr md st) mbr (λk hk=>zpi (by omega)) (by simp [zan,mbr]) ?_ (by (intro k hk;first|exact hLow k hk|(simp (disch:=omega) only [hLow,zb3,List.mem_cons,List.not_mem_nil,or_false,zab,zaq,zaw,if_neg,zbi,List.cons_append,List.nil_append]<;>done))) ?_ ?_
  ·show mbr 200::mbr 208::(zaa L).map mbr=_
   rw [List.map_congr_left hidL]
   simp [mbr]
  ·intro p hp
   rcases List.mem_cons.1 hp with rfl|hp
   ·simp [mbr,cfB,Blk.rn,zak,zan,upd]
   ·rcases List.mem_cons.1 hp with rfl|hp
    ·have h3:mbr ks=ks:=zpi hks2
     simp [zc0,Blk.rn,zak,zan,upd,h3]
     simp [mbr,upd]
    ·have hpb:=hT.ok.big p hp
     rw [zpi hpb.2,Blk.fx_rn (hT.fx p hp)]
     refine ⟨hpb.1,?_⟩
     (try dsimp only)
     simp (disch:=omega) only [zb3,zab,zaq,zaw,if_neg,zbi]
     exact hT.mem p hp
  ·have key:∀ k∈zaa (enM L ks off n cap off2 n cap2 g bx tp nr md st),(k=200/\mbr k=288)\/(k=208/\mbr k=289)\/(k<200/\mbr k=k):=λk hk=>by
    rcases List.mem_cons.1 hk with rfl|hk
    ·exact .inl ⟨rfl,rfl⟩
    ·rcases List.mem_cons.1 hk with rfl|hk
     ·exact .inr (.inl ⟨rfl,rfl⟩)
     ·obtain ⟨p,hp,rfl⟩:=zag.1 hk
      have:=(hT.ok.big p hp).2
      exact .inr (.inr ⟨this,zpi this⟩)
   intro k hk l hl e
   have:=key k hk
   have:=key l hl
   omega
 ·intro x hx
  unfold jak at hx
  obtain ⟨i,_,rfl⟩:=List.mem_map.1 hx
  simp [zql]
 ·intro k hk
  rcases List.mem_cons.1 hk with rfl|hk
  ·simp [dom,upd]
  ·rcases List.mem_cons.1 hk with rfl|hk
   ·simp [dom,upd]
   ·obtain ⟨p,hp,rfl⟩:=zag.1 hk
    have hpb:=hT.ok.big p hp
    refine ⟨hpb.1,?_,by omega⟩
    unfold dom
    dsimp only
    simp (disch:=omega) only [zb3,zab,zaq,zaw,if_neg,zbi]
    rw [hT.mem p hp]
    simp
 ·intro k hk b hb1
  rcases List.mem_cons.1 hk with rfl|hk
  ·simp [upd] at hb1;subst hb1;simp [cfB,zad,zah,zaj,hT.ia]
  ·rcases List.mem_cons.1 hk with rfl|hk
   ·simp [upd] at hb1;subst hb1;simp [zc0,zad,zah,zaj,hT.ib]
   ·obtain ⟨p,hp,rfl⟩:=zag.1 hk
    have hpb:=hT.ok.big p hp
    dsimp only at hb1
    simp (disch:=omega) only [zb3,zab,zaq,zaw,if_neg,zbi] at hb1
    rw [hT.mem p hp] at hb1
    simp only [Option.some.injEq] at hb1
    subst hb1
    exact Blk.fx_ids (hT.fx p hp) _
 ·simp [ofB,vcB,zbv,upd,zbi]
 ·intro i hi
  refine ⟨by simp [zap,zax,zah,zaj,dom],?_⟩
  have ho:∀ k,200<=k->k<288->k∉288::289::zaa L:=λk h1 h2 h3=>by have:=hall k h3;omega
  simp only [List.mem_cons,List.not_mem_nil,or_false,forall_eq_or_imp,forall_eq]
  exact ⟨⟨by omega,by omega,by simpa using ho 216 (by omega) (by omega),by simp [ofB,zad,zah,zaj]⟩,by omega,by omega,by simpa using ho 224 (by omega) (by omega),by simp [vcB,zad,zah,zaj]⟩
 ·intro p hp
  exact .inl (List.mem_cons_of_mem _ (List.mem_cons_of_mem _ (zag.2 ⟨p,hp,rfl⟩)))
 ·intro i x hi hx C1 j c1 c2 c3
  rw [zrg fm fs n i hi] at hx
  simp only [Option.some.injEq] at hx
  subst hx
  have hFi:=hF i hi
  have b0:=hbd 0 i (by omega)
  have b1:=hbd 1 i (by omega)
  have b2:=hbd 2 i (by omega)
  have d0:=hbd 0 (i+1) (by omega)
  have d1:=hbd 1 (i+1) (by omega)
  have d2:=hbd 2 (i+1) (by omega)
  have e0:zbv (mzF fm z 0) (i+1)=zbv (mzF fm z 0) i+fm i*z 0 i:=rfl
  have e1:zbv (mzF fm z 1) (i+1)=zbv (mzF fm z 1) i+fm i*z 1 i:=rfl
  have e2:zbv (mzF fm z 2) (i+1)=zbv (mzF fm z 2) i+fm i*z 2 i:=rfl
  rw [e0,e1,e2] at *
  generalize zbv (mzF fm z 0) i=A0 at *
  generalize zbv (mzF fm z 1) i=A1 at *
  generalize zbv (mzF fm z 2) i=A2 at *
  have hmm:=zbu hok hi
  have k0:=zi7 hmm.1 hmm.2 (hz 0 i hi).1 (hz 0 i hi).2
  have k1:=zi7 hmm.1 hmm.2 (hz 1 i hi).1 (hz 1 i hi).2
  have k2:=zi7 hmm.1 hmm.2 (hz 2 i hi).1 (hz 2 i hi).2
  have q0:Int.bmod (fm i*z 0 i) 18446744073709551616=fm i*z 0 i:=Go.Gy.bm (by omega) (by omega)
  have q1:Int.bmod (fm i*z 1 i) 18446744073709551616=fm i*z 1 i:=Go.Gy.bm (by omega) (by omega)
  have q2:Int.bmod (fm i*z 2 i) 18446744073709551616=fm i*z 2 i:=Go.Gy.bm (by omega) (by omega)
  have r0:Int.bmod (A0+fm i*z 0 i) 18446744073709551616=A0+fm i*z 0 i:=Go.Gy.bm (by omega) (by omega)
  have r1:Int.bmod (A1+fm i*z 1 i) 18446744073709551616=A1+fm i*z 1 i:=Go.Gy.bm (by omega) (by omega)
  have r2:Int.bmod (A2+fm i*z 2 i) 18446744073709551616=A2+fm i*z 2 i:=Go.Gy.bm (by omega) (by omega)
  clear hC hY
  have hC:=c1
  have hY:=c3
  unfold zql at hFi |-
  unfold ofB vcB
  repeat' first|refine gwZ ?_|(refine gwX ?_;intro Q hQ _;simp [hC,hY,zav];refine gwq hQ ?_)|fail
  intro C2 hC2 hh2 hY2
  clear hC hY
  have hC:=hC2
  have hY:=hY2
  repeat' first|refine zal ?_|refine zat ?_|refine gwZ ?_|(refine gwX ?_;intro Q hQ _;simp [hC,hY,hFi,q0,q1,q2,r0,r1,r2];refine gwq hQ ?_)|fail
  simp
 ·refine .inl ⟨hlen.symm,?_⟩
  unfold ofB vcB
  have hmo:∀ k,200<=k->k<288->(k∈288::289::zaa L)=False:=λk h1 h2=>eq_false λh3=>by have:=hall k h3;omega
  have hm16:=hmo 216 (by omega) (by omega)
  have hm24:=hmo 224 (by omega) (by omega)
  repeat' first|refine gwZ ?_|(refine gwX ?_;intro Q hQ _;simp [hC,hY,zb3,hm16,hm24];refine gwq hQ ?_)|fail
  refine ⟨.inr rfl,by simp [results70,zb3,hm16,hm24],zb4 G0F (λp hp=>by
    have hpb:=hT.ok.big p hp
    have hm9:p.1∈288::289::zaa L:=List.mem_cons_of_mem _ (List.mem_cons_of_mem _ (zag.2 ⟨p,hp,rfl⟩))
    simp (disch:=omega) only [eIn hm9,zab,zaq,zaw,if_neg,zbi]) (λk hk=>by
    have hm9:k∉288::289::zaa L:=λhm9=>by have:=hall k hm9;omega
    simp (disch:=omega) only [eNi hm9,zab,zaq,zaw,if_neg,zbi,hLow])⟩
end Go.Gy
namespace Go.Gy
structure HS where
 N:Int
 v:Nat->Int
def zsn (c:Nat):Bool:=c==0||(decide (2<=c)&&(c - 2) / 3%2==0)
def mm (c:Nat) (x y:Int):Int:=if zsn c then min x y else max x y
def HS.one (h:HS) (w:Nat->Int):HS:=⟨h.N+1,λc=>if h.N=0 then w c else mm c (h.v c) (w c)⟩
def zfg (w:Nat->Int):Bool:=decide (w 0<=w 1)
def HS.tk (h:HS) (w:Nat->Nat->Int):Nat->HS
 | 0=>h
 | i+1=>if zfg (w i)=true/\¬(h.tk w i).N=1073741824 then (h.tk w i).one (w i) else h.tk w i
def zhb (w:Nat->Nat->Int):Nat->Nat
 | 0=>0
 | i+1=>zhb w i+if zfg (w i) then 1 else 0
def bey (c:Nat) (x y:Int):Prop:=if zsn c then x<=y else y<=x
structure TkC (h:HS) (w:Nat->Nat->Int) (n:Nat) (c:Nat) (x:Int):Prop where
 all:∀ i,i<n->zfg (w i)=true->bey c x (w i c)
 old:¬h.N=0->bey c x (h.v c)
 is:(∃ i,i<n/\zfg (w i)=true/\x=w i c)\/((¬h.N=0\/zhb w n=0)/\x=h.v c)
def zhm (h:HS):Bool:=if h.N=0 then (List.range 14).all λc=>h.v c==0 else decide (0<h.N/\h.N<=1073741824)&&(decide (h.v 0<=h.v 1)&&(List.range 3).all λq=>decide (h.v (2+q)<=h.v (5+q))&&decide (h.v (8+q)<=h.v (11+q)))
def zjd (h:HS) (w:Nat->Int):Bool:=!(decide (h.N=0))&&(zhm h&&(decide (h.v 0<=w 0/\w 0<=h.v 1)&&(decide (h.v 0<=w 1/\w 1<=h.v 1)&&(List.range 3).all λq=>decide (h.v (2+q)<=w (2+q)/\w (2+q)<=h.v (5+q))&&decide (h.v (8+q)<=w (8+q)/\w (8+q)<=h.v (11+q)))))
theorem jls {P:Nat->Bool}:((List.range 3).all P)=true↔∀ c,c<3->P c=true:=by
 rw [List.all_eq_true]
 exact ⟨λh c hc=>h c (List.mem_range.2 hc),λh c hc=>h c (List.mem_range.1 hc)⟩
theorem jbj {h:HS} (z:¬h.N=0):zhm h=true↔(0<h.N/\h.N<=1073741824)/\h.v 0<=h.v 1/\∀ q,q<3->h.v (2+q)<=h.v (5+q)/\h.v (8+q)<=h.v (11+q):=by
 unfold zhm
 rw [if_neg z,Bool.and_eq_true,Bool.and_eq_true,jls,decide_eq_true_eq,decide_eq_true_eq]
 simp only [Bool.and_eq_true,decide_eq_true_eq]
theorem jia {h:HS} (k:zhm h=true):0<=h.N/\h.N<=1073741824:=by
 by_cases z:h.N=0
 ·omega
 ·have:=(jbj z).1 k;omega
def jbo (w:Nat->Nat->Int):Prop:=∀ i q,q<3->w i (2+q)=w i (5+q)/\w i (8+q)=w i (11+q)
theorem je6 {q:Nat} (hq:q<3):zsn (2+q)=true/\zsn (8+q)=true/\zsn (5+q)=false/\zsn (11+q)=false:=by
 have:q=0\/q=1\/q=2:=by omega
 rcases this with rfl|rfl|rfl<;>decide
section
variable {h:HS} {w:Nat->Nat->Int} {n:Nat}
end
end Go.Gy
namespace Go.Gy
open Go Go.RowKit Go.Proofs
def fv (N:Nat) (g:Nat->Value):Array Value:=Array.ofFn (n:=N) λi=>g i
@[simp] theorem jmi (N:Nat) (g:Nat->Value):(fv N g).size=N:=by simp [fv]
theorem zx3 (N:Nat) (g:Nat->Value) {j:Nat} (h:j<N):(fv N g)[j]? = some (g j):=by simp [fv,h]
theorem z9p (N:Nat) (g:Nat->Value) {j:Nat} (h:N<=j):(fv N g)[j]? = none:=by simp [fv];omega
theorem z6v {N:Nat} {g:Nat->Value} {x:Value} (h:x∈fv N g):∃ j,j<N/\x=g j:=by
 obtain ⟨j,hj,rfl⟩:=Array.mem_iff_getElem.1 h
 exact ⟨j,by simpa using hj,by simp [fv]⟩
theorem zo0 {A:Array Value} {N:Nat} {g:Nat->Value} (hs:A.size=N) (h:∀ j,j<N->A[j]? = some (g j)):A=fv N g:=by
 apply Array.ext_getElem?
 intro j
 by_cases hj:j<N
 ·rw [h j hj,zx3 N g hj]
 ·rw [z9p N g (by omega),Array.getElem?_eq_none (by omega)]
def rdV (b:Blk) (off N:Nat) (g:Nat->Value):Prop:=∀ j,j<N->b.c[off+j]? = some (g j)
theorem jhx (N:Nat) (g:Nat->Value) (T:BTy):rdV ⟨fv N g,T⟩ 0 N g:=λj hj=>by
 rw [Nat.zero_add];exact zx3 N g hj
theorem rdV.le {b:Blk} {off N M:Nat} {g:Nat->Value} (h:rdV b off N g) (hm:M<=N):rdV b off M g:=λj hj=>h j (by omega)
section
variable {P:Program}
theorem jm5 {T:TypeId} {m:Nat} (h1:zfm P T=some true) (h2:zaz P T=some m) (hm:0<m) {b:Blk} {off N j:Nat} {g:Nat->Value} (h:rdV b off N g) (hj:j+m<=N) (hfl:∀ q,q<m->zbf (g (j+q))=true) (hrd:b.T.rd=true:=by first|rfl|assumption) :
  zc6 P T b (off+j)=some (.agg (fv m λq=>g (j+q))):=by
 have hsz:off+j+m<=b.c.size:=by
  have:=h (j+m - 1) (by omega)
  have:=(Array.getElem?_eq_some_iff.1 this).1
  omega
 have he:b.c.extract (off+j) (off+j+m)=fv m λq=>g (j+q):=by
  refine zo0 (by simp;omega) λq hq=>?_
  rw [Array.getElem?_extract,if_pos (by omega),Nat.add_assoc,h (j+q) (by omega)]
 refine zju ?_ ?_
 ·simp only [zb5,h1,h2,if_pos hsz,he]
 ·simp only [za0,zg2]
  rw [Array.all_eq_true']
  intro x hx
  obtain ⟨q,hq,rfl⟩:=z6v hx
  exact hfl q hq
end
def zpe (w:Nat->Int) (j:Nat):Value :=
 if j<4 then .int .u64 (wi (w 0) j) else if j<8 then .int .u64 (wi (w 1) (j - 4)) else if j<11 then .int .i64 (w (j - 6)) else .int .i64 (w (j - 3))
theorem zlz (w:Nat->Int) (j:Nat):zbf (zpe w j)=true:=by
 unfold zpe;split<;>(try split)<;>(try split)<;>rfl
def zbh (w:Nat->Int):Value:=.agg #[.int .u64 (wi (w 0) 0),.int .u64 (wi (w 0) 1),.int .u64 (wi (w 0) 2),.int .u64 (wi (w 0) 3),.int .u64 (wi (w 1) 0),.int .u64 (wi (w 1) 1),.int .u64 (wi (w 1) 2),.int .u64 (wi (w 1) 3),.int .i64 (w 2),.int .i64 (w 3),.int .i64 (w 4),.int .i64 (w 8),.int .i64 (w 9),.int .i64 (w 10)]
theorem zs5 (w:Nat->Int):.agg (fv 14 (zpe w))=zbh w:=by
 unfold zbh
 refine congrArg Value.agg (zo0 (N:=14) rfl λj hj=>?_).symm
 have:j=0\/j=1\/j=2\/j=3\/j=4\/j=5\/j=6\/j=7\/j=8\/j=9\/j=10\/j=11\/j=12\/j=13:=by omega
 rcases this with rfl|rfl|rfl|rfl|rfl|rfl|rfl|rfl|rfl|rfl|rfl|rfl|rfl|rfl<;>rfl
def zjf (w:Nat->Nat->Int) (j:Nat):Value:=zpe (w (j / 14)) (j%14)
structure LB (b:Blk) (off n:Nat) (w:Nat->Nat->Int):Prop where
 rd:rdV b off (14*n) (zjf w)
 fx:b.fx
 ok:jbo w
 i64:∀ i,i<n->∀ c,2<=c->c<14->i64 (w i c)
 wr:∀ i,i<n->wr (w i 0)/\wr (w i 1)
 nn:n<=1256598820000
end Go.Gy
namespace Go.Gy
open Go Go.RowKit
section
variable {P:Program} {G:Hp}
structure IterS (P:Program) (G:Hp) (f:FuncId) (caps:Array Value) (hp:Hp) (rs:List Nat) (w:Nat) (ob:Nat->Blk) (xs:List (Array Value)):Prop where
 enter:∀ a w,(callFunc f a).run P w=.ok (.enter f a) w
 cids:∀ x∈caps,zbr x=true/\zap (dom (rst hp rs)) x
 closed:∀ k b,rst hp rs k=some b->b.ids (dom (rst hp rs))
 flat:∀ c,(∀ r,(ob c).obj r=(ob c).obj0)/\∀ D,(ob c).ids D
 run:∀ (E:Ext) (l stop:Nat) r S W,GOK G W->Sat r (dom (rst hp rs)) (rst hp rs) W->Inj r (dom (rst hp rs))->(∀ k,k<100->dom (rst hp rs) k->r k=k)->zft P G E ⟨l,xs.map λx=>x.map (ren λ_=>r w),stop,none,some ⟨w,r w,ob⟩⟩->E.X 0 S W->(∀ k,S k->k<W.heap.size) ->
  (∀ i,dom (rst hp rs) i->100<=i->¬S (r i)) ->
  zd8 P f (#[Value.func (.yield l) #[] #[]]++caps.map (ren r)) W λe W'=>(∃ v,e=.returned v)/\(∃ S',E.X (min (stop+1) xs.length) S' W')/\W'.heap[r w]? = some (ob (min (stop+1) xs.length)).obj0
theorem z3r {f:FuncId} {fn:Func} {c:Code} {caps:Array Value} {hp:Hp} {rs:List Nat} {xs:List (Array Value)} {B:Nat} {v:Value} {w:Nat} {ob:Nat->Blk} (hGF:zbo G) (hG:∀ k,k<100->hp k=G k) (hf:P.funcs[f]? = some fn) (hb:fn.body=some c) (hcall:∀ a w,(callFunc f a).run P w=.ok (.enter f a) w)
  (ha:∀ x∈caps,zbr x=true/\zap (dom (rst hp rs)) x) (hcl:∀ k b,rst hp rs k=some b->b.ids (dom (rst hp rs))) (hn:caps.size+1<=fn.ntmps) (hB:100<=B) (hfree:∀ x,B<=x->rst hp rs x=none) (hdw:dom (rst hp rs) w) (hflat:∀ c,(∀ r,(ob c).obj r=(ob c).obj0)/\∀ D,(ob c).ids D)
  (h:∀ (C:Ctx) (l stop wa:Nat),C.G=G->C.hp0=rst hp rs->C.Y=some ⟨l,xs.map λx=>x.map (ren λ_=>wa),stop,none,some ⟨w,wa,ob⟩⟩->GW P C fn.ntmps [] none c ⟨λt=>(#[Value.func (.yield l) #[] #[]]++caps).getD t undef,rst hp rs,B,0⟩
   (λe s=>(e=.normal\/e=.ret)/\zn1 P fn.results.toList s.ts s.hp=some v/\s.yc=min (stop+1) xs.length/\s.hp w=some (ob s.yc))):IterS P G f caps hp rs w ob xs:=by
 refine ⟨hcall,ha,hcl,hflat,λE l stop r S W hgok hsat hinj hlow hR hX hS hdis=>callsIn_of_wp_marks hf hb ⟨fn,hf⟩ ?_⟩
 let C:Ctx:=⟨E,rst hp rs,r,G,some ⟨l,xs.map λx=>x.map (ren λ_=>r w),stop,none,some ⟨w,r w,ob⟩⟩⟩
 have hi:GI P C fn.ntmps [] r ⟨λt=>(#[Value.func (.yield l) #[] #[]]++caps).getD t undef,rst hp rs,B,0⟩
   { tmps:=(#[Value.func (.yield l) #[] #[]]++caps.map (ren r))++Array.replicate (fn.ntmps - (#[Value.func (.yield l) #[] #[]]++caps.map (ren r)).size) undef,defers:=[] } W:=by
  have hsz:(#[Value.func (.yield l) #[] #[]]++caps.map (ren r)).size=(#[Value.func (.yield l) #[] #[]]++caps).size:=by simp
  have hmap:#[Value.func (.yield l) #[] #[]]++caps.map (ren r)=(#[Value.func (.yield l) #[] #[]]++caps).map (ren r):=by simp [ren,zay,zak]
  refine ⟨⟨?_,λt=>?_,hsat,hinj,⟨S,[],hX,hS,λi hi h1=>hdis i hi h1,⟨rfl,List.nodup_nil⟩,by simp⟩,λi hi=>⟨hi,rfl⟩,λk hk=>?_,hlow⟩,hfree,hB,hGF,λy hy=>by cases hy;exact ⟨hR,hdw,rfl,hflat⟩⟩
  ·simp only [Array.size_append,Array.size_replicate,hsz]
   simp
   omega
  ·right
   dsimp only
   rw [hmap]
   generalize hA:#[Value.func (.yield l) #[] #[]]++caps=A
   have hAi:∀ x∈A,zap (dom (rst hp rs)) x:=λx hx=>by
    rw [<-hA] at hx
    rcases Array.mem_append.1 hx with hx|hx
    ·simp at hx;subst hx;simp [zap,zax,zah]
    ·exact (ha x hx).2
   by_cases ht:t<A.size
   ·have hm:A[t]∈A:=Array.getElem_mem ht
    have e:A.getD t undef=A[t]:=by simp [Array.getD,ht]
    rw [e]
    refine ⟨?_,hAi _ hm⟩
    have:t<(A.map (ren r)).size:=by simpa using ht
    simp [Array.getElem?_append_left this,ht]
   ·have e:A.getD t undef=undef:=by simp [Array.getElem?_eq_none (Nat.le_of_not_lt ht)]
    rw [e]
    refine ⟨?_,zcv _⟩
    rw [zci]
    simp only [Array.getD_eq_getD_getElem?]
    rw [Array.getElem?_append_right (by simpa using Nat.le_of_not_lt ht),Array.getElem?_replicate]
    split<;>rfl
  ·show rst hp rs k=G k
   simp [rst,hk,hG k hk]
 refine wpIn_mono (h C l stop (r w) rfl rfl rfl r _ W hi) ?_
 rintro e a' W' ⟨s',r',hres,hi'⟩
 obtain ⟨S',ms,hX',hS1,hS2,⟨hdef,hnd⟩,hms⟩:=hi'.ri.ext
 obtain ⟨he,hr,hy,hkp⟩:=hres
 have hend:∀ W'':World,W''.heap.size=W'.heap.size->W''.os=W'.os->W''.tape=W'.tape->W''.output=W'.output->(∀ k,k∉ms->W''.heap[k]? = W'.heap[k]?) ->
   LeavesIn (Fw P none) 0 P fn a'.tmps (λe W'=>(∃ v,e=.returned v)/\(∃ S',E.X (min (stop+1) xs.length) S' W')/\W'.heap[r w]? = some (ob (min (stop+1) xs.length)).obj0) [] .returning W'':=λW'' e1 e2 e3 e4 e5=>by
  have hsat':Sat r' (dom s'.hp) s'.hp W'':=λk b hk=>⟨by
   rw [e5 _ (λhm=>hi'.ri.ne_mark (by unfold dom;rw [hk];simp) (hms _ hm).1 rfl)]
   exact (hi'.ri.sat k b hk).1,(hi'.ri.sat k b hk).2⟩
  refine ⟨_,zdn (fn:=fn) hi'.ri.rel hsat' hr,⟨_,rfl⟩,⟨S',?_⟩,?_⟩
  rotate_left
  ·have e7:=(hsat' w _ hkp).1
   rw [(hi'.ri.keep w hdw).2,(hflat _).1,hy] at e7
   exact e7
  rw [<-hy]
  exact E.ok _ _ _ _ hX' (λk hk=>e5 k λhm=>(hms k hm).2.1 hk) e2 e3 e4 (by rw [e1];exact Nat.le_refl _)
 rcases he with rfl|rfl
 ·show LeavesInM _ _ _ _ _ _ a'.defers _ _
  rw [hdef,List.append_nil]
  exact zc9 (by simp) ms W' hnd (λD hD=>(hms D hD).1) hend
 ·show LeavesInM _ _ _ _ _ _ a'.defers _ _
  rw [hdef,List.append_nil]
  exact zc9 (by simp) ms W' hnd (λD hD=>(hms D hD).1) hend
end
section
variable {P:Program} {G:Hp}
variable {C:Ctx} {n:Nat} {d:List Deferred} {s:GS} {K:Exit->GS->Prop}
theorem zf2 {g:Value->Value}:∀ (l:List (Tmp×Value)) (A:Array Value),(l.foldl (λt (p:Tmp×Value)=>t.setIfInBounds p.1 (g p.2)) A).size=A.size
 | [],_=>rfl
 | p::l,A=>by rw [List.foldl_cons,zf2 l];simp
theorem z4r {w:Nat} {D:Nat->Prop} {v:Value} (h:zqc w v=true) (hw:D w):zap D v:=by
 unfold zqc at h
 split at h
 ·rename_i cs
  simp only [zap,zax]
  intro x hx
  have hx2:=Array.all_eq_true'.1 h x hx
  split at hx2
  ·rename_i q
   have:q.block=w:=by simpa using hx2
   simp only [zah,zaj,this]
   exact hw
  ·exact zdl hx2
 ·rename_i q
  have:q.block=w:=by simpa using h
  simp only [zap,zax,zah,zaj,this]
  exact hw
 ·exact zai h
theorem zps {r:Nat->Nat} {D:Nat->Prop} {w:Nat} {g:Value->Value}:∀ (l:List (Tmp×Value)) (ts:Nat->Value) (A:Array Value),(∀ p∈l,p.1<A.size/\zqc w p.2=true)->D w->(∀ v,zqc w v=true->ren r v=g v)->Rel r D ts { tmps:=A,defers:=[] } ->
  Rel r D (l.foldl (λts p=>upd ts p.1 p.2) ts) { tmps:=l.foldl (λt (p:Tmp×Value)=>t.setIfInBounds p.1 (g p.2)) A,defers:=[] }
 | [],_,_,_,_,_,h=>h
 | p::l,ts,A,hl,hw,hg,h=>by
  have hp:=hl p (by simp)
  refine zps l (upd ts p.1 p.2) (A.setIfInBounds p.1 (g p.2)) (λq hq=>by simpa using hl q (List.mem_cons_of_mem _ hq)) hw hg ?_
  have:=h.put (dst:=some p.1) (λd hd=>by cases hd;exact hp.1) (z4r hp.2 hw)
  rw [hg _ hp.2] at this
  exact this
theorem zz1 {ro:Option Nat} (hro:∀ l0,ro=some l0->zfs C l0) {t:Tmp} {ps:Array Tmp} {assign body:Code} {f:FuncId} {caps:Array Value} {rs:List Nat} {xs:List (Array Value)} (hg:s.ts t=.func (.func f) #[] caps) {w:Nat} {ob:Nat->Blk} (hit:IterS P C.G f caps s.hp rs w ob xs) (hwr:w∈rs) (hw1:100<=w)
  (hxs:∀ x∈xs,x.size=ps.size/\∀ v∈x,zqc w v=true) (hps:∀ p∈ps,p<n) (tsE:Nat->Value) (I:Nat->Hp->Prop) {hpS:Hp} (B:Nat) (N:Nat) (hN:N<=xs.length)
  (hw:Weak C s ⟨tsE,hpS,B,s.yc⟩) (h0:I 0 hpS) (hob:∀ c hq,I c hq->hq w=some (ob c)) (hdis:∀ k∈rs,(k≠w->hpS k=none)/\dom s.hp k)
  (rounds:∀ i x hq,i<N->xs[i]? = some x->I i hq->∀ (C1:Ctx) (l:Nat),C1.G=C.G->C1.hp0=hq->C1.Y=none->GW P C1 n [] (some l) assign ⟨zav ps.toList x.toList tsE,hq,B,0⟩
   (zbx (λs1=>∀ C2:Ctx,C2.G=C.G->C2.hp0=hq->C2.Y=none->GW P C2 n [] (some l) body s1 (zbx (λs2=>∃ ρ hq',WeakR C ρ ⟨tsE,s2.hp,s2.B,s.yc⟩ ⟨tsE,hq',B,s.yc⟩/\I (i+1) hq'/\ρ w=w) (λ_ _=>False))) (λ_ _=>False)))
  (fin:(N=xs.length/\∀ hq,I N hq->K .normal ⟨tsE,hq,B,s.yc⟩)\/∃ x,xs[N]? = some x/\∀ hq,I N hq->∀ (C1:Ctx) (l:Nat),C1.G=C.G->C1.hp0=hq->C1.Y=none->GW P C1 n [] (some l) assign ⟨zav ps.toList x.toList tsE,hq,B,0⟩
    (zbx (λs1=>∀ C2:Ctx,C2.G=C.G->C2.hp0=hq->C2.Y=none->GW P C2 n [] (some l) body s1 (λe s2=>(zbk e).isSome=true/\(∀ t,zap (dom s2.hp) (tsE t))/\s2.hp w=some (ob (N+1))/\K e ⟨tsE,s2.hp,s2.B,s.yc⟩)) (λ_ _=>False)))
  (hYn:C.Y≠some .still) {r:Nat->Nat} {a:Act} {W:World} (hi0:GI P C n d r s a W) :
  (Code.rangeFunc (.tmp t) ps assign body).wpIn (Fw P ro) 0 P (λe a' W'=>∃ s' r',K e s'/\GI P C n d r' s' a' W') a W:=by
 obtain ⟨pn,hpn⟩:∃ pn:Option Value,pn=none:=⟨_,rfl⟩
 have hi:=hi0.weak hw
 obtain ⟨So,ms,hX0,hSo,hsep,⟨hdef,hnd⟩,hms⟩:=hi0.ri.ext
 have hcapv:a.eval (.tmp t)=.func (.func f) #[] (caps.map (zan r)):=by
  have:=((hi0.ri.rel t).resolve_left (by rw [hg];simp [zcm])).1
  rw [hg] at this
  simpa [ren,zay,zak,Act.eval] using this
 have hcap:caps.map (zan r)=caps.map (ren r):=Array.map_congr_left λx hx=>(zcf (hit.cids x hx).1).symm
 rw [hcap] at hcapv
 refine wpIn_rangeFunc ?_
 rintro fn ⟨fnn,hfnn⟩
 obtain ⟨df,l,mks,W1,hent,hL1,hK1,hmn,hlW,hb1⟩:∃ (df l:Nat) (mks:List Nat) (W1:World),(Instr.enterLoop fn a.tmps ps assign body ro).run P W=.ok (l,mks.map zwr) W1 /\
   W1.heap[l]? = some (.loop { state:=.ready,pending:=none,fn,tmps:=a.tmps,params:=ps,assign,body,defers:=df })/\(∀ D∈mks,W.heap.size<=D/\W1.heap[D]? = some (.deferred (some [])))/\mks.Nodup/\W.heap.size<=l/\Below W.heap.size W W1:=by
  cases ro with
  | none =>
   refine ⟨W.heap.size,W.heap.size+1,[W.heap.size],_,run_enterLoop_outer _ _ _ _ _,?_,λD hD=>?_,by simp,by omega,((Below.refl _ W).alloc (Nat.le_refl _) _).alloc (by simp) _⟩
   ·have:=World.alloc_heap_new (W.alloc (.deferred (some []))) (.loop { state:=.ready,pending:=none,fn,tmps:=a.tmps,params:=ps,assign,body,defers:=W.heap.size })
    rwa [World.size_alloc] at this
   ·rw [List.mem_singleton] at hD
    subst hD
    exact ⟨Nat.le_refl _,(Below.heap_alloc _ _ _ (by simp)).trans (World.alloc_heap_new W _)⟩
  | some l0 =>
   obtain ⟨_,r0,hl0⟩:=hro l0 rfl _ _ _ hX0
   exact ⟨r0.defers,W.heap.size,[],_,run_enterLoop_inner hl0 _ _ _ _ _,World.alloc_heap_new W _,(λD hD=>nomatch hD),by simp,Nat.le_refl _,(Below.refl _ W).alloc (Nat.le_refl _) _⟩
 obtain ⟨rec,hrec⟩:∃ rec:LoopState->Option Code->Loop,rec=λst pe=>{ state:=st,pending:=pe,fn,tmps:=a.tmps,params:=ps,assign,body,defers:=df }:=⟨_,rfl⟩
 replace hL1:W1.heap[l]? = some (.loop (rec .ready none)):=by rw [hrec];exact hL1
 have hlt0:l<W1.heap.size:=(Array.getElem?_eq_some_iff.1 hL1).1
 have hsz1:=hb1.size
 let capd:Nat->Prop:=λj=>∃ i,i∈rs/\100<=i/\r i=j
 obtain ⟨wa,hwa⟩:∃ wa,r w=wa:=⟨_,rfl⟩
 have capw:capd wa:=⟨w,hwr,hw1,hwa⟩
 let gx:Array Value->Array Value:=λx=>x.map (ren λ_=>r w)
 -- what is said between two rounds
 let Lv:LoopState->Option Code->World->Prop:=λst pe V=>V.heap[l]? = some (.loop (rec st pe))/\∀ D∈mks,V.heap[D]? = some (.deferred (some []))
 let XX:Nat->(Nat->Prop)->World->Prop:=λc S V=>(∀ k,So k->S k)/\(∀ D∈ms,S D)/\S l/\(∀ D∈mks,S D)/\(∀ k,S k->¬capd k) /\
  ((c<=N/\∃ hq,I c hq/\(∀ x,B<=x->hq x=none)/\∃ rc,(∀ i,dom hq i->i≠w->S (rc i))/\rc w=wa/\zmp S V (λV'=>V'.heap[wa]? = some (ob c).obj0->Own0 C d So ms s.yc a rc tsE hq V'/\Lv .ready none V')) \/
  (c=N+1/\∃ e hpE BE rc,((pn=none/\(zbk e).isSome=true)\/∃ pv,pn=some pv/\e=.panic [{ v:=pv,recovered:=false }])/\K e ⟨tsE,hpE,BE,s.yc⟩/\(∀ x,BE<=x->hpE x=none)/\100<=BE/\zmp S V (λV'=>V'.heap[wa]? = some (ob c).obj0->Own0 C d So ms s.yc a rc tsE hpE V'/\(∀ D∈mks,V'.heap[D]? = some (.deferred (some [])))/\∀ j,zbk e=some j->Lv .done (some j) V')))
 let E:Ext:=⟨XX,λc S V V' h hs os tape output size=>⟨h.1,h.2.1,h.2.2.1,h.2.2.2.1,h.2.2.2.2.1,h.2.2.2.2.2.imp (λ⟨hc,hq,hI,hf,rc,h1,h3,h2⟩=>⟨hc,hq,hI,hf,rc,h1,h3,h2.trans (λ_ h=>h) hs os tape output size⟩)
  (λ⟨hc,e,hpE,BE,rc,h1,h2,h3,h4,h6⟩=>⟨hc,e,hpE,BE,rc,h1,h2,h3,h4,h6.trans (λ_ h=>h) hs os tape output size⟩)⟩⟩
 have sub:∀ i,dom (hpS) i->dom s.hp i:=λi hd=>by
  have hhp:hpS i=none\/hpS i=s.hp i:=by
   by_cases hk:100<=i
   ·exact hw.hp i hk
   ·exact .inr ((hw.glob i (by omega)).trans (hi0.ri.glob i (by omega)).symm)
  rcases hhp with e|e
  ·exact absurd e hd
  ·have e:hpS i=s.hp i:=e
   unfold dom at *;rw [<-e];exact hd
 have own0:Own0 C d So ms s.yc a r tsE (hpS) W1:=⟨hi.ri.rel,λk b hk=>⟨(hb1.block _ (hi.ri.lt (k:=k) (by unfold dom;show hpS k≠none;rw [hk];simp))).trans (hi.ri.sat k b hk).1,(hi.ri.sat k b hk).2⟩,hi.ri.inj,
  C.E.ok _ _ _ _ hX0 (λk hk=>hb1.block k (hSo k hk)) hb1.os hb1.tape hb1.output hb1.size,λi hd h1=>hsep i (sub i hd) h1,
  λD hD=>(hb1.block D (Array.getElem?_eq_some_iff.1 (hms D hD).1).1).trans (hms D hD).1,hi.ri.keep,hi.ri.glob,hi.ri.low⟩
 have incap:∀ i,dom s.hp i->capd (r i)->i∈rs:=λi hd ⟨j,hj,_,e⟩=>by
  have:=hi0.ri.inj j i (hdis j hj).2 hd e
  exact this▸hj
 let S1:Nat->Prop:=λk=>k<W1.heap.size/\¬capd k
 have capSmall:∀ k,capd k->k<W.heap.size:=λk ⟨i,hi1,_,e⟩=>e▸hi0.ri.lt (hdis i hi1).2
 have s1So:∀ k,So k->S1 k:=λk hk=>⟨by have:=hSo k hk;omega,λ⟨i,hi1,h1,e⟩=>hsep i (hdis i hi1).2 h1 (e▸hk)⟩
 have s1ms:∀ D∈ms,S1 D:=λD hD=>⟨by have:=(Array.getElem?_eq_some_iff.1 (hms D hD).1).1;omega,λ⟨i,hi1,_,e⟩=>hi0.ri.ne_mark (hdis i hi1).2 (hms D hD).1 e⟩
 have s1l:S1 l:=⟨by omega,λhc=>by have:=capSmall _ hc;omega⟩
 have s1D:∀ D∈mks,S1 D:=λD hD=>⟨(Array.getElem?_eq_some_iff.1 (hK1 D hD).2).1,λhc=>by have:=capSmall _ hc;have:=(hK1 D hD).1;omega⟩
 have s1hp:∀ i,dom (hpS) i->i≠w->S1 (r i):=λi hd hne=>⟨by have:=hi0.ri.lt (sub i hd);omega,λhc=>hd ((hdis i (incap i (sub i hd) hc)).1 hne)⟩
 have hw0:hpS w=some (ob 0):=hob 0 _ h0
 have hwW:W1.heap[wa]? = some (ob 0).obj0:=by
  have:=(own0.sat w _ hw0).1
  rw [hwa,(hit.flat 0).1 r] at this
  exact this
 have X0:XX 0 S1 W1:=⟨s1So,s1ms,s1l,s1D,λk hk=>hk.2,.inl ⟨Nat.zero_le _,hpS,h0,hw.free,r,s1hp,hwa,λV k1 k2 k3 k4 k5 hV=>⟨own0.supp (S:=λk=>S1 k\/k=wa) (λk hk=>.inl (s1So k hk)) (λi hd=>by
  by_cases c:i=w
  ·exact .inr (by rw [c,hwa])
  ·exact .inl (s1hp i hd c)) (λD hD=>.inl (s1ms D hD)) V (λk hk=>hk.elim (k1 k) λe=>by rw [e,hV,hwW]) k2 k3 k4 k5,(k1 l s1l).trans hL1,λD hD=>(k1 D (s1D D hD)).trans (hK1 D hD).2⟩⟩⟩
 have gokOf:∀ {rc:Nat->Nat} {hpc:Hp} {V:World},Sat rc (dom hpc) hpc V->(∀ k,k<100->hpc k=C.G k)->(∀ k,k<100->dom hpc k->rc k=k)->GOK C.G V:=λ{rc hpc V} h1 h2 h3 k b hk=>by
  obtain ⟨hlt,hfl⟩:=hi0.flat k b hk
  have hb:hpc k=some b:=(h2 k hlt).trans hk
  have h9:=(h1 k b hb).1
  rw [h3 k hlt (by unfold dom;rw [hb];simp)] at h9
  rw [h9]
  rw [Blk.obj_flat (λx hx=>hfl x hx)]
 -- one round
 have hround:zft P C.G E ⟨l,xs.map gx,N,pn,some ⟨w,r w,ob⟩⟩:=by
  intro c x S V hgok hx hc hXc hSV hhas
  replace hhas:V.heap[wa]? = some (ob c).obj0:=by rw [<-hwa];exact hhas
  obtain ⟨xg,hxg,hxe⟩:∃ xg,xs[c]? = some xg/\gx xg=x:=by
   have hx':(xs.map gx)[c]? = some x:=hx
   rw [List.getElem?_map,Option.map_eq_some_iff] at hx'
   exact hx'
  subst hxe
  obtain ⟨kSo,kms,kl,kD,kcap,hcase⟩:=hXc
  have hcN:c<=N:=hc
  obtain ⟨hc',hq,hI,hfreeC,rc,hrcS,hrw,hsupp⟩:c<=N/\∃ hq,I c hq/\(∀ x,B<=x->hq x=none)/\∃ rc,(∀ i,dom hq i->i≠w->S (rc i))/\rc w=wa/\zmp S V (λV'=>V'.heap[wa]? = some (ob c).obj0->Own0 C d So ms s.yc a rc tsE hq V'/\Lv .ready none V'):=by
   rcases hcase with h|h
   ·exact h
   ·omega
  obtain ⟨hown,hl,hD⟩:=hsupp.here hhas
  have hxm:=hxs xg (List.mem_of_getElem? hxg)
  have hy:=run_yield (P:=P) (args:=gx xg) hl (by rw [hrec];simpa [gx] using hxm.1)
  have hwaV:wa<V.heap.size:=(Array.getElem?_eq_some_iff.1 hhas).1
  have hnSw:¬S wa:=λhS=>kcap _ hS capw
  -- the places of a round: S,and w's
  let SW:Nat->Prop:=λk=>S k\/k=wa
  have hSVW:∀ k,SW k->k<V.heap.size:=λk hk=>hk.elim (hSV k) λe=>by rw [e];exact hwaV
  have hrcW:∀ i,dom hq i->SW (rc i):=λi hd=>by
   by_cases ci:i=w
   ·exact .inr (by rw [ci,hrw])
   ·exact .inl (hrcS i hd ci)
  rw [hrec] at hy
  refine ⟨fn,_,assign,body,hy,zd5 ⟨fnn,hfnn⟩ hfnn ?_⟩
  have hdw:dom hq w:=by unfold dom;rw [hob c hq hI];simp
  have hrel:=zps (r:=rc) (D:=dom hq) (w:=w) (g:=ren λ_=>r w) (ps.toList.zip xg.toList) tsE a.tmps (λp hp1=>⟨by rw [hi0.ri.size];exact hps _ (by simpa using (List.of_mem_zip hp1).1),hxm.2 _ (by simpa using (List.of_mem_zip hp1).2)⟩) hdw (λv hv=>by rw [hwa];exact ztj hv hrw) hown.ri
  have htm:(ps.zip (gx xg)).foldl (λt (p:Tmp×Value)=>t.setIfInBounds p.1 p.2) a.tmps=(ps.toList.zip xg.toList).foldl (λt (p:Tmp×Value)=>t.setIfInBounds p.1 (ren (λ_=>r w) p.2)) a.tmps:=by
   rw [<-Array.foldl_toList,Array.toList_zip]
   simp only [gx,Array.toList_map]
   rw [List.zip_map_right,List.foldl_map]
   rfl
  have hsize:((ps.zip (gx xg)).foldl (λt (p:Tmp×Value)=>t.setIfInBounds p.1 p.2) a.tmps).size=n:=by
   rw [htm,zf2,hi0.ri.size]
  let im:Nat->Prop:=imO rc hq
  let RR:Ending->World->Prop:=λe W'=>(match (YG.mk l (xs.map gx) N pn (some ⟨w,r w,ob⟩)).pan c with|none=>e=.returned (.bool (c != N))|some pv=>e=.panicked [{ v:=pv,recovered:=false }])/\GOK C.G W'/\V.heap.size<=W'.heap.size/\(∀ k,k<V.heap.size->¬S k->¬(YG.mk l (xs.map gx) N pn (some ⟨w,r w,ob⟩)).at k->W'.heap[k]? = V.heap[k]?)/\(YG.mk l (xs.map gx) N pn (some ⟨w,r w,ob⟩)).has (c+1) W' /\
      ∃ S',XX (c+1) S' W'/\(∀ k,S' k->k<W'.heap.size)/\∀ k,S' k->k<V.heap.size->S k
  -- the assignment to the loop's variables
  let C1:Ctx:=⟨zdt V im,hq,rc,C.G,none⟩
  have ltV:∀ i,dom hq i->rc i<V.heap.size:=λi hd=>hSVW _ (hrcW i hd)
  have gi1:GI P C1 n [] rc ⟨zav ps.toList xg.toList tsE,hq,B,0⟩ { tmps:=(ps.zip (gx xg)).foldl (λt (p:Tmp×Value)=>t.setIfInBounds p.1 p.2) a.tmps,defers:=[] } V:=by
   refine ⟨⟨hsize,?_,hown.sat,hown.inj,⟨λk=>k<V.heap.size/\¬im k,[],⟨λ_=>Iff.rfl,rfl,rfl,rfl,Nat.le_refl _,λ_ _=>rfl⟩,λk hk=>hk.1,λi hd _ hS=>hS.2 ⟨i,hd,rfl⟩,⟨rfl,List.nodup_nil⟩,by simp⟩,λi hd=>⟨hd,rfl⟩,hown.glob,hown.low⟩,hfreeC,hw.low,hi0.flat,λy hy=>by cases hy⟩
   rw [htm];exact hrel
  have hSol:¬So l:=λh=>by have:=hSo _ h;omega
  -- a round's frame,from its assignment on
  have both:∀ (Kb:Exit->GS->Prop),GW P C1 n [] (some l) assign ⟨zav ps.toList xg.toList tsE,hq,B,0⟩ (zbx (λs1=>∀ C2:Ctx,C2.G=C.G->C2.hp0=hq->C2.Y=none->GW P C2 n [] (some l) body s1 Kb) (λ_ _=>False)) ->
    (∀ e s2 (r2:Nat->Nat) (V1 V2:World) (a1 a2:Act) (r1:Nat->Nat) (ts1:Nat->Value) (hp1:Hp) (y1:Nat) (D1:Nat->Prop),(∀ k,k<V.heap.size->D1 k->imO r1 hp1 k)->¬D1 l->Kb e s2->RI ⟨zdt V im,hq,rc,C.G,none⟩ n [] r1 ts1 hp1 y1 a1 V1 ->
     GI P ⟨zdt (V1.putObj l (.loop (rec .busy none))) D1,hq,rc,C.G,none⟩ n [] r2 s2 a2 V2->zdu (Fs P) 0 P fnn l RR e a2 V2) ->
    assign.wpIn ((Fs P).inRound l) 0 P (Exit.then (λa₁ w₁=>∃ w₂,(Instr.beginRound l).run P w₁=.ok () w₂/\body.wpIn ((Fs P).inRound l) 0 P (zdu (Fs P) 0 P fnn l RR) a₁ w₂) (λ_ _ _=>False))
     { tmps:=(ps.zip (gx xg)).foldl (λt (p:Tmp×Value)=>t.setIfInBounds p.1 p.2) a.tmps,defers:=[] } V:=λKb hgw hend=>by
   refine wpIn_mono (hgw rc _ V gi1) ?_
   rintro e a1 V1 ⟨s1,r1,hk1,gi⟩
   cases e with
   | normal =>
    obtain ⟨T1,m1,⟨hT1,os1,tp1,ou1,sz1,sm1⟩,hT1s,sep1,df1,dm1⟩:=gi.ri.ext
    have hl1:V1.heap[l]? = some (.loop (rec .ready none)):=by
     rw [sm1 l ((hT1 l).2 ⟨hSV l kl,?_⟩)]
     ·exact hl
     ·rintro ⟨i,hd,e⟩
      unfold dom at hd
      cases hb:hq i with
      | none=>exact hd hb
      | some b=>have:=(hown.sat i b hb).1;rw [e,hl] at this;exact (Blk.obj_loop this).elim
    refine ⟨_,run_beginRound hl1 (by rw [hrec]),?_⟩
    have hrb:{ rec .ready none with state:=.busy }=rec .busy none:=by rw [hrec]
    rw [hrb]
    have hlt1:l<V1.heap.size:=(Array.getElem?_eq_some_iff.1 hl1).1
    let D1:Nat->Prop:=λk=>imO r1 s1.hp k\/k∈m1
    let C2:Ctx:=⟨zdt (V1.putObj l (.loop (rec .busy none))) D1,hq,rc,C.G,none⟩
    have gi2:GI P C2 n [] r1 s1 a1 (V1.putObj l (.loop (rec .busy none))):=by
     refine ⟨⟨gi.ri.size,gi.ri.rel,λk b hk=>⟨(World.putObj_heap_other (λe=>gi.ri.not_loop hl1 ⟨k,by unfold dom;rw [hk];simp,e⟩)).trans (gi.ri.sat k b hk).1,(gi.ri.sat k b hk).2⟩,gi.ri.inj,
      ⟨λk=>k<(V1.putObj l (.loop (rec .busy none))).heap.size/\¬D1 k,m1,⟨λ_=>Iff.rfl,rfl,rfl,rfl,Nat.le_refl _,λ_ _=>rfl⟩,λk hk=>hk.1,λi hd _ hS=>hS.2 (.inl ⟨i,hd,rfl⟩),df1,λD hD=>⟨?_,(λhS=>hS.2 (.inr hD)),λh=>nomatch h⟩⟩,
      λi hd=>gi.ri.keep i hd,gi.ri.glob,gi.ri.low⟩,gi.free,gi.low,gi.flat,λy hy=>by cases hy⟩
     rw [World.putObj_heap_other (λe=>?_)]
     ·exact (dm1 D hD).1
     ·have:=(dm1 D hD).1;rw [e,hl1] at this;cases this
    refine wpIn_mono (hk1 C2 rfl rfl rfl r1 a1 _ gi2) ?_
    rintro e2 a2 V2 ⟨s2,r2,hk2,gi3⟩
    refine hend e2 s2 r2 V1 V2 a1 a2 r1 s1.ts s1.hp s1.yc D1 (λk hk hD=>?_) (λhD=>?_) hk2 gi.ri gi3
    ·rcases hD with h|h
     ·exact h
     ·have h2:=(dm1 k h).2.1
      rw [hT1] at h2
      obtain ⟨i,hd,e⟩:=Classical.byContradiction λhc=>h2 ⟨hk,hc⟩
      have h3:=(dm1 k h).1
      by_cases h100:100<=i
      ·have:dom s1.hp i/\r1 i=rc i:=gi.ri.keep i hd
       exact ⟨i,this.1,this.2.trans e⟩
      ·have:dom s1.hp i/\r1 i=rc i:=gi.ri.keep i hd
       exact ⟨i,this.1,this.2.trans e⟩
    ·rcases hD with h|h
     ·exact gi.ri.not_loop hl1 h
     ·have:=(dm1 l h).1;rw [hl1] at this;cases this
   | _=>exact hk1.elim
  -- what a round leaves,put together
  have post:∀ (st:LoopState) (pe:Option Code) (r2:Nat->Nat) (V1 V2:World) (a1 a2:Act) (r1:Nat->Nat) (ts1 ts2:Nat->Value) (hp1 hp2:Hp) (y1 y2:Nat) (D1:Nat->Prop),(∀ k,k<V.heap.size->D1 k->imO r1 hp1 k)->¬D1 l->RI ⟨zdt V im,hq,rc,C.G,none⟩ n [] r1 ts1 hp1 y1 a1 V1 ->
    RI ⟨zdt (V1.putObj l (.loop (rec .busy none))) D1,hq,rc,C.G,none⟩ n [] r2 ts2 hp2 y2 a2 V2 ->
    V2.heap[l]? = some (.loop (rec .busy none))/\GOK C.G (V2.putObj l (.loop (rec st pe)))/\V.heap.size<=(V2.putObj l (.loop (rec st pe))).heap.size/\(∀ k,k<V.heap.size->¬S k->k≠wa->(V2.putObj l (.loop (rec st pe))).heap[k]? = V.heap[k]?)/\r2 w=wa /\
    Own0 C d So ms s.yc a r2 tsE hp2 (V2.putObj l (.loop (rec st pe)))/\∃ S':Nat->Prop,(∀ k,So k->S' k)/\(∀ D∈ms,S' D)/\S' l/\(∀ D∈mks,S' D)/\(∀ i,dom hp2 i->i≠w->S' (r2 i))/\zmp S' (V2.putObj l (.loop (rec st pe))) (λV'=>V'.heap[wa]? = (V2.putObj l (.loop (rec st pe))).heap[wa]?->Own0 C d So ms s.yc a r2 tsE hp2 V'/\Lv st pe V') /\
     (∀ k,S' k->k<(V2.putObj l (.loop (rec st pe))).heap.size)/\(∀ k,S' k->k<V.heap.size->S k):=λst pe r2 V1 V2 a1 a2 r1 ts1 ts2 hp1 hp2 y1 y2 D1 hD1 hD1l ri1 ri2=>by
   obtain ⟨_,q1,q2,q3,q4,q5,q6⟩:=zkt (S:=SW) (L2:=rec st pe) hi0.flat hown hSol hSVW (λk hk=>.inl (kSo k hk)) (λD hD=>.inl (kms D hD)) hrcW hl ri1 hD1 hD1l ri2
   have hr2:r2 w=wa:=((ri2.keep w hdw).2).trans hrw
   have sz:(V2.putObj l (.loop (rec st pe))).heap.size=V2.heap.size:=zbz _ _ _
   have hnim:∀ k,¬S k->k≠wa->¬imO rc hq k:=λk hk hk2 ⟨i,hd,e⟩=>(hrcW i hd).elim (λh=>hk (e▸h)) λh=>hk2 (e.symm.trans h)
   have hold:∀ i,dom hp2 i->i≠w->V.heap.size<=r2 i\/S (r2 i):=λi hd hne=>(q3 i hd).imp id λh=>h.resolve_right λe=>hne (ri2.inj i w hd (ri2.keep w hdw).1 (e.trans hr2.symm))
   refine ⟨q1,q6,by rw [sz];exact q4,λk hk hnS hk2=>q5 k hk (hnim k hnS hk2) (λe=>hnS (e▸kl)),hr2,q2,λk=>S k\/(V.heap.size<=k/\k<V2.heap.size),λk hk=>.inl (kSo k hk),λD hD=>.inl (kms D hD),.inl kl,(λD hD=>.inl (kD D hD)),λi hd hne=>?_,?_,λk hk=>?_,λk hk hlt=>?_⟩
   ·rcases hold i hd hne with h|h
    ·exact .inr ⟨h,by
      unfold dom at hd
      cases hb:hp2 i with
      | none=>exact absurd hb hd
      | some b=>have:=(Array.getElem?_eq_some_iff.1 (q2.sat i b hb).1).1;rwa [sz] at this⟩
    ·exact .inl h
   ·have hD0:∀ D∈mks,(V2.putObj l (.loop (rec st pe))).heap[D]? = some (.deferred (some [])):=λD0 hm=>by
     rw [q5 D0 (hSV D0 (kD D0 hm)) (λ⟨i,hd',e⟩=>by
      unfold dom at hd'
      cases hb:hq i with
      | none=>exact hd' hb
      | some b=>have:=(hown.sat i b hb).1;rw [e,hD D0 hm] at this;exact (Blk.obj_def this).elim) (λe=>by have:=hD D0 hm;rw [e,hl] at this;cases this)]
     exact hD D0 hm
    have hlt2:l<V2.heap.size:=(Array.getElem?_eq_some_iff.1 q1).1
    refine λV' k1 k2 k3 k4 k5 hV'=>⟨q2.supp (S:=λk=>(S k\/(V.heap.size<=k/\k<V2.heap.size))\/k=wa) (λk hk=>.inl (.inl (kSo k hk))) (λi hd=>?_) (λD hD=>.inl (.inl (kms D hD))) V' (λk hk=>hk.elim (k1 k) λe=>by rw [e];exact hV') k2 k3 k4 k5,(k1 l (.inl kl)).trans (World.putObj_heap_same hlt2),λD hm=>(k1 D (.inl (kD D hm))).trans (hD0 D hm)⟩
    by_cases hne:i=w
    ·exact .inr (by rw [hne];exact hr2)
    rcases hold i hd hne with h|h
    ·exact .inl (.inr ⟨h,by
      unfold dom at hd
      cases hb:hp2 i with
      | none=>exact absurd hb hd
      | some b=>have:=(Array.getElem?_eq_some_iff.1 (q2.sat i b hb).1).1;rwa [sz] at this⟩)
    ·exact .inl (.inl h)
   ·rw [sz]
    rcases hk with h|h
    ·exact Nat.lt_of_lt_of_le (hSV k h) q4
    ·exact h.2
   ·exact hk.resolve_right (by omega)
  have capN:∀ S':Nat->Prop,(∀ k,S' k->k<V.heap.size->S k)->∀ k,S' k->¬capd k:=λS' h12 k hk hc=>by
   by_cases hlt:k<V.heap.size
   ·exact kcap k (h12 k hk hlt) hc
   ·have h5:=capSmall k hc
    have h6:=hSV l kl
    exact hlt (by omega)
  by_cases hcn:c<N
  ·refine both _ (rounds c xg hq hcn hxg hI C1 l rfl rfl rfl) ?_
   intro e s2 r2 V1 V2 a1 a2 r1 ts1 hp1 y1 D1 hD1 hD1l hk ri1 gi2
   cases e with
   | normal =>
    obtain ⟨ρ,hq',hwk,hI',hρw⟩:=hk
    obtain ⟨p1,p2,p3,p4,pw,po,S',p5,p6,p7,p8,p9,p10,p11,p12⟩:=post .ready none r2 V1 V2 a1 a2 r1 ts1 _ hp1 _ y1 _ D1 hD1 hD1l ri1 gi2.ri
    have hend:=run_endRound (P:=P) none p1
    have hobW:(V2.putObj l (.loop (rec .ready none))).heap[wa]? = some (ob (c+1)).obj0:=by
     have h9:=((po.rename hwk).sat w _ (hob _ _ hI')).1
     simp only [hρw,pw] at h9
     rw [(hit.flat (c+1)).1] at h9
     exact h9
    rw [hrec] at hend p2 p3 p4 p10 p11 hobW
    refine ⟨_,_,hend,?_,p2,p3,(λk hk hS hat=>p4 k hk hS (λe=>hat (by unfold YG.at;exact e.trans hwa.symm))),(by unfold YG.has;simp only [hwa];exact hobW),S',⟨p5,p6,p7,p8,capN S' p12,.inl ⟨hcn,hq',hI',hwk.free,λk=>r2 (ρ k),λi hd hne=>p9 (ρ i) (hwk.subd (λk hk=>gi2.ri.glob k hk) i hd) (λe=>hne (hwk.inj i w hd (by show hq' w≠none;rw [hob _ _ hI'];simp) (e.trans hρw.symm))),by show r2 (ρ w)=wa;rw [hρw,pw],?_⟩⟩,p11,p12⟩
    ·have h1:(YG.mk l (xs.map gx) N pn (some ⟨w,r w,ob⟩)).pan c=none:=by
      show (if c=N then pn else none)=none
      rw [if_neg (by omega)]
     have h2:(c != N)=true:=by simp;omega
     rw [h1,h2];rfl
    ·intro V' k1 k2 k3 k4 k5 hV'
     have:=p10 V' k1 k2 k3 k4 k5 (hV'.trans hobW.symm)
     exact ⟨this.1.rename hwk,by simpa [hrec] using this.2⟩
   | _=>exact hk.elim
  ·obtain rfl:c=N:=by omega
   have hpanN:(YG.mk l (xs.map gx) c pn (some ⟨w,r w,ob⟩)).pan c=pn:=by
    show (if c=c then pn else none)=pn
    rw [if_pos rfl]
   cases pn with
   | none =>
    rcases fin with ⟨e,_⟩|⟨x',hx',hfin⟩
    ·obtain ⟨h9,_⟩:=List.getElem?_eq_some_iff.1 hxg;have h9:c<xs.length:=h9;omega
    ·rw [hxg] at hx';cases hx'
     refine both _ (hfin hq hI C1 l rfl rfl rfl) ?_
     intro e s2 r2 V1 V2 a1 a2 r1 ts1 hp1 y1 D1 hD1 hD1l hk ri1 gi2
     obtain ⟨hk1,hk2,hkw,hk3⟩:=hk
     cases ho:zbk e with
     | none=>rw [ho] at hk1;cases hk1
     | some j =>
      obtain ⟨p1,p2,p3,p4,pw,po,S',p5,p6,p7,p8,p9,p10,p11,p12⟩:=post .done (some j) r2 V1 V2 a1 a2 r1 ts1 _ hp1 _ y1 _ D1 hD1 hD1l ri1 gi2.ri
      have hend:=run_endRound (P:=P) (some j) p1
      have hobW:(V2.putObj l (.loop (rec .done (some j)))).heap[wa]? = some (ob (c+1)).obj0:=by
       have h9:=(po.sat w _ hkw).1
       rw [pw,(hit.flat (c+1)).1] at h9
       exact h9
      rw [hrec] at hend p2 p3 p4 p10 p11 hobW
      have hR:∃ v w',(Instr.endRound l (some j)).run P V2=.ok v w'/\RR (.returned v) w':=by
       refine ⟨_,_,hend,?_,p2,p3,(λk hk hS hat=>p4 k hk hS (λe=>hat (by unfold YG.at;exact e.trans hwa.symm))),(by unfold YG.has;simp only [hwa];exact hobW),S',⟨p5,p6,p7,p8,capN S' p12,.inr ⟨rfl,e,s2.hp,s2.B,r2,.inl ⟨rfl,hk1⟩,hk3,gi2.free,gi2.low,?_⟩⟩,p11,p12⟩
       ·rw [hpanN];simp
       ·intro V' k1 k2 k3 k4 k5 hV'
        obtain ⟨q1,q2⟩:=p10 V' k1 k2 k3 k4 k5 (hV'.trans hobW.symm)
        refine ⟨q1,q2.2,λj' hj'=>?_⟩
        rw [ho] at hj';cases hj'
        simpa [hrec] using q2
      cases e<;>simp only [zbk,Option.some.injEq,reduceCtorEq] at ho
      ·subst ho;exact hR
      ·subst ho;exact hR
      ·subst ho;exact hR
   | some pv=>cases hpn
 -- behind the iterator
 refine ⟨l,mks.map zwr,W1,{ target:=.fn (.func f) (caps.map (ren r)),args:=#[.func (.yield l) #[] #[]] },W1,f,#[Value.func (.yield l) #[] #[]]++caps.map (ren r),W1,?_,?_,λf' hf'=>?_,?_,λh=>(by cases h),?_⟩
 ·exact hent
 ·simp only [resolve,hcapv]
  simp [go_sem,Act.eval]
 ·simp [Target.leads] at hf'
  subst hf'
  exact zff (hit.enter #[] default)
 ·simp [invoke,go_sem,hit.enter]
 ·have hsat1:Sat r (dom (rst s.hp rs)) (rst s.hp rs) W1:=λk b hk=>⟨(hb1.block _ (hi0.ri.lt (k:=k) (by unfold dom;rw [zda hk];simp))).trans (hi0.ri.sat k b (zda hk)).1,hit.closed k b hk⟩
  have hsubr:∀ k,dom (rst s.hp rs) k->dom s.hp k:=λk hk=>by
   unfold dom at *
   cases hb:rst s.hp rs k with
   | none=>exact absurd hb hk
   | some b=>rw [zda hb];simp
  subst hpn
  have hcalls:=hit.run E l N r S1 W1 (gokOf own0.sat own0.glob own0.low) hsat1 (λk l' hk hl=>hi0.ri.inj k l' (hsubr k hk) (hsubr l' hl)) (λk hk hd=>hi0.ri.low k hk (hsubr k hd)) hround X0 (λk hk=>hk.1) (λi hd h1 hS=>hS.2 ?_)
  ·refine CallsIn.mono (⟨hcalls.1,λcs _=>hcalls.2 cs (zd4 P _)⟩:CallsIn (Fw P ro) 0 P _ _ _ _) ?_
   rintro e V ⟨⟨v,rfl⟩,⟨S',hX⟩,hobV⟩
   obtain ⟨kSo,kms,kl,kD,kcap,hcase⟩:=hX
   rw [hwa] at hobV
   have fini:∀ (st:LoopState) (pe:Option Code) (rc:Nat->Nat) (hpE:Hp) (BE:Nat),st≠.busy->(∀ x,BE<=x->hpE x=none)->100<=BE->Own0 C d So ms s.yc a rc tsE hpE V->Lv st pe V ->
     (Instr.endLoop l).run P V=.ok pe (V.putObj l (.loop { rec st pe with state:=.exhausted }))/\GI P C n d rc ⟨tsE,hpE,BE,s.yc⟩ { a with defers:=mks.map zwr++a.defers } (V.putObj l (.loop { rec st pe with state:=.exhausted })):=λst pe rc hpE BE hst hfree hBE hown ⟨hl,hD⟩=>by
    have hend:=run_endLoop (P:=P) hl (by rw [hrec];exact hst)
    refine ⟨by rw [hrec] at hend |-;exact hend,?_⟩
    have hlt:l<V.heap.size:=(Array.getElem?_eq_some_iff.1 hl).1
    have szV:∀ ob,(V.putObj l ob).heap.size=V.heap.size:=λob=>zbz _ _ _
    refine ⟨⟨hi0.ri.size,hown.ri,λk b hk=>⟨(World.putObj_heap_other (λe=>?_)).trans (hown.sat k b hk).1,(hown.sat k b hk).2⟩,hown.inj,
     ⟨So,mks++ms,C.E.ok _ _ _ _ hown.X (λk hk=>World.putObj_heap_other (λe=>by have:=hSo k hk;omega)) rfl rfl rfl (by rw [szV];exact Nat.le_refl _),λk hk=>by rw [szV];have:=hSo k hk;omega,hown.sep,⟨by simp [hdef],List.nodup_append.2 ⟨hmn,hnd,λD hm D' hm' e=>?_⟩⟩,λD hDm=>?_⟩,
     hown.keep,hown.glob,hown.low⟩,hfree,hBE,hi0.flat,hi0.rounds⟩
    ·have:=(hown.sat k b hk).1;rw [e,hl] at this;exact (Blk.obj_loop this).elim
    ·have h1:=(Array.getElem?_eq_some_iff.1 (hms D' hm').1).1
     have h2:=(hK1 D hm).1
     omega
    ·rcases List.mem_append.1 hDm with hDm|hDm
     ·exact ⟨(World.putObj_heap_other (λe=>by have:=hD D hDm;rw [e,hl] at this;cases this)).trans (hD D hDm),(λhS=>by have h1:=hSo _ hS;have h2:=(hK1 D hDm).1;omega),hYn⟩
     ·exact ⟨(World.putObj_heap_other (λe=>by have:=hown.mks D hDm;rw [e,hl] at this;cases this)).trans (hown.mks D hDm),(hms D hDm).2⟩
   rcases hcase with ⟨hc',hq,hI,hfree,rc,hrcS,hrw,hsupp⟩|⟨hc',e,hpE,BE,rc,ho,hk,hfree,hBE,hsupp⟩
   ·obtain ⟨hown,hLv⟩:=hsupp.here hobV
    have hNl:N=xs.length:=by omega
    have hmin:min (N+1) xs.length=N:=by omega
    rw [hmin] at hI
    obtain ⟨f1,f2⟩:=fini .ready none rc hq B (by simp) hfree hw.low hown hLv
    rcases fin with ⟨_,hK⟩|⟨x',hx',_⟩
    ·exact ⟨none,_,f1,_,rc,hK hq hI,f2⟩
    ·obtain ⟨h9,_⟩:=List.getElem?_eq_some_iff.1 hx';omega
   ·obtain ⟨hown,_,hLv⟩:=hsupp.here hobV
    rcases ho with ⟨_,ho⟩|⟨pv,h1,_⟩
    ·cases hoj:zbk e with
     | none=>rw [hoj] at ho;cases ho
     | some j =>
      obtain ⟨f1,f2⟩:=fini .done (some j) rc hpE BE (by simp) hfree hBE hown (hLv j hoj)
      refine ⟨some j,_,f1,?_⟩
      cases e<;>simp only [zbk,Option.some.injEq,reduceCtorEq] at hoj
      ·subst hoj;exact wpIn_exit ⟨_,rc,hk,f2⟩
      ·subst hoj;exact wpIn_goto ⟨_,rc,hk,f2⟩
      ·subst hoj;exact wpIn_ret ⟨_,rc,hk,f2⟩
    ·cases h1
  ·refine ⟨i,?_,h1,rfl⟩
   unfold dom rst at hd
   split at hd
   ·rename_i h;exact h.resolve_left (by omega)
   ·exact absurd rfl hd
theorem zww {ro:Option Nat} (hro:∀ l0,ro=some l0->zfs C l0) {t:Tmp} {ps:Array Tmp} {assign body:Code} {f:FuncId} {caps:Array Value} {rs:List Nat} {xs:List (Array Value)} (hY:C.Y=none) (hg:s.ts t=.func (.func f) #[] caps) {w:Nat} {ob:Nat->Blk} (hit:IterS P C.G f caps s.hp rs w ob xs) (hwr:w∈rs) (hw1:100<=w)
  (hxs:∀ x∈xs,x.size=ps.size/\∀ v∈x,zqc w v=true) (hps:∀ p∈ps,p<n) (tsE:Nat->Value) (I:Nat->Hp->Prop) {hpS:Hp} (B:Nat) (N:Nat) (hN:N<=xs.length)
  (hw:Weak C s ⟨tsE,hpS,B,s.yc⟩) (h0:I 0 hpS) (hob:∀ c hq,I c hq->hq w=some (ob c)) (hdis:∀ k∈rs,(k≠w->hpS k=none)/\dom s.hp k)
  (rounds:∀ i x hq,i<N->xs[i]? = some x->I i hq->∀ (C1:Ctx) (l:Nat),C1.G=C.G->C1.hp0=hq->C1.Y=none->GW P C1 n [] (some l) assign ⟨zav ps.toList x.toList tsE,hq,B,0⟩
   (zbx (λs1=>∀ C2:Ctx,C2.G=C.G->C2.hp0=hq->C2.Y=none->GW P C2 n [] (some l) body s1 (zbx (λs2=>∃ ρ hq',WeakR C ρ ⟨tsE,s2.hp,s2.B,s.yc⟩ ⟨tsE,hq',B,s.yc⟩/\I (i+1) hq'/\ρ w=w) (λ_ _=>False))) (λ_ _=>False)))
  (fin:(N=xs.length/\∀ hq,I N hq->K .normal ⟨tsE,hq,B,s.yc⟩)\/∃ x,xs[N]? = some x/\∀ hq,I N hq->∀ (C1:Ctx) (l:Nat),C1.G=C.G->C1.hp0=hq->C1.Y=none->GW P C1 n [] (some l) assign ⟨zav ps.toList x.toList tsE,hq,B,0⟩
    (zbx (λs1=>∀ C2:Ctx,C2.G=C.G->C2.hp0=hq->C2.Y=none->GW P C2 n [] (some l) body s1 (λe s2=>(zbk e).isSome=true/\(∀ t,zap (dom s2.hp) (tsE t))/\s2.hp w=some (ob (N+1))/\K e ⟨tsE,s2.hp,s2.B,s.yc⟩)) (λ_ _=>False))) :
  GW P C n d ro (.rangeFunc (.tmp t) ps assign body) s K:=λr a W hi=>zz1 hro hg hit hwr hw1 hxs hps tsE I B N hN hw h0 hob hdis rounds fin (by rw [hY];simp) hi
end
section
variable {P:Program} {G:Hp}
variable {C:Ctx} {n:Nat} {d:List Deferred} {s:GS} {K:Exit->GS->Prop}
theorem zic {ro:Option Nat} (hro:∀ l0,ro=some l0->zfs C l0) {t:Tmp} {ps:Array Tmp} {assign body:Code} {f:FuncId} {caps:Array Value} {rs:List Nat} {xs:List (Array Value)} {w:Nat} {ob:Nat->Blk} {m0:List (Nat×Blk)} (hGF:zbo G) (hG:C.G=G) (h0:C.hp0=hpL G m0) (hY:C.Y=none) (hg:s.ts t=.func (.func f) #[] caps) (hit:IterS P G f caps s.hp rs w ob xs) (hwr:w∈rs) (hw1:100<=w)
  (hxs:∀ x∈xs,x.size=ps.size/\∀ v∈x,zqc w v=true) (hps:∀ p∈ps,p<n) (l:List (Nat×Value)) (m:Nat->List (Nat×Blk)) (B:Nat) (N:Nat) (hN:N<=xs.length) (hB:100<=B)
  (hdis:∀ k∈rs,(k≠w->hpL G (m 0) k=none)/\dom s.hp k) (hl:∀ p∈l,s.ts p.1=p.2)
  (hm0:∀ p∈m 0,s.hp p.1=some p.2) (hm:∀ i,i<=N->hpL G (m i) w=some (ob i)/\(∀ p∈l,zap (dom (hpL G (m i))) p.2)/\∀ p∈m i,100<=p.1/\p.1<B/\p.2.ids (dom (hpL G (m i))))
  (hk:∀ p∈m0,100<=p.1/\hpL G (m 0) p.1=s.hp p.1/\∀ i,i<=N->dom (hpL G (m i)) p.1)
  (rounds:∀ i x,i<N->xs[i]? = some x->∀ (C1:Ctx) (j:Nat),C1.G=G->C1.hp0=hpL G (m i)->C1.Y=none->GW P C1 n [] (some j) assign ⟨zav ps.toList x.toList (tsL l),hpL G (m i),B,0⟩
   (zbx (λs1=>∀ C2:Ctx,C2.G=G->C2.hp0=hpL G (m i)->C2.Y=none->GW P C2 n [] (some j) body s1 (zbx (λs2=>∀ p∈m (i+1),s2.hp p.1=some p.2) (λ_ _=>False))) (λ_ _=>False)))
  (fin:(N=xs.length/\K .normal ⟨tsL l,hpL G (m N),B,s.yc⟩)\/∃ x,xs[N]? = some x/\∀ (C1:Ctx) (j:Nat),C1.G=G->C1.hp0=hpL G (m N)->C1.Y=none->GW P C1 n [] (some j) assign ⟨zav ps.toList x.toList (tsL l),hpL G (m N),B,0⟩
    (zbx (λs1=>∀ C2:Ctx,C2.G=G->C2.hp0=hpL G (m N)->C2.Y=none->GW P C2 n [] (some j) body s1 (λe s2=>(zbk e).isSome=true/\(∀ p∈l,zap (dom s2.hp) p.2)/\s2.hp w=some (ob (N+1))/\K e ⟨tsL l,s2.hp,s2.B,s.yc⟩)) (λ_ _=>False))) :
  GW P C n d ro (.rangeFunc (.tmp t) ps assign body) s K:=by
 have keepW:∀ i,i<=N->∀ s2:GS,s2.yc=s.yc->(∀ p∈m i,s2.hp p.1=some p.2)->s2.ts=tsL l->WeakR C (λk=>k) s2 ⟨tsL l,hpL G (m i),B,s.yc⟩:=λi hi s2 hyc hs ht=>by
  refine ⟨λu=>?_,λk b hb h1=>⟨?_,h1⟩,λk b hb=>?_,λk q _ _ e=>e,λ_ _=>rfl,λk b _ _=>Blk.rn_id b,λk h1 hd=>⟨?_,rfl⟩,λk h1=>?_,hyc.symm,λx hx=>?_,hB⟩
  ·rcases zd7 (l:=l) (t:=u) with h|h
   ·exact .inl h
   ·by_cases hj:tsL l u=zcm
    ·exact .inl hj
    ·exact .inr ⟨by rw [ht,z7o],by rw [ht];exact hj,(hm i hi).2.1 _ h⟩
  ·rw [Blk.rn_id]
   rcases za5 hb with h|h
   ·exact hs _ h
   ·have:=(hGF k b h).1;omega
  ·rcases za5 hb with h|h
   ·exact ((hm i hi).2.2 _ h).2.2
   ·exact Blk.flat_ids (hGF k b h).2
  ·have h2:C.hp0 k≠none:=hd
   rw [h0] at h2
   cases hb:hpL G m0 k with
   | none=>exact absurd hb h2
   | some b =>
    rcases za5 hb with h|h
    ·exact (hk _ h).2.2 i hi
    ·have:=(hGF k b h).1;omega
  ·rw [hG];exact zbc (λp hp=>((hm i hi).2.2 p hp).1) h1
  ·dsimp only at hx |-
   cases hb:hpL G (m i) x with
   | none=>rfl
   | some b =>
    rcases za5 hb with h|h
    ·have:=((hm i hi).2.2 _ h).2.1;simp at this;omega
    ·have:=(hGF x b h).1;omega
 refine zww hro (rs:=rs) (xs:=xs) (ob:=ob) hY hg (hG.symm▸hit) hwr hw1 hxs hps (tsL l) (λi h=>i<=N/\h=hpL G (m i)) (hpS:=hpL G (m 0)) B N hN ?_ ⟨Nat.zero_le _,rfl⟩ (λc hq hI=>by rw [hI.2];exact (hm c hI.1).1) hdis (λi x hq hi hx hI C1 j c1 c2 c3=>?_) ?_
 ·have k0:=keepW 0 (Nat.zero_le _) ⟨tsL l,s.hp,s.B,s.yc⟩ rfl hm0 rfl
  refine ⟨λu=>?_,λk h1=>?_,k0.ids,λk h1 hd=>?_,k0.glob,rfl,k0.free,hB⟩
  ·rcases zd7 (l:=l) (t:=u) with h|h
   ·exact .inl h
   ·exact .inr ⟨(hl _ h).symm,(hm 0 (Nat.zero_le _)).2.1 _ h⟩
  ·dsimp only
   cases hb:hpL G (m 0) k with
   | none=>exact .inl rfl
   | some b =>
    rcases za5 hb with h|h
    ·exact .inr (hm0 _ h).symm
    ·have:=(hGF k b h).1;omega
  ·have h2:C.hp0 k≠none:=hd
   rw [h0] at h2
   cases hb:hpL G m0 k with
   | none=>exact absurd hb h2
   | some b =>
    rcases za5 hb with h|h
    ·exact (hk _ h).2.1
    ·have:=(hGF k b h).1;omega
 ·obtain ⟨_,rfl⟩:=hI
  refine zcb (rounds i x hi hx C1 j (c1.trans hG) c2 c3) λe s1 hs=>?_
  cases e with
  | normal =>
   intro C2 q1 q2 q3
   refine zcb (hs C2 (q1.trans hG) q2 q3) λe s2 hs2=>?_
   cases e with
   | normal=>exact ⟨λk=>k,_,keepW (i+1) hi ⟨tsL l,s2.hp,s2.B,s.yc⟩ rfl hs2 rfl,⟨hi,rfl⟩,rfl⟩
   | _=>exact hs2.elim
  | _=>exact hs.elim
 ·rcases fin with ⟨f1,f2⟩|⟨x,f1,f2⟩
  ·exact .inl ⟨f1,λhq hI=>by rw [hI.2];exact f2⟩
  ·refine .inr ⟨x,f1,λhq hI C1 j c1 c2 c3=>?_⟩
   obtain ⟨_,rfl⟩:=hI
   refine zcb (f2 C1 j (c1.trans hG) c2 c3) λe s1 hs=>?_
   cases e with
   | normal =>
    intro C2 q1 q2 q3
    refine zcb (hs C2 (q1.trans hG) q2 q3) λe s2 hs2=>⟨hs2.1,λu=>?_,hs2.2.2.1,hs2.2.2.2⟩
    rcases zd7 (l:=l) (t:=u) with h|h
    ·rw [h];simp [zcm,zap,zax,zah,zaj]
    ·exact hs2.2.1 _ h
   | _=>exact hs.elim
end
section
variable {P:Program} {G:Hp}
theorem IterS.rn {f:FuncId} {caps:Array Value} {hp hp':Hp} {rs:List Nat} {xs:List (Array Value)} (ρ:Nat->Nat) (hGF:zbo G) (hG:∀ k,k<100->hp k=G k) (h:Rn ρ hp hp' rs) {w:Nat} {ob:Nat->Blk} (hi:IterS P G f caps hp rs w ob xs):IterS P G f (caps.map (zan ρ)) hp' (rs.map ρ) (ρ w) ob (xs.map λx=>x.map (ren ρ)):=by
 have hpl:∀ x,zbr x=true->zbr (zan ρ x)=true:=λx hx=>by
  cases x with
  | pointer p=>cases p<;>rfl
  | slice p _ _=>cases p<;>rfl
  | map p=>cases p<;>rfl
  | _=>exact hx
 have bflat:∀ k b,k<100->hp k=some b->b.rn ρ=b:=λk b hk hb=>by
  have hg:G k=some b:=(hG k hk).symm.trans hb
  exact Blk.rn_flat (hGF k b hg).2
 have back:∀ k b,rst hp' (rs.map ρ) k=some b->∃ q c,rst hp rs q=some c/\ρ q=k/\b=c.rn ρ:=λk b hb=>by
  unfold rst at hb
  by_cases h1:k<100
  ·simp only [h1,true_or,if_true] at hb
   have hl:=h.low k h1
   rw [hl.2] at hb
   exact ⟨k,b,by simp [rst,h1,hb],hl.1,(bflat k b h1 hb).symm⟩
  ·by_cases hm:k∈rs.map ρ
   ·obtain ⟨q,hq,rfl⟩:=List.mem_map.1 hm
    simp only [hm,or_true,if_true] at hb
    have hq1:100<=q:=by
     by_cases hq1:100<=q
     ·exact hq1
     ·exact absurd (by rw [(h.low q (by omega)).1];omega) h1
    obtain ⟨c,e1,e2⟩:=h.at' q hq hq1
    rw [e2] at hb;cases hb
    exact ⟨q,c,by simp [rst,hq,e1],rfl,rfl⟩
   ·simp [h1,hm] at hb
 refine ⟨hi.enter,λx hx=>?_,λk b hb=>?_,hi.flat,λE l stop r S W hgok hsat hinj hlow hR hX hS hdis=>?_⟩
 ·obtain ⟨y,hy,rfl⟩:=Array.mem_map.1 hx
  have:=hi.cids y hy
  exact ⟨hpl y this.1,(zb1 (hpl y this.1)).2 (zin (λk hk=>h.dom1 hk) ((zb1 this.1).1 this.2))⟩
 ·obtain ⟨q,c,h1,rfl,rfl⟩:=back k b hb
  exact Blk.ids_rn (λk hk=>h.dom1 hk) (hi.closed q c h1)
 ·have hcap:(caps.map (zan ρ)).map (ren r)=caps.map (ren λk=>r (ρ k)):=by
   rw [Array.map_map]
   refine Array.map_congr_left λx hx=>?_
   have:=(hi.cids x hx).1
   simp only [Function.comp]
   rw [<-zcf (r:=ρ) this,zcn]
  rw [hcap]
  have ex:((xs.map λx=>x.map (ren ρ)).map λx=>x.map (ren λ_=>r (ρ w)))=xs.map λx=>x.map (ren λ_=>r (ρ w)):=by
   rw [List.map_map]
   refine List.map_congr_left λx _=>?_
   simp only [Function.comp,Array.map_map]
   refine Array.map_congr_left λv _=>?_
   simp only [Function.comp]
   rw [zcn]
  rw [ex] at hR
  rw [List.length_map]
  refine (hi.run E l stop (λk=>r (ρ k)) S W hgok (λk b hk=>⟨?_,hi.closed k b hk⟩) (λk l hk hl e=>?_) (λk hk hd=>?_) hR hX hS (λi hd h1=>?_)).mono (λ_ _ hh=>hh)
  ·have hd:dom (rst hp rs) k:=by unfold dom;rw [hk];simp
   have hd':=h.dom1 hd
   unfold dom at hd'
   cases hb:rst hp' (rs.map ρ) (ρ k) with
   | none=>exact absurd hb hd'
   | some b' =>
    have e:b'=b.rn ρ:=by
     unfold rst at hb hk
     by_cases h1:k<100
     ·have hl:=h.low k h1
      simp only [h1,true_or,if_true] at hk
      rw [hl.1] at hb
      simp only [h1,true_or,if_true] at hb
      rw [hl.2,hk] at hb
      cases hb
      exact (bflat k b h1 hk).symm
     ·have hm:k∈rs:=by
       by_cases hm:k∈rs
       ·exact hm
       ·simp [h1,hm] at hk
      simp only [hm,or_true,if_true] at hk
      obtain ⟨c,e1,e2⟩:=h.at' k hm (by omega)
      rw [hk] at e1;cases e1
      have hm':ρ k∈rs.map ρ:=List.mem_map.2 ⟨k,hm,rfl⟩
      simp only [hm',or_true,if_true] at hb
      rw [e2] at hb;cases hb;rfl
    have:=(hsat _ b' hb).1
    rw [e,Blk.rn_obj] at this
    exact this
  ·have e2:=hinj _ _ (h.dom1 hk) (h.dom1 hl) e
   have mem:∀ k,dom (rst hp rs) k->100<=k->k∈rs:=λk hk h1=>by
    unfold dom rst at hk
    by_cases hm:k∈rs
    ·exact hm
    ·simp [hm] at hk;omega
   by_cases h1:k<100
   ·by_cases h2:l<100
    ·rw [(h.low k h1).1,(h.low l h2).1] at e2;exact e2
    ·have:=h.big l (mem l hl (by omega)) (by omega)
     rw [(h.low k h1).1] at e2;omega
   ·by_cases h2:l<100
    ·have:=h.big k (mem k hk (by omega)) (by omega)
     rw [(h.low l h2).1] at e2;omega
    ·exact h.inj k (mem k hk (by omega)) l (mem l hl (by omega)) (by omega) (by omega) e2
  ·show r (ρ k)=k
   have:=h.dom1 hd
   rw [(h.low k hk).1] at this |-
   exact hlow k hk this
  ·refine hdis _ (h.dom1 hd) (h.big i ?_ h1)
   unfold dom rst at hd
   by_cases hm:i∈rs
   ·exact hm
   ·simp [hm] at hd;omega
theorem z3q {f:FuncId} {caps caps':Array Value} {m:List (Nat×Blk)} {B:Nat} {xs:List (Array Value)} {hp:Hp} {rs:List Nat} {w:Nat} {ob:Nat->Blk} (h:IterS P G f caps (hpL G m) (zaa m) w ob xs) (hGF:zbo G) (hm:LOk m B) (ρ:Nat->Nat) (hlow:∀ k,k<100->ρ k=k) (ea:caps.map (zan ρ)=caps') (er:(zaa m).map ρ=rs)
  (hp0:∀ k,k<100->hp k=G k) (hat:∀ p∈m,100<=ρ p.1/\hp (ρ p.1)=some (p.2.rn ρ)) (hinj:∀ k∈zaa m,∀ l∈zaa m,ρ k=ρ l->k=l):IterS P G f caps' hp rs (ρ w) ob (xs.map λx=>x.map (ren ρ)):=by
 subst ea er
 exact h.rn ρ hGF hm.low (zpr hm ρ hlow hp0 hat hinj)
end
end Go.Gy
namespace Go.Gy
open Go Go.RowKit Go.Proofs Go.Proofs.Tryz
def loB (lw:Nat->Int):Blk:=⟨#[.int .u64 (wi (lw 0) 0),.int .u64 (wi (lw 0) 1),.int .u64 (wi (lw 0) 2),.int .u64 (wi (lw 0) 3),.int .u64 (wi (lw 1) 0),.int .u64 (wi (lw 1) 1),.int .u64 (wi (lw 1) 2),.int .u64 (wi (lw 1) 3),.int .i64 (lw 2),.int .i64 (lw 3),.int .i64 (lw 4),.int .i64 (lw 8),.int .i64 (lw 9),.int .i64 (lw 10)],.ty 38⟩
def ptB (w:Nat):Blk:=⟨#[.pointer (some ⟨w,0,none⟩)],.ty 82⟩
def sdL (b:Blk) (lw:Nat->Int):List (Nat×Blk):=[(200,b),(208,ptB 200),(209,loB lw)]
def sdX (w lo hi:Nat) (v:Int):Array Value:=#[.agg #[.pointer (some ⟨w,lo,none⟩),.pointer (some ⟨w,hi,none⟩)],.int .i64 v]
def zn2 (w:Nat) (lw:Nat->Int):List (Array Value):=[sdX w 9 12 (lw 2),sdX w 15 18 (lw 8),sdX w 10 13 (lw 3),sdX w 16 19 (lw 9),sdX w 11 14 (lw 4),sdX w 17 20 (lw 10)]
theorem jbt (w lo hi:Nat) (v:Int):∀ x∈sdX w lo hi v,zqc w x=true:=by
 intro x hx
 simp [sdX] at hx
 rcases hx with rfl|rfl<;>simp [zqc]
theorem znn (w:Nat) (lw:Nat->Int):∀ x∈zn2 w lw,x.size=2/\∀ v∈x,zqc w v=true:=by
 intro x hx
 simp [zn2] at hx
 rcases hx with rfl|rfl|rfl|rfl|rfl|rfl<;>exact ⟨rfl,jbt _ _ _ _⟩
theorem z48 (w:Nat) (lw:Nat->Int) (ρ:Nat->Nat):((zn2 w lw).map λx=>x.map (ren ρ))=zn2 (ρ w) lw:=by simp [zn2,sdX,ren,zay,zak,zan]
theorem z0j (ob:Nat->Blk) (hob:∀ c,(∀ r,(ob c).obj r=(ob c).obj0)/\∀ D,(ob c).ids D) (lw:Nat->Int) :
  IterS prog G0 79 #[.pointer (some ⟨208,0,none⟩),.pointer (some ⟨209,0,none⟩)] (hpL G0 (sdL (ob 0) lw)) [200,208,209] 200 ob (zn2 200 lw):=by
 have e0:rst (hpL G0 (sdL (ob 0) lw)) [200,208,209]=hpL G0 (sdL (ob 0) lw):=zf3 G0F (by simp [sdL])
 refine z3r (B:=300) (v:=.tuple #[]) G0F (λq hq=>zbc (by simp [sdL]) hq) func79 rfl call79 ?_ ?_ (by simp [ntmps79]) (by omega) ?_ ?_ hob ?_
 ·rw [e0];simp [zap,zax,zah,zaj,dom,sdL]
 ·rw [e0]
  intro q c hq
  rcases za5 hq with h|h
  ·simp [sdL] at h
   rcases h with ⟨_,rfl⟩|⟨_,rfl⟩|⟨_,rfl⟩
   ·exact (hob 0).2 _
   ·simp [ptB,zad,zah,zaj,dom,sdL]
   ·simp [loB,zad,zah,zaj]
  ·exact Blk.flat_ids ((G0F q c h).2)
 ·rw [e0]
  intro x hx
  have h1:¬x=200:=by omega
  have h2:¬x=208:=by omega
  have h3:¬x=209:=by omega
  have h4:100<=x:=by omega
  simp [sdL,h1,h2,h3,h4]
 ·rw [e0]
  simp [sdL,dom]
 ·intro C l stop wa hC hC0 hY
  rw [e0] at hC0 |-
  have hcs:stop=0\/stop=1\/stop=2\/stop=3\/stop=4\/stop=5\/6<=stop:=by omega
  unfold sdL zn2 sdX ptB loB at *
  rcases hcs with rfl|rfl|rfl|rfl|rfl|rfl|hst
  rotate_left 6
  ·have q0:(0 != stop)=true:=by simp;omega
   have q1:(1 != stop)=true:=by simp;omega
   have q2:(2 != stop)=true:=by simp;omega
   have q3:(3 != stop)=true:=by simp;omega
   have q4:(4 != stop)=true:=by simp;omega
   have q5:(5 != stop)=true:=by simp;omega
   have p1:1<=stop:=by omega
   have p2:2<=stop:=by omega
   have p3:3<=stop:=by omega
   have p4:4<=stop:=by omega
   have p5:5<=stop:=by omega
   repeat' first|refine zal ?_|refine zat ?_|refine gwZ ?_|(refine gwX ?_;intro Q hQ _;simp [hC,hY,q0,q1,q2,q3,q4,q5,p1,p2,p3,p4,p5,zqc,shX];refine gwq hQ ?_)|fail
   all_goals
    simp [results79]
    try omega
  all_goals
   repeat' first|refine zal ?_|refine zat ?_|refine gwZ ?_|(refine gwX ?_;intro Q hQ _;simp [hC,hY,zqc,shX];refine gwq hQ ?_)|fail
  all_goals
   simp [results79]
def zbd (N:Int) (v:Nat->Int):Array Value:=#[.int .i64 N,.int .u64 (wi (v 0) 0),.int .u64 (wi (v 0) 1),.int .u64 (wi (v 0) 2),.int .u64 (wi (v 0) 3),.int .u64 (wi (v 1) 0),.int .u64 (wi (v 1) 1),.int .u64 (wi (v 1) 2),.int .u64 (wi (v 1) 3),.int .i64 (v 2),.int .i64 (v 3),.int .i64 (v 4),.int .i64 (v 5),.int .i64 (v 6),.int .i64 (v 7),.int .i64 (v 8),.int .i64 (v 9),.int .i64 (v 10),.int .i64 (v 11),.int .i64 (v 12),.int .i64 (v 13)]
def zbn (N:Int) (v:Nat->Int):Blk:=⟨zbd N v,.ty 35⟩
theorem zc1 (N:Int) (v:Nat->Int):(zbn N v).fx:=by
 intro x hx
 simp [zbn,zbd] at hx
 rcases hx with rfl|rfl|rfl|rfl|rfl|rfl|rfl|rfl|rfl|rfl|rfl|rfl|rfl|rfl|rfl|rfl|rfl|rfl|rfl|rfl|rfl<;>rfl
theorem Blk.obj_flatx {b:Blk} (h:b.fx) (r:Nat->Nat):b.obj r=b.obj0:=by
 obtain ⟨c,T⟩:=b
 cases T with
 | ty t=>exact Blk.obj_flat (λx hx=>h x hx)
 | raw t fr=>rfl
 | mp=>exact h.elim
def zoa (nk w:Nat) (lw:Nat->Int) (v:Value) (ns:List (Nat×Blk)):Prop :=
 v=.func (.func 79) #[] #[.pointer (some ⟨nk,0,none⟩),.pointer (some ⟨nk+1,0,none⟩)]/\ns=[(nk,ptB w),(nk+1,loB lw)]
theorem zef {nk w:Nat} {lw:Nat->Int} {v:Value} {ns:List (Nat×Blk)} (h:zoa nk w lw v ns):∀ k∈zaa ns,nk<=k/\k<nk+2:=by
 obtain ⟨rfl,rfl⟩:=h
 intro k hk
 simp [zaa] at hk
 omega
theorem zly (lw:Nat->Int):(loB lw).fx:=by
 intro x hx
 simp [loB] at hx
 rcases hx with rfl|rfl|rfl|rfl|rfl|rfl|rfl|rfl|rfl|rfl|rfl|rfl|rfl|rfl<;>rfl
theorem jbw (b:Blk) (hb:b.fx) (lw:Nat->Int) :
  FunS prog G0 46 #[.pointer (some ⟨100,0,none⟩),zbh lw] (hpL G0 [(100,b)]) (zaa [(100,b)]) (zoa 1000 100 lw):=by
 refine zet (B:=200) G0F func46 rfl call46 (zao hb) ?_ ?_ (by simp [ntmps46]) (by omega) ?_
 ·simp [zap,zax,zah,zaj,zaa,zbh]
 ·rintro v ns ⟨rfl,rfl⟩
  refine ⟨by simp [zap,zax,zah,zaj,zc7,zaa],?_,?_⟩
  ·intro p hp
   simp only [List.mem_cons,List.not_mem_nil,or_false] at hp
   rcases hp with rfl|rfl
   ·exact ⟨by omega,by simp [ptB,zad,zah,zaj,zc7,zaa]⟩
   ·exact ⟨by omega,Blk.fx_ids (zly lw) _⟩
  ·intro k b c h1 h2
   simp at h1 h2
   rcases h1 with ⟨e1,rfl⟩|⟨e1,rfl⟩<;>rcases h2 with ⟨e2,rfl⟩|⟨e2,rfl⟩<;>first|rfl|omega
 intro C hC hC0 hY
 unfold zbh
 repeat' first|refine gwZ ?_|refine gwW ?_|fail
 refine ⟨.inr trivial,kpS G0F,_,_,λk=>if k=1000 then 200 else if k=1001 then 208 else k,⟨rfl,rfl⟩,λk hk=>?_,by simp,by simp,by simp [results46,ren,zay,zak,zan],?_⟩
 ·dsimp only
  rw [if_neg (by omega),if_neg (by omega)]
 ·have e:=Blk.fx_rn (zly lw) (λk=>if k=1000 then 200 else if k=1001 then 208 else k)
  simp only [List.mem_cons,List.not_mem_nil,or_false,forall_eq_or_imp,forall_eq]
  refine ⟨?_,?_⟩
  ·simp [ptB,Blk.rn,zak,zan]
  ·rw [e];simp [loB]
def sdM (w nk k:Nat):Nat:=if k=100 then w else if k=1000 then nk else if k=1001 then nk+1 else k
theorem z0i {nk nk' w w':Nat} {lw:Nat->Int} {ρ:Nat->Nat} (hw:ρ w=w') (h0:ρ nk=nk') (h1:ρ (nk+1)=nk'+1):RR ρ (zoa nk w lw)=zoa nk' w' lw:=by
 have e:=Blk.fx_rn (zly lw) ρ
 funext v ns
 apply propext
 constructor
 ·rintro ⟨v0,ns0,⟨rfl,rfl⟩,rfl,rfl⟩
  exact ⟨by simp [ren,zay,zak,zan,h0,h1],by simp [rnL,ptB,Blk.rn,zak,zan,hw,h0,h1];exact e⟩
 ·rintro ⟨rfl,rfl⟩
  refine ⟨_,_,⟨rfl,rfl⟩,by simp [ren,zay,zak,zan,h0,h1],?_⟩
  simp [rnL,ptB,Blk.rn,zak,zan,hw,h0,h1]
  exact e.symm
theorem znp (nk w:Nat) (hnk:200<=nk) (hw:100<=w) (h1:w≠nk) (h2:w≠nk+1) (b:Blk) (hb:b.fx) (lw:Nat->Int) :
  FunS prog G0 46 #[.pointer (some ⟨w,0,none⟩),zbh lw] (hpL G0 [(w,b)]) [w] (zoa nk w lw):=by
 have e1:sdM w nk 100=w:=if_pos rfl
 have e2:sdM w nk 1000=nk:=rfl
 have e3:sdM w nk 1001=nk+1:=rfl
 refine (jbw b hb lw).mvL (hp':=hpL G0 [(w,b)]) (rs':=[w]) G0F (zao hb) (sdM w nk) (λk hk=>?_) ?_ (by simp [zaa,e1]) (z0i e1 e2 e3) (λk hk=>zbc (by simp [hw]) hk) ?_ (by simp [zaa]) (λv ns hV k hk=>?_) (λv ns hV k hk l hl e=>?_)
 ·unfold sdM
  rw [if_neg (by omega),if_neg (by omega),if_neg (by omega)]
 ·simp [zbh,ren,zay,zak,zan,e1]
 ·intro p hp
  simp only [List.mem_singleton] at hp
  subst hp
  simp only [e1]
  exact ⟨hw,by rw [Blk.fx_rn hb];simp⟩
 ·have h9:=zef hV k hk
  have:k=1000\/k=1001:=by omega
  rcases this with rfl|rfl
  ·rw [e2];exact ⟨by omega,by simp;omega⟩
  ·rw [e3];exact ⟨by omega,by simp;omega⟩
 ·have h9:=zef hV k hk
  have h8:=zef hV l hl
  have a:k=1000\/k=1001:=by omega
  have b:l=1000\/l=1001:=by omega
  rcases a with rfl|rfl<;>rcases b with rfl|rfl<;>simp only [e2,e3] at e<;>omega
def sdN (w nk k:Nat):Nat:=if k=200 then w else if k=208 then nk else if k=209 then nk+1 else k
theorem znq (w nk:Nat) (hw:100<=w) (hnk:100<=nk) (h1:w≠nk) (h2:w≠nk+1) (ob:Nat->Blk) (hob:∀ c,(ob c).fx) (lw:Nat->Int) {hp:Hp} (hG:∀ k,k<100->hp k=G0 k) (a:hp w=some (ob 0)) (b:hp nk=some (ptB w)) (c:hp (nk+1)=some (loB lw)) :
  IterS prog G0 79 #[.pointer (some ⟨nk,0,none⟩),.pointer (some ⟨nk+1,0,none⟩)] hp [w,nk,nk+1] w ob (zn2 w lw):=by
 have e1:sdN w nk 200=w:=if_pos rfl
 have e2:sdN w nk 208=nk:=rfl
 have e3:sdN w nk 209=nk+1:=rfl
 have h:=z0j ob (λc=>⟨λr=>Blk.obj_flatx (hob c) r,λD=>Blk.fx_ids (hob c) D⟩) lw
 have hL:LOk (sdL (ob 0) lw) 300:=⟨by simp [sdL],by simp [sdL,zaa],by
  simp only [sdL,List.mem_cons,List.not_mem_nil,or_false,forall_eq_or_imp,forall_eq]
  exact ⟨Blk.fx_ids (hob 0) _,by simp [ptB,zad,zah,zaj,zaa],Blk.fx_ids (zly lw) _⟩⟩
 have h9:=z3q (caps':=#[.pointer (some ⟨nk,0,none⟩),.pointer (some ⟨nk+1,0,none⟩)]) (hp:=hp) (rs:=[w,nk,nk+1]) h G0F hL (sdN w nk) (λk hk=>?_) (by simp [zan,e2,e3]) (by simp [sdL,zaa,e1,e2,e3]) hG ?_ ?_
 ·rw [z48,e1] at h9
  exact h9
 ·unfold sdN
  rw [if_neg (by omega),if_neg (by omega),if_neg (by omega)]
 ·simp only [sdL,List.mem_cons,List.not_mem_nil,or_false,forall_eq_or_imp,forall_eq,e1,e2,e3]
  refine ⟨⟨hw,by rw [a,Blk.fx_rn (hob 0)]⟩,⟨hnk,?_⟩,by omega,by rw [c,Blk.fx_rn (zly lw)]⟩
  rw [b]
  simp [ptB,Blk.rn,zak,zan,e1]
 ·simp only [sdL,zaa,List.map_cons,List.map_nil,List.mem_cons,List.not_mem_nil,or_false]
  rintro k (rfl|rfl|rfl) l (rfl|rfl|rfl) e<;>simp only [e1,e2,e3] at e<;>omega
structure HOk (N:Int) (v:Nat->Int):Prop where
 n:i64 N
 i:∀ c,2<=c->c<14->i64 (v c)
 w0:wr (v 0)
 w1:wr (v 1)
def sdA (i:Nat):Nat:=2+i / 2+i%2*6
theorem z0d {P:Nat->Prop}:(∀ i,i<6->P (sdA i))↔∀ q,q<3->P (2+q)/\P (8+q):=by
 constructor
 ·intro h q hq
  have:q=0\/q=1\/q=2:=by omega
  rcases this with rfl|rfl|rfl
  ·exact ⟨h 0 (by omega),h 1 (by omega)⟩
  ·exact ⟨h 2 (by omega),h 3 (by omega)⟩
  ·exact ⟨h 4 (by omega),h 5 (by omega)⟩
 ·intro h i hi
  have:i=0\/i=1\/i=2\/i=3\/i=4\/i=5:=by omega
  rcases this with rfl|rfl|rfl|rfl|rfl|rfl
  ·exact (h 0 (by omega)).1
  ·exact (h 0 (by omega)).2
  ·exact (h 1 (by omega)).1
  ·exact (h 1 (by omega)).2
  ·exact (h 2 (by omega)).1
  ·exact (h 2 (by omega)).2
theorem z6q (P:Nat->Prop) [DecidablePred P]:∃ N,N<=6/\(∀ i,i<N->P i)/\(N=6\/(N<6/\¬P N)):=by
 have key:∀ n,∃ N,N<=n/\(∀ i,i<N->P i)/\(N=n\/(N<n/\¬P N)):=λn=>by
  induction n with
  | zero=>exact ⟨0,Nat.le_refl _,λi hi=>absurd hi (Nat.not_lt_zero i),.inl rfl⟩
  | succ n ih =>
   obtain ⟨N,h1,h2,h3⟩:=ih
   rcases h3 with rfl|h3
   ·by_cases h:P N
    ·exact ⟨N+1,Nat.le_refl _,λi hi=>by
      by_cases e:i=N
      ·subst e;exact h
      ·exact h2 i (by omega),.inl rfl⟩
    ·exact ⟨N,Nat.le_succ _,h2,.inr ⟨Nat.lt_succ_self _,h⟩⟩
   ·exact ⟨N,by omega,h2,.inr ⟨by omega,h3.2⟩⟩
 exact key 6
theorem zkw (w:Nat) (lw:Nat->Int) (i:Nat) (hi:i<6):(zn2 w lw)[i]? = some (sdX w (sdA i+7) (sdA i+10) (lw (sdA i))):=by
 have:i=0\/i=1\/i=2\/i=3\/i=4\/i=5:=by omega
 rcases this with rfl|rfl|rfl|rfl|rfl|rfl<;>rfl
theorem zih {x y:Int}:(0<zb8 x y)=(y<x):=by
 unfold zb8
 apply propext
 constructor
 ·intro h;split at h<;>(try split at h)<;>omega
 ·intro h;split<;>(try split)<;>omega
theorem zz4 {N:Int} {v:Nat->Int} (z:¬N=0):zhm ⟨N,v⟩=true↔(0<N/\N<=1073741824)/\v 0<=v 1/\∀ i,i<6->v (sdA i)<=v (sdA i+3):=by
 rw [jbj (h:=⟨N,v⟩) z,z0d (P:=λc=>v c<=v (c+3))]
 refine and_congr Iff.rfl (and_congr Iff.rfl (forall_congr' λq=>forall_congr' λhq=>?_))
 rw [show 2+q+3=5+q by omega,show 8+q+3=11+q by omega]
theorem zf4 (N:Int) (v:Nat->Int) (c:Nat) (h:2<=c/\c<14):zc6 prog 3 (zbn N v) (c+7)=some (.int .i64 (v c)):=by
 have:c=2\/c=3\/c=4\/c=5\/c=6\/c=7\/c=8\/c=9\/c=10\/c=11\/c=12\/c=13:=by omega
 rcases this with rfl|rfl|rfl|rfl|rfl|rfl|rfl|rfl|rfl|rfl|rfl|rfl<;>simp [zbn,zbd]
theorem znm {i:Nat} (h:i<6):(2<=sdA i/\sdA i<14)/\2<=sdA i+3/\sdA i+3<14:=by unfold sdA;omega
def zbg (N:Int) (v:Nat->Int):Value:=.agg (zbd N v)
theorem zva (N:Int) (v:Nat->Int) (h:HOk N v):Ret prog G0 14 #[zbg N v] (.bool (zhm ⟨N,v⟩)):=by
 unfold zbg zbd
 refine zas G0F func14 rfl call14 (by simp) (by simp) (by simp [ntmps14]) ?_
 intro C hC hC0 hY
 repeat' first|refine gwZ ?_|refine gwW ?_|fail
 by_cases z:N=0
 ·subst z
  refine ze4 0 (λ_ _=>False) rfl (λ_ _ h=>h.elim) ?_
  intro _
  repeat' first|refine gwZ ?_|refine gwW ?_|fail
  refine ⟨.inr trivial,?_⟩
  simp [results14]
  have s0:sz (0:Int)=0:=zd6 (by decide) (by decide)
  have e0:(wi (v 0) 0==0&&(wi (v 0) 1==0&&(wi (v 0) 2==0&&wi (v 0) 3==0)))=decide (v 0=0):=by
   have:=weq (v 0) 0
   rw [zd6 h.w0.1 h.w0.2,s0] at this
   simpa using this
  have e1:(wi (v 1) 0==0&&(wi (v 1) 1==0&&(wi (v 1) 2==0&&wi (v 1) 3==0)))=decide (v 1=0):=by
   have:=weq (v 1) 0
   rw [zd6 h.w1.1 h.w1.2,s0] at this
   simpa using this
  rw [e0,e1]
  unfold zhm
  rw [if_pos rfl,show List.range 14=[0,1,2,3,4,5,6,7,8,9,10,11,12,13] from rfl]
  rw [Bool.eq_iff_iff]
  simp only [List.all_cons,List.all_nil,Bool.and_eq_true,decide_eq_true_eq,beq_iff_eq,and_true]
  constructor
  ·rintro ⟨⟨a0,a1⟩,⟨a2,a3,a4⟩,⟨a5,a6,a7⟩,⟨a8,a9,a10⟩,a11,a12,a13⟩
   exact ⟨a0,a1,a2,a3,a4,a5,a6,a7,a8,a9,a10,a11,a12,a13⟩
  ·rintro ⟨a0,a1,a2,a3,a4,a5,a6,a7,a8,a9,a10,a11,a12,a13⟩
   exact ⟨⟨a0,a1⟩,⟨a2,a3,a4⟩,⟨a5,a6,a7⟩,⟨a8,a9,a10⟩,a11,a12,a13⟩
 ·have s0:sz (v 0)=v 0:=zd6 h.w0.1 h.w0.2
  have s1:sz (v 1)=v 1:=zd6 h.w1.1 h.w1.2
  refine ze4 0 (λ_ s=>s=⟨tsL [],hpL G0 [],1000,0⟩/\zhm ⟨N,v⟩=false) rfl ?_ ?_
  ·rintro m _ ⟨rfl,hr⟩
   repeat' first|refine gwZ ?_|refine gwW ?_|fail
   refine ⟨.inr trivial,?_⟩
   simp [results14,hr]
  intro _
  have zb:(N==0)=false:=by simpa using z
  by_cases c1:N<0
  ·
   repeat' first|refine gwZ ?_|(refine gwX ?_;intro Q hQ _;simp [hC,hY,z,zb,c1];refine gwq hQ ?_)|fail
   refine ⟨rfl,_,0,za3 [] 1000 hC G0F (m:=[]) (m0:=[]) hC0 (by omega) (by simp) (by simp) (by simp),rfl,?_⟩
   (try rw [Bool.eq_false_iff])
   intro hr
   have:=((zz4 z).1 hr).1
   omega
  by_cases c2:1073741824<N
  ·
   repeat' first|refine gwZ ?_|(refine gwX ?_;intro Q hQ _;simp [hC,hY,z,zb,c1,c2];refine gwq hQ ?_)|fail
   refine ⟨rfl,_,0,za3 [] 1000 hC G0F (m:=[]) (m0:=[]) hC0 (by omega) (by simp) (by simp) (by simp),rfl,?_⟩
   (try rw [Bool.eq_false_iff])
   intro hr
   have:=((zz4 z).1 hr).1
   omega
  by_cases c3:v 1<v 0
  ·
   repeat' first|refine gwZ ?_|(refine gwX ?_;intro Q hQ _;simp [hC,hY,z,zb,c1,c2,c3,s0,s1,zih];refine gwq hQ ?_)|fail
   refine ⟨rfl,_,0,za3 [] 1000 hC G0F (m:=[]) (m0:=[]) hC0 (by omega) (by simp) (by simp) (by simp),rfl,?_⟩
   (try rw [Bool.eq_false_iff])
   intro hr
   have:=((zz4 z).1 hr).2.1
   omega
  repeat' first|refine gwZ ?_|(refine gwX ?_;intro Q hQ _;simp [hC,hY,z,zb,c1,c2,c3,s0,s1,zih];refine gwq hQ ?_)|fail
  have hsd:=znp 392 200 (by omega) (by omega) (by omega) (by omega) (zbn N v) (zc1 N v) (λ_=>0)
  unfold zbh at hsd
  simp only [zaf] at hsd
  refine zc3 ?_
  simp only [Array.toList]
  refine gwl 1 ?_;intro Q hQ;simp [hC,hY];apply hQ
  simp only [wT,wM,Nat.reduceAdd]
  refine zeo (f:=.func 46) (cap:=#[]) hC hsd rfl (by simp) rfl rfl (by simp [okT]) (by simp [gev]) (by simp) (by simp [okX,zcm]) (by simp [gev]) (by simp [zbn,zbd]) (by (intro k hk;first|rfl|(simp (disch:=omega) only [zb3,List.mem_cons,List.not_mem_nil,or_false,zab,zaq,zaw,if_neg,zbi]<;>done))) ?_ ?_
  ·intro w ns hV k hk
   have:=zef hV k hk
   omega
  rintro w ns ⟨rfl,rfl⟩
  refine zdc ?_
  repeat' first|refine gwZ ?_|(refine gwX ?_;intro Q hQ _;simp [hC,hY,zcx,zbi];refine gwq hQ ?_)|fail
  simp only [zcx,zbi]
  have ck:v 0<=v 1:=by omega
  have cN:0<N/\N<=1073741824:=by omega
  have hfx:=zc1 N v
  have hix:=λD=>Blk.fx_ids hfx D
  have hCC:=hC
  obtain ⟨M,hM,hpre,hfin⟩:=z6q (λi=>v (sdA i)<=v (sdA i+3))
  refine zic (G:=G0) (f:=79) (caps:=#[.pointer (some ⟨392,0,none⟩),.pointer (some ⟨393,0,none⟩)]) (rs:=[200,392,393]) (xs:=zn2 200 λ_=>0) (w:=200) (ob:=λ_=>zbn N v) (m0:=[]) (λl0 h=>by cases h) G0F hC hC0 hY (by simp) ?_ (by simp) (by omega) ?_ (by simp [ntmps14]) [] (λ_=>[(200,zbn N v)]) 1000 M (by simp [zn2];omega) (by omega) ?_ (by simp) ?_ ?_ (by simp) ?_ ?_
  ·refine znq 200 392 (by omega) (by omega) (by omega) (by omega) (λ_=>zbn N v) (λ_=>zc1 N v) (λ_=>0) (by (intro k hk;first|rfl|(simp (disch:=omega) only [zb3,List.mem_cons,List.not_mem_nil,or_false,zab,zaq,zaw,if_neg,zbi]<;>done))) ?_ ?_ ?_
   ·simp [zbn,zbd,upd]
   ·simp [upd]
   ·simp [upd]
  ·exact znn 200 _
  ·simp [dom,upd]
  ·simp [zbn,zbd,upd]
  ·simp [hix]
  ·intro i x hi hx C1 j c1 c2 c3
   have hi6:i<6:=by omega
   rw [zkw _ _ _ hi6] at hx
   simp only [Option.some.injEq] at hx
   subst hx
   obtain ⟨r1,r2⟩:=znm hi6
   have l0:=zf4 N v _ r1
   have l1:=zf4 N v _ r2
   have hle:=hpre i hi
   have hlt:¬v (sdA i+3)<v (sdA i):=by omega
   generalize sdA i=a at *
   unfold sdX
   clear hC hY
   have hC:=c1
   have hY:=c3
   repeat' first|refine gwZ ?_|(refine gwX ?_;intro Q hQ _;simp [hC,hY,zav];refine gwq hQ ?_)|fail
   intro C2 hC2 hh2 hY2
   clear hC hY
   have hC:=hC2
   have hY:=hY2
   repeat' first|refine gwZ ?_|(refine gwX ?_;intro Q hQ _;simp [hC,hY,l0,l1,hlt];refine gwq hQ ?_)|fail
   simp
  ·rcases hfin with rfl|⟨hM6,hbad⟩
   ·refine .inl ⟨by simp [zn2],?_⟩
    repeat' first|refine gwZ ?_|refine gwW ?_|fail
    refine ⟨.inr trivial,?_⟩
    have hr:zhm ⟨N,v⟩=true:=(zz4 z).2 ⟨cN,ck,hpre⟩
    simp [results14,hr]
   ·refine .inr ⟨_,zkw _ _ _ hM6,?_⟩
    intro C1 j c1 c2 c3
    have hr:zhm ⟨N,v⟩=false:=by
     cases e:zhm ⟨N,v⟩ with
     | false=>rfl
     | true=>exact absurd (((zz4 z).1 e).2.2 M hM6) hbad
    obtain ⟨r1,r2⟩:=znm hM6
    have l0:=zf4 N v _ r1
    have l1:=zf4 N v _ r2
    have hlt:v (sdA M+3)<v (sdA M):=by omega
    generalize sdA M=a at *
    unfold sdX
    clear hC hY
    have hC:=c1
    have hY:=c3
    repeat' first|refine gwZ ?_|(refine gwX ?_;intro Q hQ _;simp [hC,hY,zav];refine gwq hQ ?_)|fail
    intro C2 hC2 hh2 hY2
    clear hC hY
    have hC:=hC2
    have hY:=hY2
    repeat' first|refine gwZ ?_|(refine gwX ?_;intro Q hQ _;simp [hC,hY,l0,l1,hlt];refine gwq hQ ?_)|fail
    refine ⟨rfl,by simp,by simp,?_⟩
    refine ⟨rfl,_,0,za3 [] 1000 hCC G0F (m:=[]) (m0:=[]) hC0 (by omega) (by simp) (by simp) (by simp),rfl,?_⟩
    simp [hr]
theorem zxv (a n:Int) (hi:i64 n):Ret prog G0 97 #[wd a,.int .i64 n] (wd (a+n)):=by
 refine zas G0F func97 rfl call97 (by simp) (by simp) (by simp [ntmps97]) ?_
 intro C hC hC0 hY
 repeat' first|refine gwZ ?_|(refine gwX ?_;intro Q hQ _;simp [hC,hY,hi];refine gwq hQ ?_)|fail
 refine ⟨.inr trivial,?_⟩
 simp [results97]
@[simp] theorem jrb (a n:Int) (hi:i64 n) (K:Value->Prop):za2 prog G0 97 #[Value.agg #[.int .u64 (wi (a) 0),.int .u64 (wi (a) 1),.int .u64 (wi (a) 2),.int .u64 (wi (a) 3)],.int .i64 n] K↔K (wd (a+n)):=zac G0W (by kernel_rfl) (zxv a n hi)
def spV (lo hi:Int):Value:=.agg #[.int .u64 (wi lo 0),.int .u64 (wi lo 1),.int .u64 (wi lo 2),.int .u64 (wi lo 3),.int .u64 (wi hi 0),.int .u64 (wi hi 1),.int .u64 (wi hi 2),.int .u64 (wi hi 3)]
@[simp] theorem jlf (lo hi:Int):za0 (spV lo hi)=true:=by simp [spV]
def zje (lo hi a:Int):Bool:=decide (zb8 (sz lo) (sz a)<=0)&&decide (zb8 (sz a) (sz hi)<=0)
theorem zlm (lo hi a:Int):Ret prog G0 50 #[spV lo hi,wd a] (.bool (zje lo hi a)):=by
 refine zas G0F func50 rfl call50 rfl (by simp) (by simp [ntmps50]) ?_
 intro C hC hC0 hY
 unfold spV zje
 by_cases h1:zb8 (sz lo) (sz a)<=0
 ·rw [decide_eq_true h1]
  repeat' first|refine gwZ ?_|(refine gwX ?_;intro Q hQ _;simp [hC,hY,h1];refine gwq hQ ?_)|fail
  refine ⟨.inr trivial,?_⟩
  simp [results50]
 ·rw [decide_eq_false h1]
  repeat' first|refine gwZ ?_|(refine gwX ?_;intro Q hQ _;simp [hC,hY,h1];refine gwq hQ ?_)|fail
  refine ⟨.inr trivial,?_⟩
  simp [results50]
theorem zos (lo hi:Int) (hl:wr lo) (hh:wr hi) (h0:lo<=hi) (h1:i64 (hi - lo)):Ret prog G0 44 #[spV lo hi] (.tuple #[.int .i64 (hi - lo),.bool true]):=by
 refine zas G0F func44 rfl call44 (by simp) (by simp) (by simp [ntmps44]) ?_
 intro C hC hC0 hY
 have w:=zdf h1
 have s1:=zct w
 have g1:=z51 hl
 have g2:=z51 hh
 have g3:=zri w (by omega)
 have n0:0<=hi - lo:=by omega
 have n1:lo<=hi:=h0
 have hov:(!decide (hi<0) != decide (lo<0)||!decide (hi<0))=true:=by
  by_cases a:hi<0
  ·have b:lo<0:=by omega
   simp [a,b]
  ·simp [a]
 unfold spV
 repeat' first|refine gwZ ?_|(refine gwX ?_;intro Q hQ _;simp [hC,hY,h1,s1,g1,g2,g3,n0,n1,hov];refine gwq hQ ?_)|fail
 refine ⟨.inr trivial,?_⟩
 simp [results44]
structure LsOk (w:Nat->Int):Prop where
 w0:wr (w 0)
 w1:wr (w 1)
 i:∀ c,2<=c->c<14->i64 (w c)
 r:∀ q,q<3->w (2+q)=w (5+q)/\w (8+q)=w (11+q)
theorem zfh {N:Int} {v:Nat->Int} (h:HOk N v) (K:Value->Prop):za2 prog G0 14 #[zbg N v] K↔K (.bool (zhm ⟨N,v⟩)):=zac G0W (by kernel_rfl) (zva N v h)
theorem zjr {lo hi a:Int} (h0:wr lo) (h1:wr hi) (h2:wr a):zje lo hi a=decide (lo<=a/\a<=hi):=by
 unfold zje
 rw [zd6 h0.1 h0.2,zd6 h1.1 h1.2,zd6 h2.1 h2.2,Bool.decide_and]
 have key:∀ x y:Int,decide (zb8 x y<=0)=decide (x<=y):=λx y=>by
  apply decide_eq_decide.2
  unfold zb8
  constructor
  ·intro h;split at h<;>(try split at h)<;>omega
  ·intro h;split<;>(try split)<;>omega
 rw [key,key]
theorem zvd {N:Int} {v w:Nat->Int}:zjd ⟨N,v⟩ w=true↔¬N=0/\zhm ⟨N,v⟩=true/\(v 0<=w 0/\w 0<=v 1)/\(v 0<=w 1/\w 1<=v 1)/\∀ i,i<6->v (sdA i)<=w (sdA i)/\w (sdA i)<=v (sdA i+3):=by
 unfold zjd
 rw [z0d (P:=λc=>v c<=w c/\w c<=v (c+3)),Bool.and_eq_true,Bool.and_eq_true,Bool.and_eq_true,Bool.and_eq_true,jls,decide_eq_true_eq,decide_eq_true_eq]
 simp only [Bool.not_eq_true',decide_eq_false_iff_not,Bool.and_eq_true,decide_eq_true_eq]
 refine and_congr Iff.rfl (and_congr Iff.rfl (and_congr Iff.rfl (and_congr Iff.rfl (forall_congr' λq=>forall_congr' λhq=>?_))))
 rw [show 2+q+3=5+q by omega,show 8+q+3=11+q by omega]
theorem zij (N:Int) (v lw:Nat->Int) (h:HOk N v) (hl:LsOk lw):Ret prog G0 18 #[zbg N v,zbh lw] (.bool (zjd ⟨N,v⟩ lw)):=by
 have hR:=zfh h
 unfold zbg zbd at hR |-
 unfold zbh
 refine zas G0F func18 rfl call18 (by simp) (by simp) (by simp [ntmps18]) ?_
 intro C hC hC0 hY
 have e1:=zjr h.w0 h.w1 hl.w0
 have e2:=zjr h.w0 h.w1 hl.w1
 by_cases z:N=0
 ·have hlb:zjd ⟨N,v⟩ lw=false:=by
   cases e:zjd ⟨N,v⟩ lw with
   | false=>rfl
   | true=>exact absurd z (zvd.1 e).1
  subst z
  repeat' first|refine gwZ ?_|refine gwW ?_|fail
  refine ⟨.inr trivial,?_⟩
  simp [results18,hlb]
 have zb:(N==0)=false:=by simpa using z
 cases hr:zhm ⟨N,v⟩ with
 | false =>
  have hlb:zjd ⟨N,v⟩ lw=false:=by
   cases e:zjd ⟨N,v⟩ lw with
   | false=>rfl
   | true=>exact absurd ((zvd.1 e).2.1) (by rw [hr];decide)
  rw [hr] at hR
  repeat' first|refine gwZ ?_|(refine gwX ?_;intro Q hQ _;simp [hC,hY,zb,z,hR];refine gwq hQ ?_)|fail
  refine ⟨.inr trivial,?_⟩
  simp [results18,hlb]
 | true =>
  rw [hr] at hR
  have hE0:=λ(K:Value->Prop)=>zac (K:=K) G0W (by kernel_rfl) (zlm (v 0) (v 1) (lw 0))
  have hE1:=λ(K:Value->Prop)=>zac (K:=K) G0W (by kernel_rfl) (zlm (v 0) (v 1) (lw 1))
  unfold spV wd at hE0 hE1
  cases h1:zje (v 0) (v 1) (lw 0) with
  | false =>
   have hlb:zjd ⟨N,v⟩ lw=false:=by
    cases e:zjd ⟨N,v⟩ lw with
    | false=>rfl
    | true=>rw [e1,decide_eq_true ((zvd.1 e).2.2.1)] at h1;cases h1
   repeat' first|refine gwZ ?_|(refine gwX ?_;intro Q hQ _;simp [hC,hY,zb,z,hR,hE0,hE1,h1];refine gwq hQ ?_)|fail
   refine ⟨.inr trivial,?_⟩
   simp [results18,hlb]
  | true =>
   cases h2:zje (v 0) (v 1) (lw 1) with
   | false =>
    have hlb:zjd ⟨N,v⟩ lw=false:=by
     cases e:zjd ⟨N,v⟩ lw with
     | false=>rfl
     | true=>rw [e2,decide_eq_true ((zvd.1 e).2.2.2.1)] at h2;cases h2
    repeat' first|refine gwZ ?_|(refine gwX ?_;intro Q hQ _;simp [hC,hY,zb,z,hR,hE0,hE1,h1,h2];refine gwq hQ ?_)|fail
    refine ⟨.inr trivial,?_⟩
    simp [results18,hlb]
   | true =>
    have hh1:=of_decide_eq_true (e1.symm.trans h1)
    have hh2:=of_decide_eq_true (e2.symm.trans h2)
    repeat' first|refine gwZ ?_|(refine gwX ?_;intro Q hQ _;simp [hC,hY,zb,z,hR,hE0,hE1,h1,h2];refine gwq hQ ?_)|fail
    have hsd:=znp 440 200 (by omega) (by omega) (by omega) (by omega) (zbn N v) (zc1 N v) lw
    unfold zbh at hsd
    refine zc3 ?_
    simp only [Array.toList]
    refine gwl 1 ?_;intro Q hQ;simp [hC,hY];apply hQ
    simp only [wT,wM,Nat.reduceAdd]
    refine zeo (f:=.func 46) (cap:=#[]) hC hsd rfl (by simp) rfl rfl (by simp [okT]) (by simp [gev]) (by simp) (by simp [okX,zcm]) (by simp [gev]) (by simp [zbn,zbd]) (by (intro k hk;first|rfl|(simp (disch:=omega) only [zb3,List.mem_cons,List.not_mem_nil,or_false,zab,zaq,zaw,if_neg,zbi]<;>done))) ?_ ?_
    ·intro w ns hV k hk
     have:=zef hV k hk
     omega
    rintro w ns ⟨rfl,rfl⟩
    refine zdc ?_
    repeat' first|refine gwZ ?_|(refine gwX ?_;intro Q hQ _;simp [hC,hY,zcx,zbi];refine gwq hQ ?_)|fail
    simp only [zcx,zbi]
    have hfx:=zc1 N v
    have hix:=λD=>Blk.fx_ids hfx D
    have hCC:=hC
    obtain ⟨M,hM,hpre,hfin⟩:=z6q (λi=>v (sdA i)<=lw (sdA i)/\lw (sdA i)<=v (sdA i+3))
    refine zic (G:=G0) (f:=79) (caps:=#[.pointer (some ⟨440,0,none⟩),.pointer (some ⟨441,0,none⟩)]) (rs:=[200,440,441]) (xs:=zn2 200 lw) (w:=200) (ob:=λ_=>zbn N v) (m0:=[]) (λl0 h=>by cases h) G0F hC hC0 hY (by simp) ?_ (by simp) (by omega) ?_ (by simp [ntmps18]) [(4,.pointer (some ⟨216,0,none⟩))] (λ_=>[(200,zbn N v),(216,⟨#[.bool false],.ty 4⟩)]) 1000 M (by simp [zn2];omega) (by omega) ?_ (by simp) ?_ ?_ (by simp) ?_ ?_
    ·refine znq 200 440 (by omega) (by omega) (by omega) (by omega) (λ_=>zbn N v) (λ_=>zc1 N v) lw (by (intro k hk;first|rfl|(simp (disch:=omega) only [zb3,List.mem_cons,List.not_mem_nil,or_false,zab,zaq,zaw,if_neg,zbi]<;>done))) ?_ ?_ ?_
     ·simp [zbn,zbd,upd]
     ·simp [upd]
     ·simp [upd]
    ·exact znn 200 _
    ·simp [dom,upd]
    ·simp [zbn,zbd,upd]
    ·simp [hix,zap,zax,zah,zaj,zad,dom]
    ·intro i x hi hx C1 j c1 c2 c3
     have hi6:i<6:=by omega
     rw [zkw _ _ _ hi6] at hx
     simp only [Option.some.injEq] at hx
     subst hx
     obtain ⟨r1,r2⟩:=znm hi6
     have l0:=zf4 N v _ r1
     have l1:=zf4 N v _ r2
     have hle:=hpre i hi
     have q0:¬lw (sdA i)<v (sdA i):=by omega
     have q1:¬v (sdA i+3)<lw (sdA i):=by omega
     generalize sdA i=a at *
     unfold sdX
     clear hC hY
     have hC:=c1
     have hY:=c3
     repeat' first|refine gwZ ?_|(refine gwX ?_;intro Q hQ _;simp [hC,hY,zav];refine gwq hQ ?_)|fail
     intro C2 hC2 hh2 hY2
     clear hC hY
     have hC:=hC2
     have hY:=hY2
     repeat' first|refine gwZ ?_|(refine gwX ?_;intro Q hQ _;simp [hC,hY,l0,l1,q0,q1];refine gwq hQ ?_)|fail
     simp
    ·rcases hfin with rfl|⟨hM6,hbad⟩
     ·refine .inl ⟨by simp [zn2],?_⟩
      repeat' first|refine gwZ ?_|refine gwW ?_|fail
      refine ⟨.inr trivial,?_⟩
      have hlb:zjd ⟨N,v⟩ lw=true:=zvd.2 ⟨z,hr,hh1,hh2,hpre⟩
      simp [results18,hlb]
     ·refine .inr ⟨_,zkw _ _ _ hM6,?_⟩
      intro C1 j c1 c2 c3
      have hlb:zjd ⟨N,v⟩ lw=false:=by
       cases e:zjd ⟨N,v⟩ lw with
       | false=>rfl
       | true=>exact absurd ((zvd.1 e).2.2.2.2 M hM6) hbad
      obtain ⟨r1,r2⟩:=znm hM6
      have l0:=zf4 N v _ r1
      have l1:=zf4 N v _ r2
      by_cases q0:lw (sdA M)<v (sdA M)
      ·generalize sdA M=a at *
       unfold sdX
       clear hC hY
       have hC:=c1
       have hY:=c3
       repeat' first|refine gwZ ?_|(refine gwX ?_;intro Q hQ _;simp [hC,hY,zav];refine gwq hQ ?_)|fail
       intro C2 hC2 hh2 hY2
       clear hC hY
       have hC:=hC2
       have hY:=hY2
       repeat' first|refine gwZ ?_|(refine gwX ?_;intro Q hQ _;simp [hC,hY,l0,l1,q0];refine gwq hQ ?_)|fail
       refine ⟨rfl,by simp [zap,zax,zah,zaj,dom],by simp,.inr trivial,?_⟩
       simp [results18,hlb]
      ·have q1:v (sdA M+3)<lw (sdA M):=by omega
       generalize sdA M=a at *
       unfold sdX
       clear hC hY
       have hC:=c1
       have hY:=c3
       repeat' first|refine gwZ ?_|(refine gwX ?_;intro Q hQ _;simp [hC,hY,zav];refine gwq hQ ?_)|fail
       intro C2 hC2 hh2 hY2
       clear hC hY
       have hC:=hC2
       have hY:=hY2
       repeat' first|refine gwZ ?_|(refine gwX ?_;intro Q hQ _;simp [hC,hY,l0,l1,q0,q1];refine gwq hQ ?_)|fail
       refine ⟨rfl,by simp [zap,zax,zah,zaj,dom],by simp,.inr trivial,?_⟩
       simp [results18,hlb]
end Go.Gy
namespace Go.Gy
open Go Go.RowKit
theorem roN {q:Nat×List Nat×List Nat} (h:q∈([]:Tr)):q.2.2=[]:=by cases h
theorem ro1 {k:Nat} {rd:List Nat} {tr:Tr} (h:∀ q∈tr,q.2.2=[]):∀ q∈zfl k rd [] tr,q.2.2=[]:=by
 unfold zfl
 cases rd with
 | nil=>exact h
 | cons a l=>intro q hq;rcases List.mem_cons.1 hq with rfl|hq;exact rfl;exact h q hq
theorem ro2 {k:Nat} {rd:List Nat} {tr:Tr} (h:∀ q∈tr,q.2.2=[]):∀ q∈(k,rd,[])::tr,q.2.2=[]:=λq hq=>by
 rcases List.mem_cons.1 hq with rfl|hq;exact rfl;exact h q hq
theorem zsm {md:Region.Mode} {ops:Array Oper}:∀ {tr:Tr},(∀ q∈tr,q.2.2=[])->chk md ops tr=true
 | [],_=>rfl
 | (i,rd,wr)::tl,h=>by
  have hw:wr=[]:=h (i,rd,wr) (by simp)
  subst hw
  unfold chk
  rw [zsm (λq hq=>h q (by simp [hq])),Bool.and_true,List.all_eq_true]
  intro q hq
  rw [h q (by simp [hq])]
  simp [jl0]
theorem z2k {md:Region.Mode} {ops:Array Oper} {i:Nat} {rd wr:List Nat} {tl:Tr} (h:(tl.all λq=>zja md ops i q.1)=true) (h2:chk md ops tl=true):chk md ops ((i,rd,wr)::tl)=true:=by
 unfold chk
 rw [h2,Bool.and_true,List.all_eq_true]
 intro q hq
 rw [List.all_eq_true.1 h q hq,Bool.or_true]
end Go.Gy
namespace Go.Gy
open Go Go.RowKit Go.Proofs Go.Proofs.Tryz
structure LAny (L:List (Nat×Blk)):Prop where
 ok:LOk L 200
 fx:∀ p∈L,p.2.fx
section
variable {L:List (Nat×Blk)}
theorem LAny.mem (h:LAny L) (p:Nat×Blk) (hp:p∈L):hpL G0 L p.1=some p.2:=LOk.at h.ok.one p hp
theorem LAny.low (h:LAny L) (k:Nat) (hk:k<100):hpL G0 L k=G0 k:=h.ok.low k hk
end
def SlI (L:List (Nat×Blk)) (p:Option Addr):Prop:=∀ n cap,zah (λk=>k∈zaa L) (.slice p n cap)
theorem zhv {P:Program} {G:Hp} {L:List (Nat×Blk)} {B:Nat} {f:FuncId} {args:Array Value} {v:Value} {hp:Hp} {nk:Nat} {K:Eff->Prop} (h:Fun P G f args (hpL G L) (zaa L) (.ret v [])) (hL:LOk L B) (hm:∀ p∈L,hp p.1=some p.2) (hK:K ((Res.ret v []).eff (zaa L))):zik P G f args hp nk K:=by
 refine zcl h (λk hk=>?_) hL.low trivial hK
 obtain ⟨p,hp1,rfl⟩:=zag.1 hk
 rw [LOk.at hL.one p hp1,hm p hp1]
def v3 (x y z:Int):Value:=.agg #[.int .i64 x,.int .i64 y,.int .i64 z]
section
variable {L:List (Nat×Blk)} {p p2:Option Addr} {n cap n2 cap2:Nat} {g bx tp nr md st:Int}
theorem jej (h1:SlI L p) (h2:SlI L p2):∀ x∈#[cfV (.slice p n cap) g bx tp nr md,.agg #[.int .i64 st,.slice p2 n2 cap2]],zap (λk=>k∈zaa L) x:=by
 have a:=h1 n cap
 have b:=h2 n2 cap2
 simp only [cfV,List.mem_toArray,List.mem_cons,List.not_mem_nil,or_false,forall_eq_or_imp,forall_eq]
 simp [zap,zax,zah,zaj] at a b |-
 exact ⟨a,b⟩
theorem zj2 {p3:Option Addr} {n3 cap3:Nat} {st3:Int} (h1:SlI L p) (h2:SlI L p2) (h3:SlI L p3):∀ x∈#[cfV (.slice p n cap) g bx tp nr md,.agg #[.int .i64 st,.slice p2 n2 cap2],.agg #[.int .i64 st3,.slice p3 n3 cap3]],zap (λk=>k∈zaa L) x:=by
 have a:=h1 n cap
 have b:=h2 n2 cap2
 have c:=h3 n3 cap3
 simp only [cfV,List.mem_toArray,List.mem_cons,List.not_mem_nil,or_false,forall_eq_or_imp,forall_eq]
 simp [zap,zax,zah,zaj] at a b c |-
 exact ⟨a,b,c⟩
theorem jm9 (hT:LAny L) (h1:SlI L p) (h2:SlI L p2) {x0 x1 x2 e:Int} (hsum:Fun prog G0 70 #[cfV (.slice p n cap) g bx tp nr md,.agg #[.int .i64 st,.slice p2 n2 cap2],.func (.func 71) #[] #[]] (hpL G0 L) (zaa L) (.ret (.tuple #[v3 x0 x1 x2,.int .i64 e]) [])) :
  Fun prog G0 38 #[cfV (.slice p n cap) g bx tp nr md,.agg #[.int .i64 st,.slice p2 n2 cap2]] (hpL G0 L) (zaa L) (.ret (.tuple #[v3 x0 x1 x2,.int .i64 e]) []):=by
 refine zar (B:=200) G0F func38 rfl call38 hT.ok (jej h1 h2) (zai (by simp [v3])) (by simp) (by simp) (by simp [ntmps38]) (by omega) ?_
 intro C hC hC0 hY
 have hLow:=hT.low
 unfold cfV v3 at hsum |-
 repeat' first|refine gwZ ?_|((first|refine gwR [70] ?_|refine gwD [70] ?_);intro Q hQ _;(repeat first|simp [hC,hY]|refine za7 hsum hT.ok zdd ?_);refine gwq hQ ?_)|fail
 refine ⟨.inr rfl,by simp [results38],kpT G0F⟩
theorem jm7 (hT:LAny L) (h1:SlI L p) (h2:SlI L p2) {x0 x1 x2 e:Int} (hsum:Fun prog G0 70 #[cfV (.slice p n cap) g bx tp nr md,.agg #[.int .i64 st,.slice p2 n2 cap2],.func (.func 72) #[] #[]] (hpL G0 L) (zaa L) (.ret (.tuple #[v3 x0 x1 x2,.int .i64 e]) [])) :
  Fun prog G0 39 #[cfV (.slice p n cap) g bx tp nr md,.agg #[.int .i64 st,.slice p2 n2 cap2]] (hpL G0 L) (zaa L) (.ret (.tuple #[v3 x0 x1 x2,.int .i64 e]) []):=by
 refine zar (B:=200) G0F func39 rfl call39 hT.ok (jej h1 h2) (zai (by simp [v3])) (by simp) (by simp) (by simp [ntmps39]) (by omega) ?_
 intro C hC hC0 hY
 have hLow:=hT.low
 unfold cfV v3 at hsum |-
 repeat' first|refine gwZ ?_|((first|refine gwR [70] ?_|refine gwD [70] ?_);intro Q hQ _;(repeat first|simp [hC,hY]|refine za7 hsum hT.ok zdd ?_);refine gwq hQ ?_)|fail
 refine ⟨.inr rfl,by simp [results39],kpT G0F⟩
end
def stP (st:Int) (p:Option Addr) (n cap:Nat):Blk:=⟨#[.int .i64 st,.slice p n cap],.ty 27⟩
def lsL (L:List (Nat×Blk)) (p pa pb:Option Addr) (n cap na capa nb capb:Nat) (g bx tp nr md sta stb:Int):List (Nat×Blk):=(200,cfB (.slice p n cap) g bx tp nr md)::(208,stP sta pa na capa)::(216,stP stb pb nb capb)::L
section
variable {L:List (Nat×Blk)} {p pa pb:Option Addr} {n cap na capa nb capb:Nat} {g bx tp nr md sta stb:Int}
theorem z7c (hT:LAny L) (h1:SlI L p) (h2:SlI L pa) (h3:SlI L pb):LOk (lsL L p pa pb n cap na capa nb capb g bx tp nr md sta stb) 300:=by
 have hL:=hT.ok
 have h9:∀ q,200<=q->q∉zaa L:=λq hq h=>by
  obtain ⟨p,hp,e⟩:=zag.1 h
  have:=hL.big p hp
  omega
 have mono:∀ {p:Option Addr} {n cap:Nat},SlI L p->zah (λk=>k∈zaa (lsL L p pa pb n cap na capa nb capb g bx tp nr md sta stb)) (.slice p n cap):=by
  intro p n cap h
  have:=h n cap
  cases p with
  | none=>simp [zah,zaj]
  | some a =>
   simp [zah,zaj] at this |-
   exact List.mem_cons_of_mem _ (List.mem_cons_of_mem _ (List.mem_cons_of_mem _ this))
 refine ⟨?_,?_,?_⟩
 ·intro p hp
  simp only [lsL,List.mem_cons] at hp
  rcases hp with rfl|rfl|rfl|hp
  ·simp
  ·simp
  ·simp
  ·have:=hL.big p hp;omega
 ·show (200::208::216::zaa L).Nodup
  simp only [List.nodup_cons,List.mem_cons,not_or]
  exact ⟨⟨by omega,by omega,h9 200 (by omega)⟩,⟨by omega,h9 208 (by omega)⟩,h9 216 (by omega),hL.one⟩
 ·intro q hq
  have k1:=h1 n cap
  have k2:=h2 na capa
  have k3:=h3 nb capb
  have up:∀ {v:Value},zah (λk=>k∈zaa L) v->zah (λk=>k∈zaa (lsL L p pa pb n cap na capa nb capb g bx tp nr md sta stb)) v:=λ{v} h=>zdz (λk hk=>List.mem_cons_of_mem _ (List.mem_cons_of_mem _ (List.mem_cons_of_mem _ hk))) h
  have u1:=up k1
  have u2:=up k2
  have u3:=up k3
  simp only [lsL,List.mem_cons] at hq
  rcases hq with rfl|rfl|rfl|hq
  ·simp only [cfB]
   refine Blk.ids_of λx hx=>?_
   simp at hx
   rcases hx with rfl|rfl|rfl|rfl|rfl|rfl
   ·exact u1
   all_goals simp [zah,zaj]
  ·simp only [stP]
   refine Blk.ids_of λx hx=>?_
   simp at hx
   rcases hx with rfl|rfl
   ·simp [zah,zaj]
   ·exact u2
  ·simp only [stP]
   refine Blk.ids_of λx hx=>?_
   simp at hx
   rcases hx with rfl|rfl
   ·simp [zah,zaj]
   ·exact u3
  ·exact Blk.fx_ids (hT.fx q hq) _
theorem zo6 (hT:LAny L) (h1:SlI L p) (h2:SlI L pa) (h3:SlI L pb) {F:Nat} (hF:¬F=35) {x0 x1 x2 e y0 y1 y2 e':Int} (d0:i64 (y0 - x0)) (d1:i64 (y1 - x1)) (d2:i64 (y2 - x2))
  (hFa:Fun prog G0 F #[cfV (.slice p n cap) g bx tp nr md,.agg #[.int .i64 sta,.slice pa na capa]] (hpL G0 L) (zaa L) (.ret (.tuple #[v3 x0 x1 x2,.int .i64 e]) []))
  (hFb:Fun prog G0 F #[cfV (.slice p n cap) g bx tp nr md,.agg #[.int .i64 stb,.slice pb nb capb]] (hpL G0 L) (zaa L) (.ret (.tuple #[v3 y0 y1 y2,.int .i64 e']) [])) :
  Fun prog G0 34 #[.func (.func F) #[] #[],.pointer (some ⟨200,0,none⟩),.pointer (some ⟨208,0,none⟩),.pointer (some ⟨216,0,none⟩)] (hpL G0 (lsL L p pa pb n cap na capa nb capb g bx tp nr md sta stb)) (zaa (lsL L p pa pb n cap na capa nb capb g bx tp nr md sta stb)) (.ret (v3 (y0 - x0) (y1 - x1) (y2 - x2)) []):=by
 have hLs:=z7c (n:=n) (cap:=cap) (na:=na) (capa:=capa) (nb:=nb) (capb:=capb) (g:=g) (bx:=bx) (tp:=tp) (nr:=nr) (md:=md) (sta:=sta) (stb:=stb) hT h1 h2 h3
 refine zar (B:=300) G0F func34 rfl call34 hLs ?_ (zai (by simp [v3])) (by simp) (by simp) (by simp [ntmps34]) (by omega) ?_
 ·simp [zap,zax,zah,zaj,lsL,zaa]
 intro C hC hC0 hY
 have hLow:=hLs.low (G:=G0)
 have hml:=jah d0 d1 d2
 have hout:∀ k,300<=k->∀ p∈L,¬p.1=k:=λk hk p hp=>by have:=hT.ok.big p hp;omega
 unfold cfV v3 at hFa hFb
 unfold v3
 unfold lsL cfB stP at hLow |-
 have hF1:(F=35)=False:=eq_false hF
 have hF2:(35=F)=False:=eq_false λh=>hF h.symm
 repeat' first|refine gwZ ?_|((first|refine gwR [F] ?_|refine gwD [F] ?_);intro Q hQ _;(repeat first|simp [hC,hY]|refine za7 hFa hT.ok zdd ?_|refine za7 hFb hT.ok zdd ?_);refine gwq hQ ?_)|fail
 repeat' first|refine gwZ ?_|(refine gwX ?_;intro Q hQ _;simp [hC,hY,hml];refine gwq hQ ?_)|fail
 refine ⟨.inr rfl,by simp [results34],zb4 G0F (λq hq=>?_) (λk hk=>?_)⟩
 ·have hb:=hLs.big q hq
  simp (disch:=omega) only [zab]
 ·simp (disch:=omega) only [zab]
theorem zgj (hT:LAny L) (h1:SlI L p) (h2:SlI L pa) (h3:SlI L pb) {lo hi e:Int} (he:¬e=0)
  (hEa:Fun prog G0 36 #[cfV (.slice p n cap) g bx tp nr md,.agg #[.int .i64 sta,.slice pa na capa]] (hpL G0 L) (zaa L) (.ret (.tuple #[spV lo hi,.int .i64 e]) [])) :
  Fun prog G0 10 #[cfV (.slice p n cap) g bx tp nr md,.agg #[.int .i64 sta,.slice pa na capa],.agg #[.int .i64 stb,.slice pb nb capb]] (hpL G0 L) (zaa L) (.ret (.tuple #[zbh λ_=>0,.int .i64 e]) []):=by
 refine zar (B:=200) G0F func10 rfl call10 hT.ok (zj2 h1 h2 h3) (zai (by simp [zbh])) (by simp) (by simp) (by simp [ntmps10]) (by omega) ?_
 intro C hC hC0 hY
 have hLow:=hT.low
 have heb:(e != 0)=true:=by simpa using he
 unfold cfV spV at hEa
 unfold cfV
 repeat' first|refine gwZ ?_|((first|refine gwR [36] ?_|refine gwD [36] ?_);intro Q hQ _;(repeat first|simp [hC,hY,he,heb]|refine za7 hEa hT.ok zdd ?_);refine gwq hQ ?_)|fail
 refine ⟨.inr rfl,by simp [results10,zbh,zaf],kpT G0F⟩
theorem zlw (hT:LAny L) (h1:SlI L p) (h2:SlI L pa) (h3:SlI L pb) {lo hi lo2 hi2 e:Int} (he:¬e=0)
  (hEa:Fun prog G0 36 #[cfV (.slice p n cap) g bx tp nr md,.agg #[.int .i64 sta,.slice pa na capa]] (hpL G0 L) (zaa L) (.ret (.tuple #[spV lo hi,.int .i64 0]) []))
  (hEb:Fun prog G0 36 #[cfV (.slice p n cap) g bx tp nr md,.agg #[.int .i64 stb,.slice pb nb capb]] (hpL G0 L) (zaa L) (.ret (.tuple #[spV lo2 hi2,.int .i64 e]) [])) :
  Fun prog G0 10 #[cfV (.slice p n cap) g bx tp nr md,.agg #[.int .i64 sta,.slice pa na capa],.agg #[.int .i64 stb,.slice pb nb capb]] (hpL G0 L) (zaa L) (.ret (.tuple #[zbh λ_=>0,.int .i64 e]) []):=by
 refine zar (B:=200) G0F func10 rfl call10 hT.ok (zj2 h1 h2 h3) (zai (by simp [zbh])) (by simp) (by simp) (by simp [ntmps10]) (by omega) ?_
 intro C hC hC0 hY
 have hLow:=hT.low
 have heb:(e != 0)=true:=by simpa using he
 unfold cfV spV at hEa hEb
 unfold cfV
 repeat' first|refine gwZ ?_|((first|refine gwR [36] ?_|refine gwD [36] ?_);intro Q hQ _;(repeat first|simp [hC,hY,he,heb]|refine za7 hEa hT.ok zdd ?_|refine za7 hEb hT.ok zdd ?_);refine gwq hQ ?_)|fail
 refine ⟨.inr rfl,by simp [results10,zbh,zaf],kpT G0F⟩
def lsN (lo hi x0 x1 x2 y0 y1 y2:Int):Nat->Int
 | 0=>lo
 | 1=>hi
 | 2=>x0
 | 3=>x1
 | 4=>x2
 | 5=>x0
 | 6=>x1
 | 7=>x2
 | 8=>y0
 | 9=>y1
 | 10=>y2
 | 11=>y0
 | 12=>y1
 | 13=>y2
 | _=>0
theorem z3h (hT:LAny L) (h1:SlI L p) (h2:SlI L pa) (h3:SlI L pb) {lo hi lo2 hi2 p0 p1 p2 q0 q1 q2:Int}
  (hEa:Fun prog G0 36 #[cfV (.slice p n cap) g bx tp nr md,.agg #[.int .i64 sta,.slice pa na capa]] (hpL G0 L) (zaa L) (.ret (.tuple #[spV lo hi,.int .i64 0]) []))
  (hEb:Fun prog G0 36 #[cfV (.slice p n cap) g bx tp nr md,.agg #[.int .i64 stb,.slice pb nb capb]] (hpL G0 L) (zaa L) (.ret (.tuple #[spV lo2 hi2,.int .i64 0]) []))
  (hMP:Fun prog G0 34 #[.func (.func 38) #[] #[],.pointer (some ⟨200,0,none⟩),.pointer (some ⟨208,0,none⟩),.pointer (some ⟨216,0,none⟩)] (hpL G0 (lsL L p pa pb n cap na capa nb capb g bx tp nr md sta stb)) (zaa (lsL L p pa pb n cap na capa nb capb g bx tp nr md sta stb)) (.ret (v3 p0 p1 p2) []))
  (hML:Fun prog G0 34 #[.func (.func 39) #[] #[],.pointer (some ⟨200,0,none⟩),.pointer (some ⟨208,0,none⟩),.pointer (some ⟨216,0,none⟩)] (hpL G0 (lsL L p pa pb n cap na capa nb capb g bx tp nr md sta stb)) (zaa (lsL L p pa pb n cap na capa nb capb g bx tp nr md sta stb)) (.ret (v3 q0 q1 q2) [])) :
  Fun prog G0 10 #[cfV (.slice p n cap) g bx tp nr md,.agg #[.int .i64 sta,.slice pa na capa],.agg #[.int .i64 stb,.slice pb nb capb]] (hpL G0 L) (zaa L) (.ret (.tuple #[zbh (lsN (lo2 - hi) (hi2 - lo) p0 p1 p2 q0 q1 q2),.int .i64 0]) []):=by
 have hLs:=z7c (n:=n) (cap:=cap) (na:=na) (capa:=capa) (nb:=nb) (capb:=capb) (g:=g) (bx:=bx) (tp:=tp) (nr:=nr) (md:=md) (sta:=sta) (stb:=stb) hT h1 h2 h3
 refine zar (B:=200) G0F func10 rfl call10 hT.ok (zj2 h1 h2 h3) (zai (by simp [zbh])) (by simp) (by simp) (by simp [ntmps10]) (by omega) ?_
 intro C hC hC0 hY
 have hLow:=hT.low
 have hLs3:∀ {hp:Hp},hp 200=some (cfB (.slice p n cap) g bx tp nr md)->hp 208=some (stP sta pa na capa)->hp 216=some (stP stb pb nb capb)->(∀ q∈L,hp q.1=some q.2)->∀ q∈lsL L p pa pb n cap na capa nb capb g bx tp nr md sta stb,hp q.1=some q.2:=λa b c d q hq=>by
  simp only [lsL,List.mem_cons] at hq
  rcases hq with rfl|rfl|rfl|hq
  ·exact a
  ·exact b
  ·exact c
  ·exact d q hq
 unfold cfV spV at hEa hEb
 unfold v3 at hMP hML
 unfold cfV zbh
 repeat' first|refine gwZ ?_|((first|refine gwR [36] ?_|refine gwD [36] ?_);intro Q hQ _;(repeat first|simp [hC,hY]|refine za7 hEa hT.ok zdd ?_|refine za7 hEb hT.ok zdd ?_);refine gwq hQ ?_)|fail
 repeat' first|refine gwZ ?_|((first|refine gwR [34] ?_|refine gwD [34] ?_);intro Q hQ _;(repeat first|simp [hC,hY]|refine zhv hMP hLs (hLs3 (by simp [cfB]) (by simp [stP]) (by simp [stP]) zdd) ?_|refine zhv hML hLs (hLs3 (by simp [cfB]) (by simp [stP]) (by simp [stP]) zdd) ?_);refine hQ _ _ _ _ ?_ ?_;(focus (first|(rfl;done)|(refine zsm ?_;(repeat (first|(exact λq hq=>roN hq;done)|refine ro1 ?_|refine ro2 ?_));done)|(refine z2k (by kernel_rfl) (zsm ?_);(repeat (first|(exact λq hq=>roN hq;done)|refine ro1 ?_|refine ro2 ?_));done))))|fail
 refine ⟨.inr rfl,by simp [results10,lsN],kpT G0F⟩
end
def lix (w:Nat->Nat->Int) (n:Nat):List Nat:=(List.range n).filter λi=>zfg (w i)
theorem zed (w:Nat->Nat->Int) (n:Nat):zhb w (n+1)=zhb w n+if zfg (w n) then 1 else 0:=rfl
theorem zna (w:Nat->Nat->Int) (n:Nat):lix w (n+1)=lix w n++if zfg (w n) then [n] else []:=by
 unfold lix
 rw [List.range_succ,List.filter_append]
 congr 1
 cases h:zfg (w n)<;>simp [h]
theorem zf7 (w:Nat->Nat->Int):∀ n,(lix w n).length=zhb w n
 | 0=>rfl
 | n+1=>by
  rw [zna,List.length_append,zf7 w n,zhb]
  split<;>rfl
theorem z68 {w:Nat->Nat->Int}:∀ {n i:Nat},i<n->zfg (w i)=true->(lix w n)[zhb w i]? = some i
 | 0,i,h,_=>absurd h (Nat.not_lt_zero i)
 | n+1,i,h,hf=>by
  rw [zna]
  by_cases e:i=n
  ·subst e
   rw [List.getElem?_append_right (by rw [zf7];exact Nat.le_refl _),zf7,Nat.sub_self,if_pos hf]
   rfl
  ·have ih:=z68 (w:=w) (n:=n) (i:=i) (by omega) hf
   rw [List.getElem?_append_left (List.getElem?_eq_some_iff.1 ih).1]
   exact ih
theorem jaa {w:Nat->Nat->Int} {n i:Nat} (h:i∈lix w n):i<n/\zfg (w i)=true:=by
 unfold lix at h
 rw [List.mem_filter,List.mem_range] at h
 exact h
theorem z2q {w:Nat->Nat->Int} {n m:Nat} (h:n<=m):zhb w n<=zhb w m:=by
 induction m with
 | zero=>rw [Nat.le_zero.1 h];exact Nat.le_refl _
 | succ m ih =>
  by_cases e:n=m+1
  ·rw [e];exact Nat.le_refl _
  ·have:=ih (by omega)
   rw [zed]
   omega
theorem zs2 (w:Nat->Nat->Int) (stop:Nat):∀ n,∃ N,N<=n/\(∀ i,i<N->zfg (w i)=true->zhb w i<stop)/\((N=n/\zhb w n<=stop)\/(N<n/\zfg (w N)=true/\zhb w N=stop))
 | 0=>⟨0,Nat.le_refl _,λi hi=>absurd hi (Nat.not_lt_zero i),.inl ⟨rfl,Nat.zero_le _⟩⟩
 | n+1=>by
  obtain ⟨N,h1,h2,h3⟩:=zs2 w stop n
  rcases h3 with ⟨rfl,h3⟩|h3
  ·cases hf:zfg (w N) with
   | false =>
    refine ⟨N+1,Nat.le_refl _,λi hi hfi=>?_,.inl ⟨rfl,by rw [zed,hf];exact h3⟩⟩
    by_cases e:i=N
    ·subst e;rw [hf] at hfi;cases hfi
    ·exact h2 i (by omega) hfi
   | true =>
    by_cases e:zhb w N=stop
    ·exact ⟨N,Nat.le_succ _,h2,.inr ⟨Nat.lt_succ_self _,hf,e⟩⟩
    ·refine ⟨N+1,Nat.le_refl _,λi hi hfi=>?_,.inl ⟨rfl,by rw [zed,hf,if_pos rfl];omega⟩⟩
     by_cases e2:i=N
     ·subst e2;omega
     ·exact h2 i (by omega) hfi
  ·exact ⟨N,by omega,h2,.inr ⟨by omega,h3.2⟩⟩
theorem LB.loss {b:Blk} {off n:Nat} {w:Nat->Nat->Int} (h:LB b off n w) {i:Nat} (hi:i<n):zc6 prog 38 b (off+i*14)=some (zbh (w i)):=by
 have hbrd:=Blk.fx_rd h.fx
 have:=jm5 (P:=prog) (T:=38) (m:=14) (j:=14*i) (za8 isAgg38) (zam sizeOf38) (by omega) h.rd (by omega) (λq hq=>by unfold zjf;exact zlz _ _)
 rw [show off+i*14=off+14*i by omega,this,<-zs5]
 refine congrArg some (congrArg Value.agg (zo0 (by simp) λj hj=>?_))
 rw [zx3 _ _ hj]
 unfold zjf
 rw [show (14*i+j) / 14=i by omega,show (14*i+j)%14=j by omega]
theorem LB.ok1 {b:Blk} {off n:Nat} {w:Nat->Nat->Int} (h:LB b off n w) {i:Nat} (hi:i<n):LsOk (w i):=⟨(h.wr i hi).1,(h.wr i hi).2,h.i64 i hi,h.ok i⟩
theorem zst {w:Nat->Int} (h:LsOk w):(zb8 (sz (w 0)) (sz (w 1))<=0)=(zfg w=true):=by
 rw [zd6 h.w0.1 h.w0.2,zd6 h.w1.1 h.w1.2]
 unfold zfg zb8
 apply propext
 rw [decide_eq_true_eq]
 constructor
 ·intro h;split at h<;>(try split at h)<;>omega
 ·intro h;split<;>(try split)<;>omega
def slB (k off n cap:Nat):Blk:=⟨#[.slice (some ⟨k,off,none⟩) n cap],.ty 36⟩
def jee (nk k off n cap:Nat) (v:Value) (ns:List (Nat×Blk)):Prop:=v=.func (.func 80) #[] #[.pointer (some ⟨nk,0,none⟩)]/\ns=[(nk,slB k off n cap)]
theorem z36 (b:Blk) (hb:b.fx) (off n cap:Nat) :
  FunS prog G0 48 #[.slice (some ⟨100,off,none⟩) n cap] (hpL G0 [(100,b)]) (zaa [(100,b)]) (jee 1000 100 off n cap):=by
 refine zet (B:=200) G0F func48 rfl call48 (zao hb) ?_ ?_ (by simp [ntmps48]) (by omega) ?_
 ·simp [zap,zax,zah,zaj,zaa]
 ·rintro v ns ⟨rfl,rfl⟩
  refine ⟨by simp [zap,zax,zah,zaj,zc7,zaa],?_,?_⟩
  ·simp [slB,zad,zah,zaj,zc7,zaa]
  ·intro k b c h1 h2
   simp at h1 h2
   obtain ⟨_,rfl⟩:=h1
   obtain ⟨_,rfl⟩:=h2
   rfl
 intro C hC hC0 hY
 repeat' first|refine gwZ ?_|refine gwW ?_|fail
 refine ⟨.inr trivial,kpS G0F,_,_,λk=>if k=1000 then 200 else k,⟨rfl,rfl⟩,λk hk=>if_neg (by omega),by simp,by simp,by simp [results48,ren,zay,zak,zan],?_⟩
 simp [slB,Blk.rn,zak,zan]
def loL (b:Blk) (off n cap:Nat):List (Nat×Blk):=[(100,b),(108,slB 100 off n cap)]
theorem zyr {b:Blk} (hb:b.fx) (off n cap:Nat):LOk (loL b off n cap) 200:=⟨by simp [loL],by simp [loL,zaa],by
 simp only [loL,List.mem_cons,List.not_mem_nil,or_false,forall_eq_or_imp,forall_eq]
 exact ⟨Blk.fx_ids hb _,by simp [slB,zad,zah,zaj,zaa]⟩⟩
def zys (w:Nat->Nat->Int) (n:Nat):List (Array Value):=(lix w n).map λi=>#[zbh (w i)]
theorem zs3 (w:Nat->Nat->Int) (n:Nat):(zys w n).length=zhb w n:=by rw [zys,List.length_map,zf7]
theorem zyt {w:Nat->Nat->Int} {n i:Nat} (h:i<n) (hf:zfg (w i)=true):(zys w n)[zhb w i]? = some #[zbh (w i)]:=by
 rw [zys,List.getElem?_map,z68 h hf]
 rfl
def jkl (b:Blk) (off n cap:Nat) (w:Nat->Nat->Int) (l i:Nat):GS :=
 ⟨tsL [(0,.func (.yield l) #[] #[]),(1,.pointer (some ⟨108,0,none⟩)),(5,.slice (some ⟨100,off,none⟩) n cap),(6,.int .i64 n),(7,.int .i64 i)],hpL G0 (loL b off n cap),300,zhb w i⟩
theorem zy0 (b:Blk) (off n cap:Nat) (w:Nat->Nat->Int) (h:LB b off n w) :
  IterK prog G0 80 #[.pointer (some ⟨108,0,none⟩)] (hpL G0 (loL b off n cap)) (zaa (loL b off n cap)) (zys w n):=by
 refine zdm (B:=200) (v:=.tuple #[]) G0F func80 rfl call80 (zyr h.fx off n cap) ?_ (by simp [ntmps80]) (by omega) ?_
 ·simp [zap,zax,zah,zaj,loL,zaa]
 intro C l stop hC hC0 hY
 have hnn:=h.nn
 have hid:=λD=>Blk.fx_ids h.fx D
 have hL:=zyr h.fx off n cap
 have hlt:∀ k,dom (hpL G0 (loL b off n cap)) k->k<200:=λk hk=>Classical.byContradiction λh1=>hk (hL.free G0F (by omega) k (by omega))
 obtain ⟨N,hN,hpre,hfin⟩:=zs2 w stop n
 have hlen:=zs3 w n
 unfold loL slB
 repeat' first|refine gwZ ?_|refine gwW ?_|fail
 refine zbt N (jkl b off n cap w l) ?_ ?_ ?_
 ·refine za3 _ 300 hC G0F (m0:=loL b off n cap) hC0 (by omega) ?_ ?_ ?_
  ·simp [zap,zax,zah,zaj,dom,loL]
  ·simp [loL,slB,zad,zah,zaj,hid,dom]
  ·simp [loL,slB]
 ·intro i hi
  have hin:i<n:=by omega
  have hi':(i:Int)<n:=by omega
  have hz:(0:Int)<=i:=by omega
  have hs:Int.bmod ((i:Int)+1) 18446744073709551616=((i+1:Nat):Int):=by rw [bm (by omega) (by omega)];rfl
  have hld:=h.loss hin
  have hok:=zst (h.ok1 hin)
  unfold jkl loL slB
  unfold zbh at hld
  cases hf:zfg (w i) with
  | true =>
   have hst:=hpre i hi hf
   have hx:=zyt hin hf
   unfold zbh at hx
   have hq2:(zhb w i != stop)=true:=by simp;omega
   have hle:zhb w i<=stop:=by omega
   have hcs:zhb w (i+1)=zhb w i+1:=by rw [zed,hf];rfl
   rw [hf] at hok
   have hok2:(zb8 (sz (w i 0)) (sz (w i 1))<=0)=True:=hok.trans (by simp)
   repeat' first|refine gwZ ?_|(refine gwX ?_;intro Q hQ _;simp [hC,hY,hin,hi',hz,hs,hq2,hle,hld,hx,hok2];refine gwq hQ ?_)|fail
   rw [<-hcs]
   refine za3 _ 300 hC G0F (m0:=loL b off n cap) hC0 (by omega) ?_ ?_ ?_
   ·simp [zap,zax,zah,zaj,dom,loL,hs]
   ·simp [loL,slB,zad,zah,zaj,hid,dom]
   ·simp [loL,slB]
  | false =>
   have hcs:zhb w (i+1)=zhb w i:=by rw [zed,hf];rfl
   rw [hf] at hok
   have hok2:(zb8 (sz (w i 0)) (sz (w i 1))<=0)=False:=hok.trans (by simp)
   repeat' first|refine gwZ ?_|(refine gwX ?_;intro Q hQ _;simp [hC,hY,hin,hi',hz,hs,hld,hok2];refine gwq hQ ?_)|fail
   rw [<-hcs]
   refine za3 _ 300 hC G0F (m0:=loL b off n cap) hC0 (by omega) ?_ ?_ ?_
   ·simp [zap,zax,zah,zaj,dom,loL,hs]
   ·simp [loL,slB,zad,zah,zaj,hid,dom]
   ·simp [loL,slB]
 ·rcases hfin with ⟨rfl,hc⟩|⟨hlt2,hf,hc⟩
  ·unfold jkl
   repeat' first|refine gwZ ?_|refine gwW ?_|fail
   refine ⟨.inl trivial,by simp [results80],by rw [hlen];omega,λk hk=>?_⟩
   have hk:=hlt k hk
   first|rfl|(simp (disch:=omega) only [zab])
  ·have hi':(N:Int)<n:=by omega
   have hz:(0:Int)<=N:=by omega
   have hld:=h.loss hlt2
   have hx:=zyt hlt2 hf
   have hok:=zst (h.ok1 hlt2)
   rw [hf] at hok
   have hok2:(zb8 (sz (w N 0)) (sz (w N 1))<=0)=True:=hok.trans (by simp)
   have hcs:zhb w (N+1)=zhb w N+1:=by rw [zed,hf];rfl
   have hmono:=z2q (w:=w) (n:=N+1) (m:=n) (by omega)
   unfold jkl loL slB
   unfold zbh at hld hx
   subst hc
   repeat' first|refine gwZ ?_|(refine gwX ?_;intro Q hQ _;simp [hC,hY,hlt2,hi',hz,hld,hx,hok2];refine gwq hQ ?_)|fail
   refine ⟨.inr trivial,by simp [results80],by rw [hlen];first|omega|(simp;omega),λk hk=>?_⟩
   have hk:=hlt k hk
   first|rfl|(simp (disch:=omega) only [zab];done)|(simp (disch:=omega) only [zab];rfl)
def jgn (nk k:Nat):Nat:=if k=1000 then nk else k
theorem jae {nk k off n cap:Nat} {ρ:Nat->Nat} (h0:ρ 1000=nk) (h1:ρ k=k):RR ρ (jee 1000 k off n cap)=jee nk k off n cap:=by
 funext v ns
 apply propext
 constructor
 ·rintro ⟨v0,ns0,⟨rfl,rfl⟩,rfl,rfl⟩
  exact ⟨by simp [ren,zay,zak,zan,h0],by simp [rnL,slB,Blk.rn,zak,zan,h0,h1]⟩
 ·rintro ⟨rfl,rfl⟩
  exact ⟨_,_,⟨rfl,rfl⟩,by simp [ren,zay,zak,zan,h0],by simp [rnL,slB,Blk.rn,zak,zan,h0,h1]⟩
theorem zjv {nk k off n cap:Nat} {v:Value} {ns:List (Nat×Blk)} (h:jee nk k off n cap v ns):∀ q∈zaa ns,q=nk:=by
 obtain ⟨rfl,rfl⟩:=h
 intro q hq
 simpa [zaa] using hq
theorem zyz (nk:Nat) (hnk:200<=nk) (b:Blk) (hb:b.fx) (off n cap:Nat) :
  FunS prog G0 48 #[.slice (some ⟨100,off,none⟩) n cap] (hpL G0 [(100,b)]) [100] (jee nk 100 off n cap):=by
 have e1:jgn nk 100=100:=rfl
 have e2:jgn nk 1000=nk:=rfl
 refine (z36 b hb off n cap).mvL (hp':=hpL G0 [(100,b)]) (rs':=[100]) G0F (zao hb) (jgn nk) (λk hk=>if_neg (by omega)) ?_ (by simp [zaa,e1]) (jae e2 e1) (λk hk=>zbc (by simp) hk) ?_ (by simp [zaa]) (λv ns hV k hk=>?_) (λv ns hV k hk l hl e=>by rw [zjv hV k hk,zjv hV l hl])
 ·simp [ren,zay,zak,zan,e1]
 ·intro p hp
  simp only [List.mem_singleton] at hp
  subst hp
  simp only [e1]
  exact ⟨by omega,by rw [Blk.fx_rn hb];simp⟩
 ·rw [zjv hV k hk,e2]
  exact ⟨by omega,by simp;omega⟩
theorem zvn (nk:Nat) (hnk:200<=nk) (b:Blk) (off n cap:Nat) (w:Nat->Nat->Int) (h:LB b off n w) {hp:Hp} (hG:∀ k,k<100->hp k=G0 k) (ha:hp 100=some b) (hc:hp nk=some (slB 100 off n cap)) :
  IterK prog G0 80 #[.pointer (some ⟨nk,0,none⟩)] hp [100,nk] (zys w n):=by
 refine zep (zy0 b off n cap w h) G0F (zyr h.fx off n cap) (λk=>if k=108 then nk else k) (λk hk=>if_neg (by omega)) (by simp [zan]) (by simp [loL,zaa]) hG ?_ ?_
 ·simp only [loL,List.mem_cons,List.not_mem_nil,or_false,forall_eq_or_imp,forall_eq]
  refine ⟨⟨by simp,?_⟩,by simp;omega,?_⟩
  ·rw [Blk.fx_rn h.fx];exact ha
  ·simp [slB,Blk.rn,zak,zan]
   exact hc
 ·simp only [loL,zaa,List.map_cons,List.map_nil,List.mem_cons,List.not_mem_nil,or_false]
  rintro k (rfl|rfl) l (rfl|rfl) e<;>simp at e<;>omega
end Go.Gy
namespace Go.Gy
open Go Go.RowKit Go.Proofs
theorem zsc {P:Program} {C:Ctx} {n:Nat} {d:List Deferred} {ro:Option Nat} {x y:Code} {s:GS} {K:Exit->GS->Prop} (S1:GS) (h1:GW P C n d ro x s (zbx (λs'=>Weak C s' S1) (λ_ _=>False))) (h2:GW P C n d ro y S1 K):GW P C n d ro (.seq x y) s K :=
 zho (zcb h1 λe s' h=>by
  cases e with
  | normal=>exact zqf h h2
  | _=>exact h.elim)
def HS.hq (h:HS) (w:Nat->Nat->Int) (l:List Nat):Nat->HS
 | 0=>h
 | c+1=>(h.hq w l c).one (w (l.getD c 0))
theorem jju (h:HS) (w:Nat->Nat->Int) (l:List Nat):∀ c,(h.hq w l c).N=h.N+c
 | 0=>(Int.add_zero _).symm
 | c+1=>by
  have ih:=jju h w l c
  unfold HS.hq HS.one
  simp only [ih]
  omega
theorem zyg (h:HS) (w:Nat->Nat->Int) (l l2:List Nat):∀ c,c<=l.length->h.hq w (l++l2) c=h.hq w l c
 | 0,_=>rfl
 | c+1,hc=>by
  have ih:=zyg h w l l2 c (by omega)
  have e:(l++l2).getD c 0=l.getD c 0:=by
   rw [List.getD_eq_getElem?_getD,List.getD_eq_getElem?_getD,List.getElem?_append_left (by omega)]
  unfold HS.hq
  rw [ih,e]
def tkM (h:HS) (w:Nat->Nat->Int) (n:Nat):Nat:=min (zhb w n) (1073741824 - h.N).toNat
theorem jin {h:HS} {w:Nat->Nat->Int} (h0:0<=h.N/\h.N<=1073741824):∀ n,h.tk w n=h.hq w (lix w n) (tkM h w n)
 | 0=>by
  have:tkM h w 0=0:=by unfold tkM;rw [show zhb w 0=0 from rfl];omega
  rw [this]
  rfl
 | n+1=>by
  have ih:=jin (h:=h) (w:=w) h0 n
  have hl:=zf7 w n
  have hN:=jju h w (lix w n) (tkM h w n)
  have hle:tkM h w n<=zhb w n:=Nat.min_le_left _ _
  unfold HS.tk
  rw [ih]
  rw [zna]
  cases hf:zfg (w n) with
  | false =>
   have e:tkM h w (n+1)=tkM h w n:=by unfold tkM;rw [zed,hf];rfl
   rw [if_neg (by simp),e]
   simp
  | true =>
   by_cases hm:(h.hq w (lix w n) (tkM h w n)).N=1073741824
   ·have e:tkM h w (n+1)=tkM h w n:=by unfold tkM at *;rw [zed,hf,if_pos rfl];omega
    rw [if_neg (by simp [hm]),e,zyg _ _ _ _ _ (by omega)]
   ·have e:tkM h w (n+1)=tkM h w n+1:=by unfold tkM at *;rw [zed,hf,if_pos rfl];omega
    have e2:tkM h w n=zhb w n:=by unfold tkM at *;omega
    rw [if_pos ⟨rfl,hm⟩,e]
    have e3:(lix w n++if (true:Bool)=true then [n] else []).getD (tkM h w n) 0=n:=by
     rw [if_pos rfl,List.getD_eq_getElem?_getD,List.getElem?_append_right (by omega),hl,e2,Nat.sub_self]
     rfl
    show _=HS.one _ _
    rw [zyg _ _ _ _ _ (by omega),e3]
theorem HOk.one {N:Int} {v w:Nat->Int} (h:HOk N v) (hl:LsOk w) (h0:0<=N) (hN:N<1073741824):HOk (HS.one ⟨N,v⟩ w).N (HS.one ⟨N,v⟩ w).v:=by
 have key:∀ {P:Int->Prop} (c:Nat),P (v c)->P (w c)->P ((HS.one ⟨N,v⟩ w).v c):=λ{P} c h1 h2=>by
  unfold HS.one mm
  simp only
  split
  ·exact h2
  ·split
   ·rcases Int.le_total (v c) (w c) with h|h
    ·rw [Int.min_eq_left h];exact h1
    ·rw [Int.min_eq_right h];exact h2
   ·rcases Int.le_total (v c) (w c) with h|h
    ·rw [Int.max_eq_right h];exact h2
    ·rw [Int.max_eq_left h];exact h1
 refine ⟨⟨?_,?_⟩,λc h1 h2=>key (P:=i64) c (h.i c h1 h2) (hl.i c h1 h2),key (P:=wr) 0 h.w0 hl.w0,key (P:=wr) 1 h.w1 hl.w1⟩<;>(unfold HS.one;simp only;omega)
theorem HOk.hq {h:HS} (hk:HOk h.N h.v) (h0:0<=h.N) {w:Nat->Nat->Int} {l:List Nat} (hl:∀ i∈l,LsOk (w i)):∀ c,c<=l.length->h.N+c<=1073741824->HOk (h.hq w l c).N (h.hq w l c).v
 | 0,_,_=>hk
 | c+1,h1,h2=>by
  have ih:=HOk.hq hk h0 hl c (by omega) (by omega)
  have hN:=jju h w l c
  have hm:l.getD c 0∈l:=by
   rw [List.getD_eq_getElem?_getD,List.getElem?_eq_getElem (by omega)]
   exact List.getElem_mem _
  have:=HOk.one ih (hl _ hm) (by omega) (by omega)
  exact this
def stc (c:Nat):Nat:=if c<2 then c else 2+2*((c - 2)%3)+(c - 2) / 6
def mxv (V v:Nat->Int) (k c:Nat):Int:=if stc c<k then V c else v c
theorem jaq {V v:Nat->Int} {c:Nat} (h:c<14):mxv V v 8 c=V c:=by
 have:stc c<8:=by unfold stc;split<;>omega
 unfold mxv
 rw [if_pos this]
theorem zkg {N:Int} {v v':Nat->Int} (h:∀ c,c<14->v c=v' c):zbd N v=zbd N v':=by
 unfold zbd
 rw [h 0 (by omega),h 1 (by omega),h 2 (by omega),h 3 (by omega),h 4 (by omega),h 5 (by omega),h 6 (by omega),h 7 (by omega),h 8 (by omega),h 9 (by omega),h 10 (by omega),h 11 (by omega),h 12 (by omega),h 13 (by omega)]
theorem jnd (N:Int) (V v:Nat->Int):zbd N (mxv V v 8)=zbd N V:=zkg λc hc=>jaq hc
theorem zqp {x y:Int}:(zb8 x y<0)=(x<y):=by
 unfold zb8
 apply propext
 constructor
 ·intro h;split at h<;>(try split at h)<;>omega
 ·intro h;split<;>(try split)<;>omega
theorem znc {c:Nat} (h:zsn c=true) (x y:Int):mm c x y=min x y:=if_pos h
theorem znb {c:Nat} (h:zsn c=false) (x y:Int):mm c x y=max x y:=by unfold mm;rw [if_neg (by rw [h];decide)]
def zwt (h:HS) (w:Nat->Nat->Int) (n:Nat):HS:=if zhm h=true then h.tk w n else h
def zc8 (h:HS):Value:=zbg h.N h.v
end Go.Gy
namespace Go.Gy
open Go Go.RowKit Go.Proofs Go.Proofs.Tryz
def zhB:Blk:=zbn 0 λ_=>0
def tkL (h:HS):List (Nat×Blk):=[(200,zbn h.N h.v),(208,zhB)]
theorem zo5 (b:Blk) (off n cap:Nat) (w:Nat->Nat->Int) (hL:LB b off n w) (N:Int) (v:Nat->Int) (h:HOk N v) :
  Fun prog G0 16 #[zbg N v,.slice (some ⟨100,off,none⟩) n cap] (hpL G0 [(100,b)]) (zaa [(100,b)]) (.ret (zc8 (zwt ⟨N,v⟩ w n)) []):=by
 have hR:=zfh h
 unfold zbg zbd at hR |-
 refine zar (B:=200) G0F func16 rfl call16 (zao hL.fx) ?_ (zai (by simp [zc8,zbg,zbd])) (by simp) (by simp) (by simp [ntmps16]) (by omega) ?_
 ·simp [zap,zax,zah,zaj,zaa]
 intro C hC hC0 hY
 unfold zwt
 cases hr:zhm ⟨N,v⟩ with
 | false =>
  rw [hr] at hR
  repeat' first|refine gwZ ?_|(refine gwX ?_;intro Q hQ _;simp [hC,hY,hR];refine gwq hQ ?_)|fail
  refine ⟨.inr rfl,?_,kpS G0F⟩
  simp [results16,zc8,zbg,zbd]
 | true =>
  rw [hr] at hR
  repeat' first|refine gwZ ?_|(refine gwX ?_;intro Q hQ _;simp [hC,hY,hR];refine gwq hQ ?_)|fail
  have hlo:=zyz 248 (by omega) b hL.fx off n cap
  refine zc3 ?_
  simp only [Array.toList]
  refine gwl 1 ?_;intro Q hQ;simp [hC,hY];apply hQ
  simp only [wT,wM,Nat.reduceAdd]
  refine zeo (f:=.func 48) (cap:=#[]) hC hlo rfl (by simp) rfl rfl (by simp [okT]) (by simp [gev]) (by simp) (by simp [okX,zcm]) (by simp [gev]) (by simp) (by (intro k hk;first|rfl|(simp (disch:=omega) only [zb3,List.mem_cons,List.not_mem_nil,or_false,zab,zaq,zaw,if_neg,zbi]<;>done))) ?_ ?_
  ·intro w ns hV k hk
   rw [zjv hV k hk]
   omega
  rintro w' ns ⟨rfl,rfl⟩
  refine zdc ?_
  repeat' first|refine gwZ ?_|(refine gwX ?_;intro Q hQ _;simp [hC,hY,zcx,zbi];refine gwq hQ ?_)|fail
  simp only [zcx,zbi]
  have hCC:=hC
  have hYY:=hY
  have hN:=jia hr
  simp only at hN
  have hlen:=zs3 w n
  have hM:tkM ⟨N,v⟩ w n<=zhb w n:=Nat.min_le_left _ _
  have hM2:N+tkM ⟨N,v⟩ w n<=1073741824:=by unfold tkM;simp only;omega
  have hls:∀ i∈lix w n,LsOk (w i):=λi hi=>hL.ok1 (jaa hi).1
  have hok:∀ c,c<=tkM ⟨N,v⟩ w n->HOk (HS.hq ⟨N,v⟩ w (lix w n) c).N (HS.hq ⟨N,v⟩ w (lix w n) c).v:=λc hc=>HOk.hq (h:=⟨N,v⟩) h hN.1 hls c (by rw [zf7];omega) (by simp only;omega)
  have hnn:=jju ⟨N,v⟩ w (lix w n)
  have hix:=λN v D=>Blk.fx_ids (zc1 N v) D
  refine zg8 (G:=G0) (f:=80) (rs:=[100,248]) (xs:=zys w n) (caps:=#[.pointer (some ⟨248,0,none⟩)]) (m0:=[(100,b)]) [100,248] G0F hC hC0 hY (by simp) ?_ ?_ (by simp [ntmps16]) [(2,.pointer (some ⟨200,0,none⟩)),(4,.pointer (some ⟨208,0,none⟩))] [] (λc=>tkL (HS.hq ⟨N,v⟩ w (lix w n) c)) 1000 (tkM ⟨N,v⟩ w n) (by rw [hlen];exact hM) (by omega) (by simp) (by simp [dom]) ?_ (by simp) (by simp) ?_ ?_ (by simp) ?_ ?_
  ·exact zvn 248 (by omega) b off n cap w hL (by (intro k hk;first|rfl|(simp (disch:=omega) only [zb3,List.mem_cons,List.not_mem_nil,or_false,zab,zaq,zaw,if_neg,zbi]<;>done))) (by simp) (by simp)
  ·intro x hx
   unfold zys at hx
   obtain ⟨i,_,rfl⟩:=List.mem_map.1 hx
   simp [zbh]
  ·intro k hk b' hb'
   simp only [List.mem_cons,List.not_mem_nil,or_false] at hk
   rcases hk with rfl|rfl
   ·simp at hb';subst hb';exact Blk.fx_ids hL.fx _
   ·simp at hb';subst hb';simp [slB,zad,zah,zaj]
  ·simp [tkL,HS.hq,zhB,zbn,zbd,zaf]
  ·intro i hi
   simp [tkL,zhB,zap,zax,zah,zaj,dom,hix]
  ·intro c x hc hx C1 j c1 c2 c3
   have hcl:c<(lix w n).length:=by rw [zf7];omega
   have hx2:x=#[zbh (w ((lix w n).getD c 0))]:=by
    unfold zys at hx
    rw [List.getElem?_map,List.getElem?_eq_getElem hcl] at hx
    rw [List.getD_eq_getElem?_getD,List.getElem?_eq_getElem hcl]
    exact (Option.some.inj hx).symm
   subst hx2
   have hlw:LsOk (w ((lix w n).getD c 0)):=hls _ (by rw [List.getD_eq_getElem?_getD,List.getElem?_eq_getElem hcl];exact List.getElem_mem _)
   have hH:=hok c (by omega)
   have hHN:=hnn c
   have e1:HS.hq ⟨N,v⟩ w (lix w n) (c+1)=(HS.hq ⟨N,v⟩ w (lix w n) c).one (w ((lix w n).getD c 0)):=rfl
   rw [e1]
   simp only at hHN
   have hb1:0<=(HS.hq ⟨N,v⟩ w (lix w n) c).N:=by omega
   have hb2:(HS.hq ⟨N,v⟩ w (lix w n) c).N<1073741824:=by omega
   clear hHN e1
   generalize w ((lix w n).getD c 0)=lw at *
   generalize HS.hq ⟨N,v⟩ w (lix w n) c=H at *
   obtain ⟨N',v'⟩:=H
   simp only at hH hb1 hb2
   clear hC hY hr hR hok hls hix hnn hcl hx
   have hC:=c1
   have hY:=c3
   unfold tkL zbh
   simp only [HS.one]
   have hs:Int.bmod (N'+1) 18446744073709551616=N'+1:=bm (by omega) (by omega)
   have hbN:(N'==1073741824)=false:=by simp;omega
   have hNe:¬N'=1073741824:=by omega
   repeat' first|refine gwZ ?_|(refine gwX ?_;intro Q hQ _;simp [hC,hY,zav];refine gwq hQ ?_)|fail
   intro C2 hC2 hh2 hY2 hat
   clear hC hY
   have hC:=hC2
   have hY:=hY2
   generalize hVd:(λc=>if N'=0 then lw c else mm c (v' c) (lw c))=V
   have hV:∀ c,V c=if N'=0 then lw c else mm c (v' c) (lw c):=λc=>by rw [<-hVd]
   have hix:=λN v D=>Blk.fx_ids (zc1 N v) D
   have hil:=λD=>Blk.fx_ids (zly lw) D
   refine zmk ?_
   have hm0:C2.hp0=hpL G0 [(200,zbn N' v'),(208,zhB)]:=hh2
   have hiz:=λD=>Blk.fx_ids (zc1 0 λ_=>0) D
   have ez:zhB=zbn 0 λ_=>0:=rfl
   refine zsc ⟨tsL [(2,.pointer (some ⟨200,0,none⟩)),(4,.pointer (some ⟨208,0,none⟩)),(5,.pointer (some ⟨1000,0,none⟩))],hpL G0 [(200,zbn N' v'),(208,zhB),(1000,loB lw)],1100,0⟩ ?_ ?_
   ·unfold zbn zbd
    repeat' first|refine gwZ ?_|(refine gwX ?_;intro Q hQ _;simp [hC,hY,hbN,hNe];refine gwq hQ ?_)|fail
    refine za3 _ 1100 hC G0F (m0:=[(200,zbn N' v'),(208,zhB)]) hm0 (by omega) ?_ ?_ ?_
    ·simp [zap,zax,zah,zaj,dom]
    ·simp [zad,zah,zaj,hil,ez,hiz]
     simp [loB]
    ·simp [zbn,zbd]
   refine zsc ⟨tsL [(2,.pointer (some ⟨200,0,none⟩)),(4,.pointer (some ⟨208,0,none⟩)),(5,.pointer (some ⟨1000,0,none⟩)),(6,.pointer (some ⟨1124,0,none⟩))],hpL G0 [(200,zbn N' v'),(208,zhB),(1000,loB lw),(1124,⟨#[.bool (N'==0)],.ty 4⟩)],1200,0⟩ ?_ ?_
   ·unfold zbn zbd
    repeat' first|refine gwZ ?_|(refine gwX ?_;intro Q hQ _;simp [hC,hY,hbN,hNe];refine gwq hQ ?_)|fail
    refine za3 _ 1200 hC G0F (m0:=[(200,zbn N' v'),(208,zhB)]) hm0 (by omega) ?_ ?_ ?_
    ·simp [zap,zax,zah,zaj,dom]
    ·simp [zad,zah,zaj,hil,ez,hiz]
    ·simp [zbn,zbd]
   have sl0:=zd6 hlw.w0.1 hlw.w0.2
   have sl1:=zd6 hlw.w1.1 hlw.w1.2
   have sv0:=zd6 hH.w0.1 hH.w0.2
   have sv1:=zd6 hH.w1.1 hH.w1.2
   refine zsc ⟨tsL [(2,.pointer (some ⟨200,0,none⟩)),(4,.pointer (some ⟨208,0,none⟩)),(5,.pointer (some ⟨1000,0,none⟩)),(6,.pointer (some ⟨1124,0,none⟩))],hpL G0 [(200,zbn (N'+1) (mxv V v' 1)),(208,zhB),(1000,loB lw),(1124,⟨#[.bool (N'==0)],.ty 4⟩)],1400,0⟩ ?_ ?_
   ·have V0:V 0=if N'=0 then lw 0 else min (v' 0) (lw 0):=by rw [hV,znc (by decide)]
    have hcs:N'=0\/(¬N'=0/\lw 0<v' 0)\/(¬N'=0/\¬lw 0<v' 0):=by omega
    unfold zbn zbd loB
    rcases hcs with z|⟨z,z1⟩|⟨z,z1⟩
    ·have zb:(N'==0)=true:=by simpa using z
     have V1:V 0=lw 0:=V0.trans (if_pos z)
     repeat' first|refine gwZ ?_|(refine gwX ?_;intro Q hQ _;simp [hC,hY,zb,hs];refine gwq hQ ?_)|fail
     refine za3 _ 1400 hC G0F (m0:=[(200,zbn N' v'),(208,zhB)]) hm0 (by omega) ?_ ?_ ?_
     ·simp [zap,zax,zah,zaj,dom]
     ·simp [zad,zah,zaj,ez,hiz,mxv,stc,V1,z]
     ·simp [zbn,zbd,mxv,stc,V1,z]
    ·have zb:(N'==0)=false:=by simpa using z
     have V1:V 0=lw 0:=by rw [V0,if_neg z];omega
     repeat' first|refine gwZ ?_|(refine gwX ?_;intro Q hQ _;simp [hC,hY,zb,hs,sl0,sl1,sv0,sv1,zqp,z1];refine gwq hQ ?_)|fail
     refine za3 _ 1400 hC G0F (m0:=[(200,zbn N' v'),(208,zhB)]) hm0 (by omega) ?_ ?_ ?_
     ·simp [zap,zax,zah,zaj,dom]
     ·simp [zad,zah,zaj,ez,hiz,mxv,stc,V1,z]
     ·simp [zbn,zbd,mxv,stc,V1,z]
    ·have zb:(N'==0)=false:=by simpa using z
     have V1:V 0=v' 0:=by rw [V0,if_neg z];omega
     repeat' first|refine gwZ ?_|(refine gwX ?_;intro Q hQ _;simp [hC,hY,zb,hs,sl0,sl1,sv0,sv1,zqp,z1];refine gwq hQ ?_)|fail
     refine za3 _ 1400 hC G0F (m0:=[(200,zbn N' v'),(208,zhB)]) hm0 (by omega) ?_ ?_ ?_
     ·simp [zap,zax,zah,zaj,dom]
     ·simp [zad,zah,zaj,ez,hiz,mxv,stc,V1,z]
     ·simp [zbn,zbd,mxv,stc,V1,z]
   refine zsc ⟨tsL [(2,.pointer (some ⟨200,0,none⟩)),(4,.pointer (some ⟨208,0,none⟩)),(5,.pointer (some ⟨1000,0,none⟩)),(6,.pointer (some ⟨1124,0,none⟩))],hpL G0 [(200,zbn (N'+1) (mxv V v' 2)),(208,zhB),(1000,loB lw),(1124,⟨#[.bool (N'==0)],.ty 4⟩)],1500,0⟩ ?_ ?_
   ·have VH:V 1=if N'=0 then lw 1 else max (v' 1) (lw 1):=by rw [hV,znb (by decide)]
    have hcs:N'=0\/(¬N'=0/\v' 1<lw 1)\/(¬N'=0/\¬v' 1<lw 1):=by omega
    unfold zbn zbd loB
    rcases hcs with z|⟨z,z1⟩|⟨z,z1⟩
    ·have zb:(N'==0)=true:=by simpa using z
     have V1:V 1=lw 1:=VH.trans (if_pos z)
     repeat' first|refine gwZ ?_|(refine gwX ?_;intro Q hQ _;simp [hC,hY,zb,hs,mxv,stc];refine gwq hQ ?_)|fail
     refine za3 _ 1500 hC G0F (m0:=[(200,zbn N' v'),(208,zhB)]) hm0 (by omega) ?_ ?_ ?_
     ·simp [zap,zax,zah,zaj,dom]
     ·simp [zad,zah,zaj,ez,hiz,mxv,stc,V1,z]
     ·simp [zbn,zbd,mxv,stc,V1,z]
    ·have zb:(N'==0)=false:=by simpa using z
     have V1:V 1=lw 1:=by rw [VH,if_neg z];omega
     repeat' first|refine gwZ ?_|(refine gwX ?_;intro Q hQ _;simp [hC,hY,zb,hs,mxv,stc,sl0,sl1,sv0,sv1,zih,z1];refine gwq hQ ?_)|fail
     refine za3 _ 1500 hC G0F (m0:=[(200,zbn N' v'),(208,zhB)]) hm0 (by omega) ?_ ?_ ?_
     ·simp [zap,zax,zah,zaj,dom]
     ·simp [zad,zah,zaj,ez,hiz,mxv,stc,V1,z]
     ·simp [zbn,zbd,mxv,stc,V1,z]
    ·have zb:(N'==0)=false:=by simpa using z
     have V1:V 1=v' 1:=by rw [VH,if_neg z];omega
     repeat' first|refine gwZ ?_|(refine gwX ?_;intro Q hQ _;simp [hC,hY,zb,hs,mxv,stc,sl0,sl1,sv0,sv1,zih,z1];refine gwq hQ ?_)|fail
     refine za3 _ 1500 hC G0F (m0:=[(200,zbn N' v'),(208,zhB)]) hm0 (by omega) ?_ ?_ ?_
     ·simp [zap,zax,zah,zaj,dom]
     ·simp [zad,zah,zaj,ez,hiz,mxv,stc,V1,z]
     ·simp [zbn,zbd,mxv,stc,V1,z]
   have hsd:=znp 1508 200 (by omega) (by omega) (by omega) (by omega) (zbn (N'+1) (mxv V v' 2)) (zc1 _ _) lw
   unfold zbh at hsd
   refine zho ?_
   refine zc3 ?_
   simp only [Array.toList]
   refine gwl 1 ?_;intro Q hQ;simp [hC,hY,loB];apply hQ
   simp only [wT,wM,Nat.reduceAdd]
   refine zeo (f:=.func 46) (cap:=#[]) hC hsd rfl (by simp) rfl rfl (by simp [okT]) (by simp [gev]) (by simp) (by simp [okX,zcm]) (by simp [gev]) (by simp) (by (intro k hk;first|rfl|(simp (disch:=omega) only [zb3,List.mem_cons,List.not_mem_nil,or_false,zab,zaq,zaw,if_neg,zbi]<;>done))) ?_ ?_
   ·intro w ns hV k hk
    have:=zef hV k hk
    omega
   rintro w'' ns ⟨rfl,rfl⟩
   refine zdc ?_
   simp only [zcj]
   refine zmk ?_
   have hCC2:=hC
   have hra:∀ i,i<6->V (sdA i)=(if N'=0 then lw (sdA i) else min (v' (sdA i)) (lw (sdA i)))/\V (sdA i+3)=(if N'=0 then lw (sdA i) else max (v' (sdA i+3)) (lw (sdA i))):=λi hi=>by
    have q:∀ q,q<3->(zsn (2+q)=true/\zsn (8+q)=true/\zsn (5+q)=false/\zsn (11+q)=false):=λq hq=>je6 hq
    have key:zsn (sdA i)=true/\zsn (sdA i+3)=false/\lw (sdA i+3)=lw (sdA i):=by
     have h0:=hlw.r 0 (by omega)
     have h1:=hlw.r 1 (by omega)
     have h2:=hlw.r 2 (by omega)
     have:i=0\/i=1\/i=2\/i=3\/i=4\/i=5:=by omega
     rcases this with rfl|rfl|rfl|rfl|rfl|rfl
     ·exact ⟨by decide,by decide,h0.1.symm⟩
     ·exact ⟨by decide,by decide,h0.2.symm⟩
     ·exact ⟨by decide,by decide,h1.1.symm⟩
     ·exact ⟨by decide,by decide,h1.2.symm⟩
     ·exact ⟨by decide,by decide,h2.1.symm⟩
     ·exact ⟨by decide,by decide,h2.2.symm⟩
    rw [hV,hV,znc key.1,znb key.2.1,key.2.2]
    exact ⟨rfl,rfl⟩
   refine zic (G:=G0) (ro:=some j) (f:=79) (caps:=#[.pointer (some ⟨1508,0,none⟩),.pointer (some ⟨1509,0,none⟩)]) (rs:=[200,1508,1509]) (xs:=zn2 200 lw) (w:=200) (ob:=λi=>zbn (N'+1) (mxv V v' (2+i))) (m0:=[(200,zbn N' v'),(208,zhB)]) (λl0 h=>by cases h;exact hat) G0F hC hm0 hY (by simp [zcx]) ?_ (by simp) (by omega) ?_ (by simp [ntmps16]) [(2,.pointer (some ⟨200,0,none⟩)),(4,.pointer (some ⟨208,0,none⟩)),(6,.pointer (some ⟨1124,0,none⟩))] (λi=>[(200,zbn (N'+1) (mxv V v' (2+i))),(208,zhB),(1124,⟨#[.bool (N'==0)],.ty 4⟩)]) 2000 6 (by simp [zn2]) (by omega) ?_ ?_ ?_ ?_ ?_ ?_ ?_
   ·refine znq 200 1508 (by omega) (by omega) (by omega) (by omega) _ (λi=>zc1 _ _) lw (by (intro k hk;first|rfl|(simp (disch:=omega) only [zb3,List.mem_cons,List.not_mem_nil,or_false,zab,zaq,zaw,if_neg,zbi]<;>done))) ?_ ?_ ?_
    ·simp [zbi,upd]
    ·simp [zbi,upd]
    ·simp [zbi,upd]
   ·exact znn 200 _
   ·simp [dom,upd,zbi]
   ·simp [zcx]
   ·simp [zbi,upd]
   ·intro i hi
    simp [zap,zax,zah,zaj,zad,dom,hix,ez]
   ·simp [zbi,upd,dom]
   ·intro i x hi hx C3 j3 c1 c2 c3
    rw [zkw _ _ _ hi] at hx
    simp only [Option.some.injEq] at hx
    subst hx
    obtain ⟨va,vb⟩:=hra i hi
    clear hra hsd hC hY
    have hC:=c1
    have hY:=c3
    have:i=0\/i=1\/i=2\/i=3\/i=4\/i=5:=by omega
    rcases this with rfl|rfl|rfl|rfl|rfl|rfl
    all_goals
     simp only [sdA,Nat.reduceAdd,Nat.reduceMul,Nat.reduceDiv,Nat.reduceMod] at va vb |-
     unfold sdX zbn zbd
     simp only [mxv,stc,Nat.reduceAdd,Nat.reduceLT,Nat.reduceMul,Nat.reduceSub,Nat.reduceDiv,Nat.reduceMod,if_true,if_false]
     repeat' first|refine gwZ ?_|(refine gwX ?_;intro Q hQ _;simp [hC,hY,zav];refine gwq hQ ?_)|fail
     intro C4 hC4 hh4 hY4
     clear hC hY
     have hC:=hC4
     have hY:=hY4
     by_cases z:N'=0
     ·have zb:(N'==0)=true:=by simpa using z
      rw [if_pos z] at va vb
      repeat' first|refine gwZ ?_|(refine gwX ?_;intro Q hQ _;simp [hC,hY,zb];refine gwq hQ ?_)|fail
      simp [va,vb,zb,z]
     ·have zb:(N'==0)=false:=by simpa using z
      rw [if_neg z] at va vb
      repeat' first|refine gwZ ?_|(refine gwX ?_;intro Q hQ _;simp [hC,hY,zb];refine gwq hQ ?_)|fail
      simp [va,vb,zb,z]
      constructor<;>split<;>omega
   ·refine .inl ⟨by simp [zn2],?_⟩
    have e8:zbn (N'+1) (mxv V v' (2+6))=zbn (N'+1) V:=by unfold zbn;rw [jnd]
    rw [e8]
    simp [zd9,zbx]
  ·have hrt:zhm ⟨N,v⟩=true:=hr
   simp only [if_true]
   rw [jin (h:=⟨N,v⟩) hN n]
   have hNm:=hnn (tkM ⟨N,v⟩ w n)
   simp only at hNm
   have hMd:tkM ⟨N,v⟩ w n=min (zhb w n) (1073741824 - N).toNat:=rfl
   generalize tkM ⟨N,v⟩ w n=M at *
   by_cases hfin:M=zhb w n
   ·refine .inl ⟨by rw [hlen];exact hfin,?_⟩
    generalize HS.hq ⟨N,v⟩ w (lix w n) M=H
    unfold tkL zhB zbn zbd
    simp only [zdh,zcj,List.append_nil]
    repeat' first|refine gwZ ?_|(refine gwX ?_;intro Q hQ _;simp [hC,hY,zb3,zaf];refine gwq hQ ?_)|fail
    refine ⟨.inr rfl,by simp [results16,zc8,zbg,zbd],zb4 G0F (by simp [zb3]) (by (intro k hk;first|rfl|(simp (disch:=omega) only [zb3,List.mem_cons,List.not_mem_nil,or_false,zab,zaq,zaw,if_neg,zbi]<;>done)))⟩
   ·have hMl:M<(lix w n).length:=by rw [zf7];omega
    have hx:(zys w n)[M]? = some #[zbh (w ((lix w n).getD M 0))]:=by
     unfold zys
     rw [List.getElem?_map,List.getElem?_eq_getElem hMl,List.getD_eq_getElem?_getD,List.getElem?_eq_getElem hMl]
     rfl
    have hHN:(HS.hq ⟨N,v⟩ w (lix w n) M).N=1073741824:=by omega
    refine .inr ⟨_,hx,?_⟩
    intro C1 j c1 c2 c3
    generalize w ((lix w n).getD M 0)=lw
    generalize HS.hq ⟨N,v⟩ w (lix w n) M=H at *
    obtain ⟨N',v'⟩:=H
    simp only at hHN
    clear hR hok hls hnn hC hY
    have hC:=c1
    have hY:=c3
    unfold tkL zhB zbn zbd zbh
    repeat' first|refine gwZ ?_|(refine gwX ?_;intro Q hQ _;simp [hC,hY,zav,hHN,zaf];refine gwq hQ ?_)|fail
    intro C2 hC2 hh2 hY2 hat
    clear hC hY
    have hC:=hC2
    have hY:=hY2
    repeat' first|refine gwZ ?_|(refine gwX ?_;intro Q hQ _;simp [hC,hY,hHN,zaf];refine gwq hQ ?_)|fail
    refine ⟨rfl,by simp [zap,zax,zah,zaj,dom],by simp,?_⟩
    clear hC hY
    have hC:=hCC
    have hY:=hYY
    simp only [List.append_nil]
    repeat' first|refine gwZ ?_|(refine gwX ?_;intro Q hQ _;simp [hC,hY,zb3,zaf];refine gwq hQ ?_)|fail
    refine ⟨.inr rfl,by simp [results16,zc8,zbg,zbd,hHN],zb4 G0F (by simp [zb3]) (by (intro k hk;first|rfl|(simp (disch:=omega) only [zb3,List.mem_cons,List.not_mem_nil,or_false,zab,zaq,zaw,if_neg,zbi]<;>done)))⟩
def zhl:Nat->List (Nat×Nat)
 | 2=>[(1,0)]
 | 3=>[(1,0),(2,0),(2,1)]
 | 4=>[(1,0),(2,0),(2,1),(3,0),(3,1),(3,2)]
 | _=>[]
theorem z2z (fm fs:Nat->Int) {n:Nat} (hn:1<=n/\n<=4):z2y fm fs n=(zhl n).map λp=>epV fm fs p.1 p.2:=by
 have:n=1\/n=2\/n=3\/n=4:=by omega
 rcases this with rfl|rfl|rfl|rfl<;>rfl
theorem zqv {n:Nat} {p:Nat×Nat} (h:p∈zhl n):p.2<p.1/\p.1<n:=by
 unfold zhl at h
 split at h<;>simp at h
 ·subst h;simp
 ·rcases h with rfl|rfl|rfl<;>simp
 ·rcases h with rfl|rfl|rfl|rfl|rfl|rfl<;>simp
def pS (F:Nat->Nat->Int):List (Nat×Nat)->Int
 | []=>0
 | p::l=>F p.1 p.2+pS F l
theorem z7l (F:Nat->Nat->Int):∀ l m,pS F (l++m)=pS F l+pS F m
 | [],m=>by simp [pS]
 | p::l,m=>by
  simp only [List.cons_append,pS,z7l F l m]
  omega
theorem zng (F:Nat->Nat->Int) {l:List (Nat×Nat)} {j:Nat} (hj:j<l.length):pS F (l.take (j+1))=pS F (l.take j)+F l[j].1 l[j].2:=by
 rw [show l.take (j+1)=l.take j++[l[j]] by simp,z7l]
 simp [pS]
theorem zrw (F:Nat->Nat->Int) {n:Nat} (hn:1<=n/\n<=4):zk6 F n=pS F (zhl n):=by
 have:n=1\/n=2\/n=3\/n=4:=by omega
 rcases this with rfl|rfl|rfl|rfl<;>simp only [zk6,zbv,pS,zhl]<;>omega
theorem zoq (L:List (Nat×Blk)) (ks:Nat) (bm bs:Blk) (hT:LTwo G0 L ks bm bs) (off n cap off2 cap2:Nat) (fm fs:Nat->Int) (hm:MB bm off n fm) (hSb:SB bs off2 n fs) (hcap:n<=cap2) (hn:1<=n/\n<=4) (g bx tp nr md st:Int) :
  IterK prog G0 119 #[.pointer (some ⟨208,0,none⟩),.pointer (some ⟨200,0,none⟩)] (hpL G0 (enM L ks off n cap off2 n cap2 g bx tp nr md st)) (zaa (enM L ks off n cap off2 n cap2 g bx tp nr md st)) ((zhl n).map λp=>epV fm fs p.1 p.2):=by
 rw [<-z2z fm fs hn]
 have:n=1\/n=2\/n=3\/n=4:=by omega
 rcases this with rfl|rfl|rfl|rfl
 ·exact zuy L ks bm bs hT off cap off2 cap2 fm fs hm hSb hcap g bx tp nr md st
 ·exact zuz L ks bm bs hT off cap off2 cap2 fm fs hm hSb hcap g bx tp nr md st
 ·exact zu0 L ks bm bs hT off cap off2 cap2 fm fs hm hSb hcap g bx tp nr md st
 ·exact zu1 L ks bm bs hT off cap off2 cap2 fm fs hm hSb hcap g bx tp nr md st
def zlc (g:Int) (fm fs:Nat->Int) (n:Nat):Int:=zk6 (λi k=>zea g (fm i) (fm k) (zfp fs i k)) n
def zlb (g:Int) (fm fs:Nat->Int) (n:Nat):Int:=zk6 (λi k=>zjc g (fm i) (fm k) (zfp fs i k)) n
def zzp (fs:Nat->Int) (n:Nat):Int:=zk6 (λi k=>if zfp fs i k=0 then 1 else 0) n
theorem zsr {st:Int} {fs:Nat->Int} {n:Nat} (hr:zbl st fs n=true) {i k:Nat} (hi:i<n) (hk:k<n):0<=zfp fs i k/\zfp fs i k<=13194139533312:=by
 obtain ⟨⟨⟨_,a0,a1⟩,⟨_,b0,b1⟩,⟨_,c0,c1⟩⟩,_⟩:=zem hr hi
 obtain ⟨⟨⟨_,d0,d1⟩,⟨_,e0,e1⟩,⟨_,f0,f1⟩⟩,_⟩:=zem hr hk
 have s0:=zpv (a:=fs (6*i) - fs (6*k)) (m:=2097152) ⟨by omega,by omega,by omega⟩
 have s1:=zpv (a:=fs (6*i+1) - fs (6*k+1)) (m:=2097152) ⟨by omega,by omega,by omega⟩
 have s2:=zpv (a:=fs (6*i+2) - fs (6*k+2)) (m:=2097152) ⟨by omega,by omega,by omega⟩
 unfold zfp f2V
 split<;>omega
theorem zcu {f:FuncId} {c:Array Value} {T:TypeId} {n nk b:Nat} {x:Int} {v:Value} {hp:Hp} {K:Eff->Prop} (h:Fun prog G0 f #[.int .i64 x,.slice (some ⟨100,0,none⟩) n n] (hpL G0 [(100,⟨c,.ty T⟩)]) [100] (.ret v [])) (hc:∀ x∈c,zbf x=true) (hv:za0 v=true) (hb:100<=b)
  (h1:hp b=some ⟨c,.ty T⟩) (hK:K ((Res.ret v []).eff [b])):zik prog G0 f #[.int .i64 x,.slice (some ⟨b,0,none⟩) n n] hp nk K :=
 zae h G0F (B:=200) ⟨by simp,by simp [zaa],λp hp1=>by simp at hp1;subst hp1;exact λx hx=>zdl (hc x hx)⟩ (λk=>if k=100 then b else k) (λk hk=>if_neg (by omega)) (by simp [ren,zay,zak,zan]) hv
  (by simp [hb,h1,Blk.rn];exact (zbs (λx hx=>zb9 (hc x hx))).symm) (by simp [zaa]) (by simp [zaa]) hK
theorem z25 (most n0:Int):Fun prog G0 121 #[.int .i64 most,.slice (some ⟨100,0,none⟩) 1 1] (hpL G0 [(100,⟨#[.int .i64 n0],.ty 3⟩)]) (zaa [(100,(⟨#[.int .i64 n0],.ty 3⟩:Blk))]) (.ret (.bool (decide ((1<=n0/\n0<=most)))) []):=by
 refine zar (B:=200) G0F func121 rfl call121 ⟨by simp,by simp [zaa],by simp [zad,zah,zaj]⟩ ?_ (by simp) (by simp) (by simp) (by simp [ntmps121]) (by omega) ?_
 ·simp [zap,zax,zah,zaj,zaa]
 intro C hC hC0 hY
 by_cases a00:1<=n0
 rotate_left
 ·have a00n:n0<1:=by omega
  have hd:decide ((1<=n0/\n0<=most))=false:=decide_eq_false (by omega)
  rw [hd]
  repeat' first|refine zal ?_|refine zat ?_|refine gwZ ?_|(refine gwX ?_;intro Q hQ _;simp [hC,hY,a00,a00n];refine gwq hQ ?_)|fail
  refine ⟨.inr rfl,by simp [results121],kpS G0F⟩
 have a00n:¬n0<1:=by omega
 by_cases a01:n0<=most
 rotate_left
 ·have a01n:most<n0:=by omega
  have hd:decide ((1<=n0/\n0<=most))=false:=decide_eq_false (by omega)
  rw [hd]
  repeat' first|refine zal ?_|refine zat ?_|refine gwZ ?_|(refine gwX ?_;intro Q hQ _;simp [hC,hY,a00,a00n,a01,a01n];refine gwq hQ ?_)|fail
  refine ⟨.inr rfl,by simp [results121],kpS G0F⟩
 have a01n:¬most<n0:=by omega
 have hd:decide ((1<=n0/\n0<=most))=true:=decide_eq_true (by omega)
 rw [hd]
 repeat' first|refine zal ?_|refine zat ?_|refine gwZ ?_|(refine gwX ?_;intro Q hQ _;simp [hC,hY,a00,a00n,a01,a01n];refine gwq hQ ?_)|fail
 refine ⟨.inr rfl,by simp [results121],kpS G0F⟩
theorem z26 (most n0 n1:Int):Fun prog G0 121 #[.int .i64 most,.slice (some ⟨100,0,none⟩) 2 2] (hpL G0 [(100,⟨#[.int .i64 n0,.int .i64 n1],.ty 3⟩)]) (zaa [(100,(⟨#[.int .i64 n0,.int .i64 n1],.ty 3⟩:Blk))]) (.ret (.bool (decide ((1<=n0/\n0<=most)/\(1<=n1/\n1<=most)))) []):=by
 refine zar (B:=200) G0F func121 rfl call121 ⟨by simp,by simp [zaa],by simp [zad,zah,zaj]⟩ ?_ (by simp) (by simp) (by simp) (by simp [ntmps121]) (by omega) ?_
 ·simp [zap,zax,zah,zaj,zaa]
 intro C hC hC0 hY
 by_cases a00:1<=n0
 rotate_left
 ·have a00n:n0<1:=by omega
  have hd:decide ((1<=n0/\n0<=most)/\(1<=n1/\n1<=most))=false:=decide_eq_false (by omega)
  rw [hd]
  repeat' first|refine zal ?_|refine zat ?_|refine gwZ ?_|(refine gwX ?_;intro Q hQ _;simp [hC,hY,a00,a00n];refine gwq hQ ?_)|fail
  refine ⟨.inr rfl,by simp [results121],kpS G0F⟩
 have a00n:¬n0<1:=by omega
 by_cases a01:n0<=most
 rotate_left
 ·have a01n:most<n0:=by omega
  have hd:decide ((1<=n0/\n0<=most)/\(1<=n1/\n1<=most))=false:=decide_eq_false (by omega)
  rw [hd]
  repeat' first|refine zal ?_|refine zat ?_|refine gwZ ?_|(refine gwX ?_;intro Q hQ _;simp [hC,hY,a00,a00n,a01,a01n];refine gwq hQ ?_)|fail
  refine ⟨.inr rfl,by simp [results121],kpS G0F⟩
 have a01n:¬most<n0:=by omega
 by_cases a10:1<=n1
 rotate_left
 ·have a10n:n1<1:=by omega
  have hd:decide ((1<=n0/\n0<=most)/\(1<=n1/\n1<=most))=false:=decide_eq_false (by omega)
  rw [hd]
  repeat' first|refine zal ?_|refine zat ?_|refine gwZ ?_|(refine gwX ?_;intro Q hQ _;simp [hC,hY,a00,a00n,a01,a01n,a10,a10n];refine gwq hQ ?_)|fail
  refine ⟨.inr rfl,by simp [results121],kpS G0F⟩
 have a10n:¬n1<1:=by omega
 by_cases a11:n1<=most
 rotate_left
 ·have a11n:most<n1:=by omega
  have hd:decide ((1<=n0/\n0<=most)/\(1<=n1/\n1<=most))=false:=decide_eq_false (by omega)
  rw [hd]
  repeat' first|refine zal ?_|refine zat ?_|refine gwZ ?_|(refine gwX ?_;intro Q hQ _;simp [hC,hY,a00,a00n,a01,a01n,a10,a10n,a11,a11n];refine gwq hQ ?_)|fail
  refine ⟨.inr rfl,by simp [results121],kpS G0F⟩
 have a11n:¬most<n1:=by omega
 have hd:decide ((1<=n0/\n0<=most)/\(1<=n1/\n1<=most))=true:=decide_eq_true (by omega)
 rw [hd]
 repeat' first|refine zal ?_|refine zat ?_|refine gwZ ?_|(refine gwX ?_;intro Q hQ _;simp [hC,hY,a00,a00n,a01,a01n,a10,a10n,a11,a11n];refine gwq hQ ?_)|fail
 refine ⟨.inr rfl,by simp [results121],kpS G0F⟩
theorem zu2 (r a n:Int) (hi:i64 n) (w1:wr (r*r)) (w2:wr (r*r*n)) (w3:wr (a*a)) (hr:wr r) (ha:wr a):Ret prog G0 123 #[wd r,wd a,.int .i64 n] (.bool (decide (r*r*n=a*a))):=by
 refine zas G0F func123 rfl call123 rfl (by simp) (by simp [ntmps123]) ?_
 intro C hC hC0 hY
 have s1:=zct w1
 have s2:=zct w2
 have s3:=zct w3
 have s4:=zct hr
 have s5:=zct ha
 have s6:=zct (zdf hi)
 repeat' first|refine gwZ ?_|(refine gwX ?_;intro Q hQ _;simp [hC,hY,hi,s1,s2,s3,s4,s5,s6];refine gwq hQ ?_)|fail
 refine ⟨.inr trivial,?_⟩
 simp [results123]
 rw [weq,s2,s3]
@[simp] theorem jo9 (r a n:Int) (hi:i64 n) (w1:wr (r*r)) (w2:wr (r*r*n)) (w3:wr (a*a)) (hr:wr r) (ha:wr a) (K:Value->Prop):za2 prog G0 123 #[Value.agg #[.int .u64 (wi (r) 0),.int .u64 (wi (r) 1),.int .u64 (wi (r) 2),.int .u64 (wi (r) 3)],Value.agg #[.int .u64 (wi (a) 0),.int .u64 (wi (a) 1),.int .u64 (wi (a) 2),.int .u64 (wi (a) 3)],.int .i64 n] K↔K (.bool (decide (r*r*n=a*a))):=zac G0W (by kernel_rfl) (zu2 r a n hi w1 w2 w3 hr ha)
theorem zlp {most n0:Int} (h:(1<=n0/\n0<=most)):Fun prog G0 121 #[.int .i64 most,.slice (some ⟨100,0,none⟩) 1 1] (hpL G0 [(100,⟨#[.int .i64 n0],.ty 3⟩)]) [100] (.ret (.bool true) []):=by
 have e:=z25 most n0
 rw [decide_eq_true h] at e
 exact e
theorem zlq {most n0 n1:Int} (h:(1<=n0/\n0<=most)/\(1<=n1/\n1<=most)):Fun prog G0 121 #[.int .i64 most,.slice (some ⟨100,0,none⟩) 2 2] (hpL G0 [(100,⟨#[.int .i64 n0,.int .i64 n1],.ty 3⟩)]) [100] (.ret (.bool true) []):=by
 have e:=z26 most n0 n1
 rw [decide_eq_true h] at e
 exact e
theorem z20 {g m w q:Int} (h:EIn g m w q) (hq:0<q):Ret prog G0 96 #[.int .i64 g,.int .i64 m,.int .i64 w,.int .i64 q] (.tuple #[.int .i64 (zea g m w q),.int .i64 (zjc g m w q),.int .i64 0]):=by
 refine zas G0F func96 rfl call96 (by simp) (by simp) (by simp [ntmps96]) ?_
 intro C hC hC0 hY
 have k1:=h.gm
 have k2:=h.gmw
 have k3:=h.a
 have k4:=h.aa
 have k5:=h.lo hq
 have k6:=h.hi hq
 have k7:=(h.holds hq).1
 have k8:=zyv k5.1 k5.2 h.q0 h.q1
 have k9:=zm2 g m w q
 have hw1:(1<=g/\g<=1048576):=⟨h.g0,h.g1⟩
 have hw2:(1<=m/\m<=1024)/\(1<=w/\w<=1024):=⟨⟨h.m0,h.m1⟩,h.w0,h.w1⟩
 have hq0:¬q<0:=by omega
 have hq1:¬13194139533312<q:=by have:=h.q1;omega
 have iq:i64 q:=⟨by omega,by omega⟩
 have eA:enA g m w=g*m*w*1048576:=rfl
 have eL:zea g m w q=isq (enA g m w*enA g m w / q):=rfl
 have iA:i64 (enA g m w):=⟨by omega,by omega⟩
 have iL:i64 (zea g m w q):=⟨by omega,by omega⟩
 have wA:=zdf iA
 have wL:=zdf iL
 have wq:=zdf iq
 have wAA:wr (enA g m w*enA g m w):=⟨Int.le_trans (by decide) k4.1,Int.lt_of_le_of_lt k4.2 (by decide)⟩
 have w2:wr (zea g m w q*zea g m w q):=⟨Int.le_trans (by decide) k8.1,Int.lt_of_le_of_lt k8.2.1 (by decide)⟩
 have w3:wr (zea g m w q*zea g m w q*q):=⟨Int.le_trans (by decide) k8.2.2.1,Int.lt_of_le_of_lt k8.2.2.2 (by decide)⟩
 have b1:Int.bmod (g*m) 18446744073709551616=g*m:=bm (by omega) (by omega)
 have b2:Int.bmod (g*m*w) 18446744073709551616=g*m*w:=bm (by omega) (by omega)
 have b3:Int.bmod (g*m*w*1048576) 18446744073709551616=g*m*w*1048576:=bm (by omega) (by omega)
 have b4:Int.bmod (zea g m w q+1) 18446744073709551616=zea g m w q+1:=bm (by omega) (by omega)
 have s1:=zct wA
 have s2:=zct wAA
 have s3:=zct wL
 rw [k9]
 generalize zea g m w q=R at *
 simp only [eA] at iA wA wAA k4 s1 s2 eL k7 k9 |-
 have hR:=eL.symm
 clear eL eA
 by_cases c:R*R*q=g*m*w*1048576*(g*m*w*1048576)
 ·rw [if_pos c]
  repeat' first|refine gwZ ?_|((first|refine gwR [121] ?_|refine gwD [121] ?_);intro Q hQ _;(repeat first|simp [hC,hY,hq0,hq1,b1,b2,b3,b4,iq,iA,iL,wA,wL,wq,wAA,w2,w3,s1,s2,s3,hR,k4.1,hq,c]|refine zcu (zlp hw1) (by simp) rfl (by simp) (by simp) ?_|refine zcu (zlq hw2) (by simp) rfl (by simp) (by simp) ?_);refine gwq hQ ?_)|fail
  refine ze4 0 (λ_ _=>False) rfl (λ_ _ h=>h.elim) ?_
  intro _
  repeat' first|refine gwZ ?_|((first|refine gwR [121] ?_|refine gwD [121] ?_);intro Q hQ _;(repeat first|simp [hC,hY,hq0,hq1,b1,b2,b3,b4,iq,iA,iL,wA,wL,wq,wAA,w2,w3,s1,s2,s3,hR,k4.1,hq,c]|refine zcu (zlp hw1) (by simp) rfl (by simp) (by simp) ?_|refine zcu (zlq hw2) (by simp) rfl (by simp) (by simp) ?_);refine gwq hQ ?_)|fail
  refine ⟨.inr trivial,?_⟩
  simp [results96]
 ·rw [if_neg c]
  repeat' first|refine gwZ ?_|((first|refine gwR [121] ?_|refine gwD [121] ?_);intro Q hQ _;(repeat first|simp [hC,hY,hq0,hq1,b1,b2,b3,b4,iq,iA,iL,wA,wL,wq,wAA,w2,w3,s1,s2,s3,hR,k4.1,hq,c]|refine zcu (zlp hw1) (by simp) rfl (by simp) (by simp) ?_|refine zcu (zlq hw2) (by simp) rfl (by simp) (by simp) ?_);refine gwq hQ ?_)|fail
  refine ze4 0 (λ_ _=>False) rfl (λ_ _ h=>h.elim) ?_
  intro _
  repeat' first|refine gwZ ?_|((first|refine gwR [121] ?_|refine gwD [121] ?_);intro Q hQ _;(repeat first|simp [hC,hY,hq0,hq1,b1,b2,b3,b4,iq,iA,iL,wA,wL,wq,wAA,w2,w3,s1,s2,s3,hR,k4.1,hq,c]|refine zcu (zlp hw1) (by simp) rfl (by simp) (by simp) ?_|refine zcu (zlq hw2) (by simp) rfl (by simp) (by simp) ?_);refine gwq hQ ?_)|fail
  refine ⟨.inr trivial,?_⟩
  simp [results96,b4]
@[simp] theorem jqk (a:Int) (K:Value->Prop):za2 prog G0 122 #[Value.agg #[.int .u64 (wi (a) 0),.int .u64 (wi (a) 1),.int .u64 (wi (a) 2),.int .u64 (wi (a) 3)],.agg #[.int .u64 0,.int .u64 0,.int .u64 0,.int .u64 0]] K↔K (.tuple #[wd 0,.int .i64 30]):=by
 have:=jn1 a 0 rfl K
 simpa [zaf] using this
theorem z9a {g m w q:Int} (h:EIn g m w q) (hq:q=0):Ret prog G0 96 #[.int .i64 g,.int .i64 m,.int .i64 w,.int .i64 q] (.tuple #[.int .i64 0,.int .i64 0,.int .i64 30]):=by
 refine zas G0F func96 rfl call96 (by simp) (by simp) (by simp [ntmps96]) ?_
 intro C hC hC0 hY
 subst hq
 have k1:=h.gm
 have k2:=h.gmw
 have hw1:(1<=g/\g<=1048576):=⟨h.g0,h.g1⟩
 have hw2:(1<=m/\m<=1024)/\(1<=w/\w<=1024):=⟨⟨h.m0,h.m1⟩,h.w0,h.w1⟩
 have hq0:¬(0:Int)<0:=by omega
 have hq1:¬(13194139533312:Int)<0:=by omega
 have i0:i64 0:=by decide
 have z0:(0:Int)=0:=rfl
 have b1:Int.bmod (g*m) 18446744073709551616=g*m:=bm (by omega) (by omega)
 have b2:Int.bmod (g*m*w) 18446744073709551616=g*m*w:=bm (by omega) (by omega)
 have b3:Int.bmod (g*m*w*1048576) 18446744073709551616=g*m*w*1048576:=bm (by omega) (by omega)
 have iA:i64 (g*m*w*1048576):=⟨by omega,by omega⟩
 have s1:=zct (zdf iA)
 have k4:=h.aa
 have wAA:wr (g*m*w*1048576*(g*m*w*1048576)):=⟨Int.le_trans (by decide) k4.1,Int.lt_of_le_of_lt k4.2 (by decide)⟩
 have s2:=zct wAA
 repeat' first|refine gwZ ?_|((first|refine gwR [121] ?_|refine gwD [121] ?_);intro Q hQ _;(repeat first|simp [hC,hY,hq0,hq1,b1,b2,b3,i0,z0,iA,s1,s2]|refine zcu (zlp hw1) (by simp) rfl (by simp) (by simp) ?_|refine zcu (zlq hw2) (by simp) rfl (by simp) (by simp) ?_);refine gwq hQ ?_)|fail
 refine ze4 0 (λm s=>s=⟨tsL [(10,.int .i64 30)],hpL G0 [],1000,0⟩) rfl ?_ ?_
 ·rintro m _ rfl
  repeat' first|refine gwZ ?_|refine gwW ?_|fail
  refine ⟨.inr trivial,?_⟩
  simp [results96]
 ·intro _
  repeat' first|refine gwZ ?_|((first|refine gwR [121] ?_|refine gwD [121] ?_);intro Q hQ _;(repeat first|simp [hC,hY,hq0,hq1,b1,b2,b3,i0,z0,iA,s1,s2]|refine zcu (zlp hw1) (by simp) rfl (by simp) (by simp) ?_|refine zcu (zlq hw2) (by simp) rfl (by simp) (by simp) ?_);refine gwq hQ ?_)|fail
  refine ⟨rfl,_,0,za3 _ 1000 hC G0F (m0:=[]) hC0 (by omega) ?_ ?_ ?_,rfl⟩
  ·simp [zap,zax,zah,zaj,dom]
  ·simp [zad,zah,zaj,dom]
  ·simp
theorem zsq {g m w q a b:Int} (h:EIn g m w q) (hq:0<q) (e1:zea g m w q=a) (e2:zjc g m w q=b) (K:Value->Prop):za2 prog G0 96 #[.int .i64 g,.int .i64 m,.int .i64 w,.int .i64 q] K↔K (.tuple #[.int .i64 a,.int .i64 b,.int .i64 0]):=by
 subst e1 e2
 exact zac G0W (by kernel_rfl) (z20 h hq)
end Go.Gy
