/-
  Lemmas of this claim, in their order (GyEN, GyEO, GyES, GyLI, GyJM, GyJN, GyJA, GyJB, GyJC, GyRS, GyRT, GyJD, GyJE, GyJF, GyEG, GyJG, GyPE, GyJO, GyJH, GyJI, GyJK, GyET).
  Conditions: those of each theorem.
-/
import Derived.Test.YtamodcpmplmaoaaGreatDoorGz05
import Derived.RangeFuncNested
set_option linter.unusedSimpArgs false
set_option linter.unusedVariables false
set_option maxRecDepth 20000
set_option maxHeartbeats 16000000
namespace Go.Gy
open Go Go.RowKit Go.Proofs Go.Proofs.Tryz
def zfl (f:Nat->Int) (i j:Nat):Int:=f2V (f (6*i)) (f (6*i+1)) (f (6*i+2)) (f (6*j)) (f (6*j+1)) (f (6*j+2))
def epV (fm fs:Nat->Int) (i j:Nat):Array Value:=#[.agg #[.int .i64 (fm i),.int .i64 (fm j),.int .i64 (zfl fs i j)]]
def zzl (fm fs:Nat->Int):Nat->List (Array Value)
 | 2=>[epV fm fs 1 0]
 | 3=>[epV fm fs 1 0,epV fm fs 2 0,epV fm fs 2 1]
 | 4=>[epV fm fs 1 0,epV fm fs 2 0,epV fm fs 2 1,epV fm fs 3 0,epV fm fs 3 1,epV fm fs 3 2]
 | _=>[]
def enM (L:List (Nat×Blk)) (ks off n cap off2 n2 cap2:Nat) (g bx tp nr md st:Int):List (Nat×Blk):=(200,cfB (.slice (some ⟨100,off,none⟩) n cap) g bx tp nr md)::(208,zej st ks off2 n2 cap2)::L
theorem zig {L:List (Nat×Blk)} {ks:Nat} {bm bs:Blk} (hT:LTwo G0 L ks bm bs) (off n cap off2 n2 cap2:Nat) (g bx tp nr md st:Int):LOk (enM L ks off n cap off2 n2 cap2 g bx tp nr md st) 300:=by
 have hL:=hT.ok
 refine ⟨?_,?_,?_⟩
 ·intro p hp
  rcases List.mem_cons.1 hp with rfl|hp
  ·simp
  ·rcases List.mem_cons.1 hp with rfl|hp
   ·simp
   ·have:=hL.big p hp;omega
 ·have h2:∀ q,200<=q->q∉zab L:=λq hq h=>by
   obtain ⟨p,hp,e⟩:=zad.1 h
   have:=hL.big p hp
   omega
  refine List.nodup_cons.2 ⟨λh=>?_,List.nodup_cons.2 ⟨h2 208 (by omega),hL.one⟩⟩
  rcases List.mem_cons.1 h with e|h
  ·exact absurd e (by simp)
  ·exact h2 200 (by omega) h
 ·have h1:100∈zab (enM L ks off n cap off2 n2 cap2 g bx tp nr md st):=List.mem_cons_of_mem _ (List.mem_cons_of_mem _ hT.ia)
  have h2:ks∈zab (enM L ks off n cap off2 n2 cap2 g bx tp nr md st):=List.mem_cons_of_mem _ (List.mem_cons_of_mem _ hT.ib)
  intro p hp
  rcases List.mem_cons.1 hp with rfl|hp
  ·simp [cfB,zac,zah,zal,h1]
  ·rcases List.mem_cons.1 hp with rfl|hp
   ·simp [zej,zac,zah,zal,h2]
   ·exact Blk.fx_ids (hT.fx p hp) _
theorem zsf (L:List (Nat×Blk)) (ks:Nat) (bm bs:Blk) (hT:LTwo G0 L ks bm bs) (off cap off2 cap2:Nat) (fm fs:Nat->Int) (hm:MB bm off 1 fm) (hSb:SB bs off2 1 fs) (hcap:1<=cap2) (g bx tp nr md st:Int) :
  IterK prog G0 119 #[.pointer (some ⟨208,0,none⟩),.pointer (some ⟨200,0,none⟩)] (hpL G0 (enM L ks off 1 cap off2 1 cap2 g bx tp nr md st)) (zab (enM L ks off 1 cap off2 1 cap2 g bx tp nr md st)) (zzl fm fs 1):=by
 have hL:=zig hT off 1 cap off2 1 cap2 g bx tp nr md st
 have hlt:∀ k,dom (hpL G0 (enM L ks off 1 cap off2 1 cap2 g bx tp nr md st)) k->k<300:=λk hk=>Classical.byContradiction λh1=>hk (hL.free G0F (by omega) k (by omega))
 refine zc7 (B:=300) (v:=.tuple #[]) G0F func119 rfl call119 hL ?_ (by simp [ntmps119]) (by omega) ?_
 ·simp [zan,za0,zah,zal,enM,zab]
 intro C l stop hC hC0 hY
 have hA:=hT.a
 have hS:=hT.s
 have hne:=hT.ne
 have hks:=hT.k1
 have exs:zzl fm fs 1=[]:=rfl
 rw [exs] at hY |-
 have b0:=zel hSb 0 (by omega) (off2) (by omega)
 simp only [Nat.reduceMul,Nat.reduceAdd,Nat.mul_zero,Nat.zero_add] at b0
 have w0:=zem hm 0 (by omega) (off) (by omega)
 unfold enM cfB zej
 repeat' first|refine zat ?_|refine zaw ?_|refine gwZ ?_|(refine gwX ?_;intro Q hQ hP;simp [hC,hY,hA,hS,hne,b0,w0];(first|refine hQ _ _ _ _ (by rcases hT.k8 with h8|h8<;>subst h8<;>kernel_rfl) ?_|refine hP _ _ (by rcases hT.k8 with h8|h8<;>subst h8<;>kernel_rfl) λ_=>?_))|refine gwC ?_ ?_<;>intro hb
 refine ⟨?_,?_,?_,λk hk=>?_⟩
 ·simp
 ·simp [results119]
 ·first|trivial|omega|(simp;done)|(simp;omega)
 ·have hk:=hlt k hk
  first|rfl|(simp (disch:=omega) only [zaa]<;>rfl)
theorem zsg (L:List (Nat×Blk)) (ks:Nat) (bm bs:Blk) (hT:LTwo G0 L ks bm bs) (off cap off2 cap2:Nat) (fm fs:Nat->Int) (hm:MB bm off 2 fm) (hSb:SB bs off2 2 fs) (hcap:2<=cap2) (g bx tp nr md st:Int) :
  IterK prog G0 119 #[.pointer (some ⟨208,0,none⟩),.pointer (some ⟨200,0,none⟩)] (hpL G0 (enM L ks off 2 cap off2 2 cap2 g bx tp nr md st)) (zab (enM L ks off 2 cap off2 2 cap2 g bx tp nr md st)) (zzl fm fs 2):=by
 have hL:=zig hT off 2 cap off2 2 cap2 g bx tp nr md st
 have hlt:∀ k,dom (hpL G0 (enM L ks off 2 cap off2 2 cap2 g bx tp nr md st)) k->k<300:=λk hk=>Classical.byContradiction λh1=>hk (hL.free G0F (by omega) k (by omega))
 refine zc7 (B:=300) (v:=.tuple #[]) G0F func119 rfl call119 hL ?_ (by simp [ntmps119]) (by omega) ?_
 ·simp [zan,za0,zah,zal,enM,zab]
 intro C l stop hC hC0 hY
 have hA:=hT.a
 have hS:=hT.s
 have hne:=hT.ne
 have hks:=hT.k1
 have exs:zzl fm fs 2=[#[.agg #[.int .i64 (fm 1),.int .i64 (fm 0),.int .i64 (f2V (fs 6) (fs 7) (fs 8) (fs 0) (fs 1) (fs 2))]]]:=rfl
 rw [exs] at hY |-
 have k1:1<=cap2:=by omega
 have j1:(1:Int)<=(cap2:Int):=by omega
 have b0:=zel hSb 0 (by omega) (off2) (by omega)
 simp only [Nat.reduceMul,Nat.reduceAdd,Nat.mul_zero,Nat.zero_add] at b0
 have w0:=zem hm 0 (by omega) (off) (by omega)
 have b1:=zel hSb 1 (by omega) (off2+6) (by omega)
 simp only [Nat.reduceMul,Nat.reduceAdd,Nat.mul_zero,Nat.zero_add] at b1
 have w1:=zem hm 1 (by omega) (off+1) (by omega)
 unfold enM cfB zej
 by_cases hst:1<=stop
 ·have q0:(0 != stop)=true:=by simp;omega
  repeat' first|refine zat ?_|refine zaw ?_|refine gwZ ?_|(refine gwX ?_;intro Q hQ hP;simp [hC,hY,hA,hS,hne,k1,j1,b0,w0,b1,w1,q0,hst];(first|refine hQ _ _ _ _ (by rcases hT.k8 with h8|h8<;>subst h8<;>kernel_rfl) ?_|refine hP _ _ (by rcases hT.k8 with h8|h8<;>subst h8<;>kernel_rfl) λ_=>?_))|refine gwC ?_ ?_<;>intro hb
  refine ⟨?_,?_,?_,λk hk=>?_⟩
  ·simp
  ·simp [results119]
  ·first|trivial|omega|(simp;done)|(simp;omega)
  ·have hk:=hlt k hk
   first|rfl|(simp (disch:=omega) only [zaa]<;>rfl)
 ·have:stop=0:=by omega
  rcases this with rfl
  all_goals
   repeat' first|refine zat ?_|refine zaw ?_|refine gwZ ?_|(refine gwX ?_;intro Q hQ hP;simp [hC,hY,hA,hS,hne,k1,j1,b0,w0,b1,w1];(first|refine hQ _ _ _ _ (by rcases hT.k8 with h8|h8<;>subst h8<;>kernel_rfl) ?_|refine hP _ _ (by rcases hT.k8 with h8|h8<;>subst h8<;>kernel_rfl) λ_=>?_))|refine gwC ?_ ?_<;>intro hb
  all_goals
   refine ⟨?_,?_,?_,λk hk=>?_⟩
   ·simp
   ·simp [results119]
   ·first|trivial|omega|(simp;done)|(simp;omega)
   ·have hk:=hlt k hk
    first|rfl|(simp (disch:=omega) only [zaa]<;>rfl)
theorem zsh (L:List (Nat×Blk)) (ks:Nat) (bm bs:Blk) (hT:LTwo G0 L ks bm bs) (off cap off2 cap2:Nat) (fm fs:Nat->Int) (hm:MB bm off 3 fm) (hSb:SB bs off2 3 fs) (hcap:3<=cap2) (g bx tp nr md st:Int) :
  IterK prog G0 119 #[.pointer (some ⟨208,0,none⟩),.pointer (some ⟨200,0,none⟩)] (hpL G0 (enM L ks off 3 cap off2 3 cap2 g bx tp nr md st)) (zab (enM L ks off 3 cap off2 3 cap2 g bx tp nr md st)) (zzl fm fs 3):=by
 have hL:=zig hT off 3 cap off2 3 cap2 g bx tp nr md st
 have hlt:∀ k,dom (hpL G0 (enM L ks off 3 cap off2 3 cap2 g bx tp nr md st)) k->k<300:=λk hk=>Classical.byContradiction λh1=>hk (hL.free G0F (by omega) k (by omega))
 refine zc7 (B:=300) (v:=.tuple #[]) G0F func119 rfl call119 hL ?_ (by simp [ntmps119]) (by omega) ?_
 ·simp [zan,za0,zah,zal,enM,zab]
 intro C l stop hC hC0 hY
 have hA:=hT.a
 have hS:=hT.s
 have hne:=hT.ne
 have hks:=hT.k1
 have exs:zzl fm fs 3=[#[.agg #[.int .i64 (fm 1),.int .i64 (fm 0),.int .i64 (f2V (fs 6) (fs 7) (fs 8) (fs 0) (fs 1) (fs 2))]],#[.agg #[.int .i64 (fm 2),.int .i64 (fm 0),.int .i64 (f2V (fs 12) (fs 13) (fs 14) (fs 0) (fs 1) (fs 2))]],#[.agg #[.int .i64 (fm 2),.int .i64 (fm 1),.int .i64 (f2V (fs 12) (fs 13) (fs 14) (fs 6) (fs 7) (fs 8))]]]:=rfl
 rw [exs] at hY |-
 have k1:1<=cap2:=by omega
 have j1:(1:Int)<=(cap2:Int):=by omega
 have k2:2<=cap2:=by omega
 have j2:(2:Int)<=(cap2:Int):=by omega
 have b0:=zel hSb 0 (by omega) (off2) (by omega)
 simp only [Nat.reduceMul,Nat.reduceAdd,Nat.mul_zero,Nat.zero_add] at b0
 have w0:=zem hm 0 (by omega) (off) (by omega)
 have b1:=zel hSb 1 (by omega) (off2+6) (by omega)
 simp only [Nat.reduceMul,Nat.reduceAdd,Nat.mul_zero,Nat.zero_add] at b1
 have w1:=zem hm 1 (by omega) (off+1) (by omega)
 have b2:=zel hSb 2 (by omega) (off2+12) (by omega)
 simp only [Nat.reduceMul,Nat.reduceAdd,Nat.mul_zero,Nat.zero_add] at b2
 have w2:=zem hm 2 (by omega) (off+2) (by omega)
 unfold enM cfB zej
 by_cases hst:3<=stop
 ·have q0:(0 != stop)=true:=by simp;omega
  have q1:(1 != stop)=true:=by simp;omega
  have l1:1<=stop:=by omega
  have q2:(2 != stop)=true:=by simp;omega
  have l2:2<=stop:=by omega
  repeat' first|refine zat ?_|refine zaw ?_|refine gwZ ?_|(refine gwX ?_;intro Q hQ hP;simp [hC,hY,hA,hS,hne,k1,j1,k2,j2,b0,w0,b1,w1,b2,w2,q0,q1,l1,q2,l2,hst];(first|refine hQ _ _ _ _ (by rcases hT.k8 with h8|h8<;>subst h8<;>kernel_rfl) ?_|refine hP _ _ (by rcases hT.k8 with h8|h8<;>subst h8<;>kernel_rfl) λ_=>?_))|refine gwC ?_ ?_<;>intro hb
  refine ⟨?_,?_,?_,λk hk=>?_⟩
  ·simp
  ·simp [results119]
  ·first|trivial|omega|(simp;done)|(simp;omega)
  ·have hk:=hlt k hk
   first|rfl|(simp (disch:=omega) only [zaa]<;>rfl)
 ·have:stop=0\/stop=1\/stop=2:=by omega
  rcases this with rfl|rfl|rfl
  all_goals
   repeat' first|refine zat ?_|refine zaw ?_|refine gwZ ?_|(refine gwX ?_;intro Q hQ hP;simp [hC,hY,hA,hS,hne,k1,j1,k2,j2,b0,w0,b1,w1,b2,w2];(first|refine hQ _ _ _ _ (by rcases hT.k8 with h8|h8<;>subst h8<;>kernel_rfl) ?_|refine hP _ _ (by rcases hT.k8 with h8|h8<;>subst h8<;>kernel_rfl) λ_=>?_))|refine gwC ?_ ?_<;>intro hb
  all_goals
   refine ⟨?_,?_,?_,λk hk=>?_⟩
   ·simp
   ·simp [results119]
   ·first|trivial|omega|(simp;done)|(simp;omega)
   ·have hk:=hlt k hk
    first|rfl|(simp (disch:=omega) only [zaa]<;>rfl)
theorem zsi (L:List (Nat×Blk)) (ks:Nat) (bm bs:Blk) (hT:LTwo G0 L ks bm bs) (off cap off2 cap2:Nat) (fm fs:Nat->Int) (hm:MB bm off 4 fm) (hSb:SB bs off2 4 fs) (hcap:4<=cap2) (g bx tp nr md st:Int) :
  IterK prog G0 119 #[.pointer (some ⟨208,0,none⟩),.pointer (some ⟨200,0,none⟩)] (hpL G0 (enM L ks off 4 cap off2 4 cap2 g bx tp nr md st)) (zab (enM L ks off 4 cap off2 4 cap2 g bx tp nr md st)) (zzl fm fs 4):=by
 have hL:=zig hT off 4 cap off2 4 cap2 g bx tp nr md st
 have hlt:∀ k,dom (hpL G0 (enM L ks off 4 cap off2 4 cap2 g bx tp nr md st)) k->k<300:=λk hk=>Classical.byContradiction λh1=>hk (hL.free G0F (by omega) k (by omega))
 refine zc7 (B:=300) (v:=.tuple #[]) G0F func119 rfl call119 hL ?_ (by simp [ntmps119]) (by omega) ?_
 ·simp [zan,za0,zah,zal,enM,zab]
 intro C l stop hC hC0 hY
 have hA:=hT.a
 have hS:=hT.s
 have hne:=hT.ne
 have hks:=hT.k1
 have exs:zzl fm fs 4=[#[.agg #[.int .i64 (fm 1),.int .i64 (fm 0),.int .i64 (f2V (fs 6) (fs 7) (fs 8) (fs 0) (fs 1) (fs 2))]],#[.agg #[.int .i64 (fm 2),.int .i64 (fm 0),.int .i64 (f2V (fs 12) (fs 13) (fs 14) (fs 0) (fs 1) (fs 2))]],#[.agg #[.int .i64 (fm 2),.int .i64 (fm 1),.int .i64 (f2V (fs 12) (fs 13) (fs 14) (fs 6) (fs 7) (fs 8))]],#[.agg #[.int .i64 (fm 3),.int .i64 (fm 0),.int .i64 (f2V (fs 18) (fs 19) (fs 20) (fs 0) (fs 1) (fs 2))]],#[.agg #[.int .i64 (fm 3),.int .i64 (fm 1),.int .i64 (f2V (fs 18) (fs 19) (fs 20) (fs 6) (fs 7) (fs 8))]],#[.agg #[.int .i64 (fm 3),.int .i64 (fm 2),.int .i64 (f2V (fs 18) (fs 19) (fs 20) (fs 12) (fs 13) (fs 14))]]]:=rfl
 rw [exs] at hY |-
 have k1:1<=cap2:=by omega
 have j1:(1:Int)<=(cap2:Int):=by omega
 have k2:2<=cap2:=by omega
 have j2:(2:Int)<=(cap2:Int):=by omega
 have k3:3<=cap2:=by omega
 have j3:(3:Int)<=(cap2:Int):=by omega
 have b0:=zel hSb 0 (by omega) (off2) (by omega)
 simp only [Nat.reduceMul,Nat.reduceAdd,Nat.mul_zero,Nat.zero_add] at b0
 have w0:=zem hm 0 (by omega) (off) (by omega)
 have b1:=zel hSb 1 (by omega) (off2+6) (by omega)
 simp only [Nat.reduceMul,Nat.reduceAdd,Nat.mul_zero,Nat.zero_add] at b1
 have w1:=zem hm 1 (by omega) (off+1) (by omega)
 have b2:=zel hSb 2 (by omega) (off2+12) (by omega)
 simp only [Nat.reduceMul,Nat.reduceAdd,Nat.mul_zero,Nat.zero_add] at b2
 have w2:=zem hm 2 (by omega) (off+2) (by omega)
 have b3:=zel hSb 3 (by omega) (off2+18) (by omega)
 simp only [Nat.reduceMul,Nat.reduceAdd,Nat.mul_zero,Nat.zero_add] at b3
 have w3:=zem hm 3 (by omega) (off+3) (by omega)
 unfold enM cfB zej
 by_cases hst:6<=stop
 ·have q0:(0 != stop)=true:=by simp;omega
  have q1:(1 != stop)=true:=by simp;omega
  have l1:1<=stop:=by omega
  have q2:(2 != stop)=true:=by simp;omega
  have l2:2<=stop:=by omega
  have q3:(3 != stop)=true:=by simp;omega
  have l3:3<=stop:=by omega
  have q4:(4 != stop)=true:=by simp;omega
  have l4:4<=stop:=by omega
  have q5:(5 != stop)=true:=by simp;omega
  have l5:5<=stop:=by omega
  repeat' first|refine zat ?_|refine zaw ?_|refine gwZ ?_|(refine gwX ?_;intro Q hQ hP;simp [hC,hY,hA,hS,hne,k1,j1,k2,j2,k3,j3,b0,w0,b1,w1,b2,w2,b3,w3,q0,q1,l1,q2,l2,q3,l3,q4,l4,q5,l5,hst];(first|refine hQ _ _ _ _ (by rcases hT.k8 with h8|h8<;>subst h8<;>kernel_rfl) ?_|refine hP _ _ (by rcases hT.k8 with h8|h8<;>subst h8<;>kernel_rfl) λ_=>?_))|refine gwC ?_ ?_<;>intro hb
  refine ⟨?_,?_,?_,λk hk=>?_⟩
  ·simp
  ·simp [results119]
  ·first|trivial|omega|(simp;done)|(simp;omega)
  ·have hk:=hlt k hk
   first|rfl|(simp (disch:=omega) only [zaa]<;>rfl)
 ·have:stop=0\/stop=1\/stop=2\/stop=3\/stop=4\/stop=5:=by omega
  rcases this with rfl|rfl|rfl|rfl|rfl|rfl
  all_goals
   repeat' first|refine zat ?_|refine zaw ?_|refine gwZ ?_|(refine gwX ?_;intro Q hQ hP;simp [hC,hY,hA,hS,hne,k1,j1,k2,j2,k3,j3,b0,w0,b1,w1,b2,w2,b3,w3];(first|refine hQ _ _ _ _ (by rcases hT.k8 with h8|h8<;>subst h8<;>kernel_rfl) ?_|refine hP _ _ (by rcases hT.k8 with h8|h8<;>subst h8<;>kernel_rfl) λ_=>?_))|refine gwC ?_ ?_<;>intro hb
  all_goals
   refine ⟨?_,?_,?_,λk hk=>?_⟩
   ·simp
   ·simp [results119]
   ·first|trivial|omega|(simp;done)|(simp;omega)
   ·have hk:=hlt k hk
    first|rfl|(simp (disch:=omega) only [zaa]<;>rfl)
def zht (nk ks off n cap off2 n2 cap2:Nat) (g bx tp nr md st:Int) (v:Value) (ns:List (Nat×Blk)):Prop :=
 v=.func (.func 119) #[] #[.pointer (some ⟨nk+1,0,none⟩),.pointer (some ⟨nk,0,none⟩)]/\ns=[(nk,cfB (.slice (some ⟨100,off,none⟩) n cap) g bx tp nr md),(nk+1,zej st ks off2 n2 cap2)]
theorem zgs {nk ks off n cap off2 n2 cap2:Nat} {g bx tp nr md st:Int} {v:Value} {ns:List (Nat×Blk)} (h:zht nk ks off n cap off2 n2 cap2 g bx tp nr md st v ns):∀ k∈zab ns,nk<=k/\k<nk+2:=by
 obtain ⟨rfl,rfl⟩:=h
 intro k hk
 simp [zab] at hk
 omega
theorem zzo (L:List (Nat×Blk)) (ks:Nat) (bm bs:Blk) (hT:LTwo G0 L ks bm bs) (off n cap off2 n2 cap2:Nat) (g bx tp nr md st:Int) :
  FunS prog G0 95 #[cfV (.slice (some ⟨100,off,none⟩) n cap) g bx tp nr md,.agg #[.int .i64 st,.slice (some ⟨ks,off2,none⟩) n2 cap2]] (hpL G0 L) (zab L) (zht 1000 ks off n cap off2 n2 cap2 g bx tp nr md st):=by
 refine zei (B:=200) G0F func95 rfl call95 hT.ok ?_ ?_ (by simp [ntmps95]) (by omega) ?_
 ·simp [zan,za0,zah,zal,hT.ia,hT.ib,cfV]
 ·rintro v ns ⟨rfl,rfl⟩
  have ha:zcu (λk=>k∈zab L) [(1000,cfB (.slice (some ⟨100,off,none⟩) n cap) g bx tp nr md),(1000+1,zej st ks off2 n2 cap2)] 100:=.inl hT.ia
  have hb:zcu (λk=>k∈zab L) [(1000,cfB (.slice (some ⟨100,off,none⟩) n cap) g bx tp nr md),(1000+1,zej st ks off2 n2 cap2)] ks:=.inl hT.ib
  refine ⟨by simp [zan,za0,zah,zal,zcu,zab],?_,?_⟩
  ·intro p hp
   simp only [List.mem_cons,List.not_mem_nil,or_false] at hp
   rcases hp with rfl|rfl
   ·exact ⟨by omega,by simp [cfB,zac,zah,zal];exact ha⟩
   ·exact ⟨by omega,by simp [zej,zac,zah,zal];exact hb⟩
  ·intro k b c h1 h2
   simp at h1 h2
   rcases h1 with ⟨e1,rfl⟩|⟨e1,rfl⟩<;>rcases h2 with ⟨e2,rfl⟩|⟨e2,rfl⟩<;>first|rfl|omega
 intro C hC hC0 hY
 have hA:=hT.a
 have hS:=hT.s
 have hne:=hT.ne
 have hLow:=hT.low
 have hks:=hT.k1
 have hks2:=hT.k2
 unfold cfV
 repeat' first|refine gwZ ?_|(refine gwX ?_;intro Q hQ _;simp [hC,hY,hA,hS,hne];refine gwq hQ ?_)|refine gwC ?_ ?_<;>intro hb
 refine ⟨.inr trivial,kpT G0F,_,_,λk=>if k=1000 then 200 else if k=1001 then 208 else k,⟨rfl,rfl⟩,λk hk=>?_,by simp,by simp,by simp [results95,ren,zay,zaj,zam],?_⟩
 ·dsimp only
  rw [if_neg (by omega),if_neg (by omega)]
 ·have h1:¬ks=1000:=by omega
  have h2:¬ks=1001:=by omega
  simp [cfB,zej,Blk.rn,zaj,zam,h1,h2]
theorem zva (t a:Int):Fun prog G0 68 #[wd a,.pointer (some ⟨100,0,none⟩)] (hpL G0 [(100,wb t)]) (zab [(100,wb t)]) (.ret (wd (t - a)) []):=by
 refine zaz (B:=200) G0F func68 rfl call68 ⟨by simp,by simp [zab],by simp [wb,zac,zah,zal]⟩ ?_ (zak (by simp)) (by simp) (by simp) (by simp [ntmps68]) (by omega) ?_
 ·intro x hx
  simp only [List.mem_toArray,List.mem_cons,List.not_mem_nil,or_false] at hx
  rcases hx with rfl|rfl
  ·exact zak (by simp)
  ·simp [zan,za0,zah,zal,zab]
 intro C hC hC0 hY
 repeat' first|refine gwZ ?_|(refine gwX ?_;intro Q hQ _;simp [hC,hY,wb];refine gwq hQ ?_)|refine gwC ?_ ?_<;>intro hb
 refine ⟨.inr rfl,by simp [results68],zbz G0F (by simp [wb]) (by (intro k hk;first|rfl|(simp (disch:=omega) only [zbw,List.mem_cons,List.not_mem_nil,or_false,zaa,zag,zaq,if_neg,zbb]<;>done)))⟩
theorem zse {nk nk' ks off n cap off2 n2 cap2:Nat} {g bx tp nr md st:Int} {ρ:Nat->Nat} (h100:ρ 100=100) (hk:ρ ks=ks) (h0:ρ nk=nk') (h1:ρ (nk+1)=nk'+1) :
  RR ρ (zht nk ks off n cap off2 n2 cap2 g bx tp nr md st)=zht nk' ks off n cap off2 n2 cap2 g bx tp nr md st:=by
 funext v ns
 apply propext
 constructor
 ·rintro ⟨v0,ns0,⟨rfl,rfl⟩,rfl,rfl⟩
  exact ⟨by simp [ren,zay,zaj,zam,h0,h1],by simp [rnL,cfB,zej,Blk.rn,zaj,zam,h100,hk,h0,h1]⟩
 ·rintro ⟨rfl,rfl⟩
  exact ⟨_,_,⟨rfl,rfl⟩,by simp [ren,zay,zaj,zam,h0,h1],by simp [rnL,cfB,zej,Blk.rn,zaj,zam,h100,hk,h0,h1]⟩
theorem znd (nk:Nat) (hnk:200<=nk) (L:List (Nat×Blk)) (ks:Nat) (bm bs:Blk) (hT:LTwo G0 L ks bm bs) (off n cap off2 n2 cap2:Nat) (g bx tp nr md st:Int) :
  FunS prog G0 95 #[cfV (.slice (some ⟨100,off,none⟩) n cap) g bx tp nr md,.agg #[.int .i64 st,.slice (some ⟨ks,off2,none⟩) n2 cap2]] (hpL G0 L) (zab L) (zht nk ks off n cap off2 n2 cap2 g bx tp nr md st):=by
 have e2:∀ j,j<2->up2 nk (1000+j)=nk+j:=λj hj=>by unfold up2;rw [if_pos (by omega),if_pos (by omega)];omega
 have hlow:∀ k,k<1000->up2 nk k=k:=λk hk=>by unfold up2;rw [if_neg (by omega)]
 have hk2:=hT.k2
 have hid:∀ k∈zab L,up2 nk k=k:=λk hk=>by
  obtain ⟨p,hp,rfl⟩:=zad.1 hk
  have:=hT.ok.big p hp
  exact hlow _ (by omega)
 have hkk:∀ v ns,zht 1000 ks off n cap off2 n2 cap2 g bx tp nr md st v ns->∀ k∈zab ns,∃ j,j<2/\k=1000+j:=by
  intro v ns hV k hk
  have:=zgs hV k hk
  exact ⟨k - 1000,by omega,by omega⟩
 refine (zzo L ks bm bs hT off n cap off2 n2 cap2 g bx tp nr md st).mvL (hp':=hpL G0 L) (rs':=zab L) G0F hT.ok (up2 nk) (λk hk=>hlow k (by omega)) ?_ ?_ (zse (hlow _ (by omega)) (hlow _ (by omega)) (e2 0 (by omega)) (e2 1 (by omega))) hT.ok.low ?_ ?_ (λv ns hV k hk=>?_) (λv ns hV k hk l hl e=>?_)
 ·simp [cfV,ren,zay,zaj,zam,hlow 100 (by omega),hlow ks (by omega)]
 ·rw [List.map_congr_left hid];simp
 ·intro p hp
  have hb:=hT.ok.big p hp
  rw [hlow p.1 (by omega),Blk.fx_rn (hT.fx p hp)]
  exact ⟨hb.1,hT.mem p hp⟩
 ·intro k hk l hl e
  rw [hid k hk,hid l hl] at e
  exact e
 ·obtain ⟨j,hj,rfl⟩:=hkk v ns hV k hk
  rw [e2 j hj]
  refine ⟨by omega,λh=>?_⟩
  obtain ⟨p,hp,e⟩:=zad.1 h
  have:=hT.ok.big p hp
  omega
 ·obtain ⟨j,hj,rfl⟩:=hkk v ns hV k hk
  obtain ⟨i,hi,rfl⟩:=hkk v ns hV l hl
  rw [e2 j hj,e2 i hi] at e
  omega
end Go.Gy
namespace Go.Gy
open Go Go.RowKit
section
variable {P:Program} {C:Ctx} {n:Nat} {d:List Deferred} {ro:Option Nat} {s:GS} {K:Exit->GS->Prop}
theorem GI.freeze {r:Nat->Nat} {a:Act} {W:World} {k t:Nat} {cs:Array Value} (hk:s.hp k=some ⟨cs,.ty t⟩) (h100:100<=k) (h:GI P C n d r s a W):GI P C n d r ⟨s.ts,upd s.hp k (some ⟨cs.map (zaj r),.raw t (0,0)⟩),s.B,s.yc⟩ a W:=by
 have hD:dom (upd s.hp k (some ⟨cs.map (zaj r),.raw t (0,0)⟩))=dom s.hp:=by
  funext q
  unfold dom
  by_cases e:q=k
  ·subst e
   rw [za4,hk]
   simp
  ·rw [zaa _ _ e]
 have hkB:¬s.B<=k:=λhb=>by have:=h.free k hb;rw [hk] at this;cases this
 refine ⟨⟨h.ri.size,?_,λq b hq=>?_,?_,?_,λi hi=>?_,λq hq=>?_,λq hq hd=>?_⟩,λx hx=>?_,h.low,h.flat,h.rounds⟩
 ·show Rel r (dom (upd s.hp k _)) s.ts a
  rw [hD]
  exact h.ri.rel
 ·show W.heap[r q]? = some (b.obj r)/\b.ids (dom (upd s.hp k _))
  rw [hD]
  by_cases e:q=k
  ·subst e
   have hq':some (Blk.mk (cs.map (zaj r)) (.raw t (0,0)))=some b:=(za4 _ _ _).symm.trans hq
   cases hq'
   exact ⟨(h.ri.sat q _ hk).1,trivial⟩
  ·have hq':s.hp q=some b:=(zaa _ _ e).symm.trans hq
   exact h.ri.sat q b hq'
 ·show Inj r (dom (upd s.hp k _))
  rw [hD]
  exact h.ri.inj
 ·obtain ⟨S,ms,h1,h2,h3,h4⟩:=h.ri.ext
  refine ⟨S,ms,h1,h2,λi hi=>?_,h4⟩
  have hi':dom (upd s.hp k (some ⟨cs.map (zaj r),.raw t (0,0)⟩)) i:=hi
  rw [hD] at hi'
  exact h3 i hi'
 ·show dom (upd s.hp k _) i/\_
  rw [hD]
  exact h.ri.keep i hi
 ·show upd s.hp k _ q=_
  rw [zaa _ _ (by omega)]
  exact h.ri.glob q hq
 ·have hd':dom (upd s.hp k (some ⟨cs.map (zaj r),.raw t (0,0)⟩)) q:=hd
  rw [hD] at hd'
  exact h.ri.low q hq hd'
 ·show upd s.hp k _ x=none
  have hx':s.B<=x:=hx
  rw [zaa _ _ (by omega)]
  exact h.free x hx'
theorem zmt {c:Code} (k:Nat) {t:Nat} {cs:Array Value} (hk:s.hp k=some ⟨cs,.ty t⟩) (h100:100<=k) (h:∀ cs':Array Value,cs'.size=cs.size->(∀ (j:Nat) (v:Value),cs[j]? = some v->za9 v=true->cs'[j]? = some v)->GW P C n d ro c ⟨s.ts,upd s.hp k (some ⟨cs',.raw t (0,0)⟩),s.B,s.yc⟩ K):GW P C n d ro c s K:=λr a W hi =>
 h (cs.map (zaj r)) (by simp) (λj v hj hf=>by simp [hj,zcd hf]) r a W (hi.freeze hk h100)
end
end Go.Gy
namespace Go.Gy
open Go Go.RowKit Go.Proofs Go.Proofs.Tryz
def zrx (nk ks off n cap off2 n2 cap2:Nat) (g bx tp nr md st:Int) (v:Value) (ns:List (Nat×Blk)):Prop :=
 v=.func (.func 130) #[] #[.pointer (some ⟨nk,0,none⟩),.pointer (some ⟨nk+1,0,none⟩)]/\ns=[(nk,cfB (.slice (some ⟨100,off,none⟩) n cap) g bx tp nr md),(nk+1,zej st ks off2 n2 cap2)]
theorem zn3 {nk ks off n cap off2 n2 cap2:Nat} {g bx tp nr md st:Int} {v:Value} {ns:List (Nat×Blk)} (h:zrx nk ks off n cap off2 n2 cap2 g bx tp nr md st v ns):∀ k∈zab ns,nk<=k/\k<nk+2:=by
 obtain ⟨rfl,rfl⟩:=h
 intro k hk
 simp [zab] at hk
 omega
theorem zwg (L:List (Nat×Blk)) (ks:Nat) (bm bs:Blk) (hT:LTwo G0 L ks bm bs) (off n cap off2 n2 cap2:Nat) (g bx tp nr md st:Int) :
  FunS prog G0 105 #[cfV (.slice (some ⟨100,off,none⟩) n cap) g bx tp nr md,.agg #[.int .i64 st,.slice (some ⟨ks,off2,none⟩) n2 cap2]] (hpL G0 L) (zab L) (zrx 1000 ks off n cap off2 n2 cap2 g bx tp nr md st):=by
 refine zei (B:=200) G0F func105 rfl call105 hT.ok ?_ ?_ (by simp [ntmps105]) (by omega) ?_
 ·simp [zan,za0,zah,zal,hT.ia,hT.ib,cfV]
 ·rintro v ns ⟨rfl,rfl⟩
  have ha:zcu (λk=>k∈zab L) [(1000,cfB (.slice (some ⟨100,off,none⟩) n cap) g bx tp nr md),(1000+1,zej st ks off2 n2 cap2)] 100:=.inl hT.ia
  have hb:zcu (λk=>k∈zab L) [(1000,cfB (.slice (some ⟨100,off,none⟩) n cap) g bx tp nr md),(1000+1,zej st ks off2 n2 cap2)] ks:=.inl hT.ib
  refine ⟨by simp [zan,za0,zah,zal,zcu,zab],?_,?_⟩
  ·intro p hp
   simp only [List.mem_cons,List.not_mem_nil,or_false] at hp
   rcases hp with rfl|rfl
   ·exact ⟨by omega,by simp [cfB,zac,zah,zal];exact ha⟩
   ·exact ⟨by omega,by simp [zej,zac,zah,zal];exact hb⟩
  ·intro k b c h1 h2
   simp at h1 h2
   rcases h1 with ⟨e1,rfl⟩|⟨e1,rfl⟩<;>rcases h2 with ⟨e2,rfl⟩|⟨e2,rfl⟩<;>first|rfl|omega
 intro C hC hC0 hY
 have hA:=hT.a
 have hS:=hT.s
 have hne:=hT.ne
 have hLow:=hT.low
 have hks:=hT.k1
 have hks2:=hT.k2
 unfold cfV
 repeat' first|refine gwZ ?_|(refine gwX ?_;intro Q hQ _;simp [hC,hY,hA,hS,hne];refine gwq hQ ?_)|refine gwC ?_ ?_<;>intro hb
 refine ⟨.inr trivial,kpT G0F,_,_,λk=>if k=1000 then 200 else if k=1001 then 208 else k,⟨rfl,rfl⟩,λk hk=>?_,by simp,by simp,by simp [results105,ren,zay,zaj,zam],?_⟩
 ·dsimp only
  rw [if_neg (by omega),if_neg (by omega)]
 ·have h1:¬ks=1000:=by omega
  have h2:¬ks=1001:=by omega
  simp [cfB,zej,Blk.rn,zaj,zam,h1,h2]
theorem z0r {nk nk' ks off n cap off2 n2 cap2:Nat} {g bx tp nr md st:Int} {ρ:Nat->Nat} (h100:ρ 100=100) (hk:ρ ks=ks) (h0:ρ nk=nk') (h1:ρ (nk+1)=nk'+1) :
  RR ρ (zrx nk ks off n cap off2 n2 cap2 g bx tp nr md st)=zrx nk' ks off n cap off2 n2 cap2 g bx tp nr md st:=by
 funext v ns
 apply propext
 constructor
 ·rintro ⟨v0,ns0,⟨rfl,rfl⟩,rfl,rfl⟩
  exact ⟨by simp [ren,zay,zaj,zam,h0,h1],by simp [rnL,cfB,zej,Blk.rn,zaj,zam,h100,hk,h0,h1]⟩
 ·rintro ⟨rfl,rfl⟩
  exact ⟨_,_,⟨rfl,rfl⟩,by simp [ren,zay,zaj,zam,h0,h1],by simp [rnL,cfB,zej,Blk.rn,zaj,zam,h100,hk,h0,h1]⟩
theorem zs4 (nk:Nat) (hnk:200<=nk) (L:List (Nat×Blk)) (ks:Nat) (bm bs:Blk) (hT:LTwo G0 L ks bm bs) (off n cap off2 n2 cap2:Nat) (g bx tp nr md st:Int) :
  FunS prog G0 105 #[cfV (.slice (some ⟨100,off,none⟩) n cap) g bx tp nr md,.agg #[.int .i64 st,.slice (some ⟨ks,off2,none⟩) n2 cap2]] (hpL G0 L) (zab L) (zrx nk ks off n cap off2 n2 cap2 g bx tp nr md st):=by
 have e2:∀ j,j<2->up2 nk (1000+j)=nk+j:=λj hj=>by unfold up2;rw [if_pos (by omega),if_pos (by omega)];omega
 have hlow:∀ k,k<1000->up2 nk k=k:=λk hk=>by unfold up2;rw [if_neg (by omega)]
 have hk2:=hT.k2
 have hid:∀ k∈zab L,up2 nk k=k:=λk hk=>by
  obtain ⟨p,hp,rfl⟩:=zad.1 hk
  have:=hT.ok.big p hp
  exact hlow _ (by omega)
 have hkk:∀ v ns,zrx 1000 ks off n cap off2 n2 cap2 g bx tp nr md st v ns->∀ k∈zab ns,∃ j,j<2/\k=1000+j:=by
  intro v ns hV k hk
  have:=zn3 hV k hk
  exact ⟨k - 1000,by omega,by omega⟩
 refine (zwg L ks bm bs hT off n cap off2 n2 cap2 g bx tp nr md st).mvL (hp':=hpL G0 L) (rs':=zab L) G0F hT.ok (up2 nk) (λk hk=>hlow k (by omega)) ?_ ?_ (z0r (hlow _ (by omega)) (hlow _ (by omega)) (e2 0 (by omega)) (e2 1 (by omega))) hT.ok.low ?_ ?_ (λv ns hV k hk=>?_) (λv ns hV k hk l hl e=>?_)
 ·simp [cfV,ren,zay,zaj,zam,hlow 100 (by omega),hlow ks (by omega)]
 ·rw [List.map_congr_left hid];simp
 ·intro p hp
  have hb:=hT.ok.big p hp
  rw [hlow p.1 (by omega),Blk.fx_rn (hT.fx p hp)]
  exact ⟨hb.1,hT.mem p hp⟩
 ·intro k hk l hl e
  rw [hid k hk,hid l hl] at e
  exact e
 ·obtain ⟨j,hj,rfl⟩:=hkk v ns hV k hk
  rw [e2 j hj]
  refine ⟨by omega,λh=>?_⟩
  obtain ⟨p,hp,e⟩:=zad.1 h
  have:=hT.ok.big p hp
  omega
 ·obtain ⟨j,hj,rfl⟩:=hkk v ns hV k hk
  obtain ⟨i,hi,rfl⟩:=hkk v ns hV l hl
  rw [e2 j hj,e2 i hi] at e
  omega
def zo3 (fs:Nat->Int) (i:Nat):Value:=.agg #[.int .i64 (fs (6*i)),.int .i64 (fs (6*i+1)),.int .i64 (fs (6*i+2)),.int .i64 (fs (6*i+3)),.int .i64 (fs (6*i+4)),.int .i64 (fs (6*i+5))]
def z56 (fm fs:Nat->Int) (n:Nat):List (Array Value):=(List.range n).map λi=>#[.int .i64 (fm i),zo3 fs i]
theorem zq1 (fm fs:Nat->Int) (n:Nat):(z56 fm fs n).length=n:=by simp [z56]
theorem zpp (fm fs:Nat->Int) (n i:Nat) (h:i<n):(z56 fm fs n)[i]? = some #[.int .i64 (fm i),zo3 fs i]:=by simp [z56,h]
def jfx (L:List (Nat×Blk)) (ks off n cap off2 n2 cap2:Nat) (g bx tp nr md st:Int) (l i:Nat):GS :=
 ⟨tsL [(0,.func (.yield l) #[] #[]),(1,.pointer (some ⟨200,0,none⟩)),(2,.pointer (some ⟨208,0,none⟩)),(7,.slice (some ⟨100,off,none⟩) n cap),(8,.int .i64 n),(9,.int .i64 i)],hpL G0 ([(200,cfB (.slice (some ⟨100,off,none⟩) n cap) g bx tp nr md),(208,zej st ks off2 n2 cap2)]++L),400,i⟩
theorem zs5 (L:List (Nat×Blk)) (ks:Nat) (bm bs:Blk) (hT:LTwo G0 L ks bm bs) (off n cap off2 cap2:Nat) (fm fs:Nat->Int) (hm:MB bm off n fm) (hSb:SB bs off2 n fs) (g bx tp nr md st:Int) :
  IterK prog G0 130 #[.pointer (some ⟨200,0,none⟩),.pointer (some ⟨208,0,none⟩)] (hpL G0 (enM L ks off n cap off2 n cap2 g bx tp nr md st)) (zab (enM L ks off n cap off2 n cap2 g bx tp nr md st)) (z56 fm fs n):=by
 have hL:=zig hT off n cap off2 n cap2 g bx tp nr md st
 have hlt:∀ k,dom (hpL G0 (enM L ks off n cap off2 n cap2 g bx tp nr md st)) k->k<300:=λk hk=>Classical.byContradiction λh1=>hk (hL.free G0F (by omega) k (by omega))
 refine zc7 (B:=300) (v:=.tuple #[]) G0F func130 rfl call130 hL ?_ (by simp [ntmps130]) (by omega) ?_
 ·simp [zan,za0,zah,zal,enM,zab]
 intro C l stop hC hC0 hY
 have hA:=hT.a
 have hS:=hT.s
 have hne:=hT.ne
 have hks:=hT.k1
 have hks2:=hT.k2
 have hnn:=hSb.nn
 have hfx:=hT.fx
 have hlen:=zq1 fm fs n
 have hd1:=zln (G:=G0) (m:=[(200,cfB (.slice (some ⟨100,off,none⟩) n cap) g bx tp nr md),(208,zej st ks off2 n cap2)]) hT.ia
 have hd2:=zln (G:=G0) (m:=[(200,cfB (.slice (some ⟨100,off,none⟩) n cap) g bx tp nr md),(208,zej st ks off2 n cap2)]) hT.ib
 unfold dom at hd1 hd2
 simp only [List.cons_append,List.nil_append] at hd1 hd2
 have hkp:∀ (s:GS) (B:Nat) (tl:List (Nat×Value)),400<=B->(∀ p∈tl,s.ts p.1=p.2/\zan (dom (hpL G0 ([(200,cfB (.slice (some ⟨100,off,none⟩) n cap) g bx tp nr md),(208,zej st ks off2 n cap2)]++L))) p.2)->(∀ k,k<300->s.hp k=hpL G0 (enM L ks off n cap off2 n cap2 g bx tp nr md st) k)->Weak C s ⟨tsL tl,hpL G0 ([(200,cfB (.slice (some ⟨100,off,none⟩) n cap) g bx tp nr md),(208,zej st ks off2 n cap2)]++L),B,s.yc⟩:=λs B tl hB hl hh=>by
  refine zbi tl B hC G0F (m0:=enM L ks off n cap off2 n cap2 g bx tp nr md st) hC0 (by omega) hl (λp hp=>?_) (λp hp=>?_)
  ·have hb:=hL.big p hp
   exact ⟨by rw [hh p.1 (by omega)];exact LOk.at hL.one p hp,by
    refine Blk.ids_mono ?_ (hL.ids p hp)
    intro k hk
    exact hL.sub k hk,hb.1,by omega⟩
  ·have hb:=hL.big p hp
   exact ⟨hb.1,(hh p.1 (by omega)).symm⟩
 unfold enM cfB zej
 repeat' first|refine gwZ ?_|(refine gwX ?_;intro Q hQ hP;simp [hC,hY,hA,hS,hne];(first|refine hQ _ _ _ _ (by rcases hT.k8 with h8|h8<;>subst h8<;>kernel_rfl) ?_|refine hP _ _ (by rcases hT.k8 with h8|h8<;>subst h8<;>kernel_rfl) λ_=>?_))|refine gwC ?_ ?_<;>intro hb
 refine zc3 (min stop n) (jfx L ks off n cap off2 n cap2 g bx tp nr md st l) ?_ ?_ ?_
 ·refine hkp _ 400 _ (by omega) ?_ ?_
  ·simp [zan,za0,zah,zal,dom,hA]
  ·intro k hk
   simp [enM,cfB,zej]
 ·intro i hi
  have hin:i<n:=by omega
  have hi':(i:Int)<n:=by omega
  have hz:(0:Int)<=i:=by omega
  have hs:Int.bmod ((i:Int)+1) 18446744073709551616=((i+1:Nat):Int):=by rw [Go.Gy.bm (by omega) (by omega)];rfl
  have hq2:(i != stop)=true:=by simp;omega
  have hle:i<=stop:=by omega
  have hld:=hSb.body hin
  have hld2:=hm.at hin
  have hx:=zpp fm fs n i hin
  unfold jfx cfB zej
  unfold zo3 at hx
  repeat' first|refine gwZ ?_|(refine gwX ?_;intro Q hQ hP;simp [hC,hY,hA,hS,hne,hin,hi',hz,hs,hq2,hle,hld,hld2,hx];(first|refine hQ _ _ _ _ (by rcases hT.k8 with h8|h8<;>subst h8<;>kernel_rfl) ?_|refine hP _ _ (by rcases hT.k8 with h8|h8<;>subst h8<;>kernel_rfl) λ_=>?_))|refine gwC ?_ ?_<;>intro hb
  refine hkp _ 400 _ (by omega) ?_ ?_
  ·simp [zan,za0,zah,zal,dom,hA,hs]
  ·intro k hk
   simp [enM,cfB,zej]
 ·by_cases h4:n<=stop
  ·rw [Nat.min_eq_right h4]
   unfold jfx
   repeat' first|refine gwZ ?_|refine gwW ?_|refine gwC ?_ ?_<;>intro hb
   refine ⟨.inl trivial,by simp [results130],by first|(rw [hlen];omega)|omega,λk hk=>?_⟩
   first|rfl|(simp [enM];done)
  ·rw [Nat.min_eq_left (by omega)]
   have hin:stop<n:=by omega
   have hi':(stop:Int)<n:=by omega
   have hz:(0:Int)<=stop:=by omega
   have hld:=hSb.body hin
   have hld2:=hm.at hin
   have hx:=zpp fm fs n stop hin
   unfold jfx cfB zej
   unfold zo3 at hx
   repeat' first|refine gwZ ?_|(refine gwX ?_;intro Q hQ hP;simp [hC,hY,hA,hS,hne,hin,hi',hz,hld,hld2,hx];(first|refine hQ _ _ _ _ (by rcases hT.k8 with h8|h8<;>subst h8<;>kernel_rfl) ?_|refine hP _ _ (by rcases hT.k8 with h8|h8<;>subst h8<;>kernel_rfl) λ_=>?_))|refine gwC ?_ ?_<;>intro hb
   refine ⟨.inr trivial,by simp [results130],by first|omega|(simp;omega)|(rw [hlen];omega),λk hk=>?_⟩
   have hk:=hlt k hk
   first|rfl|(simp (disch:=omega) only [zaa];done)|(simp (disch:=omega) only [zaa];rfl)
def mzF (fm:Nat->Int) (z:Nat->Nat->Int) (u i:Nat):Int:=fm i*z u i
theorem zn5 {m x:Int} (h0:1<=m) (h1:m<=1024) (h2:-274877906944<=x) (h3:x<=274877906944):-281474976710656<=m*x/\m*x<=281474976710656:=by
 have a:=Int.mul_le_mul_of_nonneg_left h3 (show (0:Int)<=m by omega)
 have b:=Int.mul_le_mul_of_nonneg_left h2 (show (0:Int)<=m by omega)
 have c:=Int.mul_le_mul_of_nonneg_right h1 (show (0:Int)<=274877906944 by omega)
 omega
theorem zpm {f:Nat->Int} {n:Nat} (h:∀ i,i<n->-281474976710656<=f i/\f i<=281474976710656):∀ i,i<=n->-((i:Int)*281474976710656)<=zdi f i/\zdi f i<=(i:Int)*281474976710656
 | 0,_=>by simp [zdi]
 | i+1,hi=>by
  have ih:=zpm h i (by omega)
  have:=h i (by omega)
  unfold zdi
  omega
def mbr (k:Nat):Nat:=if k=200 then 288 else if k=208 then 289 else k
theorem zn4 {k:Nat} (h:k<200):mbr k=k:=by unfold mbr;rw [if_neg (by omega),if_neg (by omega)]
def vcB (x y z:Int):Blk:=⟨#[.int .i64 x,.int .i64 y,.int .i64 z],.ty 33⟩
def ofB (F:Nat):Blk:=⟨#[.func (.func F) #[] #[]],.ty 109⟩
theorem z4n {L:List (Nat×Blk)} (hL:LOk L 200):∀ k,k∈288::289::zab L->k=288\/k=289\/(100<=k/\k<200):=λk hk=>by
 rcases List.mem_cons.1 hk with rfl|hk
 ·exact .inl rfl
 ·rcases List.mem_cons.1 hk with rfl|hk
  ·exact .inr (.inl rfl)
  ·obtain ⟨p,hp,rfl⟩:=zad.1 hk
   exact .inr (.inr (hL.big p hp))
theorem jfz (L:List (Nat×Blk)) (ks:Nat) (bm bs:Blk) (hT:LTwo G0 L ks bm bs) (off n cap off2 n2 cap2:Nat) (fm fs:Nat->Int) (hm:MB bm off n fm) (hSb:SB bs off2 n2 fs) (g bx tp nr md st:Int) (hs:i64 st) (hf:zvg n n2 (zf6 n fm g bx tp nr md) (zco st fs n2)=false) (F:Nat) :
  Fun prog G0 70 #[cfV (.slice (some ⟨100,off,none⟩) n cap) g bx tp nr md,.agg #[.int .i64 st,.slice (some ⟨ks,off2,none⟩) n2 cap2],.func (.func F) #[] #[]] (hpL G0 L) (zab L) (.ret (.tuple #[.agg #[.int .i64 0,.int .i64 0,.int .i64 0],.int .i64 2]) []):=by
 refine zaz (B:=200) G0F func70 rfl call70 hT.ok ?_ (zak (by simp)) (by simp) (by simp) (by simp [ntmps70]) (by omega) ?_
 ·simp [zan,za0,zah,zal,hT.ia,hT.ib,cfV]
 intro C hC hC0 hY
 have hA:=hT.a
 have hS:=hT.s
 have hne:=hT.ne
 have hLow:=hT.low
 have hks:=hT.k1
 have hks2:=hT.k2
 have hfit:=zh3 L ks bm bs hT off n cap off2 n2 cap2 fm fs hm hSb g bx tp nr md st hs
 rw [hf] at hfit
 unfold cfV at hfit |-
 repeat' first|refine gwZ ?_|((first|refine gwR [94] ?_|refine gwD [94] ?_);intro Q hQ _;(repeat first|simp [hC,hY,hA,hS,hne]|refine zby hfit hT.ok zg0 ?_);refine gwq hQ ?_)|refine gwC ?_ ?_<;>intro hb
 refine ⟨.inr rfl,by simp [results70],kpT G0F⟩
theorem zwi (L:List (Nat×Blk)) (ks:Nat) (bm bs:Blk) (hT:LTwo G0 L ks bm bs) (off n cap off2 cap2:Nat) (fm fs:Nat->Int) (hm:MB bm off n fm) (hSb:SB bs off2 n fs) (g bx tp nr md st:Int) (hs:i64 st) (hok:zf6 n fm g bx tp nr md=true) (hrt:zco st fs n=true) (F:Nat) (z:Nat->Nat->Int)
  (hF:∀ i,i<n->∀ K,zbe prog G0 F #[zo3 fs i] K↔K (.agg #[.int .i64 (z 0 i),.int .i64 (z 1 i),.int .i64 (z 2 i)])) (hz:∀ u i,i<n->-274877906944<=z u i/\z u i<=274877906944) :
  Fun prog G0 70 #[cfV (.slice (some ⟨100,off,none⟩) n cap) g bx tp nr md,.agg #[.int .i64 st,.slice (some ⟨ks,off2,none⟩) n cap2],.func (.func F) #[] #[]] (hpL G0 L) (zab L) (.ret (.tuple #[.agg #[.int .i64 (zdi (mzF fm z 0) n),.int .i64 (zdi (mzF fm z 1) n),.int .i64 (zdi (mzF fm z 2) n)],.int .i64 0]) []):=by
 refine zaz (B:=200) G0F func70 rfl call70 hT.ok ?_ (zak (by simp)) (by simp) (by simp) (by simp [ntmps70]) (by omega) ?_
 ·simp [zan,za0,zah,zal,hT.ia,hT.ib,cfV]
 intro C hC hC0 hY
 have hA:=hT.a
 have hS:=hT.s
 have hne:=hT.ne
 have hLow:=hT.low
 have hks:=hT.k1
 have hks2:=hT.k2
 have hfit:=zh3 L ks bm bs hT off n cap off2 n cap2 fm fs hm hSb g bx tp nr md st hs
 rw [ze2.2 ⟨rfl,hok,hrt⟩] at hfit
 have hpr:=zs4 288 (by omega) L ks bm bs hT off n cap off2 n cap2 g bx tp nr md st
 have hlen:=zq1 fm fs n
 have hn4:=(zjl hrt).2.1
 unfold cfV at hfit hpr |-
 repeat' first|refine gwZ ?_|((first|refine gwR [94] ?_|refine gwD [94] ?_);intro Q hQ _;(repeat first|simp [hC,hY,hA,hS,hne]|refine zby hfit hT.ok zg0 ?_);refine gwq hQ ?_)|refine gwC ?_ ?_<;>intro hb
 refine zdf ?_
 simp only [Array.toList]
 refine gwl 2 ?_;intro Q hQ;simp [hC,hY,hA,hS,hne];apply hQ
 simp only [wT,wM,Nat.reduceAdd]
 refine zeb (f:=.func 105) (cap:=#[]) hC hpr rfl (by simp) rfl rfl (by simp [okT]) (by simp [gev]) (by simp) (by simp [okX,zcj]) (by simp [gev]) (by intro q hq;obtain ⟨p,hp,rfl⟩:=zad.1 hq;have hpb:=hT.ok.big p hp;(try dsimp only);simp (disch:=omega) only [zaa]) (by (intro k hk;first|exact hLow k hk|(simp (disch:=omega) only [hLow,zbw,List.mem_cons,List.not_mem_nil,or_false,zaa,zag,zaq,if_neg,zbb,List.cons_append,List.nil_append]<;>done))) (λv ns hV k hk=>by have:=zn3 hV k hk;simp;omega) ?_
 rintro v ns ⟨rfl,rfl⟩
 refine zec ?_
 repeat' first|refine gwZ ?_|(refine gwX ?_;intro Q hQ _;simp [hC,hY,zcq,zbb,hA,hS,hne];refine gwq hQ ?_)|refine gwC ?_ ?_<;>intro hb
 simp only [zcq,zbb]
 have hall:=z4n hT.ok
 have hidL:∀ k∈zab L,mbr k=k:=λk hk=>by
  obtain ⟨p,hp,rfl⟩:=zad.1 hk
  exact zn4 (hT.ok.big p hp).2
 have hCC:=hC
 have hYY:=hY
 have hbd:∀ u i,i<=n->-1125899906842624<=zdi (mzF fm z u) i/\zdi (mzF fm z u) i<=1125899906842624:=λu i hi=>by
  have:=zpm (f:=mzF fm z u) (n:=n) (λj hj=>by
   have hmm:=zc0 hok hj
   have hzz:=hz u j hj
   exact zn5 hmm.1 hmm.2 hzz.1 hzz.2) i hi
  omega
 refine zf5 (G:=G0) (f:=130) (rs:=288::289::zab L) (xs:=z56 fm fs n) (caps:=#[.pointer (some ⟨288,0,none⟩),.pointer (some ⟨289,0,none⟩)]) (m0:=L) (288::289::zab L) G0F hC hC0 hY (by simp) ?_ ?_ (by simp [ntmps70]) [(5,.pointer (some ⟨216,0,none⟩)),(6,.pointer (some ⟨224,0,none⟩))] [] (λi=>[(216,ofB F),(224,vcB (zdi (mzF fm z 0) i) (zdi (mzF fm z 1) i) (zdi (mzF fm z 2) i))]) 400 n (by rw [hlen];exact Nat.le_refl _) (by omega) (λk hk=>hk) ?_ ?_ (by simp) (by simp) ?_ ?_ ?_ ?_ ?_
 ·refine zef (zs5 L ks bm bs hT off n cap off2 cap2 fm fs hm hSb g bx tp nr md st) G0F (zig hT off n cap off2 n cap2 g bx tp nr md st) mbr (λk hk=>zn4 (by omega)) (by simp [zam,mbr]) ?_ (by (intro k hk;first|exact hLow k hk|(simp (disch:=omega) only [hLow,zbw,List.mem_cons,List.not_mem_nil,or_false,zaa,zag,zaq,if_neg,zbb,List.cons_append,List.nil_append]<;>done))) ?_ ?_
  ·show mbr 200::mbr 208::(zab L).map mbr=_
   rw [List.map_congr_left hidL]
   simp [mbr]
  ·intro p hp
   rcases List.mem_cons.1 hp with rfl|hp
   ·simp [mbr,cfB,Blk.rn,zaj,zam,upd]
   ·rcases List.mem_cons.1 hp with rfl|hp
    ·have h3:mbr ks=ks:=zn4 hks2
     simp [zej,Blk.rn,zaj,zam,upd,h3]
     simp [mbr,upd]
    ·have hpb:=hT.ok.big p hp
     rw [zn4 hpb.2,Blk.fx_rn (hT.fx p hp)]
     refine ⟨hpb.1,?_⟩
     (try dsimp only)
     simp (disch:=omega) only [zbw,zaa,zag,zaq,if_neg,zbb]
     exact hT.mem p hp
  ·have key:∀ k∈zab (enM L ks off n cap off2 n cap2 g bx tp nr md st),(k=200/\mbr k=288)\/(k=208/\mbr k=289)\/(k<200/\mbr k=k):=λk hk=>by
    rcases List.mem_cons.1 hk with rfl|hk
    ·exact .inl ⟨rfl,rfl⟩
    ·rcases List.mem_cons.1 hk with rfl|hk
     ·exact .inr (.inl ⟨rfl,rfl⟩)
     ·obtain ⟨p,hp,rfl⟩:=zad.1 hk
      have:=(hT.ok.big p hp).2
      exact .inr (.inr ⟨this,zn4 this⟩)
   intro k hk l hl e
   have:=key k hk
   have:=key l hl
   omega
 ·intro x hx
  unfold z56 at hx
  obtain ⟨i,_,rfl⟩:=List.mem_map.1 hx
  simp [zo3]
 ·intro k hk
  rcases List.mem_cons.1 hk with rfl|hk
  ·simp [dom,upd]
  ·rcases List.mem_cons.1 hk with rfl|hk
   ·simp [dom,upd]
   ·obtain ⟨p,hp,rfl⟩:=zad.1 hk
    have hpb:=hT.ok.big p hp
    refine ⟨hpb.1,?_,by omega⟩
    unfold dom
    dsimp only
    simp (disch:=omega) only [zbw,zaa,zag,zaq,if_neg,zbb]
    rw [hT.mem p hp]
    simp
 ·intro k hk b hb1
  rcases List.mem_cons.1 hk with rfl|hk
  ·simp [upd] at hb1;subst hb1;simp [cfB,zac,zah,zal,hT.ia]
  ·rcases List.mem_cons.1 hk with rfl|hk
   ·simp [upd] at hb1;subst hb1;simp [zej,zac,zah,zal,hT.ib]
   ·obtain ⟨p,hp,rfl⟩:=zad.1 hk
    have hpb:=hT.ok.big p hp
    dsimp only at hb1
    simp (disch:=omega) only [zbw,zaa,zag,zaq,if_neg,zbb] at hb1
    rw [hT.mem p hp] at hb1
    simp only [Option.some.injEq] at hb1
    subst hb1
    exact Blk.fx_ids (hT.fx p hp) _
 ·simp [ofB,vcB,zdi,upd,zbb]
 ·intro i hi
  refine ⟨by simp [zan,za0,zah,zal,dom],?_⟩
  have ho:∀ k,200<=k->k<288->k∉288::289::zab L:=λk h1 h2 h3=>by have:=hall k h3;omega
  simp only [List.mem_cons,List.not_mem_nil,or_false,forall_eq_or_imp,forall_eq]
  exact ⟨⟨by omega,by omega,by simpa using ho 216 (by omega) (by omega),by simp [ofB,zac,zah,zal]⟩,by omega,by omega,by simpa using ho 224 (by omega) (by omega),by simp [vcB,zac,zah,zal]⟩
 ·intro p hp
  exact .inl (List.mem_cons_of_mem _ (List.mem_cons_of_mem _ (zad.2 ⟨p,hp,rfl⟩)))
 ·intro i x hi hx C1 j c1 c2 c3
  rw [zpp fm fs n i hi] at hx
  simp only [Option.some.injEq] at hx
  subst hx
  have hFi:=hF i hi
  have b0:=hbd 0 i (by omega)
  have b1:=hbd 1 i (by omega)
  have b2:=hbd 2 i (by omega)
  have d0:=hbd 0 (i+1) (by omega)
  have d1:=hbd 1 (i+1) (by omega)
  have d2:=hbd 2 (i+1) (by omega)
  have e0:zdi (mzF fm z 0) (i+1)=zdi (mzF fm z 0) i+fm i*z 0 i:=rfl
  have e1:zdi (mzF fm z 1) (i+1)=zdi (mzF fm z 1) i+fm i*z 1 i:=rfl
  have e2:zdi (mzF fm z 2) (i+1)=zdi (mzF fm z 2) i+fm i*z 2 i:=rfl
  rw [e0,e1,e2] at *
  generalize zdi (mzF fm z 0) i=A0 at *
  generalize zdi (mzF fm z 1) i=A1 at *
  generalize zdi (mzF fm z 2) i=A2 at *
  have hmm:=zc0 hok hi
  have k0:=zn5 hmm.1 hmm.2 (hz 0 i hi).1 (hz 0 i hi).2
  have k1:=zn5 hmm.1 hmm.2 (hz 1 i hi).1 (hz 1 i hi).2
  have k2:=zn5 hmm.1 hmm.2 (hz 2 i hi).1 (hz 2 i hi).2
  have q0:Int.bmod (fm i*z 0 i) 18446744073709551616=fm i*z 0 i:=Go.Gy.bm (by omega) (by omega)
  have q1:Int.bmod (fm i*z 1 i) 18446744073709551616=fm i*z 1 i:=Go.Gy.bm (by omega) (by omega)
  have q2:Int.bmod (fm i*z 2 i) 18446744073709551616=fm i*z 2 i:=Go.Gy.bm (by omega) (by omega)
  have r0:Int.bmod (A0+fm i*z 0 i) 18446744073709551616=A0+fm i*z 0 i:=Go.Gy.bm (by omega) (by omega)
  have r1:Int.bmod (A1+fm i*z 1 i) 18446744073709551616=A1+fm i*z 1 i:=Go.Gy.bm (by omega) (by omega)
  have r2:Int.bmod (A2+fm i*z 2 i) 18446744073709551616=A2+fm i*z 2 i:=Go.Gy.bm (by omega) (by omega)
  clear hC hY
  have hC:=c1
  have hY:=c3
  unfold zo3 at hFi |-
  unfold ofB vcB
  repeat' first|refine gwZ ?_|(refine gwX ?_;intro Q hQ _;simp [hC,hY,zao];refine gwq hQ ?_)|refine gwC ?_ ?_<;>intro hb
  intro C2 hC2 hh2 hY2
  clear hC hY
  have hC:=hC2
  have hY:=hY2
  repeat' first|refine zat ?_|refine zaw ?_|refine gwZ ?_|(refine gwX ?_;intro Q hQ _;simp [hC,hY,hFi,q0,q1,q2,r0,r1,r2];refine gwq hQ ?_)|refine gwC ?_ ?_<;>intro hb
  simp
 ·refine .inl ⟨hlen.symm,?_⟩
  unfold ofB vcB
  have hmo:∀ k,200<=k->k<288->(k∈288::289::zab L)=False:=λk h1 h2=>eq_false λh3=>by have:=hall k h3;omega
  have hm16:=hmo 216 (by omega) (by omega)
  have hm24:=hmo 224 (by omega) (by omega)
  repeat' first|refine gwZ ?_|(refine gwX ?_;intro Q hQ _;simp [hC,hY,zbw,hm16,hm24];refine gwq hQ ?_)|refine gwC ?_ ?_<;>intro hb
  refine ⟨.inr rfl,by simp [results70,zbw,hm16,hm24],zbz G0F (λp hp=>by
    have hpb:=hT.ok.big p hp
    have hm9:p.1∈288::289::zab L:=List.mem_cons_of_mem _ (List.mem_cons_of_mem _ (zad.2 ⟨p,hp,rfl⟩))
    simp (disch:=omega) only [eIn hm9,zaa,zag,zaq,if_neg,zbb]) (λk hk=>by
    have hm9:k∉288::289::zab L:=λhm9=>by have:=hall k hm9;omega
    simp (disch:=omega) only [eNi hm9,zaa,zag,zaq,if_neg,zbb,hLow])⟩
end Go.Gy
namespace Go.Gy
structure HS where
 N:Int
 v:Nat->Int
def zlm (c:Nat):Bool:=c==0||(decide (2<=c)&&(c - 2) / 3%2==0)
def mm (c:Nat) (x y:Int):Int:=if zlm c then min x y else max x y
def HS.one (h:HS) (w:Nat->Int):HS:=⟨h.N+1,λc=>if h.N=0 then w c else mm c (h.v c) (w c)⟩
def zcp (w:Nat->Int):Bool:=decide (w 0<=w 1)
def HS.tk (h:HS) (w:Nat->Nat->Int):Nat->HS
 | 0=>h
 | i+1=>if zcp (w i)=true/\¬(h.tk w i).N=1073741824 then (h.tk w i).one (w i) else h.tk w i
def zcr (w:Nat->Nat->Int):Nat->Nat
 | 0=>0
 | i+1=>zcr w i+if zcp (w i) then 1 else 0
theorem zek (w:Nat->Nat->Int):∀ n,zcr w n<=n
 | 0=>Nat.le_refl _
 | n+1=>by have:=zek w n;unfold zcr;split<;>omega
theorem zed {w:Nat->Nat->Int}:∀ {n:Nat},zcr w n=0↔∀ i,i<n->zcp (w i)=false
 | 0=>⟨λ_ i hi=>absurd hi (Nat.not_lt_zero i),λ_=>rfl⟩
 | n+1=>by
  unfold zcr
  constructor
  ·intro h i hi
   by_cases c:i=n
   ·subst c
    cases e:zcp (w i) with
    | false=>rfl
    | true=>rw [e,if_pos rfl] at h;omega
   ·have h2:zcr w n=0:=by omega
    exact zed.1 h2 i (by omega)
  ·intro h
   rw [zed.2 λi hi=>h i (by omega),h n (by omega)]
   rfl
theorem z7c {h:HS} {w:Nat->Nat->Int}:∀ {n:Nat},h.N+n<=1073741824->(h.tk w n).N=h.N+zcr w n
 | 0,_=>(Int.add_zero _).symm
 | n+1,hn=>by
  have ih:=z7c (h:=h) (w:=w) (n:=n) (by omega)
  have:=zek w n
  unfold HS.tk zcr
  cases e:zcp (w n) with
  | false=>rw [if_neg (by simp),ih];simp
  | true =>
   rw [if_pos ⟨rfl,by rw [ih];omega⟩]
   unfold HS.one
   rw [ih]
   simp
   omega
theorem jip {c:Nat} {x y:Int} (h:zlm c=true):mm c x y<=x/\mm c x y<=y/\(mm c x y=x\/mm c x y=y):=by
 unfold mm;rw [if_pos h]
 omega
theorem jio {c:Nat} {x y:Int} (h:zlm c=false):x<=mm c x y/\y<=mm c x y/\(mm c x y=x\/mm c x y=y):=by
 unfold mm;rw [if_neg (by rw [h];decide)]
 omega
def bey (c:Nat) (x y:Int):Prop:=if zlm c then x<=y else y<=x
theorem z2f (c:Nat) (x y:Int):bey c (mm c x y) x/\bey c (mm c x y) y/\(mm c x y=x\/mm c x y=y):=by
 unfold bey
 cases h:zlm c with
 | true=>exact jip h
 | false=>exact jio h
theorem zuz (c:Nat) (x:Int):bey c x x:=by unfold bey;split<;>omega
theorem zm3 {c:Nat} {x y z:Int} (h:bey c x y) (k:bey c y z):bey c x z:=by unfold bey at *;split at h<;>simp_all<;>omega
theorem zqe {c:Nat} {x y:Int} (h:bey c x y) (k:bey c y x):x=y:=by unfold bey at *;split at h<;>simp_all<;>omega
structure TkC (h:HS) (w:Nat->Nat->Int) (n:Nat) (c:Nat) (x:Int):Prop where
 all:∀ i,i<n->zcp (w i)=true->bey c x (w i c)
 old:¬h.N=0->bey c x (h.v c)
 is:(∃ i,i<n/\zcp (w i)=true/\x=w i c)\/((¬h.N=0\/zcr w n=0)/\x=h.v c)
theorem z1k {h:HS} {w:Nat->Nat->Int} (h0:0<=h.N) (c:Nat):∀ {n:Nat},h.N+n<=1073741824->TkC h w n c ((h.tk w n).v c)
 | 0,_=>⟨λi hi=>absurd hi (Nat.not_lt_zero i),λ_=>zuz c _,.inr ⟨.inr rfl,rfl⟩⟩
 | n+1,hn=>by
  have ih:=z1k (h:=h) (w:=w) h0 c (n:=n) (by omega)
  have hN:=z7c (h:=h) (w:=w) (n:=n) (by omega)
  have hle:=zek w n
  unfold HS.tk
  cases e:zcp (w n) with
  | false =>
   rw [if_neg (by simp)]
   refine ⟨λi hi hf=>?_,ih.old,ih.is.imp (λ⟨i,h1,h2⟩=>⟨i,by omega,h2⟩) λ⟨h1,h2⟩=>⟨h1.imp id λk=>by unfold zcr;rw [k,e];rfl,h2⟩⟩
   by_cases ci:i=n
   ·subst ci;rw [e] at hf;cases hf
   ·exact ih.all i (by omega) hf
  | true =>
   rw [if_pos ⟨rfl,by rw [hN];omega⟩]
   unfold HS.one
   simp only
   by_cases z:(h.tk w n).N=0
   ·rw [if_pos z]
    rw [hN] at z
    have hz:h.N=0:=by omega
    have cz:zcr w n=0:=by omega
    refine ⟨λi hi hf=>?_,λk=>absurd hz k,.inl ⟨n,by omega,e,rfl⟩⟩
    by_cases ci:i=n
    ·subst ci;exact zuz c _
    ·rw [zed.1 cz i (by omega)] at hf;cases hf
   ·rw [if_neg z]
    obtain ⟨m1,m2,m3⟩:=z2f c ((h.tk w n).v c) (w n c)
    refine ⟨λi hi hf=>?_,λk=>zm3 m1 (ih.old k),?_⟩
    ·by_cases ci:i=n
     ·subst ci;exact m2
     ·exact zm3 m1 (ih.all i (by omega) hf)
    ·rcases m3 with m3|m3
     ·rw [m3]
      rcases ih.is with ⟨i,h1,h2⟩|⟨h1,h2⟩
      ·exact .inl ⟨i,by omega,h2⟩
      ·refine .inr ⟨.inl ?_,h2⟩
       rcases h1 with h1|h1
       ·exact h1
       ·rw [hN,h1] at z;simpa using z
     ·exact .inl ⟨n,by omega,e,m3⟩
theorem z7f {h:HS} {w w':Nat->Nat->Int} {n n' c:Nat} {x y:Int} (hx:TkC h w n c x) (hy:TkC h w' n' c y) (h1:∀ i,i<n->zcp (w i)=true->∃ j,j<n'/\zcp (w' j)=true/\w i c=w' j c) (h2:∀ j,j<n'->zcp (w' j)=true->∃ i,i<n/\zcp (w i)=true/\w' j c=w i c):x=y:=by
 have e0:zcr w n=0->zcr w' n'=0:=λz=>zed.2 λj hj=>by
  cases e:zcp (w' j) with
  | false=>rfl
  | true=>obtain ⟨i,hi,hf,_⟩:=h2 j hj e;rw [zed.1 z i hi] at hf;cases hf
 have e1:zcr w' n'=0->zcr w n=0:=λz=>zed.2 λj hj=>by
  cases e:zcp (w j) with
  | false=>rfl
  | true=>obtain ⟨i,hi,hf,_⟩:=h1 j hj e;rw [zed.1 z i hi] at hf;cases hf
 have a1:bey c x y\/x=y:=by
  rcases hy.is with ⟨j,hj,hf,e⟩|⟨hh,e⟩
  ·obtain ⟨i,hi,hfi,e2⟩:=h2 j hj hf
   exact .inl (by rw [e,e2];exact hx.all i hi hfi)
  ·rcases hh with hh|hh
   ·exact .inl (by rw [e];exact hx.old hh)
   ·rcases hx.is with ⟨i,hi,hf,_⟩|⟨_,e2⟩
    ·rw [zed.1 (e1 hh) i hi] at hf;cases hf
    ·exact .inr (e2.trans e.symm)
 have a2:bey c y x\/x=y:=by
  rcases hx.is with ⟨j,hj,hf,e⟩|⟨hh,e⟩
  ·obtain ⟨i,hi,hfi,e2⟩:=h1 j hj hf
   exact .inl (by rw [e,e2];exact hy.all i hi hfi)
  ·rcases hh with hh|hh
   ·exact .inl (by rw [e];exact hy.old hh)
   ·rcases hy.is with ⟨i,hi,hf,_⟩|⟨_,e2⟩
    ·rw [zed.1 (e0 hh) i hi] at hf;cases hf
    ·exact .inr (e.trans e2.symm)
 rcases a1 with a1|a1
 ·rcases a2 with a2|a2
  ·exact zqe a1 a2
  ·exact a2
 ·exact a1
def zdy (n:Nat) (w u:Nat->Nat->Int) (i:Nat):Nat->Int:=if i<n then w i else u (i - n)
theorem jdv {h:HS} {n:Nat} {w u:Nat->Nat->Int}:∀ {k:Nat},k<=n->h.tk (zdy n w u) k=h.tk w k
 | 0,_=>rfl
 | k+1,hk=>by
  have hk2:k<n:=hk
  have ih:=jdv (h:=h) (w:=w) (u:=u) (n:=n) (k:=k) (Nat.le_of_lt hk2)
  have e:zdy n w u k=w k:=if_pos hk2
  simp only [HS.tk,ih,e]
theorem zok {h:HS} {n:Nat} {w u:Nat->Nat->Int}:∀ (m:Nat),h.tk (zdy n w u) (n+m)=(h.tk w n).tk u m
 | 0=>jdv (Nat.le_refl _)
 | m+1=>by
  have ih:=zok (h:=h) (n:=n) (w:=w) (u:=u) m
  have e:zdy n w u (n+m)=u m:=by unfold zdy;rw [if_neg (by omega),Nat.add_sub_cancel_left]
  rw [show n+(m+1)=(n+m)+1 from rfl]
  simp only [HS.tk,ih,e]
theorem zqg {n:Nat} {w u:Nat->Nat->Int}:∀ (m:Nat),zcr (zdy n w u) (n+m)=zcr w n+zcr u m
 | 0=>by
  have:∀ k,k<=n->zcr (zdy n w u) k=zcr w k:=λk=>by
   induction k with
   | zero=>intro _;rfl
   | succ k ih =>
    intro hk
    have hk2:k<n:=hk
    have e:zdy n w u k=w k:=if_pos hk2
    simp only [zcr,ih (Nat.le_of_lt hk2),e]
  exact this n (Nat.le_refl _)
 | m+1=>by
  have ih:=zqg (n:=n) (w:=w) (u:=u) m
  have e:zdy n w u (n+m)=u m:=by unfold zdy;rw [if_neg (by omega),Nat.add_sub_cancel_left]
  rw [show n+(m+1)=(n+m)+1 from rfl]
  simp only [zcr,ih,e]
  omega
theorem z7d {h:HS} {n m:Nat} {w u:Nat->Nat->Int} (h0:0<=h.N) (hn:h.N+(n+m:Nat)<=1073741824) (c:Nat):((h.tk w n).tk u m).v c=((h.tk u m).tk w n).v c:=by
 rw [<-zok,<-zok]
 refine z7f (z1k h0 c hn) (z1k h0 c (by omega)) (λi hi hf=>?_) λi hi hf=>?_
 ·by_cases ci:i<n
  ·refine ⟨m+i,by omega,?_⟩
   have e1:zdy n w u i=w i:=if_pos ci
   have e2:zdy m u w (m+i)=w i:=by unfold zdy;rw [if_neg (by omega),Nat.add_sub_cancel_left]
   rw [e1] at hf |-
   rw [e2]
   exact ⟨hf,rfl⟩
  ·refine ⟨i - n,by omega,?_⟩
   have e1:zdy n w u i=u (i - n):=if_neg ci
   have e2:zdy m u w (i - n)=u (i - n):=if_pos (by omega)
   rw [e1] at hf |-
   rw [e2]
   exact ⟨hf,rfl⟩
 ·by_cases ci:i<m
  ·refine ⟨n+i,by omega,?_⟩
   have e1:zdy m u w i=u i:=if_pos ci
   have e2:zdy n w u (n+i)=u i:=by unfold zdy;rw [if_neg (by omega),Nat.add_sub_cancel_left]
   rw [e1] at hf |-
   rw [e2]
   exact ⟨hf,rfl⟩
  ·refine ⟨i - m,by omega,?_⟩
   have e1:zdy m u w i=w (i - m):=if_neg ci
   have e2:zdy n w u (i - m)=w (i - m):=if_pos (by omega)
   rw [e1] at hf |-
   rw [e2]
   exact ⟨hf,rfl⟩
def ze7 (h:HS):Bool:=if h.N=0 then (List.range 14).all λc=>h.v c==0 else decide (0<h.N/\h.N<=1073741824)&&(decide (h.v 0<=h.v 1)&&(List.range 3).all λq=>decide (h.v (2+q)<=h.v (5+q))&&decide (h.v (8+q)<=h.v (11+q)))
def zkn (h:HS) (w:Nat->Int):Bool:=!(decide (h.N=0))&&(ze7 h&&(decide (h.v 0<=w 0/\w 0<=h.v 1)&&(decide (h.v 0<=w 1/\w 1<=h.v 1)&&(List.range 3).all λq=>decide (h.v (2+q)<=w (2+q)/\w (2+q)<=h.v (5+q))&&decide (h.v (8+q)<=w (8+q)/\w (8+q)<=h.v (11+q)))))
theorem jg2 {P:Nat->Bool}:((List.range 14).all P)=true↔∀ c,c<14->P c=true:=by
 rw [List.all_eq_true]
 exact ⟨λh c hc=>h c (List.mem_range.2 hc),λh c hc=>h c (List.mem_range.1 hc)⟩
theorem jg3 {P:Nat->Bool}:((List.range 3).all P)=true↔∀ c,c<3->P c=true:=by
 rw [List.all_eq_true]
 exact ⟨λh c hc=>h c (List.mem_range.2 hc),λh c hc=>h c (List.mem_range.1 hc)⟩
theorem jdj {h:HS} (z:h.N=0):ze7 h=true↔∀ c,c<14->h.v c=0:=by
 unfold ze7
 rw [if_pos z,jg2]
 simp
theorem zti {h:HS} (z:¬h.N=0):ze7 h=true↔(0<h.N/\h.N<=1073741824)/\h.v 0<=h.v 1/\∀ q,q<3->h.v (2+q)<=h.v (5+q)/\h.v (8+q)<=h.v (11+q):=by
 unfold ze7
 rw [if_neg z,Bool.and_eq_true,Bool.and_eq_true,jg3,decide_eq_true_eq,decide_eq_true_eq]
 simp only [Bool.and_eq_true,decide_eq_true_eq]
theorem zw2 {h:HS} (k:ze7 h=true):0<=h.N/\h.N<=1073741824:=by
 by_cases z:h.N=0
 ·omega
 ·have:=(zti z).1 k;omega
def zhj (w:Nat->Nat->Int):Prop:=∀ i q,q<3->w i (2+q)=w i (5+q)/\w i (8+q)=w i (11+q)
theorem z61 {n:Nat} {w u:Nat->Nat->Int} (h:zhj w) (k:zhj u):zhj (zdy n w u):=λi q hq=>by
 unfold zdy
 split
 ·exact h i q hq
 ·exact k _ q hq
theorem z2n {q:Nat} (hq:q<3):zlm (2+q)=true/\zlm (8+q)=true/\zlm (5+q)=false/\zlm (11+q)=false:=by
 have:q=0\/q=1\/q=2:=by omega
 rcases this with rfl|rfl|rfl<;>decide
theorem zy1 {c:Nat} {x y:Int} (h:zlm c=true):bey c x y↔x<=y:=by unfold bey;rw [if_pos h]
theorem zy0 {c:Nat} {x y:Int} (h:zlm c=false):bey c x y↔y<=x:=by unfold bey;rw [if_neg (by rw [h];decide)]
section
variable {h:HS} {w:Nat->Nat->Int} {n:Nat}
theorem jdu (h0:0<=h.N) (hn:h.N+n<=1073741824) (hw:zhj w) {i:Nat} (hi:i<n) (hf:zcp (w i)=true) :
  ((h.tk w n).v 0<=w i 0/\w i 0<=(h.tk w n).v 1)/\((h.tk w n).v 0<=w i 1/\w i 1<=(h.tk w n).v 1)/\∀ q,q<3->((h.tk w n).v (2+q)<=w i (2+q)/\w i (2+q)<=(h.tk w n).v (5+q))/\((h.tk w n).v (8+q)<=w i (8+q)/\w i (8+q)<=(h.tk w n).v (11+q)):=by
 have hle:w i 0<=w i 1:=of_decide_eq_true hf
 have k:=λc=>(z1k (h:=h) (w:=w) h0 c hn).all i hi hf
 have k0:=(zy1 (by decide)).1 (k 0)
 have k1:=(zy0 (by decide)).1 (k 1)
 refine ⟨⟨k0,by omega⟩,⟨by omega,k1⟩,λq hq=>?_⟩
 obtain ⟨d1,d2,d3,d4⟩:=z2n hq
 obtain ⟨e1,e2⟩:=hw i q hq
 have a:=(zy1 d1).1 (k (2+q))
 have b:=(zy1 d2).1 (k (8+q))
 have c:=(zy0 d3).1 (k (5+q))
 have d:=(zy0 d4).1 (k (11+q))
 refine ⟨⟨a,by rw [e1];exact c⟩,b,by rw [e2];exact d⟩
theorem zxm (hr:ze7 h=true) (hn:h.N+n<=1073741824) (hw:zhj w):ze7 (h.tk w n)=true:=by
 have h0:=(zw2 hr).1
 have hN:=z7c (h:=h) (w:=w) (n:=n) hn
 by_cases z:(h.tk w n).N=0
 ·have hz:h.N=0:=by omega
  have cz:zcr w n=0:=by omega
  refine (jdj z).2 λc hc=>?_
  rcases (z1k (h:=h) (w:=w) h0 c hn).is with ⟨i,hi,hf,_⟩|⟨_,e⟩
  ·rw [zed.1 cz i hi] at hf;cases hf
  ·rw [e];exact (jdj hz).1 hr c hc
 ·refine (zti z).2 ⟨⟨by omega,by have:=zek w n;omega⟩,?_⟩
  by_cases cz:zcr w n=0
  ·have hz:¬h.N=0:=by omega
   have e:=λc=>(show (h.tk w n).v c=h.v c by
    rcases (z1k (h:=h) (w:=w) h0 c hn).is with ⟨i,hi,hf,_⟩|⟨_,e⟩
    ·rw [zed.1 cz i hi] at hf;cases hf
    ·exact e)
   simp only [e]
   exact ((zti hz).1 hr).2
  ·obtain ⟨i,hi,hf⟩:∃ i,i<n/\zcp (w i)=true:=Classical.byContradiction λhc=>cz (zed.2 λi hi=>by
    cases e:zcp (w i) with
    | false=>rfl
    | true=>exact absurd ⟨i,hi,e⟩ hc)
   obtain ⟨a,b,c⟩:=jdu h0 hn hw hi hf
   have hle:w i 0<=w i 1:=of_decide_eq_true hf
   refine ⟨by omega,λq hq=>?_⟩
   obtain ⟨c1,c2⟩:=c q hq
   omega
theorem jdt (hr:ze7 h=true) (hn:h.N+n<=1073741824) (hw:zhj w) {i:Nat} (hi:i<n) (hf:zcp (w i)=true):zkn (h.tk w n) (w i)=true:=by
 have h0:=(zw2 hr).1
 obtain ⟨a,b,c⟩:=jdu h0 hn hw hi hf
 have hN:=z7c (h:=h) (w:=w) (n:=n) hn
 have hc:¬zcr w n=0:=λz=>by rw [zed.1 z i hi] at hf;cases hf
 unfold zkn
 rw [zxm hr hn hw,decide_eq_false (by omega),decide_eq_true a,decide_eq_true b,jg3.2 λq hq=>by rw [decide_eq_true (c q hq).1,decide_eq_true (c q hq).2];rfl]
 rfl
theorem z1l (h0:0<=h.N) (hn:h.N+n<=1073741824) {i:Nat} (hi:i<n) (hf:zcp (w i)=true) {c:Nat}:((h.tk w n).one (w i)).v c=(h.tk w n).v c:=by
 have hN:=z7c (h:=h) (w:=w) (n:=n) hn
 have hc:¬zcr w n=0:=λz=>by rw [zed.1 z i hi] at hf;cases hf
 have k:=(z1k (h:=h) (w:=w) h0 c hn).all i hi hf
 unfold HS.one
 simp only
 rw [if_neg (by omega)]
 obtain ⟨m1,m2,m3⟩:=z2f c ((h.tk w n).v c) (w i c)
 rcases m3 with m3|m3
 ·exact m3
 ·exact zqe m1 (by rw [m3];exact k)
theorem jdw (hr:ze7 h=true) (hn:h.N+n<=1073741824) (hz:¬h.N=0):((h.tk w n).v 0<=h.v 0/\h.v 0<=(h.tk w n).v 1)/\((h.tk w n).v 0<=h.v 1/\h.v 1<=(h.tk w n).v 1):=by
 have h0:=(zw2 hr).1
 have k0:=(zy1 (by decide)).1 ((z1k (h:=h) (w:=w) h0 0 hn).old hz)
 have k1:=(zy0 (by decide)).1 ((z1k (h:=h) (w:=w) h0 1 hn).old hz)
 have:=((zti hz).1 hr).2.1
 omega
end
end Go.Gy
namespace Go.Gy
open Go Go.RowKit Go.Proofs
def fv (N:Nat) (g:Nat->Value):Array Value:=Array.ofFn (n:=N) λi=>g i
@[simp] theorem jhq (N:Nat) (g:Nat->Value):(fv N g).size=N:=by simp [fv]
theorem zki (N:Nat) (g:Nat->Value) {j:Nat} (h:j<N):(fv N g)[j]? = some (g j):=by simp [fv,h]
theorem zvk (N:Nat) (g:Nat->Value) {j:Nat} (h:N<=j):(fv N g)[j]? = none:=by simp [fv];omega
theorem zkj {N:Nat} {g:Nat->Value} {x:Value} (h:x∈fv N g):∃ j,j<N/\x=g j:=by
 obtain ⟨j,hj,rfl⟩:=Array.mem_iff_getElem.1 h
 exact ⟨j,by simpa using hj,by simp [fv]⟩
theorem zno {A:Array Value} {N:Nat} {g:Nat->Value} (hs:A.size=N) (h:∀ j,j<N->A[j]? = some (g j)):A=fv N g:=by
 apply Array.ext_getElem?
 intro j
 by_cases hj:j<N
 ·rw [h j hj,zki N g hj]
 ·rw [zvk N g (by omega),Array.getElem?_eq_none (by omega)]
def rdV (b:Blk) (off N:Nat) (g:Nat->Value):Prop:=∀ j,j<N->b.c[off+j]? = some (g j)
theorem jc9 (N:Nat) (g:Nat->Value) (T:BTy):rdV ⟨fv N g,T⟩ 0 N g:=λj hj=>by
 rw [Nat.zero_add];exact zki N g hj
theorem rdV.le {b:Blk} {off N M:Nat} {g:Nat->Value} (h:rdV b off N g) (hm:M<=N):rdV b off M g:=λj hj=>h j (by omega)
section
variable {P:Program}
theorem jbw {T:TypeId} {m:Nat} (h1:zfa P T=some true) (h2:zas P T=some m) (hm:0<m) {b:Blk} {off N j:Nat} {g:Nat->Value} (h:rdV b off N g) (hj:j+m<=N) (hfl:∀ q,q<m->za9 (g (j+q))=true) (hrd:b.T.rd=true:=by first|rfl|assumption) :
  zc2 P T b (off+j)=some (.agg (fv m λq=>g (j+q))):=by
 have hsz:off+j+m<=b.c.size:=by
  have:=h (j+m - 1) (by omega)
  have:=(Array.getElem?_eq_some_iff.1 this).1
  omega
 have he:b.c.extract (off+j) (off+j+m)=fv m λq=>g (j+q):=by
  refine zno (by simp;omega) λq hq=>?_
  rw [Array.getElem?_extract,if_pos (by omega),Nat.add_assoc,h (j+q) (by omega)]
 refine ziz ?_ ?_
 ·simp only [zbx,h1,h2,if_pos hsz,he]
 ·simp only [zau,zgk]
  rw [Array.all_eq_true']
  intro x hx
  obtain ⟨q,hq,rfl⟩:=zkj hx
  exact hfl q hq
theorem jbx {T:TypeId} (h1:zfa P T=some false) {b:Blk} {off N j:Nat} {g:Nat->Value} (h:rdV b off N g) (hj:j<N) (hs:zjv (some (g j))=some (g j)) (hfl:zau (g j)=true) (hrd:b.T.rd=true:=by first|rfl|assumption):zc2 P T b (off+j)=some (g j):=by
 refine ziz ?_ hfl
 simp only [zbx,h1,h j hj]
 exact hs
theorem jda {b:Blk} {off N:Nat} {g:Nat->Value} (h:rdV b off N g):∀ q u,(fv N g).toList[q]? = some u->b.c[off+q]? = some u:=λq u hq=>by
 rw [Array.getElem?_toList] at hq
 by_cases hN:q<N
 ·rw [zki N g hN] at hq;rw [h q hN];exact hq
 ·rw [zvk N g (by omega)] at hq;cases hq
end
def zj0 (w:Nat->Int) (j:Nat):Value :=
 if j<4 then .int .u64 (wi (w 0) j) else if j<8 then .int .u64 (wi (w 1) (j - 4)) else if j<11 then .int .i64 (w (j - 6)) else .int .i64 (w (j - 3))
theorem zd1 (w:Nat->Int) (j:Nat):za9 (zj0 w j)=true:=by
 unfold zj0;split<;>(try split)<;>(try split)<;>rfl
def zcm (w:Nat->Int):Value:=.agg #[.int .u64 (wi (w 0) 0),.int .u64 (wi (w 0) 1),.int .u64 (wi (w 0) 2),.int .u64 (wi (w 0) 3),.int .u64 (wi (w 1) 0),.int .u64 (wi (w 1) 1),.int .u64 (wi (w 1) 2),.int .u64 (wi (w 1) 3),.int .i64 (w 2),.int .i64 (w 3),.int .i64 (w 4),.int .i64 (w 8),.int .i64 (w 9),.int .i64 (w 10)]
theorem z0o (w:Nat->Int):.agg (fv 14 (zj0 w))=zcm w:=by
 unfold zcm
 refine congrArg Value.agg (zno (N:=14) rfl λj hj=>?_).symm
 have:j=0\/j=1\/j=2\/j=3\/j=4\/j=5\/j=6\/j=7\/j=8\/j=9\/j=10\/j=11\/j=12\/j=13:=by omega
 rcases this with rfl|rfl|rfl|rfl|rfl|rfl|rfl|rfl|rfl|rfl|rfl|rfl|rfl|rfl<;>rfl
def zdo (w:Nat->Nat->Int) (j:Nat):Value:=zj0 (w (j / 14)) (j%14)
structure LB (b:Blk) (off n:Nat) (w:Nat->Nat->Int):Prop where
 rd:rdV b off (14*n) (zdo w)
 fx:b.fx
 ok:zhj w
 i64:∀ i,i<n->∀ c,2<=c->c<14->i64 (w i c)
 wr:∀ i,i<n->wr (w i 0)/\wr (w i 1)
 nn:n<=1256598820000
end Go.Gy
namespace Go.Gy
open Go Go.RowKit
section
variable {P:Program} {G:Hp}
structure IterS (P:Program) (G:Hp) (f:FuncId) (caps:Array Value) (hp:Hp) (rs:List Nat) (w:Nat) (ob:Nat->Blk) (xs:List (Array Value)):Prop where
 enter:∀ a w,(callFunc f a).run P w=.ok (.enter f a) w
 cids:∀ x∈caps,zbj x=true/\zan (dom (rst hp rs)) x
 closed:∀ k b,rst hp rs k=some b->b.ids (dom (rst hp rs))
 flat:∀ c,(∀ r,(ob c).obj r=(ob c).obj0)/\∀ D,(ob c).ids D
 run:∀ (E:Ext) (l stop:Nat) r S W,GOK G W->Sat r (dom (rst hp rs)) (rst hp rs) W->Inj r (dom (rst hp rs))->(∀ k,k<100->dom (rst hp rs) k->r k=k)->zfh P G E ⟨l,xs.map λx=>x.map (ren λ_=>r w),stop,none,some ⟨w,r w,ob⟩⟩->E.X 0 S W->(∀ k,S k->k<W.heap.size) ->
  (∀ i,dom (rst hp rs) i->100<=i->¬S (r i)) ->
  zdw P f (#[Value.func (.yield l) #[] #[]]++caps.map (ren r)) W λe W'=>(∃ v,e=.returned v)/\(∃ S',E.X (min (stop+1) xs.length) S' W')/\W'.heap[r w]? = some (ob (min (stop+1) xs.length)).obj0
theorem z0c {f:FuncId} {fn:Func} {c:Code} {caps:Array Value} {hp:Hp} {rs:List Nat} {xs:List (Array Value)} {B:Nat} {v:Value} {w:Nat} {ob:Nat->Blk} (hGF:zbg G) (hG:∀ k,k<100->hp k=G k) (hf:P.funcs[f]? = some fn) (hb:fn.body=some c) (hcall:∀ a w,(callFunc f a).run P w=.ok (.enter f a) w)
  (ha:∀ x∈caps,zbj x=true/\zan (dom (rst hp rs)) x) (hcl:∀ k b,rst hp rs k=some b->b.ids (dom (rst hp rs))) (hn:caps.size+1<=fn.ntmps) (hB:100<=B) (hfree:∀ x,B<=x->rst hp rs x=none) (hdw:dom (rst hp rs) w) (hflat:∀ c,(∀ r,(ob c).obj r=(ob c).obj0)/\∀ D,(ob c).ids D)
  (h:∀ (C:Ctx) (l stop wa:Nat),C.G=G->C.hp0=rst hp rs->C.Y=some ⟨l,xs.map λx=>x.map (ren λ_=>wa),stop,none,some ⟨w,wa,ob⟩⟩->GW P C fn.ntmps [] none c ⟨λt=>(#[Value.func (.yield l) #[] #[]]++caps).getD t undef,rst hp rs,B,0⟩
   (λe s=>(e=.normal\/e=.ret)/\zmq P fn.results.toList s.ts s.hp=some v/\s.yc=min (stop+1) xs.length/\s.hp w=some (ob s.yc))):IterS P G f caps hp rs w ob xs:=by
 refine ⟨hcall,ha,hcl,hflat,λE l stop r S W hgok hsat hinj hlow hR hX hS hdis=>callsIn_of_wp_marks hf hb ⟨fn,hf⟩ ?_⟩
 let C:Ctx:=⟨E,rst hp rs,r,G,some ⟨l,xs.map λx=>x.map (ren λ_=>r w),stop,none,some ⟨w,r w,ob⟩⟩⟩
 have hi:GI P C fn.ntmps [] r ⟨λt=>(#[Value.func (.yield l) #[] #[]]++caps).getD t undef,rst hp rs,B,0⟩
   { tmps:=(#[Value.func (.yield l) #[] #[]]++caps.map (ren r))++Array.replicate (fn.ntmps - (#[Value.func (.yield l) #[] #[]]++caps.map (ren r)).size) undef,defers:=[] } W:=by
  have hsz:(#[Value.func (.yield l) #[] #[]]++caps.map (ren r)).size=(#[Value.func (.yield l) #[] #[]]++caps).size:=by simp
  have hmap:#[Value.func (.yield l) #[] #[]]++caps.map (ren r)=(#[Value.func (.yield l) #[] #[]]++caps).map (ren r):=by simp [ren,zay,zaj]
  refine ⟨⟨?_,λt=>?_,hsat,hinj,⟨S,[],hX,hS,λi hi h1=>hdis i hi h1,⟨rfl,List.nodup_nil⟩,by simp⟩,λi hi=>⟨hi,rfl⟩,λk hk=>?_,hlow⟩,hfree,hB,hGF,λy hy=>by cases hy;exact ⟨hR,hdw,rfl,hflat⟩⟩
  ·simp only [Array.size_append,Array.size_replicate,hsz]
   simp
   omega
  ·right
   dsimp only
   rw [hmap]
   generalize hA:#[Value.func (.yield l) #[] #[]]++caps=A
   have hAi:∀ x∈A,zan (dom (rst hp rs)) x:=λx hx=>by
    rw [<-hA] at hx
    rcases Array.mem_append.1 hx with hx|hx
    ·simp at hx;subst hx;simp [zan,za0,zah]
    ·exact (ha x hx).2
   by_cases ht:t<A.size
   ·have hm:A[t]∈A:=Array.getElem_mem ht
    have e:A.getD t undef=A[t]:=by simp [Array.getD,ht]
    rw [e]
    refine ⟨?_,hAi _ hm⟩
    have:t<(A.map (ren r)).size:=by simpa using ht
    simp [Array.getElem?_append_left this,ht]
   ·have e:A.getD t undef=undef:=by simp [Array.getElem?_eq_none (Nat.le_of_not_lt ht)]
    rw [e]
    refine ⟨?_,zcl _⟩
    rw [zb9]
    simp only [Array.getD_eq_getD_getElem?]
    rw [Array.getElem?_append_right (by simpa using Nat.le_of_not_lt ht),Array.getElem?_replicate]
    split<;>rfl
  ·show rst hp rs k=G k
   simp [rst,hk,hG k hk]
 refine wpIn_mono (h C l stop (r w) rfl rfl rfl r _ W hi) ?_
 rintro e a' W' ⟨s',r',hres,hi'⟩
 obtain ⟨S',ms,hX',hS1,hS2,⟨hdef,hnd⟩,hms⟩:=hi'.ri.ext
 obtain ⟨he,hr,hy,hkp⟩:=hres
 have hend:∀ W'':World,W''.heap.size=W'.heap.size->W''.os=W'.os->W''.tape=W'.tape->W''.output=W'.output->(∀ k,k∉ms->W''.heap[k]? = W'.heap[k]?) ->
   LeavesIn (Fw P none) 0 P fn a'.tmps (λe W'=>(∃ v,e=.returned v)/\(∃ S',E.X (min (stop+1) xs.length) S' W')/\W'.heap[r w]? = some (ob (min (stop+1) xs.length)).obj0) [] .returning W'':=λW'' e1 e2 e3 e4 e5=>by
  have hsat':Sat r' (dom s'.hp) s'.hp W'':=λk b hk=>⟨by
   rw [e5 _ (λhm=>hi'.ri.ne_mark (by unfold dom;rw [hk];simp) (hms _ hm).1 rfl)]
   exact (hi'.ri.sat k b hk).1,(hi'.ri.sat k b hk).2⟩
  refine ⟨_,zc8 (fn:=fn) hi'.ri.rel hsat' hr,⟨_,rfl⟩,⟨S',?_⟩,?_⟩
  rotate_left
  ·have e7:=(hsat' w _ hkp).1
   rw [(hi'.ri.keep w hdw).2,(hflat _).1,hy] at e7
   exact e7
  rw [<-hy]
  exact E.ok _ _ _ _ hX' (λk hk=>e5 k λhm=>(hms k hm).2.1 hk) e2 e3 e4 (by rw [e1];exact Nat.le_refl _)
 rcases he with rfl|rfl
 ·show LeavesInM _ _ _ _ _ _ a'.defers _ _
  rw [hdef,List.append_nil]
  exact zcx (by simp) ms W' hnd (λD hD=>(hms D hD).1) hend
 ·show LeavesInM _ _ _ _ _ _ a'.defers _ _
  rw [hdef,List.append_nil]
  exact zcx (by simp) ms W' hnd (λD hD=>(hms D hD).1) hend
end
section
variable {P:Program} {G:Hp}
variable {C:Ctx} {n:Nat} {d:List Deferred} {s:GS} {K:Exit->GS->Prop}
theorem zfr {g:Value->Value}:∀ (l:List (Tmp×Value)) (A:Array Value),(l.foldl (λt (p:Tmp×Value)=>t.setIfInBounds p.1 (g p.2)) A).size=A.size
 | [],_=>rfl
 | p::l,A=>by rw [List.foldl_cons,zfr l];simp
theorem z06 {w:Nat} {D:Nat->Prop} {v:Value} (h:zou w v=true) (hw:D w):zan D v:=by
 unfold zou at h
 split at h
 ·rename_i cs
  simp only [zan,za0]
  intro x hx
  have hx2:=Array.all_eq_true'.1 h x hx
  split at hx2
  ·rename_i q
   have:q.block=w:=by simpa using hx2
   simp only [zah,zal,this]
   exact hw
  ·exact zd5 hx2
 ·rename_i q
  have:q.block=w:=by simpa using h
  simp only [zan,za0,zah,zal,this]
  exact hw
 ·exact zak h
theorem zoe {r:Nat->Nat} {D:Nat->Prop} {w:Nat} {g:Value->Value}:∀ (l:List (Tmp×Value)) (ts:Nat->Value) (A:Array Value),(∀ p∈l,p.1<A.size/\zou w p.2=true)->D w->(∀ v,zou w v=true->ren r v=g v)->Rel r D ts { tmps:=A,defers:=[] } ->
  Rel r D (l.foldl (λts p=>upd ts p.1 p.2) ts) { tmps:=l.foldl (λt (p:Tmp×Value)=>t.setIfInBounds p.1 (g p.2)) A,defers:=[] }
 | [],_,_,_,_,_,h=>h
 | p::l,ts,A,hl,hw,hg,h=>by
  have hp:=hl p (by simp)
  refine zoe l (upd ts p.1 p.2) (A.setIfInBounds p.1 (g p.2)) (λq hq=>by simpa using hl q (List.mem_cons_of_mem _ hq)) hw hg ?_
  have:=h.put (dst:=some p.1) (λd hd=>by cases hd;exact hp.1) (z06 hp.2 hw)
  rw [hg _ hp.2] at this
  exact this
theorem zwz {ro:Option Nat} (hro:∀ l0,ro=some l0->zfg C l0) {t:Tmp} {ps:Array Tmp} {assign body:Code} {f:FuncId} {caps:Array Value} {rs:List Nat} {xs:List (Array Value)} (hg:s.ts t=.func (.func f) #[] caps) {w:Nat} {ob:Nat->Blk} (hit:IterS P C.G f caps s.hp rs w ob xs) (hwr:w∈rs) (hw1:100<=w)
  (hxs:∀ x∈xs,x.size=ps.size/\∀ v∈x,zou w v=true) (hps:∀ p∈ps,p<n) (tsE:Nat->Value) (I:Nat->Hp->Prop) {hpS:Hp} (B:Nat) (N:Nat) (hN:N<=xs.length)
  (hw:Weak C s ⟨tsE,hpS,B,s.yc⟩) (h0:I 0 hpS) (hob:∀ c hq,I c hq->hq w=some (ob c)) (hdis:∀ k∈rs,(k≠w->hpS k=none)/\dom s.hp k)
  (rounds:∀ i x hq,i<N->xs[i]? = some x->I i hq->∀ (C1:Ctx) (l:Nat),C1.G=C.G->C1.hp0=hq->C1.Y=none->GW P C1 n [] (some l) assign ⟨zao ps.toList x.toList tsE,hq,B,0⟩
   (zbo (λs1=>∀ C2:Ctx,C2.G=C.G->C2.hp0=hq->C2.Y=none->GW P C2 n [] (some l) body s1 (zbo (λs2=>∃ ρ hq',WeakR C ρ ⟨tsE,s2.hp,s2.B,s.yc⟩ ⟨tsE,hq',B,s.yc⟩/\I (i+1) hq'/\ρ w=w) (λ_ _=>False))) (λ_ _=>False)))
  (fin:(N=xs.length/\∀ hq,I N hq->K .normal ⟨tsE,hq,B,s.yc⟩)\/∃ x,xs[N]? = some x/\∀ hq,I N hq->∀ (C1:Ctx) (l:Nat),C1.G=C.G->C1.hp0=hq->C1.Y=none->GW P C1 n [] (some l) assign ⟨zao ps.toList x.toList tsE,hq,B,0⟩
    (zbo (λs1=>∀ C2:Ctx,C2.G=C.G->C2.hp0=hq->C2.Y=none->GW P C2 n [] (some l) body s1 (λe s2=>(zbc e).isSome=true/\(∀ t,zan (dom s2.hp) (tsE t))/\s2.hp w=some (ob (N+1))/\K e ⟨tsE,s2.hp,s2.B,s.yc⟩)) (λ_ _=>False)))
  (hYn:C.Y≠some .still) {r:Nat->Nat} {a:Act} {W:World} (hi0:GI P C n d r s a W) :
  (Code.rangeFunc (.tmp t) ps assign body).wpIn (Fw P ro) 0 P (λe a' W'=>∃ s' r',K e s'/\GI P C n d r' s' a' W') a W:=by
 obtain ⟨pn,hpn⟩:∃ pn:Option Value,pn=none:=⟨_,rfl⟩
 have hi:=hi0.weak hw
 obtain ⟨So,ms,hX0,hSo,hsep,⟨hdef,hnd⟩,hms⟩:=hi0.ri.ext
 have hcapv:a.eval (.tmp t)=.func (.func f) #[] (caps.map (zam r)):=by
  have:=((hi0.ri.rel t).resolve_left (by rw [hg];simp [zcj])).1
  rw [hg] at this
  simpa [ren,zay,zaj,Act.eval] using this
 have hcap:caps.map (zam r)=caps.map (ren r):=Array.map_congr_left λx hx=>(zb5 (hit.cids x hx).1).symm
 rw [hcap] at hcapv
 refine wpIn_rangeFunc ?_
 rintro fn ⟨fnn,hfnn⟩
 obtain ⟨df,l,mks,W1,hent,hL1,hK1,hmn,hlW,hb1⟩:∃ (df l:Nat) (mks:List Nat) (W1:World),(Instr.enterLoop fn a.tmps ps assign body ro).run P W=.ok (l,mks.map zt2) W1 /\
   W1.heap[l]? = some (.loop { state:=.ready,pending:=none,fn,tmps:=a.tmps,params:=ps,assign,body,defers:=df })/\(∀ D∈mks,W.heap.size<=D/\W1.heap[D]? = some (.deferred (some [])))/\mks.Nodup/\W.heap.size<=l/\Below W.heap.size W W1:=by
  cases ro with
  | none =>
   refine ⟨W.heap.size,W.heap.size+1,[W.heap.size],_,run_enterLoop_outer _ _ _ _ _,?_,λD hD=>?_,by simp,by omega,((Below.refl _ W).alloc (Nat.le_refl _) _).alloc (by simp) _⟩
   ·have:=World.alloc_heap_new (W.alloc (.deferred (some []))) (.loop { state:=.ready,pending:=none,fn,tmps:=a.tmps,params:=ps,assign,body,defers:=W.heap.size })
    rwa [World.size_alloc] at this
   ·rw [List.mem_singleton] at hD
    subst hD
    exact ⟨Nat.le_refl _,(Below.heap_alloc _ _ _ (by simp)).trans (World.alloc_heap_new W _)⟩
  | some l0 =>
   obtain ⟨_,r0,hl0⟩:=hro l0 rfl _ _ _ hX0
   exact ⟨r0.defers,W.heap.size,[],_,run_enterLoop_inner hl0 _ _ _ _ _,World.alloc_heap_new W _,(λD hD=>nomatch hD),by simp,Nat.le_refl _,(Below.refl _ W).alloc (Nat.le_refl _) _⟩
 obtain ⟨rec,hrec⟩:∃ rec:LoopState->Option Code->Loop,rec=λst pe=>{ state:=st,pending:=pe,fn,tmps:=a.tmps,params:=ps,assign,body,defers:=df }:=⟨_,rfl⟩
 replace hL1:W1.heap[l]? = some (.loop (rec .ready none)):=by rw [hrec];exact hL1
 have hlt0:l<W1.heap.size:=(Array.getElem?_eq_some_iff.1 hL1).1
 have hsz1:=hb1.size
 let capd:Nat->Prop:=λj=>∃ i,i∈rs/\100<=i/\r i=j
 obtain ⟨wa,hwa⟩:∃ wa,r w=wa:=⟨_,rfl⟩
 have capw:capd wa:=⟨w,hwr,hw1,hwa⟩
 let gx:Array Value->Array Value:=λx=>x.map (ren λ_=>r w)
 -- what is said between two rounds
 let Lv:LoopState->Option Code->World->Prop:=λst pe V=>V.heap[l]? = some (.loop (rec st pe))/\∀ D∈mks,V.heap[D]? = some (.deferred (some []))
 let XX:Nat->(Nat->Prop)->World->Prop:=λc S V=>(∀ k,So k->S k)/\(∀ D∈ms,S D)/\S l/\(∀ D∈mks,S D)/\(∀ k,S k->¬capd k) /\
  ((c<=N/\∃ hq,I c hq/\(∀ x,B<=x->hq x=none)/\∃ rc,(∀ i,dom hq i->i≠w->S (rc i))/\rc w=wa/\zle S V (λV'=>V'.heap[wa]? = some (ob c).obj0->Own0 C d So ms s.yc a rc tsE hq V'/\Lv .ready none V')) \/
  (c=N+1/\∃ e hpE BE rc,((pn=none/\(zbc e).isSome=true)\/∃ pv,pn=some pv/\e=.panic [{ v:=pv,recovered:=false }])/\K e ⟨tsE,hpE,BE,s.yc⟩/\(∀ x,BE<=x->hpE x=none)/\100<=BE/\zle S V (λV'=>V'.heap[wa]? = some (ob c).obj0->Own0 C d So ms s.yc a rc tsE hpE V'/\(∀ D∈mks,V'.heap[D]? = some (.deferred (some [])))/\∀ j,zbc e=some j->Lv .done (some j) V')))
 let E:Ext:=⟨XX,λc S V V' h hs os tape output size=>⟨h.1,h.2.1,h.2.2.1,h.2.2.2.1,h.2.2.2.2.1,h.2.2.2.2.2.imp (λ⟨hc,hq,hI,hf,rc,h1,h3,h2⟩=>⟨hc,hq,hI,hf,rc,h1,h3,h2.trans (λ_ h=>h) hs os tape output size⟩)
  (λ⟨hc,e,hpE,BE,rc,h1,h2,h3,h4,h6⟩=>⟨hc,e,hpE,BE,rc,h1,h2,h3,h4,h6.trans (λ_ h=>h) hs os tape output size⟩)⟩⟩
 have sub:∀ i,dom (hpS) i->dom s.hp i:=λi hd=>by
  have hhp:hpS i=none\/hpS i=s.hp i:=by
   by_cases hk:100<=i
   ·exact hw.hp i hk
   ·exact .inr ((hw.glob i (by omega)).trans (hi0.ri.glob i (by omega)).symm)
  rcases hhp with e|e
  ·exact absurd e hd
  ·have e:hpS i=s.hp i:=e
   unfold dom at *;rw [<-e];exact hd
 have own0:Own0 C d So ms s.yc a r tsE (hpS) W1:=⟨hi.ri.rel,λk b hk=>⟨(hb1.block _ (hi.ri.lt (k:=k) (by unfold dom;show hpS k≠none;rw [hk];simp))).trans (hi.ri.sat k b hk).1,(hi.ri.sat k b hk).2⟩,hi.ri.inj,
  C.E.ok _ _ _ _ hX0 (λk hk=>hb1.block k (hSo k hk)) hb1.os hb1.tape hb1.output hb1.size,λi hd h1=>hsep i (sub i hd) h1,
  λD hD=>(hb1.block D (Array.getElem?_eq_some_iff.1 (hms D hD).1).1).trans (hms D hD).1,hi.ri.keep,hi.ri.glob,hi.ri.low⟩
 have incap:∀ i,dom s.hp i->capd (r i)->i∈rs:=λi hd ⟨j,hj,_,e⟩=>by
  have:=hi0.ri.inj j i (hdis j hj).2 hd e
  exact this▸hj
 let S1:Nat->Prop:=λk=>k<W1.heap.size/\¬capd k
 have capSmall:∀ k,capd k->k<W.heap.size:=λk ⟨i,hi1,_,e⟩=>e▸hi0.ri.lt (hdis i hi1).2
 have s1So:∀ k,So k->S1 k:=λk hk=>⟨by have:=hSo k hk;omega,λ⟨i,hi1,h1,e⟩=>hsep i (hdis i hi1).2 h1 (e▸hk)⟩
 have s1ms:∀ D∈ms,S1 D:=λD hD=>⟨by have:=(Array.getElem?_eq_some_iff.1 (hms D hD).1).1;omega,λ⟨i,hi1,_,e⟩=>hi0.ri.ne_mark (hdis i hi1).2 (hms D hD).1 e⟩
 have s1l:S1 l:=⟨by omega,λhc=>by have:=capSmall _ hc;omega⟩
 have s1D:∀ D∈mks,S1 D:=λD hD=>⟨(Array.getElem?_eq_some_iff.1 (hK1 D hD).2).1,λhc=>by have:=capSmall _ hc;have:=(hK1 D hD).1;omega⟩
 have s1hp:∀ i,dom (hpS) i->i≠w->S1 (r i):=λi hd hne=>⟨by have:=hi0.ri.lt (sub i hd);omega,λhc=>hd ((hdis i (incap i (sub i hd) hc)).1 hne)⟩
 have hw0:hpS w=some (ob 0):=hob 0 _ h0
 have hwW:W1.heap[wa]? = some (ob 0).obj0:=by
  have:=(own0.sat w _ hw0).1
  rw [hwa,(hit.flat 0).1 r] at this
  exact this
 have X0:XX 0 S1 W1:=⟨s1So,s1ms,s1l,s1D,λk hk=>hk.2,.inl ⟨Nat.zero_le _,hpS,h0,hw.free,r,s1hp,hwa,λV k1 k2 k3 k4 k5 hV=>⟨own0.supp (S:=λk=>S1 k\/k=wa) (λk hk=>.inl (s1So k hk)) (λi hd=>by
  by_cases c:i=w
  ·exact .inr (by rw [c,hwa])
  ·exact .inl (s1hp i hd c)) (λD hD=>.inl (s1ms D hD)) V (λk hk=>hk.elim (k1 k) λe=>by rw [e,hV,hwW]) k2 k3 k4 k5,(k1 l s1l).trans hL1,λD hD=>(k1 D (s1D D hD)).trans (hK1 D hD).2⟩⟩⟩
 have gokOf:∀ {rc:Nat->Nat} {hpc:Hp} {V:World},Sat rc (dom hpc) hpc V->(∀ k,k<100->hpc k=C.G k)->(∀ k,k<100->dom hpc k->rc k=k)->GOK C.G V:=λ{rc hpc V} h1 h2 h3 k b hk=>by
  obtain ⟨hlt,hfl⟩:=hi0.flat k b hk
  have hb:hpc k=some b:=(h2 k hlt).trans hk
  have h9:=(h1 k b hb).1
  rw [h3 k hlt (by unfold dom;rw [hb];simp)] at h9
  rw [h9]
  rw [Blk.obj_flat (λx hx=>hfl x hx)]
 -- one round
 have hround:zfh P C.G E ⟨l,xs.map gx,N,pn,some ⟨w,r w,ob⟩⟩:=by
  intro c x S V hgok hx hc hXc hSV hhas
  replace hhas:V.heap[wa]? = some (ob c).obj0:=by rw [<-hwa];exact hhas
  obtain ⟨xg,hxg,hxe⟩:∃ xg,xs[c]? = some xg/\gx xg=x:=by
   have hx':(xs.map gx)[c]? = some x:=hx
   rw [List.getElem?_map,Option.map_eq_some_iff] at hx'
   exact hx'
  subst hxe
  obtain ⟨kSo,kms,kl,kD,kcap,hcase⟩:=hXc
  have hcN:c<=N:=hc
  obtain ⟨hc',hq,hI,hfreeC,rc,hrcS,hrw,hsupp⟩:c<=N/\∃ hq,I c hq/\(∀ x,B<=x->hq x=none)/\∃ rc,(∀ i,dom hq i->i≠w->S (rc i))/\rc w=wa/\zle S V (λV'=>V'.heap[wa]? = some (ob c).obj0->Own0 C d So ms s.yc a rc tsE hq V'/\Lv .ready none V'):=by
   rcases hcase with h|h
   ·exact h
   ·omega
  obtain ⟨hown,hl,hD⟩:=hsupp.here hhas
  have hxm:=hxs xg (List.mem_of_getElem? hxg)
  have hy:=run_yield (P:=P) (args:=gx xg) hl (by rw [hrec];simpa [gx] using hxm.1)
  have hwaV:wa<V.heap.size:=(Array.getElem?_eq_some_iff.1 hhas).1
  have hnSw:¬S wa:=λhS=>kcap _ hS capw
  -- the places of a round: S,and w's
  let SW:Nat->Prop:=λk=>S k\/k=wa
  have hSVW:∀ k,SW k->k<V.heap.size:=λk hk=>hk.elim (hSV k) λe=>by rw [e];exact hwaV
  have hrcW:∀ i,dom hq i->SW (rc i):=λi hd=>by
   by_cases ci:i=w
   ·exact .inr (by rw [ci,hrw])
   ·exact .inl (hrcS i hd ci)
  rw [hrec] at hy
  refine ⟨fn,_,assign,body,hy,zdu ⟨fnn,hfnn⟩ hfnn ?_⟩
  have hdw:dom hq w:=by unfold dom;rw [hob c hq hI];simp
  have hrel:=zoe (r:=rc) (D:=dom hq) (w:=w) (g:=ren λ_=>r w) (ps.toList.zip xg.toList) tsE a.tmps (λp hp1=>⟨by rw [hi0.ri.size];exact hps _ (by simpa using (List.of_mem_zip hp1).1),hxm.2 _ (by simpa using (List.of_mem_zip hp1).2)⟩) hdw (λv hv=>by rw [hwa];exact zq9 hv hrw) hown.ri
  have htm:(ps.zip (gx xg)).foldl (λt (p:Tmp×Value)=>t.setIfInBounds p.1 p.2) a.tmps=(ps.toList.zip xg.toList).foldl (λt (p:Tmp×Value)=>t.setIfInBounds p.1 (ren (λ_=>r w) p.2)) a.tmps:=by
   rw [<-Array.foldl_toList,Array.toList_zip]
   simp only [gx,Array.toList_map]
   rw [List.zip_map_right,List.foldl_map]
   rfl
  have hsize:((ps.zip (gx xg)).foldl (λt (p:Tmp×Value)=>t.setIfInBounds p.1 p.2) a.tmps).size=n:=by
   rw [htm,zfr,hi0.ri.size]
  let im:Nat->Prop:=imO rc hq
  let RR:Ending->World->Prop:=λe W'=>(match (YG.mk l (xs.map gx) N pn (some ⟨w,r w,ob⟩)).pan c with|none=>e=.returned (.bool (c != N))|some pv=>e=.panicked [{ v:=pv,recovered:=false }])/\GOK C.G W'/\V.heap.size<=W'.heap.size/\(∀ k,k<V.heap.size->¬S k->¬(YG.mk l (xs.map gx) N pn (some ⟨w,r w,ob⟩)).at k->W'.heap[k]? = V.heap[k]?)/\(YG.mk l (xs.map gx) N pn (some ⟨w,r w,ob⟩)).has (c+1) W' /\
      ∃ S',XX (c+1) S' W'/\(∀ k,S' k->k<W'.heap.size)/\∀ k,S' k->k<V.heap.size->S k
  -- the assignment to the loop's variables
  let C1:Ctx:=⟨zdg V im,hq,rc,C.G,none⟩
  have ltV:∀ i,dom hq i->rc i<V.heap.size:=λi hd=>hSVW _ (hrcW i hd)
  have gi1:GI P C1 n [] rc ⟨zao ps.toList xg.toList tsE,hq,B,0⟩ { tmps:=(ps.zip (gx xg)).foldl (λt (p:Tmp×Value)=>t.setIfInBounds p.1 p.2) a.tmps,defers:=[] } V:=by
   refine ⟨⟨hsize,?_,hown.sat,hown.inj,⟨λk=>k<V.heap.size/\¬im k,[],⟨λ_=>Iff.rfl,rfl,rfl,rfl,Nat.le_refl _,λ_ _=>rfl⟩,λk hk=>hk.1,λi hd _ hS=>hS.2 ⟨i,hd,rfl⟩,⟨rfl,List.nodup_nil⟩,by simp⟩,λi hd=>⟨hd,rfl⟩,hown.glob,hown.low⟩,hfreeC,hw.low,hi0.flat,λy hy=>by cases hy⟩
   rw [htm];exact hrel
  have hSol:¬So l:=λh=>by have:=hSo _ h;omega
  -- a round's frame,from its assignment on
  have both:∀ (Kb:Exit->GS->Prop),GW P C1 n [] (some l) assign ⟨zao ps.toList xg.toList tsE,hq,B,0⟩ (zbo (λs1=>∀ C2:Ctx,C2.G=C.G->C2.hp0=hq->C2.Y=none->GW P C2 n [] (some l) body s1 Kb) (λ_ _=>False)) ->
    (∀ e s2 (r2:Nat->Nat) (V1 V2:World) (a1 a2:Act) (r1:Nat->Nat) (ts1:Nat->Value) (hp1:Hp) (y1:Nat) (D1:Nat->Prop),(∀ k,k<V.heap.size->D1 k->imO r1 hp1 k)->¬D1 l->Kb e s2->RI ⟨zdg V im,hq,rc,C.G,none⟩ n [] r1 ts1 hp1 y1 a1 V1 ->
     GI P ⟨zdg (V1.putObj l (.loop (rec .busy none))) D1,hq,rc,C.G,none⟩ n [] r2 s2 a2 V2->zdh (Fs P) 0 P fnn l RR e a2 V2) ->
    assign.wpIn ((Fs P).inRound l) 0 P (Exit.then (λa₁ w₁=>∃ w₂,(Instr.beginRound l).run P w₁=.ok () w₂/\body.wpIn ((Fs P).inRound l) 0 P (zdh (Fs P) 0 P fnn l RR) a₁ w₂) (λ_ _ _=>False))
     { tmps:=(ps.zip (gx xg)).foldl (λt (p:Tmp×Value)=>t.setIfInBounds p.1 p.2) a.tmps,defers:=[] } V:=λKb hgw hend=>by
   refine wpIn_mono (hgw rc _ V gi1) ?_
   rintro e a1 V1 ⟨s1,r1,hk1,gi⟩
   cases e with
   | normal =>
    obtain ⟨T1,m1,⟨hT1,os1,tp1,ou1,sz1,sm1⟩,hT1s,sep1,df1,dm1⟩:=gi.ri.ext
    have hl1:V1.heap[l]? = some (.loop (rec .ready none)):=by
     rw [sm1 l ((hT1 l).2 ⟨hSV l kl,?_⟩)]
     ·exact hl
     ·rintro ⟨i,hd,e⟩
      unfold dom at hd
      cases hb:hq i with
      | none=>exact hd hb
      | some b=>have:=(hown.sat i b hb).1;rw [e,hl] at this;exact (Blk.obj_loop this).elim
    refine ⟨_,run_beginRound hl1 (by rw [hrec]),?_⟩
    have hrb:{ rec .ready none with state:=.busy }=rec .busy none:=by rw [hrec]
    rw [hrb]
    have hlt1:l<V1.heap.size:=(Array.getElem?_eq_some_iff.1 hl1).1
    let D1:Nat->Prop:=λk=>imO r1 s1.hp k\/k∈m1
    let C2:Ctx:=⟨zdg (V1.putObj l (.loop (rec .busy none))) D1,hq,rc,C.G,none⟩
    have gi2:GI P C2 n [] r1 s1 a1 (V1.putObj l (.loop (rec .busy none))):=by
     refine ⟨⟨gi.ri.size,gi.ri.rel,λk b hk=>⟨(World.putObj_heap_other (λe=>gi.ri.not_loop hl1 ⟨k,by unfold dom;rw [hk];simp,e⟩)).trans (gi.ri.sat k b hk).1,(gi.ri.sat k b hk).2⟩,gi.ri.inj,
      ⟨λk=>k<(V1.putObj l (.loop (rec .busy none))).heap.size/\¬D1 k,m1,⟨λ_=>Iff.rfl,rfl,rfl,rfl,Nat.le_refl _,λ_ _=>rfl⟩,λk hk=>hk.1,λi hd _ hS=>hS.2 (.inl ⟨i,hd,rfl⟩),df1,λD hD=>⟨?_,(λhS=>hS.2 (.inr hD)),λh=>nomatch h⟩⟩,
      λi hd=>gi.ri.keep i hd,gi.ri.glob,gi.ri.low⟩,gi.free,gi.low,gi.flat,λy hy=>by cases hy⟩
     rw [World.putObj_heap_other (λe=>?_)]
     ·exact (dm1 D hD).1
     ·have:=(dm1 D hD).1;rw [e,hl1] at this;cases this
    refine wpIn_mono (hk1 C2 rfl rfl rfl r1 a1 _ gi2) ?_
    rintro e2 a2 V2 ⟨s2,r2,hk2,gi3⟩
    refine hend e2 s2 r2 V1 V2 a1 a2 r1 s1.ts s1.hp s1.yc D1 (λk hk hD=>?_) (λhD=>?_) hk2 gi.ri gi3
    ·rcases hD with h|h
     ·exact h
     ·have h2:=(dm1 k h).2.1
      rw [hT1] at h2
      obtain ⟨i,hd,e⟩:=Classical.byContradiction λhc=>h2 ⟨hk,hc⟩
      have h3:=(dm1 k h).1
      by_cases h100:100<=i
      ·have:dom s1.hp i/\r1 i=rc i:=gi.ri.keep i hd
       exact ⟨i,this.1,this.2.trans e⟩
      ·have:dom s1.hp i/\r1 i=rc i:=gi.ri.keep i hd
       exact ⟨i,this.1,this.2.trans e⟩
    ·rcases hD with h|h
     ·exact gi.ri.not_loop hl1 h
     ·have:=(dm1 l h).1;rw [hl1] at this;cases this
   | _=>exact hk1.elim
  -- what a round leaves,put together
  have post:∀ (st:LoopState) (pe:Option Code) (r2:Nat->Nat) (V1 V2:World) (a1 a2:Act) (r1:Nat->Nat) (ts1 ts2:Nat->Value) (hp1 hp2:Hp) (y1 y2:Nat) (D1:Nat->Prop),(∀ k,k<V.heap.size->D1 k->imO r1 hp1 k)->¬D1 l->RI ⟨zdg V im,hq,rc,C.G,none⟩ n [] r1 ts1 hp1 y1 a1 V1 ->
    RI ⟨zdg (V1.putObj l (.loop (rec .busy none))) D1,hq,rc,C.G,none⟩ n [] r2 ts2 hp2 y2 a2 V2 ->
    V2.heap[l]? = some (.loop (rec .busy none))/\GOK C.G (V2.putObj l (.loop (rec st pe)))/\V.heap.size<=(V2.putObj l (.loop (rec st pe))).heap.size/\(∀ k,k<V.heap.size->¬S k->k≠wa->(V2.putObj l (.loop (rec st pe))).heap[k]? = V.heap[k]?)/\r2 w=wa /\
    Own0 C d So ms s.yc a r2 tsE hp2 (V2.putObj l (.loop (rec st pe)))/\∃ S':Nat->Prop,(∀ k,So k->S' k)/\(∀ D∈ms,S' D)/\S' l/\(∀ D∈mks,S' D)/\(∀ i,dom hp2 i->i≠w->S' (r2 i))/\zle S' (V2.putObj l (.loop (rec st pe))) (λV'=>V'.heap[wa]? = (V2.putObj l (.loop (rec st pe))).heap[wa]?->Own0 C d So ms s.yc a r2 tsE hp2 V'/\Lv st pe V') /\
     (∀ k,S' k->k<(V2.putObj l (.loop (rec st pe))).heap.size)/\(∀ k,S' k->k<V.heap.size->S k):=λst pe r2 V1 V2 a1 a2 r1 ts1 ts2 hp1 hp2 y1 y2 D1 hD1 hD1l ri1 ri2=>by
   obtain ⟨_,q1,q2,q3,q4,q5,q6⟩:=zjm (S:=SW) (L2:=rec st pe) hi0.flat hown hSol hSVW (λk hk=>.inl (kSo k hk)) (λD hD=>.inl (kms D hD)) hrcW hl ri1 hD1 hD1l ri2
   have hr2:r2 w=wa:=((ri2.keep w hdw).2).trans hrw
   have sz:(V2.putObj l (.loop (rec st pe))).heap.size=V2.heap.size:=zbt _ _ _
   have hnim:∀ k,¬S k->k≠wa->¬imO rc hq k:=λk hk hk2 ⟨i,hd,e⟩=>(hrcW i hd).elim (λh=>hk (e▸h)) λh=>hk2 (e.symm.trans h)
   have hold:∀ i,dom hp2 i->i≠w->V.heap.size<=r2 i\/S (r2 i):=λi hd hne=>(q3 i hd).imp id λh=>h.resolve_right λe=>hne (ri2.inj i w hd (ri2.keep w hdw).1 (e.trans hr2.symm))
   refine ⟨q1,q6,by rw [sz];exact q4,λk hk hnS hk2=>q5 k hk (hnim k hnS hk2) (λe=>hnS (e▸kl)),hr2,q2,λk=>S k\/(V.heap.size<=k/\k<V2.heap.size),λk hk=>.inl (kSo k hk),λD hD=>.inl (kms D hD),.inl kl,(λD hD=>.inl (kD D hD)),λi hd hne=>?_,?_,λk hk=>?_,λk hk hlt=>?_⟩
   ·rcases hold i hd hne with h|h
    ·exact .inr ⟨h,by
      unfold dom at hd
      cases hb:hp2 i with
      | none=>exact absurd hb hd
      | some b=>have:=(Array.getElem?_eq_some_iff.1 (q2.sat i b hb).1).1;rwa [sz] at this⟩
    ·exact .inl h
   ·have hD0:∀ D∈mks,(V2.putObj l (.loop (rec st pe))).heap[D]? = some (.deferred (some [])):=λD0 hm=>by
     rw [q5 D0 (hSV D0 (kD D0 hm)) (λ⟨i,hd',e⟩=>by
      unfold dom at hd'
      cases hb:hq i with
      | none=>exact hd' hb
      | some b=>have:=(hown.sat i b hb).1;rw [e,hD D0 hm] at this;exact (Blk.obj_def this).elim) (λe=>by have:=hD D0 hm;rw [e,hl] at this;cases this)]
     exact hD D0 hm
    have hlt2:l<V2.heap.size:=(Array.getElem?_eq_some_iff.1 q1).1
    refine λV' k1 k2 k3 k4 k5 hV'=>⟨q2.supp (S:=λk=>(S k\/(V.heap.size<=k/\k<V2.heap.size))\/k=wa) (λk hk=>.inl (.inl (kSo k hk))) (λi hd=>?_) (λD hD=>.inl (.inl (kms D hD))) V' (λk hk=>hk.elim (k1 k) λe=>by rw [e];exact hV') k2 k3 k4 k5,(k1 l (.inl kl)).trans (World.putObj_heap_same hlt2),λD hm=>(k1 D (.inl (kD D hm))).trans (hD0 D hm)⟩
    by_cases hne:i=w
    ·exact .inr (by rw [hne];exact hr2)
    rcases hold i hd hne with h|h
    ·exact .inl (.inr ⟨h,by
      unfold dom at hd
      cases hb:hp2 i with
      | none=>exact absurd hb hd
      | some b=>have:=(Array.getElem?_eq_some_iff.1 (q2.sat i b hb).1).1;rwa [sz] at this⟩)
    ·exact .inl (.inl h)
   ·rw [sz]
    rcases hk with h|h
    ·exact Nat.lt_of_lt_of_le (hSV k h) q4
    ·exact h.2
   ·exact hk.resolve_right (by omega)
  have capN:∀ S':Nat->Prop,(∀ k,S' k->k<V.heap.size->S k)->∀ k,S' k->¬capd k:=λS' h12 k hk hc=>by
   by_cases hlt:k<V.heap.size
   ·exact kcap k (h12 k hk hlt) hc
   ·have h5:=capSmall k hc
    have h6:=hSV l kl
    exact hlt (by omega)
  by_cases hcn:c<N
  ·refine both _ (rounds c xg hq hcn hxg hI C1 l rfl rfl rfl) ?_
   intro e s2 r2 V1 V2 a1 a2 r1 ts1 hp1 y1 D1 hD1 hD1l hk ri1 gi2
   cases e with
   | normal =>
    obtain ⟨ρ,hq',hwk,hI',hρw⟩:=hk
    obtain ⟨p1,p2,p3,p4,pw,po,S',p5,p6,p7,p8,p9,p10,p11,p12⟩:=post .ready none r2 V1 V2 a1 a2 r1 ts1 _ hp1 _ y1 _ D1 hD1 hD1l ri1 gi2.ri
    have hend:=run_endRound (P:=P) none p1
    have hobW:(V2.putObj l (.loop (rec .ready none))).heap[wa]? = some (ob (c+1)).obj0:=by
     have h9:=((po.rename hwk).sat w _ (hob _ _ hI')).1
     simp only [hρw,pw] at h9
     rw [(hit.flat (c+1)).1] at h9
     exact h9
    rw [hrec] at hend p2 p3 p4 p10 p11 hobW
    refine ⟨_,_,hend,?_,p2,p3,(λk hk hS hat=>p4 k hk hS (λe=>hat (by unfold YG.at;exact e.trans hwa.symm))),(by unfold YG.has;simp only [hwa];exact hobW),S',⟨p5,p6,p7,p8,capN S' p12,.inl ⟨hcn,hq',hI',hwk.free,λk=>r2 (ρ k),λi hd hne=>p9 (ρ i) (hwk.subd (λk hk=>gi2.ri.glob k hk) i hd) (λe=>hne (hwk.inj i w hd (by show hq' w≠none;rw [hob _ _ hI'];simp) (e.trans hρw.symm))),by show r2 (ρ w)=wa;rw [hρw,pw],?_⟩⟩,p11,p12⟩
    ·have h1:(YG.mk l (xs.map gx) N pn (some ⟨w,r w,ob⟩)).pan c=none:=by
      show (if c=N then pn else none)=none
      rw [if_neg (by omega)]
     have h2:(c != N)=true:=by simp;omega
     rw [h1,h2];rfl
    ·intro V' k1 k2 k3 k4 k5 hV'
     have:=p10 V' k1 k2 k3 k4 k5 (hV'.trans hobW.symm)
     exact ⟨this.1.rename hwk,by simpa [hrec] using this.2⟩
   | _=>exact hk.elim
  ·obtain rfl:c=N:=by omega
   have hpanN:(YG.mk l (xs.map gx) c pn (some ⟨w,r w,ob⟩)).pan c=pn:=by
    show (if c=c then pn else none)=pn
    rw [if_pos rfl]
   cases pn with
   | none =>
    rcases fin with ⟨e,_⟩|⟨x',hx',hfin⟩
    ·obtain ⟨h9,_⟩:=List.getElem?_eq_some_iff.1 hxg;have h9:c<xs.length:=h9;omega
    ·rw [hxg] at hx';cases hx'
     refine both _ (hfin hq hI C1 l rfl rfl rfl) ?_
     intro e s2 r2 V1 V2 a1 a2 r1 ts1 hp1 y1 D1 hD1 hD1l hk ri1 gi2
     obtain ⟨hk1,hk2,hkw,hk3⟩:=hk
     cases ho:zbc e with
     | none=>rw [ho] at hk1;cases hk1
     | some j =>
      obtain ⟨p1,p2,p3,p4,pw,po,S',p5,p6,p7,p8,p9,p10,p11,p12⟩:=post .done (some j) r2 V1 V2 a1 a2 r1 ts1 _ hp1 _ y1 _ D1 hD1 hD1l ri1 gi2.ri
      have hend:=run_endRound (P:=P) (some j) p1
      have hobW:(V2.putObj l (.loop (rec .done (some j)))).heap[wa]? = some (ob (c+1)).obj0:=by
       have h9:=(po.sat w _ hkw).1
       rw [pw,(hit.flat (c+1)).1] at h9
       exact h9
      rw [hrec] at hend p2 p3 p4 p10 p11 hobW
      have hR:∃ v w',(Instr.endRound l (some j)).run P V2=.ok v w'/\RR (.returned v) w':=by
       refine ⟨_,_,hend,?_,p2,p3,(λk hk hS hat=>p4 k hk hS (λe=>hat (by unfold YG.at;exact e.trans hwa.symm))),(by unfold YG.has;simp only [hwa];exact hobW),S',⟨p5,p6,p7,p8,capN S' p12,.inr ⟨rfl,e,s2.hp,s2.B,r2,.inl ⟨rfl,hk1⟩,hk3,gi2.free,gi2.low,?_⟩⟩,p11,p12⟩
       ·rw [hpanN];simp
       ·intro V' k1 k2 k3 k4 k5 hV'
        obtain ⟨q1,q2⟩:=p10 V' k1 k2 k3 k4 k5 (hV'.trans hobW.symm)
        refine ⟨q1,q2.2,λj' hj'=>?_⟩
        rw [ho] at hj';cases hj'
        simpa [hrec] using q2
      cases e<;>simp only [zbc,Option.some.injEq,reduceCtorEq] at ho
      ·subst ho;exact hR
      ·subst ho;exact hR
      ·subst ho;exact hR
   | some pv=>cases hpn
 -- behind the iterator
 refine ⟨l,mks.map zt2,W1,{ target:=.fn (.func f) (caps.map (ren r)),args:=#[.func (.yield l) #[] #[]] },W1,f,#[Value.func (.yield l) #[] #[]]++caps.map (ren r),W1,?_,?_,λf' hf'=>?_,?_,λh=>(by cases h),?_⟩
 ·exact hent
 ·simp only [resolve,hcapv]
  simp [go_sem,Act.eval]
 ·simp [Target.leads] at hf'
  subst hf'
  exact ze1 (hit.enter #[] default)
 ·simp [invoke,go_sem,hit.enter]
 ·have hsat1:Sat r (dom (rst s.hp rs)) (rst s.hp rs) W1:=λk b hk=>⟨(hb1.block _ (hi0.ri.lt (k:=k) (by unfold dom;rw [zcy hk];simp))).trans (hi0.ri.sat k b (zcy hk)).1,hit.closed k b hk⟩
  have hsubr:∀ k,dom (rst s.hp rs) k->dom s.hp k:=λk hk=>by
   unfold dom at *
   cases hb:rst s.hp rs k with
   | none=>exact absurd hb hk
   | some b=>rw [zcy hb];simp
  subst hpn
  have hcalls:=hit.run E l N r S1 W1 (gokOf own0.sat own0.glob own0.low) hsat1 (λk l' hk hl=>hi0.ri.inj k l' (hsubr k hk) (hsubr l' hl)) (λk hk hd=>hi0.ri.low k hk (hsubr k hd)) hround X0 (λk hk=>hk.1) (λi hd h1 hS=>hS.2 ?_)
  ·refine CallsIn.mono (⟨hcalls.1,λcs _=>hcalls.2 cs (zdt P _)⟩:CallsIn (Fw P ro) 0 P _ _ _ _) ?_
   rintro e V ⟨⟨v,rfl⟩,⟨S',hX⟩,hobV⟩
   obtain ⟨kSo,kms,kl,kD,kcap,hcase⟩:=hX
   rw [hwa] at hobV
   have fini:∀ (st:LoopState) (pe:Option Code) (rc:Nat->Nat) (hpE:Hp) (BE:Nat),st≠.busy->(∀ x,BE<=x->hpE x=none)->100<=BE->Own0 C d So ms s.yc a rc tsE hpE V->Lv st pe V ->
     (Instr.endLoop l).run P V=.ok pe (V.putObj l (.loop { rec st pe with state:=.exhausted }))/\GI P C n d rc ⟨tsE,hpE,BE,s.yc⟩ { a with defers:=mks.map zt2++a.defers } (V.putObj l (.loop { rec st pe with state:=.exhausted })):=λst pe rc hpE BE hst hfree hBE hown ⟨hl,hD⟩=>by
    have hend:=run_endLoop (P:=P) hl (by rw [hrec];exact hst)
    refine ⟨by rw [hrec] at hend |-;exact hend,?_⟩
    have hlt:l<V.heap.size:=(Array.getElem?_eq_some_iff.1 hl).1
    have szV:∀ ob,(V.putObj l ob).heap.size=V.heap.size:=λob=>zbt _ _ _
    refine ⟨⟨hi0.ri.size,hown.ri,λk b hk=>⟨(World.putObj_heap_other (λe=>?_)).trans (hown.sat k b hk).1,(hown.sat k b hk).2⟩,hown.inj,
     ⟨So,mks++ms,C.E.ok _ _ _ _ hown.X (λk hk=>World.putObj_heap_other (λe=>by have:=hSo k hk;omega)) rfl rfl rfl (by rw [szV];exact Nat.le_refl _),λk hk=>by rw [szV];have:=hSo k hk;omega,hown.sep,⟨by simp [hdef],List.nodup_append.2 ⟨hmn,hnd,λD hm D' hm' e=>?_⟩⟩,λD hDm=>?_⟩,
     hown.keep,hown.glob,hown.low⟩,hfree,hBE,hi0.flat,hi0.rounds⟩
    ·have:=(hown.sat k b hk).1;rw [e,hl] at this;exact (Blk.obj_loop this).elim
    ·have h1:=(Array.getElem?_eq_some_iff.1 (hms D' hm').1).1
     have h2:=(hK1 D hm).1
     omega
    ·rcases List.mem_append.1 hDm with hDm|hDm
     ·exact ⟨(World.putObj_heap_other (λe=>by have:=hD D hDm;rw [e,hl] at this;cases this)).trans (hD D hDm),(λhS=>by have h1:=hSo _ hS;have h2:=(hK1 D hDm).1;omega),hYn⟩
     ·exact ⟨(World.putObj_heap_other (λe=>by have:=hown.mks D hDm;rw [e,hl] at this;cases this)).trans (hown.mks D hDm),(hms D hDm).2⟩
   rcases hcase with ⟨hc',hq,hI,hfree,rc,hrcS,hrw,hsupp⟩|⟨hc',e,hpE,BE,rc,ho,hk,hfree,hBE,hsupp⟩
   ·obtain ⟨hown,hLv⟩:=hsupp.here hobV
    have hNl:N=xs.length:=by omega
    have hmin:min (N+1) xs.length=N:=by omega
    rw [hmin] at hI
    obtain ⟨f1,f2⟩:=fini .ready none rc hq B (by simp) hfree hw.low hown hLv
    rcases fin with ⟨_,hK⟩|⟨x',hx',_⟩
    ·exact ⟨none,_,f1,_,rc,hK hq hI,f2⟩
    ·obtain ⟨h9,_⟩:=List.getElem?_eq_some_iff.1 hx';omega
   ·obtain ⟨hown,_,hLv⟩:=hsupp.here hobV
    rcases ho with ⟨_,ho⟩|⟨pv,h1,_⟩
    ·cases hoj:zbc e with
     | none=>rw [hoj] at ho;cases ho
     | some j =>
      obtain ⟨f1,f2⟩:=fini .done (some j) rc hpE BE (by simp) hfree hBE hown (hLv j hoj)
      refine ⟨some j,_,f1,?_⟩
      cases e<;>simp only [zbc,Option.some.injEq,reduceCtorEq] at hoj
      ·subst hoj;exact wpIn_exit ⟨_,rc,hk,f2⟩
      ·subst hoj;exact wpIn_goto ⟨_,rc,hk,f2⟩
      ·subst hoj;exact wpIn_ret ⟨_,rc,hk,f2⟩
    ·cases h1
  ·refine ⟨i,?_,h1,rfl⟩
   unfold dom rst at hd
   split at hd
   ·rename_i h;exact h.resolve_left (by omega)
   ·exact absurd rfl hd
theorem zt9 {ro:Option Nat} (hro:∀ l0,ro=some l0->zfg C l0) {t:Tmp} {ps:Array Tmp} {assign body:Code} {f:FuncId} {caps:Array Value} {rs:List Nat} {xs:List (Array Value)} (hY:C.Y=none) (hg:s.ts t=.func (.func f) #[] caps) {w:Nat} {ob:Nat->Blk} (hit:IterS P C.G f caps s.hp rs w ob xs) (hwr:w∈rs) (hw1:100<=w)
  (hxs:∀ x∈xs,x.size=ps.size/\∀ v∈x,zou w v=true) (hps:∀ p∈ps,p<n) (tsE:Nat->Value) (I:Nat->Hp->Prop) {hpS:Hp} (B:Nat) (N:Nat) (hN:N<=xs.length)
  (hw:Weak C s ⟨tsE,hpS,B,s.yc⟩) (h0:I 0 hpS) (hob:∀ c hq,I c hq->hq w=some (ob c)) (hdis:∀ k∈rs,(k≠w->hpS k=none)/\dom s.hp k)
  (rounds:∀ i x hq,i<N->xs[i]? = some x->I i hq->∀ (C1:Ctx) (l:Nat),C1.G=C.G->C1.hp0=hq->C1.Y=none->GW P C1 n [] (some l) assign ⟨zao ps.toList x.toList tsE,hq,B,0⟩
   (zbo (λs1=>∀ C2:Ctx,C2.G=C.G->C2.hp0=hq->C2.Y=none->GW P C2 n [] (some l) body s1 (zbo (λs2=>∃ ρ hq',WeakR C ρ ⟨tsE,s2.hp,s2.B,s.yc⟩ ⟨tsE,hq',B,s.yc⟩/\I (i+1) hq'/\ρ w=w) (λ_ _=>False))) (λ_ _=>False)))
  (fin:(N=xs.length/\∀ hq,I N hq->K .normal ⟨tsE,hq,B,s.yc⟩)\/∃ x,xs[N]? = some x/\∀ hq,I N hq->∀ (C1:Ctx) (l:Nat),C1.G=C.G->C1.hp0=hq->C1.Y=none->GW P C1 n [] (some l) assign ⟨zao ps.toList x.toList tsE,hq,B,0⟩
    (zbo (λs1=>∀ C2:Ctx,C2.G=C.G->C2.hp0=hq->C2.Y=none->GW P C2 n [] (some l) body s1 (λe s2=>(zbc e).isSome=true/\(∀ t,zan (dom s2.hp) (tsE t))/\s2.hp w=some (ob (N+1))/\K e ⟨tsE,s2.hp,s2.B,s.yc⟩)) (λ_ _=>False))) :
  GW P C n d ro (.rangeFunc (.tmp t) ps assign body) s K:=λr a W hi=>zwz hro hg hit hwr hw1 hxs hps tsE I B N hN hw h0 hob hdis rounds fin (by rw [hY];simp) hi
end
section
variable {P:Program} {G:Hp}
variable {C:Ctx} {n:Nat} {d:List Deferred} {s:GS} {K:Exit->GS->Prop}
theorem zhu {ro:Option Nat} (hro:∀ l0,ro=some l0->zfg C l0) {t:Tmp} {ps:Array Tmp} {assign body:Code} {f:FuncId} {caps:Array Value} {rs:List Nat} {xs:List (Array Value)} {w:Nat} {ob:Nat->Blk} {m0:List (Nat×Blk)} (hGF:zbg G) (hG:C.G=G) (h0:C.hp0=hpL G m0) (hY:C.Y=none) (hg:s.ts t=.func (.func f) #[] caps) (hit:IterS P G f caps s.hp rs w ob xs) (hwr:w∈rs) (hw1:100<=w)
  (hxs:∀ x∈xs,x.size=ps.size/\∀ v∈x,zou w v=true) (hps:∀ p∈ps,p<n) (l:List (Nat×Value)) (m:Nat->List (Nat×Blk)) (B:Nat) (N:Nat) (hN:N<=xs.length) (hB:100<=B)
  (hdis:∀ k∈rs,(k≠w->hpL G (m 0) k=none)/\dom s.hp k) (hl:∀ p∈l,s.ts p.1=p.2)
  (hm0:∀ p∈m 0,s.hp p.1=some p.2) (hm:∀ i,i<=N->hpL G (m i) w=some (ob i)/\(∀ p∈l,zan (dom (hpL G (m i))) p.2)/\∀ p∈m i,100<=p.1/\p.1<B/\p.2.ids (dom (hpL G (m i))))
  (hk:∀ p∈m0,100<=p.1/\hpL G (m 0) p.1=s.hp p.1/\∀ i,i<=N->dom (hpL G (m i)) p.1)
  (rounds:∀ i x,i<N->xs[i]? = some x->∀ (C1:Ctx) (j:Nat),C1.G=G->C1.hp0=hpL G (m i)->C1.Y=none->GW P C1 n [] (some j) assign ⟨zao ps.toList x.toList (tsL l),hpL G (m i),B,0⟩
   (zbo (λs1=>∀ C2:Ctx,C2.G=G->C2.hp0=hpL G (m i)->C2.Y=none->GW P C2 n [] (some j) body s1 (zbo (λs2=>∀ p∈m (i+1),s2.hp p.1=some p.2) (λ_ _=>False))) (λ_ _=>False)))
  (fin:(N=xs.length/\K .normal ⟨tsL l,hpL G (m N),B,s.yc⟩)\/∃ x,xs[N]? = some x/\∀ (C1:Ctx) (j:Nat),C1.G=G->C1.hp0=hpL G (m N)->C1.Y=none->GW P C1 n [] (some j) assign ⟨zao ps.toList x.toList (tsL l),hpL G (m N),B,0⟩
    (zbo (λs1=>∀ C2:Ctx,C2.G=G->C2.hp0=hpL G (m N)->C2.Y=none->GW P C2 n [] (some j) body s1 (λe s2=>(zbc e).isSome=true/\(∀ p∈l,zan (dom s2.hp) p.2)/\s2.hp w=some (ob (N+1))/\K e ⟨tsL l,s2.hp,s2.B,s.yc⟩)) (λ_ _=>False))) :
  GW P C n d ro (.rangeFunc (.tmp t) ps assign body) s K:=by
 have keepW:∀ i,i<=N->∀ s2:GS,s2.yc=s.yc->(∀ p∈m i,s2.hp p.1=some p.2)->s2.ts=tsL l->WeakR C (λk=>k) s2 ⟨tsL l,hpL G (m i),B,s.yc⟩:=λi hi s2 hyc hs ht=>by
  refine ⟨λu=>?_,λk b hb h1=>⟨?_,h1⟩,λk b hb=>?_,λk q _ _ e=>e,λ_ _=>rfl,λk b _ _=>Blk.rn_id b,λk h1 hd=>⟨?_,rfl⟩,λk h1=>?_,hyc.symm,λx hx=>?_,hB⟩
  ·rcases zdv (l:=l) (t:=u) with h|h
   ·exact .inl h
   ·by_cases hj:tsL l u=zcj
    ·exact .inl hj
    ·exact .inr ⟨by rw [ht,z3m],by rw [ht];exact hj,(hm i hi).2.1 _ h⟩
  ·rw [Blk.rn_id]
   rcases za5 hb with h|h
   ·exact hs _ h
   ·have:=(hGF k b h).1;omega
  ·rcases za5 hb with h|h
   ·exact ((hm i hi).2.2 _ h).2.2
   ·exact Blk.flat_ids (hGF k b h).2
  ·have h2:C.hp0 k≠none:=hd
   rw [h0] at h2
   cases hb:hpL G m0 k with
   | none=>exact absurd hb h2
   | some b =>
    rcases za5 hb with h|h
    ·exact (hk _ h).2.2 i hi
    ·have:=(hGF k b h).1;omega
  ·rw [hG];exact za7 (λp hp=>((hm i hi).2.2 p hp).1) h1
  ·dsimp only at hx |-
   cases hb:hpL G (m i) x with
   | none=>rfl
   | some b =>
    rcases za5 hb with h|h
    ·have:=((hm i hi).2.2 _ h).2.1;simp at this;omega
    ·have:=(hGF x b h).1;omega
 refine zt9 hro (rs:=rs) (xs:=xs) (ob:=ob) hY hg (hG.symm▸hit) hwr hw1 hxs hps (tsL l) (λi h=>i<=N/\h=hpL G (m i)) (hpS:=hpL G (m 0)) B N hN ?_ ⟨Nat.zero_le _,rfl⟩ (λc hq hI=>by rw [hI.2];exact (hm c hI.1).1) hdis (λi x hq hi hx hI C1 j c1 c2 c3=>?_) ?_
 ·have k0:=keepW 0 (Nat.zero_le _) ⟨tsL l,s.hp,s.B,s.yc⟩ rfl hm0 rfl
  refine ⟨λu=>?_,λk h1=>?_,k0.ids,λk h1 hd=>?_,k0.glob,rfl,k0.free,hB⟩
  ·rcases zdv (l:=l) (t:=u) with h|h
   ·exact .inl h
   ·exact .inr ⟨(hl _ h).symm,(hm 0 (Nat.zero_le _)).2.1 _ h⟩
  ·dsimp only
   cases hb:hpL G (m 0) k with
   | none=>exact .inl rfl
   | some b =>
    rcases za5 hb with h|h
    ·exact .inr (hm0 _ h).symm
    ·have:=(hGF k b h).1;omega
  ·have h2:C.hp0 k≠none:=hd
   rw [h0] at h2
   cases hb:hpL G m0 k with
   | none=>exact absurd hb h2
   | some b =>
    rcases za5 hb with h|h
    ·exact (hk _ h).2.1
    ·have:=(hGF k b h).1;omega
 ·obtain ⟨_,rfl⟩:=hI
  refine zb2 (rounds i x hi hx C1 j (c1.trans hG) c2 c3) λe s1 hs=>?_
  cases e with
  | normal =>
   intro C2 q1 q2 q3
   refine zb2 (hs C2 (q1.trans hG) q2 q3) λe s2 hs2=>?_
   cases e with
   | normal=>exact ⟨λk=>k,_,keepW (i+1) hi ⟨tsL l,s2.hp,s2.B,s.yc⟩ rfl hs2 rfl,⟨hi,rfl⟩,rfl⟩
   | _=>exact hs2.elim
  | _=>exact hs.elim
 ·rcases fin with ⟨f1,f2⟩|⟨x,f1,f2⟩
  ·exact .inl ⟨f1,λhq hI=>by rw [hI.2];exact f2⟩
  ·refine .inr ⟨x,f1,λhq hI C1 j c1 c2 c3=>?_⟩
   obtain ⟨_,rfl⟩:=hI
   refine zb2 (f2 C1 j (c1.trans hG) c2 c3) λe s1 hs=>?_
   cases e with
   | normal =>
    intro C2 q1 q2 q3
    refine zb2 (hs C2 (q1.trans hG) q2 q3) λe s2 hs2=>⟨hs2.1,λu=>?_,hs2.2.2.1,hs2.2.2.2⟩
    rcases zdv (l:=l) (t:=u) with h|h
    ·rw [h];simp [zcj,zan,za0,zah,zal]
    ·exact hs2.2.1 _ h
   | _=>exact hs.elim
end
section
variable {P:Program} {G:Hp}
theorem IterS.rn {f:FuncId} {caps:Array Value} {hp hp':Hp} {rs:List Nat} {xs:List (Array Value)} (ρ:Nat->Nat) (hGF:zbg G) (hG:∀ k,k<100->hp k=G k) (h:Rn ρ hp hp' rs) {w:Nat} {ob:Nat->Blk} (hi:IterS P G f caps hp rs w ob xs):IterS P G f (caps.map (zam ρ)) hp' (rs.map ρ) (ρ w) ob (xs.map λx=>x.map (ren ρ)):=by
 have hpl:∀ x,zbj x=true->zbj (zam ρ x)=true:=λx hx=>by
  cases x with
  | pointer p=>cases p<;>rfl
  | slice p _ _=>cases p<;>rfl
  | map p=>cases p<;>rfl
  | _=>exact hx
 have bflat:∀ k b,k<100->hp k=some b->b.rn ρ=b:=λk b hk hb=>by
  have hg:G k=some b:=(hG k hk).symm.trans hb
  exact Blk.rn_flat (hGF k b hg).2
 have back:∀ k b,rst hp' (rs.map ρ) k=some b->∃ q c,rst hp rs q=some c/\ρ q=k/\b=c.rn ρ:=λk b hb=>by
  unfold rst at hb
  by_cases h1:k<100
  ·simp only [h1,true_or,if_true] at hb
   have hl:=h.low k h1
   rw [hl.2] at hb
   exact ⟨k,b,by simp [rst,h1,hb],hl.1,(bflat k b h1 hb).symm⟩
  ·by_cases hm:k∈rs.map ρ
   ·obtain ⟨q,hq,rfl⟩:=List.mem_map.1 hm
    simp only [hm,or_true,if_true] at hb
    have hq1:100<=q:=by
     by_cases hq1:100<=q
     ·exact hq1
     ·exact absurd (by rw [(h.low q (by omega)).1];omega) h1
    obtain ⟨c,e1,e2⟩:=h.at' q hq hq1
    rw [e2] at hb;cases hb
    exact ⟨q,c,by simp [rst,hq,e1],rfl,rfl⟩
   ·simp [h1,hm] at hb
 refine ⟨hi.enter,λx hx=>?_,λk b hb=>?_,hi.flat,λE l stop r S W hgok hsat hinj hlow hR hX hS hdis=>?_⟩
 ·obtain ⟨y,hy,rfl⟩:=Array.mem_map.1 hx
  have:=hi.cids y hy
  exact ⟨hpl y this.1,(zbs (hpl y this.1)).2 (zh0 (λk hk=>h.dom1 hk) ((zbs this.1).1 this.2))⟩
 ·obtain ⟨q,c,h1,rfl,rfl⟩:=back k b hb
  exact Blk.ids_rn (λk hk=>h.dom1 hk) (hi.closed q c h1)
 ·have hcap:(caps.map (zam ρ)).map (ren r)=caps.map (ren λk=>r (ρ k)):=by
   rw [Array.map_map]
   refine Array.map_congr_left λx hx=>?_
   have:=(hi.cids x hx).1
   simp only [Function.comp]
   rw [<-zb5 (r:=ρ) this,zcc]
  rw [hcap]
  have ex:((xs.map λx=>x.map (ren ρ)).map λx=>x.map (ren λ_=>r (ρ w)))=xs.map λx=>x.map (ren λ_=>r (ρ w)):=by
   rw [List.map_map]
   refine List.map_congr_left λx _=>?_
   simp only [Function.comp,Array.map_map]
   refine Array.map_congr_left λv _=>?_
   simp only [Function.comp]
   rw [zcc]
  rw [ex] at hR
  rw [List.length_map]
  refine (hi.run E l stop (λk=>r (ρ k)) S W hgok (λk b hk=>⟨?_,hi.closed k b hk⟩) (λk l hk hl e=>?_) (λk hk hd=>?_) hR hX hS (λi hd h1=>?_)).mono (λ_ _ hh=>hh)
  ·have hd:dom (rst hp rs) k:=by unfold dom;rw [hk];simp
   have hd':=h.dom1 hd
   unfold dom at hd'
   cases hb:rst hp' (rs.map ρ) (ρ k) with
   | none=>exact absurd hb hd'
   | some b' =>
    have e:b'=b.rn ρ:=by
     unfold rst at hb hk
     by_cases h1:k<100
     ·have hl:=h.low k h1
      simp only [h1,true_or,if_true] at hk
      rw [hl.1] at hb
      simp only [h1,true_or,if_true] at hb
      rw [hl.2,hk] at hb
      cases hb
      exact (bflat k b h1 hk).symm
     ·have hm:k∈rs:=by
       by_cases hm:k∈rs
       ·exact hm
       ·simp [h1,hm] at hk
      simp only [hm,or_true,if_true] at hk
      obtain ⟨c,e1,e2⟩:=h.at' k hm (by omega)
      rw [hk] at e1;cases e1
      have hm':ρ k∈rs.map ρ:=List.mem_map.2 ⟨k,hm,rfl⟩
      simp only [hm',or_true,if_true] at hb
      rw [e2] at hb;cases hb;rfl
    have:=(hsat _ b' hb).1
    rw [e,Blk.rn_obj] at this
    exact this
  ·have e2:=hinj _ _ (h.dom1 hk) (h.dom1 hl) e
   have mem:∀ k,dom (rst hp rs) k->100<=k->k∈rs:=λk hk h1=>by
    unfold dom rst at hk
    by_cases hm:k∈rs
    ·exact hm
    ·simp [hm] at hk;omega
   by_cases h1:k<100
   ·by_cases h2:l<100
    ·rw [(h.low k h1).1,(h.low l h2).1] at e2;exact e2
    ·have:=h.big l (mem l hl (by omega)) (by omega)
     rw [(h.low k h1).1] at e2;omega
   ·by_cases h2:l<100
    ·have:=h.big k (mem k hk (by omega)) (by omega)
     rw [(h.low l h2).1] at e2;omega
    ·exact h.inj k (mem k hk (by omega)) l (mem l hl (by omega)) (by omega) (by omega) e2
  ·show r (ρ k)=k
   have:=h.dom1 hd
   rw [(h.low k hk).1] at this |-
   exact hlow k hk this
  ·refine hdis _ (h.dom1 hd) (h.big i ?_ h1)
   unfold dom rst at hd
   by_cases hm:i∈rs
   ·exact hm
   ·simp [hm] at hd;omega
theorem z0b {f:FuncId} {caps caps':Array Value} {m:List (Nat×Blk)} {B:Nat} {xs:List (Array Value)} {hp:Hp} {rs:List Nat} {w:Nat} {ob:Nat->Blk} (h:IterS P G f caps (hpL G m) (zab m) w ob xs) (hGF:zbg G) (hm:LOk m B) (ρ:Nat->Nat) (hlow:∀ k,k<100->ρ k=k) (ea:caps.map (zam ρ)=caps') (er:(zab m).map ρ=rs)
  (hp0:∀ k,k<100->hp k=G k) (hat:∀ p∈m,100<=ρ p.1/\hp (ρ p.1)=some (p.2.rn ρ)) (hinj:∀ k∈zab m,∀ l∈zab m,ρ k=ρ l->k=l):IterS P G f caps' hp rs (ρ w) ob (xs.map λx=>x.map (ren ρ)):=by
 subst ea er
 exact h.rn ρ hGF hm.low (zod hm ρ hlow hp0 hat hinj)
end
end Go.Gy
namespace Go.Gy
open Go Go.RowKit Go.Proofs Go.Proofs.Tryz
def loB (lw:Nat->Int):Blk:=⟨#[.int .u64 (wi (lw 0) 0),.int .u64 (wi (lw 0) 1),.int .u64 (wi (lw 0) 2),.int .u64 (wi (lw 0) 3),.int .u64 (wi (lw 1) 0),.int .u64 (wi (lw 1) 1),.int .u64 (wi (lw 1) 2),.int .u64 (wi (lw 1) 3),.int .i64 (lw 2),.int .i64 (lw 3),.int .i64 (lw 4),.int .i64 (lw 8),.int .i64 (lw 9),.int .i64 (lw 10)],.ty 38⟩
def ptB (w:Nat):Blk:=⟨#[.pointer (some ⟨w,0,none⟩)],.ty 82⟩
def sdL (b:Blk) (lw:Nat->Int):List (Nat×Blk):=[(200,b),(208,ptB 200),(209,loB lw)]
def sdX (w lo hi:Nat) (v:Int):Array Value:=#[.agg #[.pointer (some ⟨w,lo,none⟩),.pointer (some ⟨w,hi,none⟩)],.int .i64 v]
def zmr (w:Nat) (lw:Nat->Int):List (Array Value):=[sdX w 9 12 (lw 2),sdX w 15 18 (lw 8),sdX w 10 13 (lw 3),sdX w 16 19 (lw 9),sdX w 11 14 (lw 4),sdX w 17 20 (lw 10)]
theorem z62 (w lo hi:Nat) (v:Int):∀ x∈sdX w lo hi v,zou w x=true:=by
 intro x hx
 simp [sdX] at hx
 rcases hx with rfl|rfl<;>simp [zou]
theorem zl7 (w:Nat) (lw:Nat->Int):∀ x∈zmr w lw,x.size=2/\∀ v∈x,zou w v=true:=by
 intro x hx
 simp [zmr] at hx
 rcases hx with rfl|rfl|rfl|rfl|rfl|rfl<;>exact ⟨rfl,z62 _ _ _ _⟩
theorem z1f (w:Nat) (lw:Nat->Int) (ρ:Nat->Nat):((zmr w lw).map λx=>x.map (ren ρ))=zmr (ρ w) lw:=by simp [zmr,sdX,ren,zay,zaj,zam]
theorem zxg (ob:Nat->Blk) (hob:∀ c,(∀ r,(ob c).obj r=(ob c).obj0)/\∀ D,(ob c).ids D) (lw:Nat->Int) :
  IterS prog G0 79 #[.pointer (some ⟨208,0,none⟩),.pointer (some ⟨209,0,none⟩)] (hpL G0 (sdL (ob 0) lw)) [200,208,209] 200 ob (zmr 200 lw):=by
 have e0:rst (hpL G0 (sdL (ob 0) lw)) [200,208,209]=hpL G0 (sdL (ob 0) lw):=zfs G0F (by simp [sdL])
 refine z0c (B:=300) (v:=.tuple #[]) G0F (λq hq=>za7 (by simp [sdL]) hq) func79 rfl call79 ?_ ?_ (by simp [ntmps79]) (by omega) ?_ ?_ hob ?_
 ·rw [e0];simp [zan,za0,zah,zal,dom,sdL]
 ·rw [e0]
  intro q c hq
  rcases za5 hq with h|h
  ·simp [sdL] at h
   rcases h with ⟨_,rfl⟩|⟨_,rfl⟩|⟨_,rfl⟩
   ·exact (hob 0).2 _
   ·simp [ptB,zac,zah,zal,dom,sdL]
   ·simp [loB,zac,zah,zal]
  ·exact Blk.flat_ids ((G0F q c h).2)
 ·rw [e0]
  intro x hx
  have h1:¬x=200:=by omega
  have h2:¬x=208:=by omega
  have h3:¬x=209:=by omega
  have h4:100<=x:=by omega
  simp [sdL,h1,h2,h3,h4]
 ·rw [e0]
  simp [sdL,dom]
 ·intro C l stop wa hC hC0 hY
  rw [e0] at hC0 |-
  have hcs:stop=0\/stop=1\/stop=2\/stop=3\/stop=4\/stop=5\/6<=stop:=by omega
  unfold sdL zmr sdX ptB loB at *
  rcases hcs with rfl|rfl|rfl|rfl|rfl|rfl|hst
  rotate_left 6
  ·have q0:(0 != stop)=true:=by simp;omega
   have q1:(1 != stop)=true:=by simp;omega
   have q2:(2 != stop)=true:=by simp;omega
   have q3:(3 != stop)=true:=by simp;omega
   have q4:(4 != stop)=true:=by simp;omega
   have q5:(5 != stop)=true:=by simp;omega
   have p1:1<=stop:=by omega
   have p2:2<=stop:=by omega
   have p3:3<=stop:=by omega
   have p4:4<=stop:=by omega
   have p5:5<=stop:=by omega
   repeat' first|refine zat ?_|refine zaw ?_|refine gwZ ?_|(refine gwX ?_;intro Q hQ _;simp [hC,hY,q0,q1,q2,q3,q4,q5,p1,p2,p3,p4,p5,zou,shX];refine gwq hQ ?_)|refine gwC ?_ ?_<;>intro hb
   all_goals
    simp [results79]
    try omega
  all_goals
   repeat' first|refine zat ?_|refine zaw ?_|refine gwZ ?_|(refine gwX ?_;intro Q hQ _;simp [hC,hY,zou,shX];refine gwq hQ ?_)|refine gwC ?_ ?_<;>intro hb
  all_goals
   simp [results79]
def za8 (N:Int) (v:Nat->Int):Array Value:=#[.int .i64 N,.int .u64 (wi (v 0) 0),.int .u64 (wi (v 0) 1),.int .u64 (wi (v 0) 2),.int .u64 (wi (v 0) 3),.int .u64 (wi (v 1) 0),.int .u64 (wi (v 1) 1),.int .u64 (wi (v 1) 2),.int .u64 (wi (v 1) 3),.int .i64 (v 2),.int .i64 (v 3),.int .i64 (v 4),.int .i64 (v 5),.int .i64 (v 6),.int .i64 (v 7),.int .i64 (v 8),.int .i64 (v 9),.int .i64 (v 10),.int .i64 (v 11),.int .i64 (v 12),.int .i64 (v 13)]
def zav (N:Int) (v:Nat->Int):Blk:=⟨za8 N v,.ty 35⟩
theorem zci (N:Int) (v:Nat->Int):(zav N v).fx:=by
 intro x hx
 simp [zav,za8] at hx
 rcases hx with rfl|rfl|rfl|rfl|rfl|rfl|rfl|rfl|rfl|rfl|rfl|rfl|rfl|rfl|rfl|rfl|rfl|rfl|rfl|rfl|rfl<;>rfl
theorem Blk.obj_flatx {b:Blk} (h:b.fx) (r:Nat->Nat):b.obj r=b.obj0:=by
 obtain ⟨c,T⟩:=b
 cases T with
 | ty t=>exact Blk.obj_flat (λx hx=>h x hx)
 | raw t fr=>rfl
 | mp=>exact h.elim
def zm0 (nk w:Nat) (lw:Nat->Int) (v:Value) (ns:List (Nat×Blk)):Prop :=
 v=.func (.func 79) #[] #[.pointer (some ⟨nk,0,none⟩),.pointer (some ⟨nk+1,0,none⟩)]/\ns=[(nk,ptB w),(nk+1,loB lw)]
theorem zd2 {nk w:Nat} {lw:Nat->Int} {v:Value} {ns:List (Nat×Blk)} (h:zm0 nk w lw v ns):∀ k∈zab ns,nk<=k/\k<nk+2:=by
 obtain ⟨rfl,rfl⟩:=h
 intro k hk
 simp [zab] at hk
 omega
theorem zkq (lw:Nat->Int):(loB lw).fx:=by
 intro x hx
 simp [loB] at hx
 rcases hx with rfl|rfl|rfl|rfl|rfl|rfl|rfl|rfl|rfl|rfl|rfl|rfl|rfl|rfl<;>rfl
theorem z65 (b:Blk) (hb:b.fx) (lw:Nat->Int) :
  FunS prog G0 46 #[.pointer (some ⟨100,0,none⟩),zcm lw] (hpL G0 [(100,b)]) (zab [(100,b)]) (zm0 1000 100 lw):=by
 refine zei (B:=200) G0F func46 rfl call46 (zax hb) ?_ ?_ (by simp [ntmps46]) (by omega) ?_
 ·simp [zan,za0,zah,zal,zab,zcm]
 ·rintro v ns ⟨rfl,rfl⟩
  refine ⟨by simp [zan,za0,zah,zal,zcu,zab],?_,?_⟩
  ·intro p hp
   simp only [List.mem_cons,List.not_mem_nil,or_false] at hp
   rcases hp with rfl|rfl
   ·exact ⟨by omega,by simp [ptB,zac,zah,zal,zcu,zab]⟩
   ·exact ⟨by omega,Blk.fx_ids (zkq lw) _⟩
  ·intro k b c h1 h2
   simp at h1 h2
   rcases h1 with ⟨e1,rfl⟩|⟨e1,rfl⟩<;>rcases h2 with ⟨e2,rfl⟩|⟨e2,rfl⟩<;>first|rfl|omega
 intro C hC hC0 hY
 unfold zcm
 repeat' first|refine gwZ ?_|refine gwW ?_|refine gwC ?_ ?_<;>intro hb
 refine ⟨.inr trivial,kpS G0F,_,_,λk=>if k=1000 then 200 else if k=1001 then 208 else k,⟨rfl,rfl⟩,λk hk=>?_,by simp,by simp,by simp [results46,ren,zay,zaj,zam],?_⟩
 ·dsimp only
  rw [if_neg (by omega),if_neg (by omega)]
 ·have e:=Blk.fx_rn (zkq lw) (λk=>if k=1000 then 200 else if k=1001 then 208 else k)
  simp only [List.mem_cons,List.not_mem_nil,or_false,forall_eq_or_imp,forall_eq]
  refine ⟨?_,?_⟩
  ·simp [ptB,Blk.rn,zaj,zam]
  ·rw [e];simp [loB]
def sdM (w nk k:Nat):Nat:=if k=100 then w else if k=1000 then nk else if k=1001 then nk+1 else k
theorem zxf {nk nk' w w':Nat} {lw:Nat->Int} {ρ:Nat->Nat} (hw:ρ w=w') (h0:ρ nk=nk') (h1:ρ (nk+1)=nk'+1):RR ρ (zm0 nk w lw)=zm0 nk' w' lw:=by
 have e:=Blk.fx_rn (zkq lw) ρ
 funext v ns
 apply propext
 constructor
 ·rintro ⟨v0,ns0,⟨rfl,rfl⟩,rfl,rfl⟩
  exact ⟨by simp [ren,zay,zaj,zam,h0,h1],by simp [rnL,ptB,Blk.rn,zaj,zam,hw,h0,h1];exact e⟩
 ·rintro ⟨rfl,rfl⟩
  refine ⟨_,_,⟨rfl,rfl⟩,by simp [ren,zay,zaj,zam,h0,h1],?_⟩
  simp [rnL,ptB,Blk.rn,zaj,zam,hw,h0,h1]
  exact e.symm
theorem zl9 (nk w:Nat) (hnk:200<=nk) (hw:100<=w) (h1:w≠nk) (h2:w≠nk+1) (b:Blk) (hb:b.fx) (lw:Nat->Int) :
  FunS prog G0 46 #[.pointer (some ⟨w,0,none⟩),zcm lw] (hpL G0 [(w,b)]) [w] (zm0 nk w lw):=by
 have e1:sdM w nk 100=w:=if_pos rfl
 have e2:sdM w nk 1000=nk:=rfl
 have e3:sdM w nk 1001=nk+1:=rfl
 refine (z65 b hb lw).mvL (hp':=hpL G0 [(w,b)]) (rs':=[w]) G0F (zax hb) (sdM w nk) (λk hk=>?_) ?_ (by simp [zab,e1]) (zxf e1 e2 e3) (λk hk=>za7 (by simp [hw]) hk) ?_ (by simp [zab]) (λv ns hV k hk=>?_) (λv ns hV k hk l hl e=>?_)
 ·unfold sdM
  rw [if_neg (by omega),if_neg (by omega),if_neg (by omega)]
 ·simp [zcm,ren,zay,zaj,zam,e1]
 ·intro p hp
  simp only [List.mem_singleton] at hp
  subst hp
  simp only [e1]
  exact ⟨hw,by rw [Blk.fx_rn hb];simp⟩
 ·have h9:=zd2 hV k hk
  have:k=1000\/k=1001:=by omega
  rcases this with rfl|rfl
  ·rw [e2];exact ⟨by omega,by simp;omega⟩
  ·rw [e3];exact ⟨by omega,by simp;omega⟩
 ·have h9:=zd2 hV k hk
  have h8:=zd2 hV l hl
  have a:k=1000\/k=1001:=by omega
  have b:l=1000\/l=1001:=by omega
  rcases a with rfl|rfl<;>rcases b with rfl|rfl<;>simp only [e2,e3] at e<;>omega
def sdN (w nk k:Nat):Nat:=if k=200 then w else if k=208 then nk else if k=209 then nk+1 else k
theorem zma (w nk:Nat) (hw:100<=w) (hnk:100<=nk) (h1:w≠nk) (h2:w≠nk+1) (ob:Nat->Blk) (hob:∀ c,(ob c).fx) (lw:Nat->Int) {hp:Hp} (hG:∀ k,k<100->hp k=G0 k) (a:hp w=some (ob 0)) (b:hp nk=some (ptB w)) (c:hp (nk+1)=some (loB lw)) :
  IterS prog G0 79 #[.pointer (some ⟨nk,0,none⟩),.pointer (some ⟨nk+1,0,none⟩)] hp [w,nk,nk+1] w ob (zmr w lw):=by
 have e1:sdN w nk 200=w:=if_pos rfl
 have e2:sdN w nk 208=nk:=rfl
 have e3:sdN w nk 209=nk+1:=rfl
 have h:=zxg ob (λc=>⟨λr=>Blk.obj_flatx (hob c) r,λD=>Blk.fx_ids (hob c) D⟩) lw
 have hL:LOk (sdL (ob 0) lw) 300:=⟨by simp [sdL],by simp [sdL,zab],by
  simp only [sdL,List.mem_cons,List.not_mem_nil,or_false,forall_eq_or_imp,forall_eq]
  exact ⟨Blk.fx_ids (hob 0) _,by simp [ptB,zac,zah,zal,zab],Blk.fx_ids (zkq lw) _⟩⟩
 have h9:=z0b (caps':=#[.pointer (some ⟨nk,0,none⟩),.pointer (some ⟨nk+1,0,none⟩)]) (hp:=hp) (rs:=[w,nk,nk+1]) h G0F hL (sdN w nk) (λk hk=>?_) (by simp [zam,e2,e3]) (by simp [sdL,zab,e1,e2,e3]) hG ?_ ?_
 ·rw [z1f,e1] at h9
  exact h9
 ·unfold sdN
  rw [if_neg (by omega),if_neg (by omega),if_neg (by omega)]
 ·simp only [sdL,List.mem_cons,List.not_mem_nil,or_false,forall_eq_or_imp,forall_eq,e1,e2,e3]
  refine ⟨⟨hw,by rw [a,Blk.fx_rn (hob 0)]⟩,⟨hnk,?_⟩,by omega,by rw [c,Blk.fx_rn (zkq lw)]⟩
  rw [b]
  simp [ptB,Blk.rn,zaj,zam,e1]
 ·simp only [sdL,zab,List.map_cons,List.map_nil,List.mem_cons,List.not_mem_nil,or_false]
  rintro k (rfl|rfl|rfl) l (rfl|rfl|rfl) e<;>simp only [e1,e2,e3] at e<;>omega
structure HOk (N:Int) (v:Nat->Int):Prop where
 n:i64 N
 i:∀ c,2<=c->c<14->i64 (v c)
 w0:wr (v 0)
 w1:wr (v 1)
def sdA (i:Nat):Nat:=2+i / 2+i%2*6
theorem zxa {P:Nat->Prop}:(∀ i,i<6->P (sdA i))↔∀ q,q<3->P (2+q)/\P (8+q):=by
 constructor
 ·intro h q hq
  have:q=0\/q=1\/q=2:=by omega
  rcases this with rfl|rfl|rfl
  ·exact ⟨h 0 (by omega),h 1 (by omega)⟩
  ·exact ⟨h 2 (by omega),h 3 (by omega)⟩
  ·exact ⟨h 4 (by omega),h 5 (by omega)⟩
 ·intro h i hi
  have:i=0\/i=1\/i=2\/i=3\/i=4\/i=5:=by omega
  rcases this with rfl|rfl|rfl|rfl|rfl|rfl
  ·exact (h 0 (by omega)).1
  ·exact (h 0 (by omega)).2
  ·exact (h 1 (by omega)).1
  ·exact (h 1 (by omega)).2
  ·exact (h 2 (by omega)).1
  ·exact (h 2 (by omega)).2
theorem z2p (P:Nat->Prop) [DecidablePred P]:∃ N,N<=6/\(∀ i,i<N->P i)/\(N=6\/(N<6/\¬P N)):=by
 have key:∀ n,∃ N,N<=n/\(∀ i,i<N->P i)/\(N=n\/(N<n/\¬P N)):=λn=>by
  induction n with
  | zero=>exact ⟨0,Nat.le_refl _,λi hi=>absurd hi (Nat.not_lt_zero i),.inl rfl⟩
  | succ n ih =>
   obtain ⟨N,h1,h2,h3⟩:=ih
   rcases h3 with rfl|h3
   ·by_cases h:P N
    ·exact ⟨N+1,Nat.le_refl _,λi hi=>by
      by_cases e:i=N
      ·subst e;exact h
      ·exact h2 i (by omega),.inl rfl⟩
    ·exact ⟨N,Nat.le_succ _,h2,.inr ⟨Nat.lt_succ_self _,h⟩⟩
   ·exact ⟨N,by omega,h2,.inr ⟨by omega,h3.2⟩⟩
 exact key 6
theorem zjp (w:Nat) (lw:Nat->Int) (i:Nat) (hi:i<6):(zmr w lw)[i]? = some (sdX w (sdA i+7) (sdA i+10) (lw (sdA i))):=by
 have:i=0\/i=1\/i=2\/i=3\/i=4\/i=5:=by omega
 rcases this with rfl|rfl|rfl|rfl|rfl|rfl<;>rfl
theorem zi9 {x y:Int}:(0<zch x y)=(y<x):=by
 unfold zch
 apply propext
 constructor
 ·intro h;split at h<;>(try split at h)<;>omega
 ·intro h;split<;>(try split)<;>omega
theorem zw3 {N:Int} {v:Nat->Int} (z:¬N=0):ze7 ⟨N,v⟩=true↔(0<N/\N<=1073741824)/\v 0<=v 1/\∀ i,i<6->v (sdA i)<=v (sdA i+3):=by
 rw [zti (h:=⟨N,v⟩) z,zxa (P:=λc=>v c<=v (c+3))]
 refine and_congr Iff.rfl (and_congr Iff.rfl (forall_congr' λq=>forall_congr' λhq=>?_))
 rw [show 2+q+3=5+q by omega,show 8+q+3=11+q by omega]
theorem zft (N:Int) (v:Nat->Int) (c:Nat) (h:2<=c/\c<14):zc2 prog 3 (zav N v) (c+7)=some (.int .i64 (v c)):=by
 have:c=2\/c=3\/c=4\/c=5\/c=6\/c=7\/c=8\/c=9\/c=10\/c=11\/c=12\/c=13:=by omega
 rcases this with rfl|rfl|rfl|rfl|rfl|rfl|rfl|rfl|rfl|rfl|rfl|rfl<;>simp [zav,za8]
theorem zl6 {i:Nat} (h:i<6):(2<=sdA i/\sdA i<14)/\2<=sdA i+3/\sdA i+3<14:=by unfold sdA;omega
def zbq (N:Int) (v:Nat->Int):Value:=.agg (za8 N v)
theorem zso (N:Int) (v:Nat->Int) (h:HOk N v):Ret prog G0 14 #[zbq N v] (.bool (ze7 ⟨N,v⟩)):=by
 unfold zbq za8
 refine za2 G0F func14 rfl call14 (by simp) (by simp) (by simp [ntmps14]) ?_
 intro C hC hC0 hY
 repeat' first|refine gwZ ?_|refine gwW ?_|refine gwC ?_ ?_<;>intro hb
 by_cases z:N=0
 ·subst z
  refine zer 0 (λ_ _=>False) rfl (λ_ _ h=>h.elim) ?_
  intro _
  repeat' first|refine gwZ ?_|refine gwW ?_|refine gwC ?_ ?_<;>intro hb
  refine ⟨.inr trivial,?_⟩
  simp [results14]
  have s0:sz (0:Int)=0:=zd7 (by decide) (by decide)
  have e0:(wi (v 0) 0==0&&(wi (v 0) 1==0&&(wi (v 0) 2==0&&wi (v 0) 3==0)))=decide (v 0=0):=by
   have:=weq (v 0) 0
   rw [zd7 h.w0.1 h.w0.2,s0] at this
   simpa using this
  have e1:(wi (v 1) 0==0&&(wi (v 1) 1==0&&(wi (v 1) 2==0&&wi (v 1) 3==0)))=decide (v 1=0):=by
   have:=weq (v 1) 0
   rw [zd7 h.w1.1 h.w1.2,s0] at this
   simpa using this
  rw [e0,e1]
  unfold ze7
  rw [if_pos rfl,show List.range 14=[0,1,2,3,4,5,6,7,8,9,10,11,12,13] from rfl]
  rw [Bool.eq_iff_iff]
  simp only [List.all_cons,List.all_nil,Bool.and_eq_true,decide_eq_true_eq,beq_iff_eq,and_true]
  constructor
  ·rintro ⟨⟨a0,a1⟩,⟨a2,a3,a4⟩,⟨a5,a6,a7⟩,⟨a8,a9,a10⟩,a11,a12,a13⟩
   exact ⟨a0,a1,a2,a3,a4,a5,a6,a7,a8,a9,a10,a11,a12,a13⟩
  ·rintro ⟨a0,a1,a2,a3,a4,a5,a6,a7,a8,a9,a10,a11,a12,a13⟩
   exact ⟨⟨a0,a1⟩,⟨a2,a3,a4⟩,⟨a5,a6,a7⟩,⟨a8,a9,a10⟩,a11,a12,a13⟩
 ·have s0:sz (v 0)=v 0:=zd7 h.w0.1 h.w0.2
  have s1:sz (v 1)=v 1:=zd7 h.w1.1 h.w1.2
  refine zer 0 (λ_ s=>s=⟨tsL [],hpL G0 [],1000,0⟩/\ze7 ⟨N,v⟩=false) rfl ?_ ?_
  ·rintro m _ ⟨rfl,hr⟩
   repeat' first|refine gwZ ?_|refine gwW ?_|refine gwC ?_ ?_<;>intro hb
   refine ⟨.inr trivial,?_⟩
   simp [results14,hr]
  intro _
  have zb:(N==0)=false:=by simpa using z
  by_cases c1:N<0
  ·
   repeat' first|refine gwZ ?_|(refine gwX ?_;intro Q hQ _;simp [hC,hY,z,zb,c1];refine gwq hQ ?_)|refine gwC ?_ ?_<;>intro hb
   refine ⟨rfl,_,0,zbi [] 1000 hC G0F (m:=[]) (m0:=[]) hC0 (by omega) (by simp) (by simp) (by simp),rfl,?_⟩
   (try rw [Bool.eq_false_iff])
   intro hr
   have:=((zw3 z).1 hr).1
   omega
  by_cases c2:1073741824<N
  ·
   repeat' first|refine gwZ ?_|(refine gwX ?_;intro Q hQ _;simp [hC,hY,z,zb,c1,c2];refine gwq hQ ?_)|refine gwC ?_ ?_<;>intro hb
   refine ⟨rfl,_,0,zbi [] 1000 hC G0F (m:=[]) (m0:=[]) hC0 (by omega) (by simp) (by simp) (by simp),rfl,?_⟩
   (try rw [Bool.eq_false_iff])
   intro hr
   have:=((zw3 z).1 hr).1
   omega
  by_cases c3:v 1<v 0
  ·
   repeat' first|refine gwZ ?_|(refine gwX ?_;intro Q hQ _;simp [hC,hY,z,zb,c1,c2,c3,s0,s1,zi9];refine gwq hQ ?_)|refine gwC ?_ ?_<;>intro hb
   refine ⟨rfl,_,0,zbi [] 1000 hC G0F (m:=[]) (m0:=[]) hC0 (by omega) (by simp) (by simp) (by simp),rfl,?_⟩
   (try rw [Bool.eq_false_iff])
   intro hr
   have:=((zw3 z).1 hr).2.1
   omega
  repeat' first|refine gwZ ?_|(refine gwX ?_;intro Q hQ _;simp [hC,hY,z,zb,c1,c2,c3,s0,s1,zi9];refine gwq hQ ?_)|refine gwC ?_ ?_<;>intro hb
  have hsd:=zl9 392 200 (by omega) (by omega) (by omega) (by omega) (zav N v) (zci N v) (λ_=>0)
  unfold zcm at hsd
  simp only [zar] at hsd
  refine zdf ?_
  simp only [Array.toList]
  refine gwl 1 ?_;intro Q hQ;simp [hC,hY];apply hQ
  simp only [wT,wM,Nat.reduceAdd]
  refine zeb (f:=.func 46) (cap:=#[]) hC hsd rfl (by simp) rfl rfl (by simp [okT]) (by simp [gev]) (by simp) (by simp [okX,zcj]) (by simp [gev]) (by simp [zav,za8]) (by (intro k hk;first|rfl|(simp (disch:=omega) only [zbw,List.mem_cons,List.not_mem_nil,or_false,zaa,zag,zaq,if_neg,zbb]<;>done))) ?_ ?_
  ·intro w ns hV k hk
   have:=zd2 hV k hk
   omega
  rintro w ns ⟨rfl,rfl⟩
  refine zec ?_
  repeat' first|refine gwZ ?_|(refine gwX ?_;intro Q hQ _;simp [hC,hY,zcq,zbb];refine gwq hQ ?_)|refine gwC ?_ ?_<;>intro hb
  simp only [zcq,zbb]
  have ck:v 0<=v 1:=by omega
  have cN:0<N/\N<=1073741824:=by omega
  have hfx:=zci N v
  have hix:=λD=>Blk.fx_ids hfx D
  have hCC:=hC
  obtain ⟨M,hM,hpre,hfin⟩:=z2p (λi=>v (sdA i)<=v (sdA i+3))
  refine zhu (G:=G0) (f:=79) (caps:=#[.pointer (some ⟨392,0,none⟩),.pointer (some ⟨393,0,none⟩)]) (rs:=[200,392,393]) (xs:=zmr 200 λ_=>0) (w:=200) (ob:=λ_=>zav N v) (m0:=[]) (λl0 h=>by cases h) G0F hC hC0 hY (by simp) ?_ (by simp) (by omega) ?_ (by simp [ntmps14]) [] (λ_=>[(200,zav N v)]) 1000 M (by simp [zmr];omega) (by omega) ?_ (by simp) ?_ ?_ (by simp) ?_ ?_
  ·refine zma 200 392 (by omega) (by omega) (by omega) (by omega) (λ_=>zav N v) (λ_=>zci N v) (λ_=>0) (by (intro k hk;first|rfl|(simp (disch:=omega) only [zbw,List.mem_cons,List.not_mem_nil,or_false,zaa,zag,zaq,if_neg,zbb]<;>done))) ?_ ?_ ?_
   ·simp [zav,za8,upd]
   ·simp [upd]
   ·simp [upd]
  ·exact zl7 200 _
  ·simp [dom,upd]
  ·simp [zav,za8,upd]
  ·simp [hix]
  ·intro i x hi hx C1 j c1 c2 c3
   have hi6:i<6:=by omega
   rw [zjp _ _ _ hi6] at hx
   simp only [Option.some.injEq] at hx
   subst hx
   obtain ⟨r1,r2⟩:=zl6 hi6
   have l0:=zft N v _ r1
   have l1:=zft N v _ r2
   have hle:=hpre i hi
   have hlt:¬v (sdA i+3)<v (sdA i):=by omega
   generalize sdA i=a at *
   unfold sdX
   clear hC hY
   have hC:=c1
   have hY:=c3
   repeat' first|refine gwZ ?_|(refine gwX ?_;intro Q hQ _;simp [hC,hY,zao];refine gwq hQ ?_)|refine gwC ?_ ?_<;>intro hb
   intro C2 hC2 hh2 hY2
   clear hC hY
   have hC:=hC2
   have hY:=hY2
   repeat' first|refine gwZ ?_|(refine gwX ?_;intro Q hQ _;simp [hC,hY,l0,l1,hlt];refine gwq hQ ?_)|refine gwC ?_ ?_<;>intro hb
   simp
  ·rcases hfin with rfl|⟨hM6,hbad⟩
   ·refine .inl ⟨by simp [zmr],?_⟩
    repeat' first|refine gwZ ?_|refine gwW ?_|refine gwC ?_ ?_<;>intro hb
    refine ⟨.inr trivial,?_⟩
    have hr:ze7 ⟨N,v⟩=true:=(zw3 z).2 ⟨cN,ck,hpre⟩
    simp [results14,hr]
   ·refine .inr ⟨_,zjp _ _ _ hM6,?_⟩
    intro C1 j c1 c2 c3
    have hr:ze7 ⟨N,v⟩=false:=by
     cases e:ze7 ⟨N,v⟩ with
     | false=>rfl
     | true=>exact absurd (((zw3 z).1 e).2.2 M hM6) hbad
    obtain ⟨r1,r2⟩:=zl6 hM6
    have l0:=zft N v _ r1
    have l1:=zft N v _ r2
    have hlt:v (sdA M+3)<v (sdA M):=by omega
    generalize sdA M=a at *
    unfold sdX
    clear hC hY
    have hC:=c1
    have hY:=c3
    repeat' first|refine gwZ ?_|(refine gwX ?_;intro Q hQ _;simp [hC,hY,zao];refine gwq hQ ?_)|refine gwC ?_ ?_<;>intro hb
    intro C2 hC2 hh2 hY2
    clear hC hY
    have hC:=hC2
    have hY:=hY2
    repeat' first|refine gwZ ?_|(refine gwX ?_;intro Q hQ _;simp [hC,hY,l0,l1,hlt];refine gwq hQ ?_)|refine gwC ?_ ?_<;>intro hb
    refine ⟨rfl,by simp,by simp,?_⟩
    refine ⟨rfl,_,0,zbi [] 1000 hCC G0F (m:=[]) (m0:=[]) hC0 (by omega) (by simp) (by simp) (by simp),rfl,?_⟩
    simp [hr]
theorem zvc (a n:Int) (hi:i64 n):Ret prog G0 97 #[wd a,.int .i64 n] (wd (a+n)):=by
 refine za2 G0F func97 rfl call97 (by simp) (by simp) (by simp [ntmps97]) ?_
 intro C hC hC0 hY
 repeat' first|refine gwZ ?_|(refine gwX ?_;intro Q hQ _;simp [hC,hY,hi];refine gwq hQ ?_)|refine gwC ?_ ?_<;>intro hb
 refine ⟨.inr trivial,?_⟩
 simp [results97]
@[simp] theorem jlz (a n:Int) (hi:i64 n) (K:Value->Prop):zbe prog G0 97 #[Value.agg #[.int .u64 (wi (a) 0),.int .u64 (wi (a) 1),.int .u64 (wi (a) 2),.int .u64 (wi (a) 3)],.int .i64 n] K↔K (wd (a+n)):=zaf G0W (by kernel_rfl) (zvc a n hi)
def spV (lo hi:Int):Value:=.agg #[.int .u64 (wi lo 0),.int .u64 (wi lo 1),.int .u64 (wi lo 2),.int .u64 (wi lo 3),.int .u64 (wi hi 0),.int .u64 (wi hi 1),.int .u64 (wi hi 2),.int .u64 (wi hi 3)]
@[simp] theorem jgo (lo hi:Int):zau (spV lo hi)=true:=by simp [spV]
def zns (lo hi a:Int):Bool:=decide (zch (sz lo) (sz a)<=0)&&decide (zch (sz a) (sz hi)<=0)
theorem zkb (lo hi a:Int):Ret prog G0 50 #[spV lo hi,wd a] (.bool (zns lo hi a)):=by
 refine za2 G0F func50 rfl call50 rfl (by simp) (by simp [ntmps50]) ?_
 intro C hC hC0 hY
 unfold spV zns
 by_cases h1:zch (sz lo) (sz a)<=0
 ·rw [decide_eq_true h1]
  repeat' first|refine gwZ ?_|(refine gwX ?_;intro Q hQ _;simp [hC,hY,h1];refine gwq hQ ?_)|refine gwC ?_ ?_<;>intro hb
  refine ⟨.inr trivial,?_⟩
  simp [results50]
 ·rw [decide_eq_false h1]
  repeat' first|refine gwZ ?_|(refine gwX ?_;intro Q hQ _;simp [hC,hY,h1];refine gwq hQ ?_)|refine gwC ?_ ?_<;>intro hb
  refine ⟨.inr trivial,?_⟩
  simp [results50]
theorem zng (lo hi:Int) (hl:wr lo) (hh:wr hi) (h0:lo<=hi) (h1:i64 (hi - lo)):Ret prog G0 44 #[spV lo hi] (.tuple #[.int .i64 (hi - lo),.bool true]):=by
 refine za2 G0F func44 rfl call44 (by simp) (by simp) (by simp [ntmps44]) ?_
 intro C hC hC0 hY
 have w:=zdn h1
 have s1:=zdb w
 have g1:=z18 hl
 have g2:=z18 hh
 have g3:=zt4 w (by omega)
 have n0:0<=hi - lo:=by omega
 have n1:lo<=hi:=h0
 have hov:(!decide (hi<0) != decide (lo<0)||!decide (hi<0))=true:=by
  by_cases a:hi<0
  ·have b:lo<0:=by omega
   simp [a,b]
  ·simp [a]
 unfold spV
 repeat' first|refine gwZ ?_|(refine gwX ?_;intro Q hQ _;simp [hC,hY,h1,s1,g1,g2,g3,n0,n1,hov];refine gwq hQ ?_)|refine gwC ?_ ?_<;>intro hb
 refine ⟨.inr trivial,?_⟩
 simp [results44]
structure LsOk (w:Nat->Int):Prop where
 w0:wr (w 0)
 w1:wr (w 1)
 i:∀ c,2<=c->c<14->i64 (w c)
 r:∀ q,q<3->w (2+q)=w (5+q)/\w (8+q)=w (11+q)
theorem ze3 {N:Int} {v:Nat->Int} (h:HOk N v) (K:Value->Prop):zbe prog G0 14 #[zbq N v] K↔K (.bool (ze7 ⟨N,v⟩)):=zaf G0W (by kernel_rfl) (zso N v h)
theorem ziv {lo hi a:Int} (h0:wr lo) (h1:wr hi) (h2:wr a):zns lo hi a=decide (lo<=a/\a<=hi):=by
 unfold zns
 rw [zd7 h0.1 h0.2,zd7 h1.1 h1.2,zd7 h2.1 h2.2,Bool.decide_and]
 have key:∀ x y:Int,decide (zch x y<=0)=decide (x<=y):=λx y=>by
  apply decide_eq_decide.2
  unfold zch
  constructor
  ·intro h;split at h<;>(try split at h)<;>omega
  ·intro h;split<;>(try split)<;>omega
 rw [key,key]
theorem zsr {N:Int} {v w:Nat->Int}:zkn ⟨N,v⟩ w=true↔¬N=0/\ze7 ⟨N,v⟩=true/\(v 0<=w 0/\w 0<=v 1)/\(v 0<=w 1/\w 1<=v 1)/\∀ i,i<6->v (sdA i)<=w (sdA i)/\w (sdA i)<=v (sdA i+3):=by
 unfold zkn
 rw [zxa (P:=λc=>v c<=w c/\w c<=v (c+3)),Bool.and_eq_true,Bool.and_eq_true,Bool.and_eq_true,Bool.and_eq_true,jg3,decide_eq_true_eq,decide_eq_true_eq]
 simp only [Bool.not_eq_true',decide_eq_false_iff_not,Bool.and_eq_true,decide_eq_true_eq]
 refine and_congr Iff.rfl (and_congr Iff.rfl (and_congr Iff.rfl (and_congr Iff.rfl (forall_congr' λq=>forall_congr' λhq=>?_))))
 rw [show 2+q+3=5+q by omega,show 8+q+3=11+q by omega]
theorem zhy (N:Int) (v lw:Nat->Int) (h:HOk N v) (hl:LsOk lw):Ret prog G0 18 #[zbq N v,zcm lw] (.bool (zkn ⟨N,v⟩ lw)):=by
 have hR:=ze3 h
 unfold zbq za8 at hR |-
 unfold zcm
 refine za2 G0F func18 rfl call18 (by simp) (by simp) (by simp [ntmps18]) ?_
 intro C hC hC0 hY
 have e1:=ziv h.w0 h.w1 hl.w0
 have e2:=ziv h.w0 h.w1 hl.w1
 by_cases z:N=0
 ·have hlb:zkn ⟨N,v⟩ lw=false:=by
   cases e:zkn ⟨N,v⟩ lw with
   | false=>rfl
   | true=>exact absurd z (zsr.1 e).1
  subst z
  repeat' first|refine gwZ ?_|refine gwW ?_|refine gwC ?_ ?_<;>intro hb
  refine ⟨.inr trivial,?_⟩
  simp [results18,hlb]
 have zb:(N==0)=false:=by simpa using z
 cases hr:ze7 ⟨N,v⟩ with
 | false =>
  have hlb:zkn ⟨N,v⟩ lw=false:=by
   cases e:zkn ⟨N,v⟩ lw with
   | false=>rfl
   | true=>exact absurd ((zsr.1 e).2.1) (by rw [hr];decide)
  rw [hr] at hR
  repeat' first|refine gwZ ?_|(refine gwX ?_;intro Q hQ _;simp [hC,hY,zb,z,hR];refine gwq hQ ?_)|refine gwC ?_ ?_<;>intro hb
  refine ⟨.inr trivial,?_⟩
  simp [results18,hlb]
 | true =>
  rw [hr] at hR
  have hE0:=λ(K:Value->Prop)=>zaf (K:=K) G0W (by kernel_rfl) (zkb (v 0) (v 1) (lw 0))
  have hE1:=λ(K:Value->Prop)=>zaf (K:=K) G0W (by kernel_rfl) (zkb (v 0) (v 1) (lw 1))
  unfold spV wd at hE0 hE1
  cases h1:zns (v 0) (v 1) (lw 0) with
  | false =>
   have hlb:zkn ⟨N,v⟩ lw=false:=by
    cases e:zkn ⟨N,v⟩ lw with
    | false=>rfl
    | true=>rw [e1,decide_eq_true ((zsr.1 e).2.2.1)] at h1;cases h1
   repeat' first|refine gwZ ?_|(refine gwX ?_;intro Q hQ _;simp [hC,hY,zb,z,hR,hE0,hE1,h1];refine gwq hQ ?_)|refine gwC ?_ ?_<;>intro hb
   refine ⟨.inr trivial,?_⟩
   simp [results18,hlb]
  | true =>
   cases h2:zns (v 0) (v 1) (lw 1) with
   | false =>
    have hlb:zkn ⟨N,v⟩ lw=false:=by
     cases e:zkn ⟨N,v⟩ lw with
     | false=>rfl
     | true=>rw [e2,decide_eq_true ((zsr.1 e).2.2.2.1)] at h2;cases h2
    repeat' first|refine gwZ ?_|(refine gwX ?_;intro Q hQ _;simp [hC,hY,zb,z,hR,hE0,hE1,h1,h2];refine gwq hQ ?_)|refine gwC ?_ ?_<;>intro hb
    refine ⟨.inr trivial,?_⟩
    simp [results18,hlb]
   | true =>
    have hh1:=of_decide_eq_true (e1.symm.trans h1)
    have hh2:=of_decide_eq_true (e2.symm.trans h2)
    repeat' first|refine gwZ ?_|(refine gwX ?_;intro Q hQ _;simp [hC,hY,zb,z,hR,hE0,hE1,h1,h2];refine gwq hQ ?_)|refine gwC ?_ ?_<;>intro hb
    have hsd:=zl9 440 200 (by omega) (by omega) (by omega) (by omega) (zav N v) (zci N v) lw
    unfold zcm at hsd
    refine zdf ?_
    simp only [Array.toList]
    refine gwl 1 ?_;intro Q hQ;simp [hC,hY];apply hQ
    simp only [wT,wM,Nat.reduceAdd]
    refine zeb (f:=.func 46) (cap:=#[]) hC hsd rfl (by simp) rfl rfl (by simp [okT]) (by simp [gev]) (by simp) (by simp [okX,zcj]) (by simp [gev]) (by simp [zav,za8]) (by (intro k hk;first|rfl|(simp (disch:=omega) only [zbw,List.mem_cons,List.not_mem_nil,or_false,zaa,zag,zaq,if_neg,zbb]<;>done))) ?_ ?_
    ·intro w ns hV k hk
     have:=zd2 hV k hk
     omega
    rintro w ns ⟨rfl,rfl⟩
    refine zec ?_
    repeat' first|refine gwZ ?_|(refine gwX ?_;intro Q hQ _;simp [hC,hY,zcq,zbb];refine gwq hQ ?_)|refine gwC ?_ ?_<;>intro hb
    simp only [zcq,zbb]
    have hfx:=zci N v
    have hix:=λD=>Blk.fx_ids hfx D
    have hCC:=hC
    obtain ⟨M,hM,hpre,hfin⟩:=z2p (λi=>v (sdA i)<=lw (sdA i)/\lw (sdA i)<=v (sdA i+3))
    refine zhu (G:=G0) (f:=79) (caps:=#[.pointer (some ⟨440,0,none⟩),.pointer (some ⟨441,0,none⟩)]) (rs:=[200,440,441]) (xs:=zmr 200 lw) (w:=200) (ob:=λ_=>zav N v) (m0:=[]) (λl0 h=>by cases h) G0F hC hC0 hY (by simp) ?_ (by simp) (by omega) ?_ (by simp [ntmps18]) [(4,.pointer (some ⟨216,0,none⟩))] (λ_=>[(200,zav N v),(216,⟨#[.bool false],.ty 4⟩)]) 1000 M (by simp [zmr];omega) (by omega) ?_ (by simp) ?_ ?_ (by simp) ?_ ?_
    ·refine zma 200 440 (by omega) (by omega) (by omega) (by omega) (λ_=>zav N v) (λ_=>zci N v) lw (by (intro k hk;first|rfl|(simp (disch:=omega) only [zbw,List.mem_cons,List.not_mem_nil,or_false,zaa,zag,zaq,if_neg,zbb]<;>done))) ?_ ?_ ?_
     ·simp [zav,za8,upd]
     ·simp [upd]
     ·simp [upd]
    ·exact zl7 200 _
    ·simp [dom,upd]
    ·simp [zav,za8,upd]
    ·simp [hix,zan,za0,zah,zal,zac,dom]
    ·intro i x hi hx C1 j c1 c2 c3
     have hi6:i<6:=by omega
     rw [zjp _ _ _ hi6] at hx
     simp only [Option.some.injEq] at hx
     subst hx
     obtain ⟨r1,r2⟩:=zl6 hi6
     have l0:=zft N v _ r1
     have l1:=zft N v _ r2
     have hle:=hpre i hi
     have q0:¬lw (sdA i)<v (sdA i):=by omega
     have q1:¬v (sdA i+3)<lw (sdA i):=by omega
     generalize sdA i=a at *
     unfold sdX
     clear hC hY
     have hC:=c1
     have hY:=c3
     repeat' first|refine gwZ ?_|(refine gwX ?_;intro Q hQ _;simp [hC,hY,zao];refine gwq hQ ?_)|refine gwC ?_ ?_<;>intro hb
     intro C2 hC2 hh2 hY2
     clear hC hY
     have hC:=hC2
     have hY:=hY2
     repeat' first|refine gwZ ?_|(refine gwX ?_;intro Q hQ _;simp [hC,hY,l0,l1,q0,q1];refine gwq hQ ?_)|refine gwC ?_ ?_<;>intro hb
     simp
    ·rcases hfin with rfl|⟨hM6,hbad⟩
     ·refine .inl ⟨by simp [zmr],?_⟩
      repeat' first|refine gwZ ?_|refine gwW ?_|refine gwC ?_ ?_<;>intro hb
      refine ⟨.inr trivial,?_⟩
      have hlb:zkn ⟨N,v⟩ lw=true:=zsr.2 ⟨z,hr,hh1,hh2,hpre⟩
      simp [results18,hlb]
     ·refine .inr ⟨_,zjp _ _ _ hM6,?_⟩
      intro C1 j c1 c2 c3
      have hlb:zkn ⟨N,v⟩ lw=false:=by
       cases e:zkn ⟨N,v⟩ lw with
       | false=>rfl
       | true=>exact absurd ((zsr.1 e).2.2.2.2 M hM6) hbad
      obtain ⟨r1,r2⟩:=zl6 hM6
      have l0:=zft N v _ r1
      have l1:=zft N v _ r2
      by_cases q0:lw (sdA M)<v (sdA M)
      ·generalize sdA M=a at *
       unfold sdX
       clear hC hY
       have hC:=c1
       have hY:=c3
       repeat' first|refine gwZ ?_|(refine gwX ?_;intro Q hQ _;simp [hC,hY,zao];refine gwq hQ ?_)|refine gwC ?_ ?_<;>intro hb
       intro C2 hC2 hh2 hY2
       clear hC hY
       have hC:=hC2
       have hY:=hY2
       repeat' first|refine gwZ ?_|(refine gwX ?_;intro Q hQ _;simp [hC,hY,l0,l1,q0];refine gwq hQ ?_)|refine gwC ?_ ?_<;>intro hb
       refine ⟨rfl,by simp [zan,za0,zah,zal,dom],by simp,.inr trivial,?_⟩
       simp [results18,hlb]
      ·have q1:v (sdA M+3)<lw (sdA M):=by omega
       generalize sdA M=a at *
       unfold sdX
       clear hC hY
       have hC:=c1
       have hY:=c3
       repeat' first|refine gwZ ?_|(refine gwX ?_;intro Q hQ _;simp [hC,hY,zao];refine gwq hQ ?_)|refine gwC ?_ ?_<;>intro hb
       intro C2 hC2 hh2 hY2
       clear hC hY
       have hC:=hC2
       have hY:=hY2
       repeat' first|refine gwZ ?_|(refine gwX ?_;intro Q hQ _;simp [hC,hY,l0,l1,q0,q1];refine gwq hQ ?_)|refine gwC ?_ ?_<;>intro hb
       refine ⟨rfl,by simp [zan,za0,zah,zal,dom],by simp,.inr trivial,?_⟩
       simp [results18,hlb]
end Go.Gy
namespace Go.Gy
open Go Go.RowKit
theorem roN {q:Nat×List Nat×List Nat} (h:q∈([]:Tr)):q.2.2=[]:=by cases h
theorem ro1 {k:Nat} {rd:List Nat} {tr:Tr} (h:∀ q∈tr,q.2.2=[]):∀ q∈ze9 k rd [] tr,q.2.2=[]:=by
 unfold ze9
 cases rd with
 | nil=>exact h
 | cons a l=>intro q hq;rcases List.mem_cons.1 hq with rfl|hq;exact rfl;exact h q hq
theorem ro2 {k:Nat} {rd:List Nat} {tr:Tr} (h:∀ q∈tr,q.2.2=[]):∀ q∈(k,rd,[])::tr,q.2.2=[]:=λq hq=>by
 rcases List.mem_cons.1 hq with rfl|hq;exact rfl;exact h q hq
theorem zu4 {md:Region.Mode} {ops:Array Oper}:∀ {tr:Tr},(∀ q∈tr,q.2.2=[])->chk md ops tr=true
 | [],_=>rfl
 | (i,rd,wr)::tl,h=>by
  have hw:wr=[]:=h (i,rd,wr) (by simp)
  subst hw
  unfold chk
  rw [zu4 (λq hq=>h q (by simp [hq])),Bool.and_true,List.all_eq_true]
  intro q hq
  rw [h q (by simp [hq])]
  simp [jha]
theorem zzb {md:Region.Mode} {ops:Array Oper} {i:Nat} {rd wr:List Nat} {tl:Tr} (h:(tl.all λq=>zij md ops i q.1)=true) (h2:chk md ops tl=true):chk md ops ((i,rd,wr)::tl)=true:=by
 unfold chk
 rw [h2,Bool.and_true,List.all_eq_true]
 intro q hq
 rw [List.all_eq_true.1 h q hq,Bool.or_true]
end Go.Gy
namespace Go.Gy
open Go Go.RowKit Go.Proofs Go.Proofs.Tryz
structure LAny (L:List (Nat×Blk)):Prop where
 ok:LOk L 200
 fx:∀ p∈L,p.2.fx
section
variable {L:List (Nat×Blk)}
theorem LAny.mem (h:LAny L) (p:Nat×Blk) (hp:p∈L):hpL G0 L p.1=some p.2:=LOk.at h.ok.one p hp
theorem LAny.low (h:LAny L) (k:Nat) (hk:k<100):hpL G0 L k=G0 k:=h.ok.low k hk
end
def SlI (L:List (Nat×Blk)) (p:Option Addr):Prop:=∀ n cap,zah (λk=>k∈zab L) (.slice p n cap)
theorem zqt {P:Program} {G:Hp} {L:List (Nat×Blk)} {B:Nat} {f:FuncId} {args:Array Value} {v:Value} {hp:Hp} {nk:Nat} {K:Eff->Prop} (h:Fun P G f args (hpL G L) (zab L) (.ret v [])) (hL:LOk L B) (hm:∀ p∈L,hp p.1=some p.2) (hK:K ((Res.ret v []).eff (zab L))):zhz P G f args hp nk K:=by
 refine zb7 h (λk hk=>?_) hL.low trivial hK
 obtain ⟨p,hp1,rfl⟩:=zad.1 hk
 rw [LOk.at hL.one p hp1,hm p hp1]
def v3 (x y z:Int):Value:=.agg #[.int .i64 x,.int .i64 y,.int .i64 z]
section
variable {L:List (Nat×Blk)} {p p2:Option Addr} {n cap n2 cap2:Nat} {g bx tp nr md st:Int}
theorem z9w (h1:SlI L p) (h2:SlI L p2):∀ x∈#[cfV (.slice p n cap) g bx tp nr md,.agg #[.int .i64 st,.slice p2 n2 cap2]],zan (λk=>k∈zab L) x:=by
 have a:=h1 n cap
 have b:=h2 n2 cap2
 simp only [cfV,List.mem_toArray,List.mem_cons,List.not_mem_nil,or_false,forall_eq_or_imp,forall_eq]
 simp [zan,za0,zah,zal] at a b |-
 exact ⟨a,b⟩
theorem zuv {p3:Option Addr} {n3 cap3:Nat} {st3:Int} (h1:SlI L p) (h2:SlI L p2) (h3:SlI L p3):∀ x∈#[cfV (.slice p n cap) g bx tp nr md,.agg #[.int .i64 st,.slice p2 n2 cap2],.agg #[.int .i64 st3,.slice p3 n3 cap3]],zan (λk=>k∈zab L) x:=by
 have a:=h1 n cap
 have b:=h2 n2 cap2
 have c:=h3 n3 cap3
 simp only [cfV,List.mem_toArray,List.mem_cons,List.not_mem_nil,or_false,forall_eq_or_imp,forall_eq]
 simp [zan,za0,zah,zal] at a b c |-
 exact ⟨a,b,c⟩
theorem jil (hT:LAny L) (h1:SlI L p) (h2:SlI L p2) {x0 x1 x2 e:Int} (hsum:Fun prog G0 70 #[cfV (.slice p n cap) g bx tp nr md,.agg #[.int .i64 st,.slice p2 n2 cap2],.func (.func 71) #[] #[]] (hpL G0 L) (zab L) (.ret (.tuple #[v3 x0 x1 x2,.int .i64 e]) [])) :
  Fun prog G0 38 #[cfV (.slice p n cap) g bx tp nr md,.agg #[.int .i64 st,.slice p2 n2 cap2]] (hpL G0 L) (zab L) (.ret (.tuple #[v3 x0 x1 x2,.int .i64 e]) []):=by
 refine zaz (B:=200) G0F func38 rfl call38 hT.ok (z9w h1 h2) (zak (by simp [v3])) (by simp) (by simp) (by simp [ntmps38]) (by omega) ?_
 intro C hC hC0 hY
 have hLow:=hT.low
 unfold cfV v3 at hsum |-
 repeat' first|refine gwZ ?_|((first|refine gwR [70] ?_|refine gwD [70] ?_);intro Q hQ _;(repeat first|simp [hC,hY]|refine zby hsum hT.ok zg0 ?_);refine gwq hQ ?_)|refine gwC ?_ ?_<;>intro hb
 refine ⟨.inr rfl,by simp [results38],kpT G0F⟩
theorem jij (hT:LAny L) (h1:SlI L p) (h2:SlI L p2) {x0 x1 x2 e:Int} (hsum:Fun prog G0 70 #[cfV (.slice p n cap) g bx tp nr md,.agg #[.int .i64 st,.slice p2 n2 cap2],.func (.func 72) #[] #[]] (hpL G0 L) (zab L) (.ret (.tuple #[v3 x0 x1 x2,.int .i64 e]) [])) :
  Fun prog G0 39 #[cfV (.slice p n cap) g bx tp nr md,.agg #[.int .i64 st,.slice p2 n2 cap2]] (hpL G0 L) (zab L) (.ret (.tuple #[v3 x0 x1 x2,.int .i64 e]) []):=by
 refine zaz (B:=200) G0F func39 rfl call39 hT.ok (z9w h1 h2) (zak (by simp [v3])) (by simp) (by simp) (by simp [ntmps39]) (by omega) ?_
 intro C hC hC0 hY
 have hLow:=hT.low
 unfold cfV v3 at hsum |-
 repeat' first|refine gwZ ?_|((first|refine gwR [70] ?_|refine gwD [70] ?_);intro Q hQ _;(repeat first|simp [hC,hY]|refine zby hsum hT.ok zg0 ?_);refine gwq hQ ?_)|refine gwC ?_ ?_<;>intro hb
 refine ⟨.inr rfl,by simp [results39],kpT G0F⟩
end
def stP (st:Int) (p:Option Addr) (n cap:Nat):Blk:=⟨#[.int .i64 st,.slice p n cap],.ty 27⟩
def lsL (L:List (Nat×Blk)) (p pa pb:Option Addr) (n cap na capa nb capb:Nat) (g bx tp nr md sta stb:Int):List (Nat×Blk):=(200,cfB (.slice p n cap) g bx tp nr md)::(208,stP sta pa na capa)::(216,stP stb pb nb capb)::L
section
variable {L:List (Nat×Blk)} {p pa pb:Option Addr} {n cap na capa nb capb:Nat} {g bx tp nr md sta stb:Int}
theorem z29 (hT:LAny L) (h1:SlI L p) (h2:SlI L pa) (h3:SlI L pb):LOk (lsL L p pa pb n cap na capa nb capb g bx tp nr md sta stb) 300:=by
 have hL:=hT.ok
 have h9:∀ q,200<=q->q∉zab L:=λq hq h=>by
  obtain ⟨p,hp,e⟩:=zad.1 h
  have:=hL.big p hp
  omega
 have mono:∀ {p:Option Addr} {n cap:Nat},SlI L p->zah (λk=>k∈zab (lsL L p pa pb n cap na capa nb capb g bx tp nr md sta stb)) (.slice p n cap):=by
  intro p n cap h
  have:=h n cap
  cases p with
  | none=>simp [zah,zal]
  | some a =>
   simp [zah,zal] at this |-
   exact List.mem_cons_of_mem _ (List.mem_cons_of_mem _ (List.mem_cons_of_mem _ this))
 refine ⟨?_,?_,?_⟩
 ·intro p hp
  simp only [lsL,List.mem_cons] at hp
  rcases hp with rfl|rfl|rfl|hp
  ·simp
  ·simp
  ·simp
  ·have:=hL.big p hp;omega
 ·show (200::208::216::zab L).Nodup
  simp only [List.nodup_cons,List.mem_cons,not_or]
  exact ⟨⟨by omega,by omega,h9 200 (by omega)⟩,⟨by omega,h9 208 (by omega)⟩,h9 216 (by omega),hL.one⟩
 ·intro q hq
  have k1:=h1 n cap
  have k2:=h2 na capa
  have k3:=h3 nb capb
  have up:∀ {v:Value},zah (λk=>k∈zab L) v->zah (λk=>k∈zab (lsL L p pa pb n cap na capa nb capb g bx tp nr md sta stb)) v:=λ{v} h=>zet (λk hk=>List.mem_cons_of_mem _ (List.mem_cons_of_mem _ (List.mem_cons_of_mem _ hk))) h
  have u1:=up k1
  have u2:=up k2
  have u3:=up k3
  simp only [lsL,List.mem_cons] at hq
  rcases hq with rfl|rfl|rfl|hq
  ·simp only [cfB]
   refine Blk.ids_of λx hx=>?_
   simp at hx
   rcases hx with rfl|rfl|rfl|rfl|rfl|rfl
   ·exact u1
   all_goals simp [zah,zal]
  ·simp only [stP]
   refine Blk.ids_of λx hx=>?_
   simp at hx
   rcases hx with rfl|rfl
   ·simp [zah,zal]
   ·exact u2
  ·simp only [stP]
   refine Blk.ids_of λx hx=>?_
   simp at hx
   rcases hx with rfl|rfl
   ·simp [zah,zal]
   ·exact u3
  ·exact Blk.fx_ids (hT.fx q hq) _
theorem znr (hT:LAny L) (h1:SlI L p) (h2:SlI L pa) (h3:SlI L pb) {F:Nat} (hF:¬F=35) {x0 x1 x2 e y0 y1 y2 e':Int} (d0:i64 (y0 - x0)) (d1:i64 (y1 - x1)) (d2:i64 (y2 - x2))
  (hFa:Fun prog G0 F #[cfV (.slice p n cap) g bx tp nr md,.agg #[.int .i64 sta,.slice pa na capa]] (hpL G0 L) (zab L) (.ret (.tuple #[v3 x0 x1 x2,.int .i64 e]) []))
  (hFb:Fun prog G0 F #[cfV (.slice p n cap) g bx tp nr md,.agg #[.int .i64 stb,.slice pb nb capb]] (hpL G0 L) (zab L) (.ret (.tuple #[v3 y0 y1 y2,.int .i64 e']) [])) :
  Fun prog G0 34 #[.func (.func F) #[] #[],.pointer (some ⟨200,0,none⟩),.pointer (some ⟨208,0,none⟩),.pointer (some ⟨216,0,none⟩)] (hpL G0 (lsL L p pa pb n cap na capa nb capb g bx tp nr md sta stb)) (zab (lsL L p pa pb n cap na capa nb capb g bx tp nr md sta stb)) (.ret (v3 (y0 - x0) (y1 - x1) (y2 - x2)) []):=by
 have hLs:=z29 (n:=n) (cap:=cap) (na:=na) (capa:=capa) (nb:=nb) (capb:=capb) (g:=g) (bx:=bx) (tp:=tp) (nr:=nr) (md:=md) (sta:=sta) (stb:=stb) hT h1 h2 h3
 refine zaz (B:=300) G0F func34 rfl call34 hLs ?_ (zak (by simp [v3])) (by simp) (by simp) (by simp [ntmps34]) (by omega) ?_
 ·simp [zan,za0,zah,zal,lsL,zab]
 intro C hC hC0 hY
 have hLow:=hLs.low (G:=G0)
 have hml:=z53 d0 d1 d2
 have hout:∀ k,300<=k->∀ p∈L,¬p.1=k:=λk hk p hp=>by have:=hT.ok.big p hp;omega
 unfold cfV v3 at hFa hFb
 unfold v3
 unfold lsL cfB stP at hLow |-
 have hF1:(F=35)=False:=eq_false hF
 have hF2:(35=F)=False:=eq_false λh=>hF h.symm
 repeat' first|refine gwZ ?_|((first|refine gwR [F] ?_|refine gwD [F] ?_);intro Q hQ _;(repeat first|simp [hC,hY]|refine zby hFa hT.ok zg0 ?_|refine zby hFb hT.ok zg0 ?_);refine gwq hQ ?_)|refine gwC ?_ ?_<;>intro hb
 repeat' first|refine gwZ ?_|(refine gwX ?_;intro Q hQ _;simp [hC,hY,hml];refine gwq hQ ?_)|refine gwC ?_ ?_<;>intro hb
 refine ⟨.inr rfl,by simp [results34],zbz G0F (λq hq=>?_) (λk hk=>?_)⟩
 ·have hb:=hLs.big q hq
  simp (disch:=omega) only [zaa]
 ·simp (disch:=omega) only [zaa]
theorem zko (hT:LAny L) (h1:SlI L p) (h2:SlI L pa) (h3:SlI L pb) {lo hi e:Int} (he:¬e=0)
  (hEa:Fun prog G0 36 #[cfV (.slice p n cap) g bx tp nr md,.agg #[.int .i64 sta,.slice pa na capa]] (hpL G0 L) (zab L) (.ret (.tuple #[spV lo hi,.int .i64 e]) [])) :
  Fun prog G0 10 #[cfV (.slice p n cap) g bx tp nr md,.agg #[.int .i64 sta,.slice pa na capa],.agg #[.int .i64 stb,.slice pb nb capb]] (hpL G0 L) (zab L) (.ret (.tuple #[zcm λ_=>0,.int .i64 e]) []):=by
 refine zaz (B:=200) G0F func10 rfl call10 hT.ok (zuv h1 h2 h3) (zak (by simp [zcm])) (by simp) (by simp) (by simp [ntmps10]) (by omega) ?_
 intro C hC hC0 hY
 have hLow:=hT.low
 have heb:(e != 0)=true:=by simpa using he
 unfold cfV spV at hEa
 unfold cfV
 repeat' first|refine gwZ ?_|((first|refine gwR [36] ?_|refine gwD [36] ?_);intro Q hQ _;(repeat first|simp [hC,hY,he,heb]|refine zby hEa hT.ok zg0 ?_);refine gwq hQ ?_)|refine gwC ?_ ?_<;>intro hb
 refine ⟨.inr rfl,by simp [results10,zcm,zar],kpT G0F⟩
theorem zss (hT:LAny L) (h1:SlI L p) (h2:SlI L pa) (h3:SlI L pb) {lo hi lo2 hi2 e:Int} (he:¬e=0)
  (hEa:Fun prog G0 36 #[cfV (.slice p n cap) g bx tp nr md,.agg #[.int .i64 sta,.slice pa na capa]] (hpL G0 L) (zab L) (.ret (.tuple #[spV lo hi,.int .i64 0]) []))
  (hEb:Fun prog G0 36 #[cfV (.slice p n cap) g bx tp nr md,.agg #[.int .i64 stb,.slice pb nb capb]] (hpL G0 L) (zab L) (.ret (.tuple #[spV lo2 hi2,.int .i64 e]) [])) :
  Fun prog G0 10 #[cfV (.slice p n cap) g bx tp nr md,.agg #[.int .i64 sta,.slice pa na capa],.agg #[.int .i64 stb,.slice pb nb capb]] (hpL G0 L) (zab L) (.ret (.tuple #[zcm λ_=>0,.int .i64 e]) []):=by
 refine zaz (B:=200) G0F func10 rfl call10 hT.ok (zuv h1 h2 h3) (zak (by simp [zcm])) (by simp) (by simp) (by simp [ntmps10]) (by omega) ?_
 intro C hC hC0 hY
 have hLow:=hT.low
 have heb:(e != 0)=true:=by simpa using he
 unfold cfV spV at hEa hEb
 unfold cfV
 repeat' first|refine gwZ ?_|((first|refine gwR [36] ?_|refine gwD [36] ?_);intro Q hQ _;(repeat first|simp [hC,hY,he,heb]|refine zby hEa hT.ok zg0 ?_|refine zby hEb hT.ok zg0 ?_);refine gwq hQ ?_)|refine gwC ?_ ?_<;>intro hb
 refine ⟨.inr rfl,by simp [results10,zcm,zar],kpT G0F⟩
def lsN (lo hi x0 x1 x2 y0 y1 y2:Int):Nat->Int
 | 0=>lo
 | 1=>hi
 | 2=>x0
 | 3=>x1
 | 4=>x2
 | 5=>x0
 | 6=>x1
 | 7=>x2
 | 8=>y0
 | 9=>y1
 | 10=>y2
 | 11=>y0
 | 12=>y1
 | 13=>y2
 | _=>0
theorem zz3 (hT:LAny L) (h1:SlI L p) (h2:SlI L pa) (h3:SlI L pb) {lo hi lo2 hi2 p0 p1 p2 q0 q1 q2:Int}
  (hEa:Fun prog G0 36 #[cfV (.slice p n cap) g bx tp nr md,.agg #[.int .i64 sta,.slice pa na capa]] (hpL G0 L) (zab L) (.ret (.tuple #[spV lo hi,.int .i64 0]) []))
  (hEb:Fun prog G0 36 #[cfV (.slice p n cap) g bx tp nr md,.agg #[.int .i64 stb,.slice pb nb capb]] (hpL G0 L) (zab L) (.ret (.tuple #[spV lo2 hi2,.int .i64 0]) []))
  (hMP:Fun prog G0 34 #[.func (.func 38) #[] #[],.pointer (some ⟨200,0,none⟩),.pointer (some ⟨208,0,none⟩),.pointer (some ⟨216,0,none⟩)] (hpL G0 (lsL L p pa pb n cap na capa nb capb g bx tp nr md sta stb)) (zab (lsL L p pa pb n cap na capa nb capb g bx tp nr md sta stb)) (.ret (v3 p0 p1 p2) []))
  (hML:Fun prog G0 34 #[.func (.func 39) #[] #[],.pointer (some ⟨200,0,none⟩),.pointer (some ⟨208,0,none⟩),.pointer (some ⟨216,0,none⟩)] (hpL G0 (lsL L p pa pb n cap na capa nb capb g bx tp nr md sta stb)) (zab (lsL L p pa pb n cap na capa nb capb g bx tp nr md sta stb)) (.ret (v3 q0 q1 q2) [])) :
  Fun prog G0 10 #[cfV (.slice p n cap) g bx tp nr md,.agg #[.int .i64 sta,.slice pa na capa],.agg #[.int .i64 stb,.slice pb nb capb]] (hpL G0 L) (zab L) (.ret (.tuple #[zcm (lsN (lo2 - hi) (hi2 - lo) p0 p1 p2 q0 q1 q2),.int .i64 0]) []):=by
 have hLs:=z29 (n:=n) (cap:=cap) (na:=na) (capa:=capa) (nb:=nb) (capb:=capb) (g:=g) (bx:=bx) (tp:=tp) (nr:=nr) (md:=md) (sta:=sta) (stb:=stb) hT h1 h2 h3
 refine zaz (B:=200) G0F func10 rfl call10 hT.ok (zuv h1 h2 h3) (zak (by simp [zcm])) (by simp) (by simp) (by simp [ntmps10]) (by omega) ?_
 intro C hC hC0 hY
 have hLow:=hT.low
 have hLs3:∀ {hp:Hp},hp 200=some (cfB (.slice p n cap) g bx tp nr md)->hp 208=some (stP sta pa na capa)->hp 216=some (stP stb pb nb capb)->(∀ q∈L,hp q.1=some q.2)->∀ q∈lsL L p pa pb n cap na capa nb capb g bx tp nr md sta stb,hp q.1=some q.2:=λa b c d q hq=>by
  simp only [lsL,List.mem_cons] at hq
  rcases hq with rfl|rfl|rfl|hq
  ·exact a
  ·exact b
  ·exact c
  ·exact d q hq
 unfold cfV spV at hEa hEb
 unfold v3 at hMP hML
 unfold cfV zcm
 repeat' first|refine gwZ ?_|((first|refine gwR [36] ?_|refine gwD [36] ?_);intro Q hQ _;(repeat first|simp [hC,hY]|refine zby hEa hT.ok zg0 ?_|refine zby hEb hT.ok zg0 ?_);refine gwq hQ ?_)|refine gwC ?_ ?_<;>intro hb
 repeat' first|refine gwZ ?_|((first|refine gwR [34] ?_|refine gwD [34] ?_);intro Q hQ _;(repeat first|simp [hC,hY]|refine zqt hMP hLs (hLs3 (by simp [cfB]) (by simp [stP]) (by simp [stP]) zg0) ?_|refine zqt hML hLs (hLs3 (by simp [cfB]) (by simp [stP]) (by simp [stP]) zg0) ?_);refine hQ _ _ _ _ ?_ ?_;(focus (first|(rfl;done)|(refine zu4 ?_;(repeat (first|(exact λq hq=>roN hq;done)|refine ro1 ?_|refine ro2 ?_));done)|(refine zzb (by kernel_rfl) (zu4 ?_);(repeat (first|(exact λq hq=>roN hq;done)|refine ro1 ?_|refine ro2 ?_));done))))|refine gwC ?_ ?_<;>intro hb
 refine ⟨.inr rfl,by simp [results10,lsN],kpT G0F⟩
end
def lix (w:Nat->Nat->Int) (n:Nat):List Nat:=(List.range n).filter λi=>zcp (w i)
theorem zc5 (w:Nat->Nat->Int) (n:Nat):zcr w (n+1)=zcr w n+if zcp (w n) then 1 else 0:=rfl
theorem zlx (w:Nat->Nat->Int) (n:Nat):lix w (n+1)=lix w n++if zcp (w n) then [n] else []:=by
 unfold lix
 rw [List.range_succ,List.filter_append]
 congr 1
 cases h:zcp (w n)<;>simp [h]
theorem ze4 (w:Nat->Nat->Int):∀ n,(lix w n).length=zcr w n
 | 0=>rfl
 | n+1=>by
  rw [zlx,List.length_append,ze4 w n,zcr]
  split<;>rfl
theorem z26 {w:Nat->Nat->Int}:∀ {n i:Nat},i<n->zcp (w i)=true->(lix w n)[zcr w i]? = some i
 | 0,i,h,_=>absurd h (Nat.not_lt_zero i)
 | n+1,i,h,hf=>by
  rw [zlx]
  by_cases e:i=n
  ·subst e
   rw [List.getElem?_append_right (by rw [ze4];exact Nat.le_refl _),ze4,Nat.sub_self,if_pos hf]
   rfl
  ·have ih:=z26 (w:=w) (n:=n) (i:=i) (by omega) hf
   rw [List.getElem?_append_left (List.getElem?_eq_some_iff.1 ih).1]
   exact ih
theorem zv5 {w:Nat->Nat->Int} {n i:Nat} (h:i∈lix w n):i<n/\zcp (w i)=true:=by
 unfold lix at h
 rw [List.mem_filter,List.mem_range] at h
 exact h
theorem zzh {w:Nat->Nat->Int} {n m:Nat} (h:n<=m):zcr w n<=zcr w m:=by
 induction m with
 | zero=>rw [Nat.le_zero.1 h];exact Nat.le_refl _
 | succ m ih =>
  by_cases e:n=m+1
  ·rw [e];exact Nat.le_refl _
  ·have:=ih (by omega)
   rw [zc5]
   omega
theorem zqy (w:Nat->Nat->Int) (stop:Nat):∀ n,∃ N,N<=n/\(∀ i,i<N->zcp (w i)=true->zcr w i<stop)/\((N=n/\zcr w n<=stop)\/(N<n/\zcp (w N)=true/\zcr w N=stop))
 | 0=>⟨0,Nat.le_refl _,λi hi=>absurd hi (Nat.not_lt_zero i),.inl ⟨rfl,Nat.zero_le _⟩⟩
 | n+1=>by
  obtain ⟨N,h1,h2,h3⟩:=zqy w stop n
  rcases h3 with ⟨rfl,h3⟩|h3
  ·cases hf:zcp (w N) with
   | false =>
    refine ⟨N+1,Nat.le_refl _,λi hi hfi=>?_,.inl ⟨rfl,by rw [zc5,hf];exact h3⟩⟩
    by_cases e:i=N
    ·subst e;rw [hf] at hfi;cases hfi
    ·exact h2 i (by omega) hfi
   | true =>
    by_cases e:zcr w N=stop
    ·exact ⟨N,Nat.le_succ _,h2,.inr ⟨Nat.lt_succ_self _,hf,e⟩⟩
    ·refine ⟨N+1,Nat.le_refl _,λi hi hfi=>?_,.inl ⟨rfl,by rw [zc5,hf,if_pos rfl];omega⟩⟩
     by_cases e2:i=N
     ·subst e2;omega
     ·exact h2 i (by omega) hfi
  ·exact ⟨N,by omega,h2,.inr ⟨by omega,h3.2⟩⟩
theorem LB.loss {b:Blk} {off n:Nat} {w:Nat->Nat->Int} (h:LB b off n w) {i:Nat} (hi:i<n):zc2 prog 38 b (off+i*14)=some (zcm (w i)):=by
 have hbrd:=Blk.fx_rd h.fx
 have:=jbw (P:=prog) (T:=38) (m:=14) (j:=14*i) (zba isAgg38) (zai sizeOf38) (by omega) h.rd (by omega) (λq hq=>by unfold zdo;exact zd1 _ _)
 rw [show off+i*14=off+14*i by omega,this,<-z0o]
 refine congrArg some (congrArg Value.agg (zno (by simp) λj hj=>?_))
 rw [zki _ _ hj]
 unfold zdo
 rw [show (14*i+j) / 14=i by omega,show (14*i+j)%14=j by omega]
theorem LB.ok1 {b:Blk} {off n:Nat} {w:Nat->Nat->Int} (h:LB b off n w) {i:Nat} (hi:i<n):LsOk (w i):=⟨(h.wr i hi).1,(h.wr i hi).2,h.i64 i hi,h.ok i⟩
theorem zqo {w:Nat->Int} (h:LsOk w):(zch (sz (w 0)) (sz (w 1))<=0)=(zcp w=true):=by
 rw [zd7 h.w0.1 h.w0.2,zd7 h.w1.1 h.w1.2]
 unfold zcp zch
 apply propext
 rw [decide_eq_true_eq]
 constructor
 ·intro h;split at h<;>(try split at h)<;>omega
 ·intro h;split<;>(try split)<;>omega
def slB (k off n cap:Nat):Blk:=⟨#[.slice (some ⟨k,off,none⟩) n cap],.ty 36⟩
def z9q (nk k off n cap:Nat) (v:Value) (ns:List (Nat×Blk)):Prop:=v=.func (.func 80) #[] #[.pointer (some ⟨nk,0,none⟩)]/\ns=[(nk,slB k off n cap)]
theorem z0p (b:Blk) (hb:b.fx) (off n cap:Nat) :
  FunS prog G0 48 #[.slice (some ⟨100,off,none⟩) n cap] (hpL G0 [(100,b)]) (zab [(100,b)]) (z9q 1000 100 off n cap):=by
 refine zei (B:=200) G0F func48 rfl call48 (zax hb) ?_ ?_ (by simp [ntmps48]) (by omega) ?_
 ·simp [zan,za0,zah,zal,zab]
 ·rintro v ns ⟨rfl,rfl⟩
  refine ⟨by simp [zan,za0,zah,zal,zcu,zab],?_,?_⟩
  ·simp [slB,zac,zah,zal,zcu,zab]
  ·intro k b c h1 h2
   simp at h1 h2
   obtain ⟨_,rfl⟩:=h1
   obtain ⟨_,rfl⟩:=h2
   rfl
 intro C hC hC0 hY
 repeat' first|refine gwZ ?_|refine gwW ?_|refine gwC ?_ ?_<;>intro hb
 refine ⟨.inr trivial,kpS G0F,_,_,λk=>if k=1000 then 200 else k,⟨rfl,rfl⟩,λk hk=>if_neg (by omega),by simp,by simp,by simp [results48,ren,zay,zaj,zam],?_⟩
 simp [slB,Blk.rn,zaj,zam]
def loL (b:Blk) (off n cap:Nat):List (Nat×Blk):=[(100,b),(108,slB 100 off n cap)]
theorem zv6 {b:Blk} (hb:b.fx) (off n cap:Nat):LOk (loL b off n cap) 200:=⟨by simp [loL],by simp [loL,zab],by
 simp only [loL,List.mem_cons,List.not_mem_nil,or_false,forall_eq_or_imp,forall_eq]
 exact ⟨Blk.fx_ids hb _,by simp [slB,zac,zah,zal,zab]⟩⟩
def zv7 (w:Nat->Nat->Int) (n:Nat):List (Array Value):=(lix w n).map λi=>#[zcm (w i)]
theorem zqz (w:Nat->Nat->Int) (n:Nat):(zv7 w n).length=zcr w n:=by rw [zv7,List.length_map,ze4]
theorem zv8 {w:Nat->Nat->Int} {n i:Nat} (h:i<n) (hf:zcp (w i)=true):(zv7 w n)[zcr w i]? = some #[zcm (w i)]:=by
 rw [zv7,List.getElem?_map,z26 h hf]
 rfl
def jft (b:Blk) (off n cap:Nat) (w:Nat->Nat->Int) (l i:Nat):GS :=
 ⟨tsL [(0,.func (.yield l) #[] #[]),(1,.pointer (some ⟨108,0,none⟩)),(5,.slice (some ⟨100,off,none⟩) n cap),(6,.int .i64 n),(7,.int .i64 i)],hpL G0 (loL b off n cap),300,zcr w i⟩
theorem zwd (b:Blk) (off n cap:Nat) (w:Nat->Nat->Int) (h:LB b off n w) :
  IterK prog G0 80 #[.pointer (some ⟨108,0,none⟩)] (hpL G0 (loL b off n cap)) (zab (loL b off n cap)) (zv7 w n):=by
 refine zc7 (B:=200) (v:=.tuple #[]) G0F func80 rfl call80 (zv6 h.fx off n cap) ?_ (by simp [ntmps80]) (by omega) ?_
 ·simp [zan,za0,zah,zal,loL,zab]
 intro C l stop hC hC0 hY
 have hnn:=h.nn
 have hid:=λD=>Blk.fx_ids h.fx D
 have hL:=zv6 h.fx off n cap
 have hlt:∀ k,dom (hpL G0 (loL b off n cap)) k->k<200:=λk hk=>Classical.byContradiction λh1=>hk (hL.free G0F (by omega) k (by omega))
 obtain ⟨N,hN,hpre,hfin⟩:=zqy w stop n
 have hlen:=zqz w n
 unfold loL slB
 repeat' first|refine gwZ ?_|refine gwW ?_|refine gwC ?_ ?_<;>intro hb
 refine zc3 N (jft b off n cap w l) ?_ ?_ ?_
 ·refine zbi _ 300 hC G0F (m0:=loL b off n cap) hC0 (by omega) ?_ ?_ ?_
  ·simp [zan,za0,zah,zal,dom,loL]
  ·simp [loL,slB,zac,zah,zal,hid,dom]
  ·simp [loL,slB]
 ·intro i hi
  have hin:i<n:=by omega
  have hi':(i:Int)<n:=by omega
  have hz:(0:Int)<=i:=by omega
  have hs:Int.bmod ((i:Int)+1) 18446744073709551616=((i+1:Nat):Int):=by rw [bm (by omega) (by omega)];rfl
  have hld:=h.loss hin
  have hok:=zqo (h.ok1 hin)
  unfold jft loL slB
  unfold zcm at hld
  cases hf:zcp (w i) with
  | true =>
   have hst:=hpre i hi hf
   have hx:=zv8 hin hf
   unfold zcm at hx
   have hq2:(zcr w i != stop)=true:=by simp;omega
   have hle:zcr w i<=stop:=by omega
   have hcs:zcr w (i+1)=zcr w i+1:=by rw [zc5,hf];rfl
   rw [hf] at hok
   have hok2:(zch (sz (w i 0)) (sz (w i 1))<=0)=True:=hok.trans (by simp)
   repeat' first|refine gwZ ?_|(refine gwX ?_;intro Q hQ _;simp [hC,hY,hin,hi',hz,hs,hq2,hle,hld,hx,hok2];refine gwq hQ ?_)|refine gwC ?_ ?_<;>intro hb
   rw [<-hcs]
   refine zbi _ 300 hC G0F (m0:=loL b off n cap) hC0 (by omega) ?_ ?_ ?_
   ·simp [zan,za0,zah,zal,dom,loL,hs]
   ·simp [loL,slB,zac,zah,zal,hid,dom]
   ·simp [loL,slB]
  | false =>
   have hcs:zcr w (i+1)=zcr w i:=by rw [zc5,hf];rfl
   rw [hf] at hok
   have hok2:(zch (sz (w i 0)) (sz (w i 1))<=0)=False:=hok.trans (by simp)
   repeat' first|refine gwZ ?_|(refine gwX ?_;intro Q hQ _;simp [hC,hY,hin,hi',hz,hs,hld,hok2];refine gwq hQ ?_)|refine gwC ?_ ?_<;>intro hb
   rw [<-hcs]
   refine zbi _ 300 hC G0F (m0:=loL b off n cap) hC0 (by omega) ?_ ?_ ?_
   ·simp [zan,za0,zah,zal,dom,loL,hs]
   ·simp [loL,slB,zac,zah,zal,hid,dom]
   ·simp [loL,slB]
 ·rcases hfin with ⟨rfl,hc⟩|⟨hlt2,hf,hc⟩
  ·unfold jft
   repeat' first|refine gwZ ?_|refine gwW ?_|refine gwC ?_ ?_<;>intro hb
   refine ⟨.inl trivial,by simp [results80],by rw [hlen];omega,λk hk=>?_⟩
   have hk:=hlt k hk
   first|rfl|(simp (disch:=omega) only [zaa])
  ·have hi':(N:Int)<n:=by omega
   have hz:(0:Int)<=N:=by omega
   have hld:=h.loss hlt2
   have hx:=zv8 hlt2 hf
   have hok:=zqo (h.ok1 hlt2)
   rw [hf] at hok
   have hok2:(zch (sz (w N 0)) (sz (w N 1))<=0)=True:=hok.trans (by simp)
   have hcs:zcr w (N+1)=zcr w N+1:=by rw [zc5,hf];rfl
   have hmono:=zzh (w:=w) (n:=N+1) (m:=n) (by omega)
   unfold jft loL slB
   unfold zcm at hld hx
   subst hc
   repeat' first|refine gwZ ?_|(refine gwX ?_;intro Q hQ _;simp [hC,hY,hlt2,hi',hz,hld,hx,hok2];refine gwq hQ ?_)|refine gwC ?_ ?_<;>intro hb
   refine ⟨.inr trivial,by simp [results80],by rw [hlen];first|omega|(simp;omega),λk hk=>?_⟩
   have hk:=hlt k hk
   first|rfl|(simp (disch:=omega) only [zaa];done)|(simp (disch:=omega) only [zaa];rfl)
def jbz (nk k:Nat):Nat:=if k=1000 then nk else k
theorem z50 {nk k off n cap:Nat} {ρ:Nat->Nat} (h0:ρ 1000=nk) (h1:ρ k=k):RR ρ (z9q 1000 k off n cap)=z9q nk k off n cap:=by
 funext v ns
 apply propext
 constructor
 ·rintro ⟨v0,ns0,⟨rfl,rfl⟩,rfl,rfl⟩
  exact ⟨by simp [ren,zay,zaj,zam,h0],by simp [rnL,slB,Blk.rn,zaj,zam,h0,h1]⟩
 ·rintro ⟨rfl,rfl⟩
  exact ⟨_,_,⟨rfl,rfl⟩,by simp [ren,zay,zaj,zam,h0],by simp [rnL,slB,Blk.rn,zaj,zam,h0,h1]⟩
theorem zi0 {nk k off n cap:Nat} {v:Value} {ns:List (Nat×Blk)} (h:z9q nk k off n cap v ns):∀ q∈zab ns,q=nk:=by
 obtain ⟨rfl,rfl⟩:=h
 intro q hq
 simpa [zab] using hq
theorem zwc (nk:Nat) (hnk:200<=nk) (b:Blk) (hb:b.fx) (off n cap:Nat) :
  FunS prog G0 48 #[.slice (some ⟨100,off,none⟩) n cap] (hpL G0 [(100,b)]) [100] (z9q nk 100 off n cap):=by
 have e1:jbz nk 100=100:=rfl
 have e2:jbz nk 1000=nk:=rfl
 refine (z0p b hb off n cap).mvL (hp':=hpL G0 [(100,b)]) (rs':=[100]) G0F (zax hb) (jbz nk) (λk hk=>if_neg (by omega)) ?_ (by simp [zab,e1]) (z50 e2 e1) (λk hk=>za7 (by simp) hk) ?_ (by simp [zab]) (λv ns hV k hk=>?_) (λv ns hV k hk l hl e=>by rw [zi0 hV k hk,zi0 hV l hl])
 ·simp [ren,zay,zaj,zam,e1]
 ·intro p hp
  simp only [List.mem_singleton] at hp
  subst hp
  simp only [e1]
  exact ⟨by omega,by rw [Blk.fx_rn hb];simp⟩
 ·rw [zi0 hV k hk,e2]
  exact ⟨by omega,by simp;omega⟩
theorem zs3 (nk:Nat) (hnk:200<=nk) (b:Blk) (off n cap:Nat) (w:Nat->Nat->Int) (h:LB b off n w) {hp:Hp} (hG:∀ k,k<100->hp k=G0 k) (ha:hp 100=some b) (hc:hp nk=some (slB 100 off n cap)) :
  IterK prog G0 80 #[.pointer (some ⟨nk,0,none⟩)] hp [100,nk] (zv7 w n):=by
 refine zef (zwd b off n cap w h) G0F (zv6 h.fx off n cap) (λk=>if k=108 then nk else k) (λk hk=>if_neg (by omega)) (by simp [zam]) (by simp [loL,zab]) hG ?_ ?_
 ·simp only [loL,List.mem_cons,List.not_mem_nil,or_false,forall_eq_or_imp,forall_eq]
  refine ⟨⟨by simp,?_⟩,by simp;omega,?_⟩
  ·rw [Blk.fx_rn h.fx];exact ha
  ·simp [slB,Blk.rn,zaj,zam]
   exact hc
 ·simp only [loL,zab,List.map_cons,List.map_nil,List.mem_cons,List.not_mem_nil,or_false]
  rintro k (rfl|rfl) l (rfl|rfl) e<;>simp at e<;>omega
end Go.Gy
namespace Go.Gy
open Go Go.RowKit Go.Proofs
theorem zp9 {P:Program} {C:Ctx} {n:Nat} {d:List Deferred} {ro:Option Nat} {x y:Code} {s:GS} {K:Exit->GS->Prop} (S1:GS) (h1:GW P C n d ro x s (zbo (λs'=>Weak C s' S1) (λ_ _=>False))) (h2:GW P C n d ro y S1 K):GW P C n d ro (.seq x y) s K :=
 zgm (zb2 h1 λe s' h=>by
  cases e with
  | normal=>exact zox h h2
  | _=>exact h.elim)
def HS.hq (h:HS) (w:Nat->Nat->Int) (l:List Nat):Nat->HS
 | 0=>h
 | c+1=>(h.hq w l c).one (w (l.getD c 0))
theorem je2 (h:HS) (w:Nat->Nat->Int) (l:List Nat):∀ c,(h.hq w l c).N=h.N+c
 | 0=>(Int.add_zero _).symm
 | c+1=>by
  have ih:=je2 h w l c
  unfold HS.hq HS.one
  simp only [ih]
  omega
theorem zvw (h:HS) (w:Nat->Nat->Int) (l l2:List Nat):∀ c,c<=l.length->h.hq w (l++l2) c=h.hq w l c
 | 0,_=>rfl
 | c+1,hc=>by
  have ih:=zvw h w l l2 c (by omega)
  have e:(l++l2).getD c 0=l.getD c 0:=by
   rw [List.getD_eq_getElem?_getD,List.getD_eq_getElem?_getD,List.getElem?_append_left (by omega)]
  unfold HS.hq
  rw [ih,e]
def tkM (h:HS) (w:Nat->Nat->Int) (n:Nat):Nat:=min (zcr w n) (1073741824 - h.N).toNat
theorem z7e {h:HS} {w:Nat->Nat->Int} (h0:0<=h.N/\h.N<=1073741824):∀ n,h.tk w n=h.hq w (lix w n) (tkM h w n)
 | 0=>by
  have:tkM h w 0=0:=by unfold tkM;rw [show zcr w 0=0 from rfl];omega
  rw [this]
  rfl
 | n+1=>by
  have ih:=z7e (h:=h) (w:=w) h0 n
  have hl:=ze4 w n
  have hN:=je2 h w (lix w n) (tkM h w n)
  have hle:tkM h w n<=zcr w n:=Nat.min_le_left _ _
  unfold HS.tk
  rw [ih]
  rw [zlx]
  cases hf:zcp (w n) with
  | false =>
   have e:tkM h w (n+1)=tkM h w n:=by unfold tkM;rw [zc5,hf];rfl
   rw [if_neg (by simp),e]
   simp
  | true =>
   by_cases hm:(h.hq w (lix w n) (tkM h w n)).N=1073741824
   ·have e:tkM h w (n+1)=tkM h w n:=by unfold tkM at *;rw [zc5,hf,if_pos rfl];omega
    rw [if_neg (by simp [hm]),e,zvw _ _ _ _ _ (by omega)]
   ·have e:tkM h w (n+1)=tkM h w n+1:=by unfold tkM at *;rw [zc5,hf,if_pos rfl];omega
    have e2:tkM h w n=zcr w n:=by unfold tkM at *;omega
    rw [if_pos ⟨rfl,hm⟩,e]
    have e3:(lix w n++if (true:Bool)=true then [n] else []).getD (tkM h w n) 0=n:=by
     rw [if_pos rfl,List.getD_eq_getElem?_getD,List.getElem?_append_right (by omega),hl,e2,Nat.sub_self]
     rfl
    show _=HS.one _ _
    rw [zvw _ _ _ _ _ (by omega),e3]
theorem HOk.one {N:Int} {v w:Nat->Int} (h:HOk N v) (hl:LsOk w) (h0:0<=N) (hN:N<1073741824):HOk (HS.one ⟨N,v⟩ w).N (HS.one ⟨N,v⟩ w).v:=by
 have key:∀ {P:Int->Prop} (c:Nat),P (v c)->P (w c)->P ((HS.one ⟨N,v⟩ w).v c):=λ{P} c h1 h2=>by
  unfold HS.one mm
  simp only
  split
  ·exact h2
  ·split
   ·rcases Int.le_total (v c) (w c) with h|h
    ·rw [Int.min_eq_left h];exact h1
    ·rw [Int.min_eq_right h];exact h2
   ·rcases Int.le_total (v c) (w c) with h|h
    ·rw [Int.max_eq_right h];exact h2
    ·rw [Int.max_eq_left h];exact h1
 refine ⟨⟨?_,?_⟩,λc h1 h2=>key (P:=i64) c (h.i c h1 h2) (hl.i c h1 h2),key (P:=wr) 0 h.w0 hl.w0,key (P:=wr) 1 h.w1 hl.w1⟩<;>(unfold HS.one;simp only;omega)
theorem HOk.hq {h:HS} (hk:HOk h.N h.v) (h0:0<=h.N) {w:Nat->Nat->Int} {l:List Nat} (hl:∀ i∈l,LsOk (w i)):∀ c,c<=l.length->h.N+c<=1073741824->HOk (h.hq w l c).N (h.hq w l c).v
 | 0,_,_=>hk
 | c+1,h1,h2=>by
  have ih:=HOk.hq hk h0 hl c (by omega) (by omega)
  have hN:=je2 h w l c
  have hm:l.getD c 0∈l:=by
   rw [List.getD_eq_getElem?_getD,List.getElem?_eq_getElem (by omega)]
   exact List.getElem_mem _
  have:=HOk.one ih (hl _ hm) (by omega) (by omega)
  exact this
def stc (c:Nat):Nat:=if c<2 then c else 2+2*((c - 2)%3)+(c - 2) / 6
def mxv (V v:Nat->Int) (k c:Nat):Int:=if stc c<k then V c else v c
theorem z6b {V v:Nat->Int} {c:Nat} (h:c<14):mxv V v 8 c=V c:=by
 have:stc c<8:=by unfold stc;split<;>omega
 unfold mxv
 rw [if_pos this]
theorem zgu {N:Int} {v v':Nat->Int} (h:∀ c,c<14->v c=v' c):za8 N v=za8 N v':=by
 unfold za8
 rw [h 0 (by omega),h 1 (by omega),h 2 (by omega),h 3 (by omega),h 4 (by omega),h 5 (by omega),h 6 (by omega),h 7 (by omega),h 8 (by omega),h 9 (by omega),h 10 (by omega),h 11 (by omega),h 12 (by omega),h 13 (by omega)]
theorem jir (N:Int) (V v:Nat->Int):za8 N (mxv V v 8)=za8 N V:=zgu λc hc=>z6b hc
theorem zu8 {x y:Int}:(zch x y<0)=(x<y):=by
 unfold zch
 apply propext
 constructor
 ·intro h;split at h<;>(try split at h)<;>omega
 ·intro h;split<;>(try split)<;>omega
theorem jcc {c:Nat} (h:zlm c=true) (x y:Int):mm c x y=min x y:=if_pos h
theorem jcb {c:Nat} (h:zlm c=false) (x y:Int):mm c x y=max x y:=by unfold mm;rw [if_neg (by rw [h];decide)]
def zov (h:HS) (w:Nat->Nat->Int) (n:Nat):HS:=if ze7 h=true then h.tk w n else h
def zd9 (h:HS):Value:=zbq h.N h.v
end Go.Gy
namespace Go.Gy
open Go Go.RowKit Go.Proofs Go.Proofs.Tryz
def zhB:Blk:=zav 0 λ_=>0
def tkL (h:HS):List (Nat×Blk):=[(200,zav h.N h.v),(208,zhB)]
theorem zhd (b:Blk) (off n cap:Nat) (w:Nat->Nat->Int) (hL:LB b off n w) (N:Int) (v:Nat->Int) (h:HOk N v) :
  Fun prog G0 16 #[zbq N v,.slice (some ⟨100,off,none⟩) n cap] (hpL G0 [(100,b)]) (zab [(100,b)]) (.ret (zd9 (zov ⟨N,v⟩ w n)) []):=by
 have hR:=ze3 h
 unfold zbq za8 at hR |-
 refine zaz (B:=200) G0F func16 rfl call16 (zax hL.fx) ?_ (zak (by simp [zd9,zbq,za8])) (by simp) (by simp) (by simp [ntmps16]) (by omega) ?_
 ·simp [zan,za0,zah,zal,zab]
 intro C hC hC0 hY
 unfold zov
 cases hr:ze7 ⟨N,v⟩ with
 | false =>
  rw [hr] at hR
  repeat' first|refine gwZ ?_|(refine gwX ?_;intro Q hQ _;simp [hC,hY,hR];refine gwq hQ ?_)|refine gwC ?_ ?_<;>intro hb
  refine ⟨.inr rfl,?_,kpS G0F⟩
  simp [results16,zd9,zbq,za8]
 | true =>
  rw [hr] at hR
  repeat' first|refine gwZ ?_|(refine gwX ?_;intro Q hQ _;simp [hC,hY,hR];refine gwq hQ ?_)|refine gwC ?_ ?_<;>intro hb
  have hlo:=zwc 248 (by omega) b hL.fx off n cap
  refine zdf ?_
  simp only [Array.toList]
  refine gwl 1 ?_;intro Q hQ;simp [hC,hY];apply hQ
  simp only [wT,wM,Nat.reduceAdd]
  refine zeb (f:=.func 48) (cap:=#[]) hC hlo rfl (by simp) rfl rfl (by simp [okT]) (by simp [gev]) (by simp) (by simp [okX,zcj]) (by simp [gev]) (by simp) (by (intro k hk;first|rfl|(simp (disch:=omega) only [zbw,List.mem_cons,List.not_mem_nil,or_false,zaa,zag,zaq,if_neg,zbb]<;>done))) ?_ ?_
  ·intro w ns hV k hk
   rw [zi0 hV k hk]
   omega
  rintro w' ns ⟨rfl,rfl⟩
  refine zec ?_
  repeat' first|refine gwZ ?_|(refine gwX ?_;intro Q hQ _;simp [hC,hY,zcq,zbb];refine gwq hQ ?_)|refine gwC ?_ ?_<;>intro hb
  simp only [zcq,zbb]
  have hCC:=hC
  have hYY:=hY
  have hN:=zw2 hr
  simp only at hN
  have hlen:=zqz w n
  have hM:tkM ⟨N,v⟩ w n<=zcr w n:=Nat.min_le_left _ _
  have hM2:N+tkM ⟨N,v⟩ w n<=1073741824:=by unfold tkM;simp only;omega
  have hls:∀ i∈lix w n,LsOk (w i):=λi hi=>hL.ok1 (zv5 hi).1
  have hok:∀ c,c<=tkM ⟨N,v⟩ w n->HOk (HS.hq ⟨N,v⟩ w (lix w n) c).N (HS.hq ⟨N,v⟩ w (lix w n) c).v:=λc hc=>HOk.hq (h:=⟨N,v⟩) h hN.1 hls c (by rw [ze4];omega) (by simp only;omega)
  have hnn:=je2 ⟨N,v⟩ w (lix w n)
  have hix:=λN v D=>Blk.fx_ids (zci N v) D
  refine zgp (G:=G0) (f:=80) (rs:=[100,248]) (xs:=zv7 w n) (caps:=#[.pointer (some ⟨248,0,none⟩)]) (m0:=[(100,b)]) [100,248] G0F hC hC0 hY (by simp) ?_ ?_ (by simp [ntmps16]) [(2,.pointer (some ⟨200,0,none⟩)),(4,.pointer (some ⟨208,0,none⟩))] [] (λc=>tkL (HS.hq ⟨N,v⟩ w (lix w n) c)) 1000 (tkM ⟨N,v⟩ w n) (by rw [hlen];exact hM) (by omega) (by simp) (by simp [dom]) ?_ (by simp) (by simp) ?_ ?_ (by simp) ?_ ?_
  ·exact zs3 248 (by omega) b off n cap w hL (by (intro k hk;first|rfl|(simp (disch:=omega) only [zbw,List.mem_cons,List.not_mem_nil,or_false,zaa,zag,zaq,if_neg,zbb]<;>done))) (by simp) (by simp)
  ·intro x hx
   unfold zv7 at hx
   obtain ⟨i,_,rfl⟩:=List.mem_map.1 hx
   simp [zcm]
  ·intro k hk b' hb'
   simp only [List.mem_cons,List.not_mem_nil,or_false] at hk
   rcases hk with rfl|rfl
   ·simp at hb';subst hb';exact Blk.fx_ids hL.fx _
   ·simp at hb';subst hb';simp [slB,zac,zah,zal]
  ·simp [tkL,HS.hq,zhB,zav,za8,zar]
  ·intro i hi
   simp [tkL,zhB,zan,za0,zah,zal,dom,hix]
  ·intro c x hc hx C1 j c1 c2 c3
   have hcl:c<(lix w n).length:=by rw [ze4];omega
   have hx2:x=#[zcm (w ((lix w n).getD c 0))]:=by
    unfold zv7 at hx
    rw [List.getElem?_map,List.getElem?_eq_getElem hcl] at hx
    rw [List.getD_eq_getElem?_getD,List.getElem?_eq_getElem hcl]
    exact (Option.some.inj hx).symm
   subst hx2
   have hlw:LsOk (w ((lix w n).getD c 0)):=hls _ (by rw [List.getD_eq_getElem?_getD,List.getElem?_eq_getElem hcl];exact List.getElem_mem _)
   have hH:=hok c (by omega)
   have hHN:=hnn c
   have e1:HS.hq ⟨N,v⟩ w (lix w n) (c+1)=(HS.hq ⟨N,v⟩ w (lix w n) c).one (w ((lix w n).getD c 0)):=rfl
   rw [e1]
   simp only at hHN
   have hb1:0<=(HS.hq ⟨N,v⟩ w (lix w n) c).N:=by omega
   have hb2:(HS.hq ⟨N,v⟩ w (lix w n) c).N<1073741824:=by omega
   clear hHN e1
   generalize w ((lix w n).getD c 0)=lw at *
   generalize HS.hq ⟨N,v⟩ w (lix w n) c=H at *
   obtain ⟨N',v'⟩:=H
   simp only at hH hb1 hb2
   clear hC hY hr hR hok hls hix hnn hcl hx
   have hC:=c1
   have hY:=c3
   unfold tkL zcm
   simp only [HS.one]
   have hs:Int.bmod (N'+1) 18446744073709551616=N'+1:=bm (by omega) (by omega)
   have hbN:(N'==1073741824)=false:=by simp;omega
   have hNe:¬N'=1073741824:=by omega
   repeat' first|refine gwZ ?_|(refine gwX ?_;intro Q hQ _;simp [hC,hY,zao];refine gwq hQ ?_)|refine gwC ?_ ?_<;>intro hb
   intro C2 hC2 hh2 hY2 hat
   clear hC hY
   have hC:=hC2
   have hY:=hY2
   generalize hVd:(λc=>if N'=0 then lw c else mm c (v' c) (lw c))=V
   have hV:∀ c,V c=if N'=0 then lw c else mm c (v' c) (lw c):=λc=>by rw [<-hVd]
   have hix:=λN v D=>Blk.fx_ids (zci N v) D
   have hil:=λD=>Blk.fx_ids (zkq lw) D
   refine zk8 ?_
   have hm0:C2.hp0=hpL G0 [(200,zav N' v'),(208,zhB)]:=hh2
   have hiz:=λD=>Blk.fx_ids (zci 0 λ_=>0) D
   have ez:zhB=zav 0 λ_=>0:=rfl
   refine zp9 ⟨tsL [(2,.pointer (some ⟨200,0,none⟩)),(4,.pointer (some ⟨208,0,none⟩)),(5,.pointer (some ⟨1000,0,none⟩))],hpL G0 [(200,zav N' v'),(208,zhB),(1000,loB lw)],1100,0⟩ ?_ ?_
   ·unfold zav za8
    repeat' first|refine gwZ ?_|(refine gwX ?_;intro Q hQ _;simp [hC,hY,hbN,hNe];refine gwq hQ ?_)|refine gwC ?_ ?_<;>intro hb
    refine zbi _ 1100 hC G0F (m0:=[(200,zav N' v'),(208,zhB)]) hm0 (by omega) ?_ ?_ ?_
    ·simp [zan,za0,zah,zal,dom]
    ·simp [zac,zah,zal,hil,ez,hiz]
     simp [loB]
    ·simp [zav,za8]
   refine zp9 ⟨tsL [(2,.pointer (some ⟨200,0,none⟩)),(4,.pointer (some ⟨208,0,none⟩)),(5,.pointer (some ⟨1000,0,none⟩)),(6,.pointer (some ⟨1124,0,none⟩))],hpL G0 [(200,zav N' v'),(208,zhB),(1000,loB lw),(1124,⟨#[.bool (N'==0)],.ty 4⟩)],1200,0⟩ ?_ ?_
   ·unfold zav za8
    repeat' first|refine gwZ ?_|(refine gwX ?_;intro Q hQ _;simp [hC,hY,hbN,hNe];refine gwq hQ ?_)|refine gwC ?_ ?_<;>intro hb
    refine zbi _ 1200 hC G0F (m0:=[(200,zav N' v'),(208,zhB)]) hm0 (by omega) ?_ ?_ ?_
    ·simp [zan,za0,zah,zal,dom]
    ·simp [zac,zah,zal,hil,ez,hiz]
    ·simp [zav,za8]
   have sl0:=zd7 hlw.w0.1 hlw.w0.2
   have sl1:=zd7 hlw.w1.1 hlw.w1.2
   have sv0:=zd7 hH.w0.1 hH.w0.2
   have sv1:=zd7 hH.w1.1 hH.w1.2
   refine zp9 ⟨tsL [(2,.pointer (some ⟨200,0,none⟩)),(4,.pointer (some ⟨208,0,none⟩)),(5,.pointer (some ⟨1000,0,none⟩)),(6,.pointer (some ⟨1124,0,none⟩))],hpL G0 [(200,zav (N'+1) (mxv V v' 1)),(208,zhB),(1000,loB lw),(1124,⟨#[.bool (N'==0)],.ty 4⟩)],1400,0⟩ ?_ ?_
   ·have V0:V 0=if N'=0 then lw 0 else min (v' 0) (lw 0):=by rw [hV,jcc (by decide)]
    have hcs:N'=0\/(¬N'=0/\lw 0<v' 0)\/(¬N'=0/\¬lw 0<v' 0):=by omega
    unfold zav za8 loB
    rcases hcs with z|⟨z,z1⟩|⟨z,z1⟩
    ·have zb:(N'==0)=true:=by simpa using z
     have V1:V 0=lw 0:=V0.trans (if_pos z)
     repeat' first|refine gwZ ?_|(refine gwX ?_;intro Q hQ _;simp [hC,hY,zb,hs];refine gwq hQ ?_)|refine gwC ?_ ?_<;>intro hb
     refine zbi _ 1400 hC G0F (m0:=[(200,zav N' v'),(208,zhB)]) hm0 (by omega) ?_ ?_ ?_
     ·simp [zan,za0,zah,zal,dom]
     ·simp [zac,zah,zal,ez,hiz,mxv,stc,V1,z]
     ·simp [zav,za8,mxv,stc,V1,z]
    ·have zb:(N'==0)=false:=by simpa using z
     have V1:V 0=lw 0:=by rw [V0,if_neg z];omega
     repeat' first|refine gwZ ?_|(refine gwX ?_;intro Q hQ _;simp [hC,hY,zb,hs,sl0,sl1,sv0,sv1,zu8,z1];refine gwq hQ ?_)|refine gwC ?_ ?_<;>intro hb
     refine zbi _ 1400 hC G0F (m0:=[(200,zav N' v'),(208,zhB)]) hm0 (by omega) ?_ ?_ ?_
     ·simp [zan,za0,zah,zal,dom]
     ·simp [zac,zah,zal,ez,hiz,mxv,stc,V1,z]
     ·simp [zav,za8,mxv,stc,V1,z]
    ·have zb:(N'==0)=false:=by simpa using z
     have V1:V 0=v' 0:=by rw [V0,if_neg z];omega
     repeat' first|refine gwZ ?_|(refine gwX ?_;intro Q hQ _;simp [hC,hY,zb,hs,sl0,sl1,sv0,sv1,zu8,z1];refine gwq hQ ?_)|refine gwC ?_ ?_<;>intro hb
     refine zbi _ 1400 hC G0F (m0:=[(200,zav N' v'),(208,zhB)]) hm0 (by omega) ?_ ?_ ?_
     ·simp [zan,za0,zah,zal,dom]
     ·simp [zac,zah,zal,ez,hiz,mxv,stc,V1,z]
     ·simp [zav,za8,mxv,stc,V1,z]
   refine zp9 ⟨tsL [(2,.pointer (some ⟨200,0,none⟩)),(4,.pointer (some ⟨208,0,none⟩)),(5,.pointer (some ⟨1000,0,none⟩)),(6,.pointer (some ⟨1124,0,none⟩))],hpL G0 [(200,zav (N'+1) (mxv V v' 2)),(208,zhB),(1000,loB lw),(1124,⟨#[.bool (N'==0)],.ty 4⟩)],1500,0⟩ ?_ ?_
   ·have VH:V 1=if N'=0 then lw 1 else max (v' 1) (lw 1):=by rw [hV,jcb (by decide)]
    have hcs:N'=0\/(¬N'=0/\v' 1<lw 1)\/(¬N'=0/\¬v' 1<lw 1):=by omega
    unfold zav za8 loB
    rcases hcs with z|⟨z,z1⟩|⟨z,z1⟩
    ·have zb:(N'==0)=true:=by simpa using z
     have V1:V 1=lw 1:=VH.trans (if_pos z)
     repeat' first|refine gwZ ?_|(refine gwX ?_;intro Q hQ _;simp [hC,hY,zb,hs,mxv,stc];refine gwq hQ ?_)|refine gwC ?_ ?_<;>intro hb
     refine zbi _ 1500 hC G0F (m0:=[(200,zav N' v'),(208,zhB)]) hm0 (by omega) ?_ ?_ ?_
     ·simp [zan,za0,zah,zal,dom]
     ·simp [zac,zah,zal,ez,hiz,mxv,stc,V1,z]
     ·simp [zav,za8,mxv,stc,V1,z]
    ·have zb:(N'==0)=false:=by simpa using z
     have V1:V 1=lw 1:=by rw [VH,if_neg z];omega
     repeat' first|refine gwZ ?_|(refine gwX ?_;intro Q hQ _;simp [hC,hY,zb,hs,mxv,stc,sl0,sl1,sv0,sv1,zi9,z1];refine gwq hQ ?_)|refine gwC ?_ ?_<;>intro hb
     refine zbi _ 1500 hC G0F (m0:=[(200,zav N' v'),(208,zhB)]) hm0 (by omega) ?_ ?_ ?_
     ·simp [zan,za0,zah,zal,dom]
     ·simp [zac,zah,zal,ez,hiz,mxv,stc,V1,z]
     ·simp [zav,za8,mxv,stc,V1,z]
    ·have zb:(N'==0)=false:=by simpa using z
     have V1:V 1=v' 1:=by rw [VH,if_neg z];omega
     repeat' first|refine gwZ ?_|(refine gwX ?_;intro Q hQ _;simp [hC,hY,zb,hs,mxv,stc,sl0,sl1,sv0,sv1,zi9,z1];refine gwq hQ ?_)|refine gwC ?_ ?_<;>intro hb
     refine zbi _ 1500 hC G0F (m0:=[(200,zav N' v'),(208,zhB)]) hm0 (by omega) ?_ ?_ ?_
     ·simp [zan,za0,zah,zal,dom]
     ·simp [zac,zah,zal,ez,hiz,mxv,stc,V1,z]
     ·simp [zav,za8,mxv,stc,V1,z]
   have hsd:=zl9 1508 200 (by omega) (by omega) (by omega) (by omega) (zav (N'+1) (mxv V v' 2)) (zci _ _) lw
   unfold zcm at hsd
   refine zgm ?_
   refine zdf ?_
   simp only [Array.toList]
   refine gwl 1 ?_;intro Q hQ;simp [hC,hY,loB];apply hQ
   simp only [wT,wM,Nat.reduceAdd]
   refine zeb (f:=.func 46) (cap:=#[]) hC hsd rfl (by simp) rfl rfl (by simp [okT]) (by simp [gev]) (by simp) (by simp [okX,zcj]) (by simp [gev]) (by simp) (by (intro k hk;first|rfl|(simp (disch:=omega) only [zbw,List.mem_cons,List.not_mem_nil,or_false,zaa,zag,zaq,if_neg,zbb]<;>done))) ?_ ?_
   ·intro w ns hV k hk
    have:=zd2 hV k hk
    omega
   rintro w'' ns ⟨rfl,rfl⟩
   refine zec ?_
   simp only [zca]
   refine zk8 ?_
   have hCC2:=hC
   have hra:∀ i,i<6->V (sdA i)=(if N'=0 then lw (sdA i) else min (v' (sdA i)) (lw (sdA i)))/\V (sdA i+3)=(if N'=0 then lw (sdA i) else max (v' (sdA i+3)) (lw (sdA i))):=λi hi=>by
    have q:∀ q,q<3->(zlm (2+q)=true/\zlm (8+q)=true/\zlm (5+q)=false/\zlm (11+q)=false):=λq hq=>z2n hq
    have key:zlm (sdA i)=true/\zlm (sdA i+3)=false/\lw (sdA i+3)=lw (sdA i):=by
     have h0:=hlw.r 0 (by omega)
     have h1:=hlw.r 1 (by omega)
     have h2:=hlw.r 2 (by omega)
     have:i=0\/i=1\/i=2\/i=3\/i=4\/i=5:=by omega
     rcases this with rfl|rfl|rfl|rfl|rfl|rfl
     ·exact ⟨by decide,by decide,h0.1.symm⟩
     ·exact ⟨by decide,by decide,h0.2.symm⟩
     ·exact ⟨by decide,by decide,h1.1.symm⟩
     ·exact ⟨by decide,by decide,h1.2.symm⟩
     ·exact ⟨by decide,by decide,h2.1.symm⟩
     ·exact ⟨by decide,by decide,h2.2.symm⟩
    rw [hV,hV,jcc key.1,jcb key.2.1,key.2.2]
    exact ⟨rfl,rfl⟩
   refine zhu (G:=G0) (ro:=some j) (f:=79) (caps:=#[.pointer (some ⟨1508,0,none⟩),.pointer (some ⟨1509,0,none⟩)]) (rs:=[200,1508,1509]) (xs:=zmr 200 lw) (w:=200) (ob:=λi=>zav (N'+1) (mxv V v' (2+i))) (m0:=[(200,zav N' v'),(208,zhB)]) (λl0 h=>by cases h;exact hat) G0F hC hm0 hY (by simp [zcq]) ?_ (by simp) (by omega) ?_ (by simp [ntmps16]) [(2,.pointer (some ⟨200,0,none⟩)),(4,.pointer (some ⟨208,0,none⟩)),(6,.pointer (some ⟨1124,0,none⟩))] (λi=>[(200,zav (N'+1) (mxv V v' (2+i))),(208,zhB),(1124,⟨#[.bool (N'==0)],.ty 4⟩)]) 2000 6 (by simp [zmr]) (by omega) ?_ ?_ ?_ ?_ ?_ ?_ ?_
   ·refine zma 200 1508 (by omega) (by omega) (by omega) (by omega) _ (λi=>zci _ _) lw (by (intro k hk;first|rfl|(simp (disch:=omega) only [zbw,List.mem_cons,List.not_mem_nil,or_false,zaa,zag,zaq,if_neg,zbb]<;>done))) ?_ ?_ ?_
    ·simp [zbb,upd]
    ·simp [zbb,upd]
    ·simp [zbb,upd]
   ·exact zl7 200 _
   ·simp [dom,upd,zbb]
   ·simp [zcq]
   ·simp [zbb,upd]
   ·intro i hi
    simp [zan,za0,zah,zal,zac,dom,hix,ez]
   ·simp [zbb,upd,dom]
   ·intro i x hi hx C3 j3 c1 c2 c3
    rw [zjp _ _ _ hi] at hx
    simp only [Option.some.injEq] at hx
    subst hx
    obtain ⟨va,vb⟩:=hra i hi
    clear hra hsd hC hY
    have hC:=c1
    have hY:=c3
    have:i=0\/i=1\/i=2\/i=3\/i=4\/i=5:=by omega
    rcases this with rfl|rfl|rfl|rfl|rfl|rfl
    all_goals
     simp only [sdA,Nat.reduceAdd,Nat.reduceMul,Nat.reduceDiv,Nat.reduceMod] at va vb |-
     unfold sdX zav za8
     simp only [mxv,stc,Nat.reduceAdd,Nat.reduceLT,Nat.reduceMul,Nat.reduceSub,Nat.reduceDiv,Nat.reduceMod,if_true,if_false]
     repeat' first|refine gwZ ?_|(refine gwX ?_;intro Q hQ _;simp [hC,hY,zao];refine gwq hQ ?_)|refine gwC ?_ ?_<;>intro hb
     intro C4 hC4 hh4 hY4
     clear hC hY
     have hC:=hC4
     have hY:=hY4
     by_cases z:N'=0
     ·have zb:(N'==0)=true:=by simpa using z
      rw [if_pos z] at va vb
      repeat' first|refine gwZ ?_|(refine gwX ?_;intro Q hQ _;simp [hC,hY,zb];refine gwq hQ ?_)|refine gwC ?_ ?_<;>intro hb
      simp [va,vb,zb,z]
     ·have zb:(N'==0)=false:=by simpa using z
      rw [if_neg z] at va vb
      repeat' first|refine gwZ ?_|(refine gwX ?_;intro Q hQ _;simp [hC,hY,zb];refine gwq hQ ?_)|refine gwC ?_ ?_<;>intro hb
      simp [va,vb,zb,z]
      constructor<;>split<;>omega
   ·refine .inl ⟨by simp [zmr],?_⟩
    have e8:zav (N'+1) (mxv V v' (2+6))=zav (N'+1) V:=by unfold zav;rw [jir]
    rw [e8]
    simp [zes,zbo]
  ·have hrt:ze7 ⟨N,v⟩=true:=hr
   simp only [if_true]
   rw [z7e (h:=⟨N,v⟩) hN n]
   have hNm:=hnn (tkM ⟨N,v⟩ w n)
   simp only at hNm
   have hMd:tkM ⟨N,v⟩ w n=min (zcr w n) (1073741824 - N).toNat:=rfl
   generalize tkM ⟨N,v⟩ w n=M at *
   by_cases hfin:M=zcr w n
   ·refine .inl ⟨by rw [hlen];exact hfin,?_⟩
    generalize HS.hq ⟨N,v⟩ w (lix w n) M=H
    unfold tkL zhB zav za8
    simp only [ze0,zca,List.append_nil]
    repeat' first|refine gwZ ?_|(refine gwX ?_;intro Q hQ _;simp [hC,hY,zbw,zar];refine gwq hQ ?_)|refine gwC ?_ ?_<;>intro hb
    refine ⟨.inr rfl,by simp [results16,zd9,zbq,za8],zbz G0F (by simp [zbw]) (by (intro k hk;first|rfl|(simp (disch:=omega) only [zbw,List.mem_cons,List.not_mem_nil,or_false,zaa,zag,zaq,if_neg,zbb]<;>done)))⟩
   ·have hMl:M<(lix w n).length:=by rw [ze4];omega
    have hx:(zv7 w n)[M]? = some #[zcm (w ((lix w n).getD M 0))]:=by
     unfold zv7
     rw [List.getElem?_map,List.getElem?_eq_getElem hMl,List.getD_eq_getElem?_getD,List.getElem?_eq_getElem hMl]
     rfl
    have hHN:(HS.hq ⟨N,v⟩ w (lix w n) M).N=1073741824:=by omega
    refine .inr ⟨_,hx,?_⟩
    intro C1 j c1 c2 c3
    generalize w ((lix w n).getD M 0)=lw
    generalize HS.hq ⟨N,v⟩ w (lix w n) M=H at *
    obtain ⟨N',v'⟩:=H
    simp only at hHN
    clear hR hok hls hnn hC hY
    have hC:=c1
    have hY:=c3
    unfold tkL zhB zav za8 zcm
    repeat' first|refine gwZ ?_|(refine gwX ?_;intro Q hQ _;simp [hC,hY,zao,hHN,zar];refine gwq hQ ?_)|refine gwC ?_ ?_<;>intro hb
    intro C2 hC2 hh2 hY2 hat
    clear hC hY
    have hC:=hC2
    have hY:=hY2
    repeat' first|refine gwZ ?_|(refine gwX ?_;intro Q hQ _;simp [hC,hY,hHN,zar];refine gwq hQ ?_)|refine gwC ?_ ?_<;>intro hb
    refine ⟨rfl,by simp [zan,za0,zah,zal,dom],by simp,?_⟩
    clear hC hY
    have hC:=hCC
    have hY:=hYY
    simp only [List.append_nil]
    repeat' first|refine gwZ ?_|(refine gwX ?_;intro Q hQ _;simp [hC,hY,zbw,zar];refine gwq hQ ?_)|refine gwC ?_ ?_<;>intro hb
    refine ⟨.inr rfl,by simp [results16,zd9,zbq,za8,hHN],zbz G0F (by simp [zbw]) (by (intro k hk;first|rfl|(simp (disch:=omega) only [zbw,List.mem_cons,List.not_mem_nil,or_false,zaa,zag,zaq,if_neg,zbb]<;>done)))⟩
def zg5:Nat->List (Nat×Nat)
 | 2=>[(1,0)]
 | 3=>[(1,0),(2,0),(2,1)]
 | 4=>[(1,0),(2,0),(2,1),(3,0),(3,1),(3,2)]
 | _=>[]
theorem zzm (fm fs:Nat->Int) {n:Nat} (hn:1<=n/\n<=4):zzl fm fs n=(zg5 n).map λp=>epV fm fs p.1 p.2:=by
 have:n=1\/n=2\/n=3\/n=4:=by omega
 rcases this with rfl|rfl|rfl|rfl<;>rfl
theorem zpa {n:Nat} {p:Nat×Nat} (h:p∈zg5 n):p.2<p.1/\p.1<n:=by
 unfold zg5 at h
 split at h<;>simp at h
 ·subst h;simp
 ·rcases h with rfl|rfl|rfl<;>simp
 ·rcases h with rfl|rfl|rfl|rfl|rfl|rfl<;>simp
def pS (F:Nat->Nat->Int):List (Nat×Nat)->Int
 | []=>0
 | p::l=>F p.1 p.2+pS F l
theorem z3j (F:Nat->Nat->Int):∀ l m,pS F (l++m)=pS F l+pS F m
 | [],m=>by simp [pS]
 | p::l,m=>by
  simp only [List.cons_append,pS,z3j F l m]
  omega
theorem zlz (F:Nat->Nat->Int) {l:List (Nat×Nat)} {j:Nat} (hj:j<l.length):pS F (l.take (j+1))=pS F (l.take j)+F l[j].1 l[j].2:=by
 rw [show l.take (j+1)=l.take j++[l[j]] by simp,z3j]
 simp [pS]
theorem zpx (F:Nat->Nat->Int) {n:Nat} (hn:1<=n/\n<=4):zxh F n=pS F (zg5 n):=by
 have:n=1\/n=2\/n=3\/n=4:=by omega
 rcases this with rfl|rfl|rfl|rfl<;>simp only [zxh,zdi,pS,zg5]<;>omega
theorem zne (L:List (Nat×Blk)) (ks:Nat) (bm bs:Blk) (hT:LTwo G0 L ks bm bs) (off n cap off2 cap2:Nat) (fm fs:Nat->Int) (hm:MB bm off n fm) (hSb:SB bs off2 n fs) (hcap:n<=cap2) (hn:1<=n/\n<=4) (g bx tp nr md st:Int) :
  IterK prog G0 119 #[.pointer (some ⟨208,0,none⟩),.pointer (some ⟨200,0,none⟩)] (hpL G0 (enM L ks off n cap off2 n cap2 g bx tp nr md st)) (zab (enM L ks off n cap off2 n cap2 g bx tp nr md st)) ((zg5 n).map λp=>epV fm fs p.1 p.2):=by
 rw [<-zzm fm fs hn]
 have:n=1\/n=2\/n=3\/n=4:=by omega
 rcases this with rfl|rfl|rfl|rfl
 ·exact zsf L ks bm bs hT off cap off2 cap2 fm fs hm hSb hcap g bx tp nr md st
 ·exact zsg L ks bm bs hT off cap off2 cap2 fm fs hm hSb hcap g bx tp nr md st
 ·exact zsh L ks bm bs hT off cap off2 cap2 fm fs hm hSb hcap g bx tp nr md st
 ·exact zsi L ks bm bs hT off cap off2 cap2 fm fs hm hSb hcap g bx tp nr md st
def zs9 (g:Int) (fm fs:Nat->Int) (n:Nat):Int:=zxh (λi k=>zfe g (fm i) (fm k) (zfl fs i k)) n
def zs8 (g:Int) (fm fs:Nat->Int) (n:Nat):Int:=zxh (λi k=>zkc g (fm i) (fm k) (zfl fs i k)) n
def z3l (fs:Nat->Int) (n:Nat):Int:=zxh (λi k=>if zfl fs i k=0 then 1 else 0) n
theorem zve {st:Int} {fs:Nat->Int} {n:Nat} (hr:zco st fs n=true) {i k:Nat} (hi:i<n) (hk:k<n):0<=zfl fs i k/\zfl fs i k<=13194139533312:=by
 obtain ⟨⟨⟨_,a0,a1⟩,⟨_,b0,b1⟩,⟨_,c0,c1⟩⟩,_⟩:=zh8 hr hi
 obtain ⟨⟨⟨_,d0,d1⟩,⟨_,e0,e1⟩,⟨_,f0,f1⟩⟩,_⟩:=zh8 hr hk
 have s0:=ztq (a:=fs (6*i) - fs (6*k)) (m:=2097152) ⟨by omega,by omega,by omega⟩
 have s1:=ztq (a:=fs (6*i+1) - fs (6*k+1)) (m:=2097152) ⟨by omega,by omega,by omega⟩
 have s2:=ztq (a:=fs (6*i+2) - fs (6*k+2)) (m:=2097152) ⟨by omega,by omega,by omega⟩
 unfold zfl f2V
 split<;>omega
end Go.Gy
