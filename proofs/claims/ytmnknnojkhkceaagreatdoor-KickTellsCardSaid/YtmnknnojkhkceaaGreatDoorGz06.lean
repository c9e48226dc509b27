/-
  Lemmas of this claim, in their order (GyGB, GyGC, GyGA, GyGD, GyU8, GyLI, GyGE, GyPB, GyGF, GyGG, GyGH, GyGI, GyGJ).
  Conditions: those of each theorem.
-/
import Derived.Test.YtmnknnojkhkceaaGreatDoorGz05
set_option linter.unusedSimpArgs false
set_option linter.unusedVariables false
set_option maxRecDepth 20000
set_option maxHeartbeats 16000000
namespace Go.Gy
open Go Go.RowKit Go.Proofs Go.Proofs.Tryz
def otV (fm fs:Nat->Int) (i k:Nat):Array Value:=#[.int .i64 (fm k),.agg #[.int .i64 (fs (6*k) - fs (6*i)),.int .i64 (fs (6*k+1) - fs (6*i+1)),.int .i64 (fs (6*k+2) - fs (6*i+2))]]
def zf2 (n i:Nat):List Nat:=(List.range n).filter λk=>k != i
def zl8 (fm fs:Nat->Int) (n i:Nat):List (Array Value):=(zf2 n i).map (otV fm fs i)
def otM (L:List (Nat×Blk)) (ka ks off n cap off2 n2 cap2:Nat) (g bx tp nr md st i:Int):List (Nat×Blk):=(200,cfB (.slice (some ⟨ka,off,none⟩) n cap) g bx tp nr md)::(208,zcu st ks off2 n2 cap2)::(216,ib i)::L
theorem zf8 {L:List (Nat×Blk)} {ka ks:Nat} {bm bs:Blk} (hT:LKa L ka ks bm bs) (off n cap off2 n2 cap2:Nat) (g bx tp nr md st i:Int):LOd G1 (otM L ka ks off n cap off2 n2 cap2 g bx tp nr md st i) 300:=by
 have hL:=hT.ok
 refine ⟨?_,?_,?_⟩
 ·intro p hp
  rcases List.mem_cons.1 hp with rfl|hp
  ·simp
  ·rcases List.mem_cons.1 hp with rfl|hp
   ·simp
   ·rcases List.mem_cons.1 hp with rfl|hp
    ·simp
    ·have:=hL.big p hp;omega
 ·have h2:∀ q,200<=q->q∉zab L:=λq hq h=>by
   obtain ⟨p,hp,e⟩:=zah.1 h
   have:=hL.big p hp
   omega
  refine List.nodup_cons.2 ⟨λh=>?_,List.nodup_cons.2 ⟨λh=>?_,List.nodup_cons.2 ⟨h2 216 (by omega),hL.one⟩⟩⟩
  ·rcases List.mem_cons.1 h with e|h
   ·exact absurd e (by simp)
   ·rcases List.mem_cons.1 h with e|h
    ·exact absurd e (by simp)
    ·exact h2 200 (by omega) h
  ·rcases List.mem_cons.1 h with e|h
   ·exact absurd e (by simp)
   ·exact h2 208 (by omega) h
 ·have h1:dom (hpL G1 (otM L ka ks off n cap off2 n2 cap2 g bx tp nr md st i)) ka:=by
   have:=hT.a2
   unfold dom otM
   rw [zai,if_neg (by omega),zai,if_neg (by omega),zai,if_neg (by omega),hT.a]
   simp
  have h2:dom (hpL G1 (otM L ka ks off n cap off2 n2 cap2 g bx tp nr md st i)) ks:=by
   have:=hT.k2
   unfold dom otM
   rw [zai,if_neg (by omega),zai,if_neg (by omega),zai,if_neg (by omega),hT.s]
   simp
  intro p hp
  rcases List.mem_cons.1 hp with rfl|hp
  ·simp [cfB,zae,zaj,zal,h1]
  ·rcases List.mem_cons.1 hp with rfl|hp
   ·simp [zcu,zae,zaj,zal,h2]
   ·rcases List.mem_cons.1 hp with rfl|hp
    ·simp [ib,zae,zaj,zal]
    ·exact Blk.fx_ids (hT.fx p hp) _
theorem zci {st:Int} {fs:Nat->Int} {n:Nat} (hr:zay st fs n=true) (i k:Nat) (hi:i<n) (hk:k<n):eaE znt (fs (6*k)) (fs (6*k+1)) (fs (6*k+2)) (fs (6*i)) (fs (6*i+1)) (fs (6*i+2))=0:=by
 have a:=(ze3 hr hi).1
 have b:=(ze3 hr hk).1
 unfold eaE
 rw [if_pos ?_]
 unfold inW at a b
 unfold fnI znt
 omega
theorem zch {b:Blk} {off n:Nat} {f:Nat->Int} (h:SB b off n f) (i:Nat) (hi:i<n) (o:Nat) (e:o=off+i*6):zds prog 31 b o=some (.agg #[.int .i64 (f (6*i)),.int .i64 (f (6*i+1)),.int .i64 (f (6*i+2))]):=by rw [e];exact h.vec hi (u:=0) (by omega)
theorem zm3 (x y:Int):eaV 0 (znt x y)=x - y:=by unfold eaV znt;simp
theorem zra (L:List (Nat×Blk)) (ka ks:Nat) (bm bs:Blk) (hT:LKa L ka ks bm bs) (off cap off2 cap2:Nat) (fm fs:Nat->Int) (hm:MB bm off 1 fm) (hSb:SB bs off2 1 fs) (g bx tp nr md st:Int) (hrt:zay st fs 1=true) :
  IterK prog G1 42 #[.pointer (some ⟨208,0,none⟩),.pointer (some ⟨216,0,none⟩),.pointer (some ⟨200,0,none⟩)] (hpL G1 (otM L ka ks off 1 cap off2 1 cap2 g bx tp nr md st 0)) (zab (otM L ka ks off 1 cap off2 1 cap2 g bx tp nr md st 0)) (zl8 fm fs 1 0):=by
 have hL:=zf8 hT off 1 cap off2 1 cap2 g bx tp nr md st 0
 have hlt:∀ k,dom (hpL G1 (otM L ka ks off 1 cap off2 1 cap2 g bx tp nr md st 0)) k->k<300:=λk hk=>Classical.byContradiction λh1=>hk (hL.free G1F (by omega) k (by omega))
 refine zdn (B:=300) (v:=.tuple #[]) G1F func42 rfl call42 hL ?_ (by simp [ntmps42]) (by omega) ?_
 ·simp [zap,zau,zaj,zal,otM,zab]
 intro C l stop hC hC0 hY
 have hA:=hT.a
 have hS:=hT.s
 have hne:=hT.ne
 have hna:=hT.na
 have hks:=hT.k1
 have exs:zl8 fm fs 1 0=[]:=rfl
 rw [exs] at hY |-
 have b0:=zbt hSb 0 (by omega) (off2) (by omega)
 simp only [Nat.reduceMul,Nat.reduceAdd,Nat.mul_zero,Nat.zero_add] at b0
 have w0:=zbu hm 0 (by omega) (off) (by omega)
 have v0:=zch hSb 0 (by omega) (off2) (by omega)
 simp only [Nat.reduceMul,Nat.reduceAdd,Nat.mul_zero,Nat.zero_add] at v0
 have e0:=zci hrt 0 0 (by omega) (by omega)
 simp only [Nat.reduceMul,Nat.reduceAdd,Nat.mul_zero,Nat.zero_add] at e0
 unfold otM cfB zcu ib
 repeat' first|refine zad ?_|refine zag ?_|refine gwZ ?_|(refine gwX ?_;intro Q hQ hP;simp [hC,hY,hA,hS,hne,hna,zm3,b0,w0,v0,e0];(first|refine hQ _ _ _ _ (by rcases hT.k8 with h8|h8<;>rcases hT.a8 with h9|h9<;>subst h8<;>subst h9<;>kernel_rfl) ?_|refine hP _ _ (by rcases hT.k8 with h8|h8<;>rcases hT.a8 with h9|h9<;>subst h8<;>subst h9<;>kernel_rfl) λ_=>?_))|refine gwC ?_ ?_<;>intro hb
 refine ⟨?_,?_,?_,λk hk=>?_⟩
 ·simp
 ·simp [results42]
 ·first|trivial|omega|(simp;done)|(simp;omega)
 ·have hk:=hlt k hk
  first|rfl|(simp (disch:=omega) only [zaa]<;>rfl)
theorem zrb (L:List (Nat×Blk)) (ka ks:Nat) (bm bs:Blk) (hT:LKa L ka ks bm bs) (off cap off2 cap2:Nat) (fm fs:Nat->Int) (hm:MB bm off 2 fm) (hSb:SB bs off2 2 fs) (g bx tp nr md st:Int) (hrt:zay st fs 2=true) :
  IterK prog G1 42 #[.pointer (some ⟨208,0,none⟩),.pointer (some ⟨216,0,none⟩),.pointer (some ⟨200,0,none⟩)] (hpL G1 (otM L ka ks off 2 cap off2 2 cap2 g bx tp nr md st 0)) (zab (otM L ka ks off 2 cap off2 2 cap2 g bx tp nr md st 0)) (zl8 fm fs 2 0):=by
 have hL:=zf8 hT off 2 cap off2 2 cap2 g bx tp nr md st 0
 have hlt:∀ k,dom (hpL G1 (otM L ka ks off 2 cap off2 2 cap2 g bx tp nr md st 0)) k->k<300:=λk hk=>Classical.byContradiction λh1=>hk (hL.free G1F (by omega) k (by omega))
 refine zdn (B:=300) (v:=.tuple #[]) G1F func42 rfl call42 hL ?_ (by simp [ntmps42]) (by omega) ?_
 ·simp [zap,zau,zaj,zal,otM,zab]
 intro C l stop hC hC0 hY
 have hA:=hT.a
 have hS:=hT.s
 have hne:=hT.ne
 have hna:=hT.na
 have hks:=hT.k1
 have exs:zl8 fm fs 2 0=[#[.int .i64 (fm 1),.agg #[.int .i64 (fs 6 - fs 0),.int .i64 (fs 7 - fs 1),.int .i64 (fs 8 - fs 2)]]]:=rfl
 rw [exs] at hY |-
 have b0:=zbt hSb 0 (by omega) (off2) (by omega)
 simp only [Nat.reduceMul,Nat.reduceAdd,Nat.mul_zero,Nat.zero_add] at b0
 have w0:=zbu hm 0 (by omega) (off) (by omega)
 have v0:=zch hSb 0 (by omega) (off2) (by omega)
 simp only [Nat.reduceMul,Nat.reduceAdd,Nat.mul_zero,Nat.zero_add] at v0
 have e0:=zci hrt 0 0 (by omega) (by omega)
 simp only [Nat.reduceMul,Nat.reduceAdd,Nat.mul_zero,Nat.zero_add] at e0
 have b1:=zbt hSb 1 (by omega) (off2+6) (by omega)
 simp only [Nat.reduceMul,Nat.reduceAdd,Nat.mul_zero,Nat.zero_add] at b1
 have w1:=zbu hm 1 (by omega) (off+1) (by omega)
 have v1:=zch hSb 1 (by omega) (off2+6) (by omega)
 simp only [Nat.reduceMul,Nat.reduceAdd,Nat.mul_zero,Nat.zero_add] at v1
 have e1:=zci hrt 0 1 (by omega) (by omega)
 simp only [Nat.reduceMul,Nat.reduceAdd,Nat.mul_zero,Nat.zero_add] at e1
 unfold otM cfB zcu ib
 by_cases hst:1<=stop
 ·have q0:(0 != stop)=true:=by simp;omega
  repeat' first|refine zad ?_|refine zag ?_|refine gwZ ?_|(refine gwX ?_;intro Q hQ hP;simp [hC,hY,hA,hS,hne,hna,zm3,b0,w0,v0,e0,b1,w1,v1,e1,q0,hst];(first|refine hQ _ _ _ _ (by rcases hT.k8 with h8|h8<;>rcases hT.a8 with h9|h9<;>subst h8<;>subst h9<;>kernel_rfl) ?_|refine hP _ _ (by rcases hT.k8 with h8|h8<;>rcases hT.a8 with h9|h9<;>subst h8<;>subst h9<;>kernel_rfl) λ_=>?_))|refine gwC ?_ ?_<;>intro hb
  refine ⟨?_,?_,?_,λk hk=>?_⟩
  ·simp
  ·simp [results42]
  ·first|trivial|omega|(simp;done)|(simp;omega)
  ·have hk:=hlt k hk
   first|rfl|(simp (disch:=omega) only [zaa]<;>rfl)
 ·have:stop=0:=by omega
  rcases this with rfl
  all_goals
   repeat' first|refine zad ?_|refine zag ?_|refine gwZ ?_|(refine gwX ?_;intro Q hQ hP;simp [hC,hY,hA,hS,hne,hna,zm3,b0,w0,v0,e0,b1,w1,v1,e1];(first|refine hQ _ _ _ _ (by rcases hT.k8 with h8|h8<;>rcases hT.a8 with h9|h9<;>subst h8<;>subst h9<;>kernel_rfl) ?_|refine hP _ _ (by rcases hT.k8 with h8|h8<;>rcases hT.a8 with h9|h9<;>subst h8<;>subst h9<;>kernel_rfl) λ_=>?_))|refine gwC ?_ ?_<;>intro hb
  all_goals
   refine ⟨?_,?_,?_,λk hk=>?_⟩
   ·simp
   ·simp [results42]
   ·first|trivial|omega|(simp;done)|(simp;omega)
   ·have hk:=hlt k hk
    first|rfl|(simp (disch:=omega) only [zaa]<;>rfl)
theorem zrc (L:List (Nat×Blk)) (ka ks:Nat) (bm bs:Blk) (hT:LKa L ka ks bm bs) (off cap off2 cap2:Nat) (fm fs:Nat->Int) (hm:MB bm off 2 fm) (hSb:SB bs off2 2 fs) (g bx tp nr md st:Int) (hrt:zay st fs 2=true) :
  IterK prog G1 42 #[.pointer (some ⟨208,0,none⟩),.pointer (some ⟨216,0,none⟩),.pointer (some ⟨200,0,none⟩)] (hpL G1 (otM L ka ks off 2 cap off2 2 cap2 g bx tp nr md st 1)) (zab (otM L ka ks off 2 cap off2 2 cap2 g bx tp nr md st 1)) (zl8 fm fs 2 1):=by
 have hL:=zf8 hT off 2 cap off2 2 cap2 g bx tp nr md st 1
 have hlt:∀ k,dom (hpL G1 (otM L ka ks off 2 cap off2 2 cap2 g bx tp nr md st 1)) k->k<300:=λk hk=>Classical.byContradiction λh1=>hk (hL.free G1F (by omega) k (by omega))
 refine zdn (B:=300) (v:=.tuple #[]) G1F func42 rfl call42 hL ?_ (by simp [ntmps42]) (by omega) ?_
 ·simp [zap,zau,zaj,zal,otM,zab]
 intro C l stop hC hC0 hY
 have hA:=hT.a
 have hS:=hT.s
 have hne:=hT.ne
 have hna:=hT.na
 have hks:=hT.k1
 have exs:zl8 fm fs 2 1=[#[.int .i64 (fm 0),.agg #[.int .i64 (fs 0 - fs 6),.int .i64 (fs 1 - fs 7),.int .i64 (fs 2 - fs 8)]]]:=rfl
 rw [exs] at hY |-
 have b0:=zbt hSb 0 (by omega) (off2) (by omega)
 simp only [Nat.reduceMul,Nat.reduceAdd,Nat.mul_zero,Nat.zero_add] at b0
 have w0:=zbu hm 0 (by omega) (off) (by omega)
 have v0:=zch hSb 0 (by omega) (off2) (by omega)
 simp only [Nat.reduceMul,Nat.reduceAdd,Nat.mul_zero,Nat.zero_add] at v0
 have e0:=zci hrt 1 0 (by omega) (by omega)
 simp only [Nat.reduceMul,Nat.reduceAdd,Nat.mul_zero,Nat.zero_add] at e0
 have b1:=zbt hSb 1 (by omega) (off2+6) (by omega)
 simp only [Nat.reduceMul,Nat.reduceAdd,Nat.mul_zero,Nat.zero_add] at b1
 have w1:=zbu hm 1 (by omega) (off+1) (by omega)
 have v1:=zch hSb 1 (by omega) (off2+6) (by omega)
 simp only [Nat.reduceMul,Nat.reduceAdd,Nat.mul_zero,Nat.zero_add] at v1
 have e1:=zci hrt 1 1 (by omega) (by omega)
 simp only [Nat.reduceMul,Nat.reduceAdd,Nat.mul_zero,Nat.zero_add] at e1
 unfold otM cfB zcu ib
 by_cases hst:1<=stop
 ·have q0:(0 != stop)=true:=by simp;omega
  repeat' first|refine zad ?_|refine zag ?_|refine gwZ ?_|(refine gwX ?_;intro Q hQ hP;simp [hC,hY,hA,hS,hne,hna,zm3,b0,w0,v0,e0,b1,w1,v1,e1,q0,hst];(first|refine hQ _ _ _ _ (by rcases hT.k8 with h8|h8<;>rcases hT.a8 with h9|h9<;>subst h8<;>subst h9<;>kernel_rfl) ?_|refine hP _ _ (by rcases hT.k8 with h8|h8<;>rcases hT.a8 with h9|h9<;>subst h8<;>subst h9<;>kernel_rfl) λ_=>?_))|refine gwC ?_ ?_<;>intro hb
  refine ⟨?_,?_,?_,λk hk=>?_⟩
  ·simp
  ·simp [results42]
  ·first|trivial|omega|(simp;done)|(simp;omega)
  ·have hk:=hlt k hk
   first|rfl|(simp (disch:=omega) only [zaa]<;>rfl)
 ·have:stop=0:=by omega
  rcases this with rfl
  all_goals
   repeat' first|refine zad ?_|refine zag ?_|refine gwZ ?_|(refine gwX ?_;intro Q hQ hP;simp [hC,hY,hA,hS,hne,hna,zm3,b0,w0,v0,e0,b1,w1,v1,e1];(first|refine hQ _ _ _ _ (by rcases hT.k8 with h8|h8<;>rcases hT.a8 with h9|h9<;>subst h8<;>subst h9<;>kernel_rfl) ?_|refine hP _ _ (by rcases hT.k8 with h8|h8<;>rcases hT.a8 with h9|h9<;>subst h8<;>subst h9<;>kernel_rfl) λ_=>?_))|refine gwC ?_ ?_<;>intro hb
  all_goals
   refine ⟨?_,?_,?_,λk hk=>?_⟩
   ·simp
   ·simp [results42]
   ·first|trivial|omega|(simp;done)|(simp;omega)
   ·have hk:=hlt k hk
    first|rfl|(simp (disch:=omega) only [zaa]<;>rfl)
theorem zrd (L:List (Nat×Blk)) (ka ks:Nat) (bm bs:Blk) (hT:LKa L ka ks bm bs) (off cap off2 cap2:Nat) (fm fs:Nat->Int) (hm:MB bm off 3 fm) (hSb:SB bs off2 3 fs) (g bx tp nr md st:Int) (hrt:zay st fs 3=true) :
  IterK prog G1 42 #[.pointer (some ⟨208,0,none⟩),.pointer (some ⟨216,0,none⟩),.pointer (some ⟨200,0,none⟩)] (hpL G1 (otM L ka ks off 3 cap off2 3 cap2 g bx tp nr md st 0)) (zab (otM L ka ks off 3 cap off2 3 cap2 g bx tp nr md st 0)) (zl8 fm fs 3 0):=by
 have hL:=zf8 hT off 3 cap off2 3 cap2 g bx tp nr md st 0
 have hlt:∀ k,dom (hpL G1 (otM L ka ks off 3 cap off2 3 cap2 g bx tp nr md st 0)) k->k<300:=λk hk=>Classical.byContradiction λh1=>hk (hL.free G1F (by omega) k (by omega))
 refine zdn (B:=300) (v:=.tuple #[]) G1F func42 rfl call42 hL ?_ (by simp [ntmps42]) (by omega) ?_
 ·simp [zap,zau,zaj,zal,otM,zab]
 intro C l stop hC hC0 hY
 have hA:=hT.a
 have hS:=hT.s
 have hne:=hT.ne
 have hna:=hT.na
 have hks:=hT.k1
 have exs:zl8 fm fs 3 0=[#[.int .i64 (fm 1),.agg #[.int .i64 (fs 6 - fs 0),.int .i64 (fs 7 - fs 1),.int .i64 (fs 8 - fs 2)]],#[.int .i64 (fm 2),.agg #[.int .i64 (fs 12 - fs 0),.int .i64 (fs 13 - fs 1),.int .i64 (fs 14 - fs 2)]]]:=rfl
 rw [exs] at hY |-
 have b0:=zbt hSb 0 (by omega) (off2) (by omega)
 simp only [Nat.reduceMul,Nat.reduceAdd,Nat.mul_zero,Nat.zero_add] at b0
 have w0:=zbu hm 0 (by omega) (off) (by omega)
 have v0:=zch hSb 0 (by omega) (off2) (by omega)
 simp only [Nat.reduceMul,Nat.reduceAdd,Nat.mul_zero,Nat.zero_add] at v0
 have e0:=zci hrt 0 0 (by omega) (by omega)
 simp only [Nat.reduceMul,Nat.reduceAdd,Nat.mul_zero,Nat.zero_add] at e0
 have b1:=zbt hSb 1 (by omega) (off2+6) (by omega)
 simp only [Nat.reduceMul,Nat.reduceAdd,Nat.mul_zero,Nat.zero_add] at b1
 have w1:=zbu hm 1 (by omega) (off+1) (by omega)
 have v1:=zch hSb 1 (by omega) (off2+6) (by omega)
 simp only [Nat.reduceMul,Nat.reduceAdd,Nat.mul_zero,Nat.zero_add] at v1
 have e1:=zci hrt 0 1 (by omega) (by omega)
 simp only [Nat.reduceMul,Nat.reduceAdd,Nat.mul_zero,Nat.zero_add] at e1
 have b2:=zbt hSb 2 (by omega) (off2+12) (by omega)
 simp only [Nat.reduceMul,Nat.reduceAdd,Nat.mul_zero,Nat.zero_add] at b2
 have w2:=zbu hm 2 (by omega) (off+2) (by omega)
 have v2:=zch hSb 2 (by omega) (off2+12) (by omega)
 simp only [Nat.reduceMul,Nat.reduceAdd,Nat.mul_zero,Nat.zero_add] at v2
 have e2:=zci hrt 0 2 (by omega) (by omega)
 simp only [Nat.reduceMul,Nat.reduceAdd,Nat.mul_zero,Nat.zero_add] at e2
 unfold otM cfB zcu ib
 by_cases hst:2<=stop
 ·have q0:(0 != stop)=true:=by simp;omega
  have q1:(1 != stop)=true:=by simp;omega
  have l1:1<=stop:=by omega
  repeat' first|refine zad ?_|refine zag ?_|refine gwZ ?_|(refine gwX ?_;intro Q hQ hP;simp [hC,hY,hA,hS,hne,hna,zm3,b0,w0,v0,e0,b1,w1,v1,e1,b2,w2,v2,e2,q0,q1,l1,hst];(first|refine hQ _ _ _ _ (by rcases hT.k8 with h8|h8<;>rcases hT.a8 with h9|h9<;>subst h8<;>subst h9<;>kernel_rfl) ?_|refine hP _ _ (by rcases hT.k8 with h8|h8<;>rcases hT.a8 with h9|h9<;>subst h8<;>subst h9<;>kernel_rfl) λ_=>?_))|refine gwC ?_ ?_<;>intro hb
  refine ⟨?_,?_,?_,λk hk=>?_⟩
  ·simp
  ·simp [results42]
  ·first|trivial|omega|(simp;done)|(simp;omega)
  ·have hk:=hlt k hk
   first|rfl|(simp (disch:=omega) only [zaa]<;>rfl)
 ·have:stop=0\/stop=1:=by omega
  rcases this with rfl|rfl
  all_goals
   repeat' first|refine zad ?_|refine zag ?_|refine gwZ ?_|(refine gwX ?_;intro Q hQ hP;simp [hC,hY,hA,hS,hne,hna,zm3,b0,w0,v0,e0,b1,w1,v1,e1,b2,w2,v2,e2];(first|refine hQ _ _ _ _ (by rcases hT.k8 with h8|h8<;>rcases hT.a8 with h9|h9<;>subst h8<;>subst h9<;>kernel_rfl) ?_|refine hP _ _ (by rcases hT.k8 with h8|h8<;>rcases hT.a8 with h9|h9<;>subst h8<;>subst h9<;>kernel_rfl) λ_=>?_))|refine gwC ?_ ?_<;>intro hb
  all_goals
   refine ⟨?_,?_,?_,λk hk=>?_⟩
   ·simp
   ·simp [results42]
   ·first|trivial|omega|(simp;done)|(simp;omega)
   ·have hk:=hlt k hk
    first|rfl|(simp (disch:=omega) only [zaa]<;>rfl)
theorem zre (L:List (Nat×Blk)) (ka ks:Nat) (bm bs:Blk) (hT:LKa L ka ks bm bs) (off cap off2 cap2:Nat) (fm fs:Nat->Int) (hm:MB bm off 3 fm) (hSb:SB bs off2 3 fs) (g bx tp nr md st:Int) (hrt:zay st fs 3=true) :
  IterK prog G1 42 #[.pointer (some ⟨208,0,none⟩),.pointer (some ⟨216,0,none⟩),.pointer (some ⟨200,0,none⟩)] (hpL G1 (otM L ka ks off 3 cap off2 3 cap2 g bx tp nr md st 1)) (zab (otM L ka ks off 3 cap off2 3 cap2 g bx tp nr md st 1)) (zl8 fm fs 3 1):=by
 have hL:=zf8 hT off 3 cap off2 3 cap2 g bx tp nr md st 1
 have hlt:∀ k,dom (hpL G1 (otM L ka ks off 3 cap off2 3 cap2 g bx tp nr md st 1)) k->k<300:=λk hk=>Classical.byContradiction λh1=>hk (hL.free G1F (by omega) k (by omega))
 refine zdn (B:=300) (v:=.tuple #[]) G1F func42 rfl call42 hL ?_ (by simp [ntmps42]) (by omega) ?_
 ·simp [zap,zau,zaj,zal,otM,zab]
 intro C l stop hC hC0 hY
 have hA:=hT.a
 have hS:=hT.s
 have hne:=hT.ne
 have hna:=hT.na
 have hks:=hT.k1
 have exs:zl8 fm fs 3 1=[#[.int .i64 (fm 0),.agg #[.int .i64 (fs 0 - fs 6),.int .i64 (fs 1 - fs 7),.int .i64 (fs 2 - fs 8)]],#[.int .i64 (fm 2),.agg #[.int .i64 (fs 12 - fs 6),.int .i64 (fs 13 - fs 7),.int .i64 (fs 14 - fs 8)]]]:=rfl
 rw [exs] at hY |-
 have b0:=zbt hSb 0 (by omega) (off2) (by omega)
 simp only [Nat.reduceMul,Nat.reduceAdd,Nat.mul_zero,Nat.zero_add] at b0
 have w0:=zbu hm 0 (by omega) (off) (by omega)
 have v0:=zch hSb 0 (by omega) (off2) (by omega)
 simp only [Nat.reduceMul,Nat.reduceAdd,Nat.mul_zero,Nat.zero_add] at v0
 have e0:=zci hrt 1 0 (by omega) (by omega)
 simp only [Nat.reduceMul,Nat.reduceAdd,Nat.mul_zero,Nat.zero_add] at e0
 have b1:=zbt hSb 1 (by omega) (off2+6) (by omega)
 simp only [Nat.reduceMul,Nat.reduceAdd,Nat.mul_zero,Nat.zero_add] at b1
 have w1:=zbu hm 1 (by omega) (off+1) (by omega)
 have v1:=zch hSb 1 (by omega) (off2+6) (by omega)
 simp only [Nat.reduceMul,Nat.reduceAdd,Nat.mul_zero,Nat.zero_add] at v1
 have e1:=zci hrt 1 1 (by omega) (by omega)
 simp only [Nat.reduceMul,Nat.reduceAdd,Nat.mul_zero,Nat.zero_add] at e1
 have b2:=zbt hSb 2 (by omega) (off2+12) (by omega)
 simp only [Nat.reduceMul,Nat.reduceAdd,Nat.mul_zero,Nat.zero_add] at b2
 have w2:=zbu hm 2 (by omega) (off+2) (by omega)
 have v2:=zch hSb 2 (by omega) (off2+12) (by omega)
 simp only [Nat.reduceMul,Nat.reduceAdd,Nat.mul_zero,Nat.zero_add] at v2
 have e2:=zci hrt 1 2 (by omega) (by omega)
 simp only [Nat.reduceMul,Nat.reduceAdd,Nat.mul_zero,Nat.zero_add] at e2
 unfold otM cfB zcu ib
 by_cases hst:2<=stop
 ·have q0:(0 != stop)=true:=by simp;omega
  have q1:(1 != stop)=true:=by simp;omega
  have l1:1<=stop:=by omega
  repeat' first|refine zad ?_|refine zag ?_|refine gwZ ?_|(refine gwX ?_;intro Q hQ hP;simp [hC,hY,hA,hS,hne,hna,zm3,b0,w0,v0,e0,b1,w1,v1,e1,b2,w2,v2,e2,q0,q1,l1,hst];(first|refine hQ _ _ _ _ (by rcases hT.k8 with h8|h8<;>rcases hT.a8 with h9|h9<;>subst h8<;>subst h9<;>kernel_rfl) ?_|refine hP _ _ (by rcases hT.k8 with h8|h8<;>rcases hT.a8 with h9|h9<;>subst h8<;>subst h9<;>kernel_rfl) λ_=>?_))|refine gwC ?_ ?_<;>intro hb
  refine ⟨?_,?_,?_,λk hk=>?_⟩
  ·simp
  ·simp [results42]
  ·first|trivial|omega|(simp;done)|(simp;omega)
  ·have hk:=hlt k hk
   first|rfl|(simp (disch:=omega) only [zaa]<;>rfl)
 ·have:stop=0\/stop=1:=by omega
  rcases this with rfl|rfl
  all_goals
   repeat' first|refine zad ?_|refine zag ?_|refine gwZ ?_|(refine gwX ?_;intro Q hQ hP;simp [hC,hY,hA,hS,hne,hna,zm3,b0,w0,v0,e0,b1,w1,v1,e1,b2,w2,v2,e2];(first|refine hQ _ _ _ _ (by rcases hT.k8 with h8|h8<;>rcases hT.a8 with h9|h9<;>subst h8<;>subst h9<;>kernel_rfl) ?_|refine hP _ _ (by rcases hT.k8 with h8|h8<;>rcases hT.a8 with h9|h9<;>subst h8<;>subst h9<;>kernel_rfl) λ_=>?_))|refine gwC ?_ ?_<;>intro hb
  all_goals
   refine ⟨?_,?_,?_,λk hk=>?_⟩
   ·simp
   ·simp [results42]
   ·first|trivial|omega|(simp;done)|(simp;omega)
   ·have hk:=hlt k hk
    first|rfl|(simp (disch:=omega) only [zaa]<;>rfl)
theorem zrf (L:List (Nat×Blk)) (ka ks:Nat) (bm bs:Blk) (hT:LKa L ka ks bm bs) (off cap off2 cap2:Nat) (fm fs:Nat->Int) (hm:MB bm off 3 fm) (hSb:SB bs off2 3 fs) (g bx tp nr md st:Int) (hrt:zay st fs 3=true) :
  IterK prog G1 42 #[.pointer (some ⟨208,0,none⟩),.pointer (some ⟨216,0,none⟩),.pointer (some ⟨200,0,none⟩)] (hpL G1 (otM L ka ks off 3 cap off2 3 cap2 g bx tp nr md st 2)) (zab (otM L ka ks off 3 cap off2 3 cap2 g bx tp nr md st 2)) (zl8 fm fs 3 2):=by
 have hL:=zf8 hT off 3 cap off2 3 cap2 g bx tp nr md st 2
 have hlt:∀ k,dom (hpL G1 (otM L ka ks off 3 cap off2 3 cap2 g bx tp nr md st 2)) k->k<300:=λk hk=>Classical.byContradiction λh1=>hk (hL.free G1F (by omega) k (by omega))
 refine zdn (B:=300) (v:=.tuple #[]) G1F func42 rfl call42 hL ?_ (by simp [ntmps42]) (by omega) ?_
 ·simp [zap,zau,zaj,zal,otM,zab]
 intro C l stop hC hC0 hY
 have hA:=hT.a
 have hS:=hT.s
 have hne:=hT.ne
 have hna:=hT.na
 have hks:=hT.k1
 have exs:zl8 fm fs 3 2=[#[.int .i64 (fm 0),.agg #[.int .i64 (fs 0 - fs 12),.int .i64 (fs 1 - fs 13),.int .i64 (fs 2 - fs 14)]],#[.int .i64 (fm 1),.agg #[.int .i64 (fs 6 - fs 12),.int .i64 (fs 7 - fs 13),.int .i64 (fs 8 - fs 14)]]]:=rfl
 rw [exs] at hY |-
 have b0:=zbt hSb 0 (by omega) (off2) (by omega)
 simp only [Nat.reduceMul,Nat.reduceAdd,Nat.mul_zero,Nat.zero_add] at b0
 have w0:=zbu hm 0 (by omega) (off) (by omega)
 have v0:=zch hSb 0 (by omega) (off2) (by omega)
 simp only [Nat.reduceMul,Nat.reduceAdd,Nat.mul_zero,Nat.zero_add] at v0
 have e0:=zci hrt 2 0 (by omega) (by omega)
 simp only [Nat.reduceMul,Nat.reduceAdd,Nat.mul_zero,Nat.zero_add] at e0
 have b1:=zbt hSb 1 (by omega) (off2+6) (by omega)
 simp only [Nat.reduceMul,Nat.reduceAdd,Nat.mul_zero,Nat.zero_add] at b1
 have w1:=zbu hm 1 (by omega) (off+1) (by omega)
 have v1:=zch hSb 1 (by omega) (off2+6) (by omega)
 simp only [Nat.reduceMul,Nat.reduceAdd,Nat.mul_zero,Nat.zero_add] at v1
 have e1:=zci hrt 2 1 (by omega) (by omega)
 simp only [Nat.reduceMul,Nat.reduceAdd,Nat.mul_zero,Nat.zero_add] at e1
 have b2:=zbt hSb 2 (by omega) (off2+12) (by omega)
 simp only [Nat.reduceMul,Nat.reduceAdd,Nat.mul_zero,Nat.zero_add] at b2
 have w2:=zbu hm 2 (by omega) (off+2) (by omega)
 have v2:=zch hSb 2 (by omega) (off2+12) (by omega)
 simp only [Nat.reduceMul,Nat.reduceAdd,Nat.mul_zero,Nat.zero_add] at v2
 have e2:=zci hrt 2 2 (by omega) (by omega)
 simp only [Nat.reduceMul,Nat.reduceAdd,Nat.mul_zero,Nat.zero_add] at e2
 unfold otM cfB zcu ib
 by_cases hst:2<=stop
 ·have q0:(0 != stop)=true:=by simp;omega
  have q1:(1 != stop)=true:=by simp;omega
  have l1:1<=stop:=by omega
  repeat' first|refine zad ?_|refine zag ?_|refine gwZ ?_|(refine gwX ?_;intro Q hQ hP;simp [hC,hY,hA,hS,hne,hna,zm3,b0,w0,v0,e0,b1,w1,v1,e1,b2,w2,v2,e2,q0,q1,l1,hst];(first|refine hQ _ _ _ _ (by rcases hT.k8 with h8|h8<;>rcases hT.a8 with h9|h9<;>subst h8<;>subst h9<;>kernel_rfl) ?_|refine hP _ _ (by rcases hT.k8 with h8|h8<;>rcases hT.a8 with h9|h9<;>subst h8<;>subst h9<;>kernel_rfl) λ_=>?_))|refine gwC ?_ ?_<;>intro hb
  refine ⟨?_,?_,?_,λk hk=>?_⟩
  ·simp
  ·simp [results42]
  ·first|trivial|omega|(simp;done)|(simp;omega)
  ·have hk:=hlt k hk
   first|rfl|(simp (disch:=omega) only [zaa]<;>rfl)
 ·have:stop=0\/stop=1:=by omega
  rcases this with rfl|rfl
  all_goals
   repeat' first|refine zad ?_|refine zag ?_|refine gwZ ?_|(refine gwX ?_;intro Q hQ hP;simp [hC,hY,hA,hS,hne,hna,zm3,b0,w0,v0,e0,b1,w1,v1,e1,b2,w2,v2,e2];(first|refine hQ _ _ _ _ (by rcases hT.k8 with h8|h8<;>rcases hT.a8 with h9|h9<;>subst h8<;>subst h9<;>kernel_rfl) ?_|refine hP _ _ (by rcases hT.k8 with h8|h8<;>rcases hT.a8 with h9|h9<;>subst h8<;>subst h9<;>kernel_rfl) λ_=>?_))|refine gwC ?_ ?_<;>intro hb
  all_goals
   refine ⟨?_,?_,?_,λk hk=>?_⟩
   ·simp
   ·simp [results42]
   ·first|trivial|omega|(simp;done)|(simp;omega)
   ·have hk:=hlt k hk
    first|rfl|(simp (disch:=omega) only [zaa]<;>rfl)
theorem zrg (L:List (Nat×Blk)) (ka ks:Nat) (bm bs:Blk) (hT:LKa L ka ks bm bs) (off cap off2 cap2:Nat) (fm fs:Nat->Int) (hm:MB bm off 4 fm) (hSb:SB bs off2 4 fs) (g bx tp nr md st:Int) (hrt:zay st fs 4=true) :
  IterK prog G1 42 #[.pointer (some ⟨208,0,none⟩),.pointer (some ⟨216,0,none⟩),.pointer (some ⟨200,0,none⟩)] (hpL G1 (otM L ka ks off 4 cap off2 4 cap2 g bx tp nr md st 0)) (zab (otM L ka ks off 4 cap off2 4 cap2 g bx tp nr md st 0)) (zl8 fm fs 4 0):=by
 have hL:=zf8 hT off 4 cap off2 4 cap2 g bx tp nr md st 0
 have hlt:∀ k,dom (hpL G1 (otM L ka ks off 4 cap off2 4 cap2 g bx tp nr md st 0)) k->k<300:=λk hk=>Classical.byContradiction λh1=>hk (hL.free G1F (by omega) k (by omega))
 refine zdn (B:=300) (v:=.tuple #[]) G1F func42 rfl call42 hL ?_ (by simp [ntmps42]) (by omega) ?_
 ·simp [zap,zau,zaj,zal,otM,zab]
 intro C l stop hC hC0 hY
 have hA:=hT.a
 have hS:=hT.s
 have hne:=hT.ne
 have hna:=hT.na
 have hks:=hT.k1
 have exs:zl8 fm fs 4 0=[#[.int .i64 (fm 1),.agg #[.int .i64 (fs 6 - fs 0),.int .i64 (fs 7 - fs 1),.int .i64 (fs 8 - fs 2)]],#[.int .i64 (fm 2),.agg #[.int .i64 (fs 12 - fs 0),.int .i64 (fs 13 - fs 1),.int .i64 (fs 14 - fs 2)]],#[.int .i64 (fm 3),.agg #[.int .i64 (fs 18 - fs 0),.int .i64 (fs 19 - fs 1),.int .i64 (fs 20 - fs 2)]]]:=rfl
 rw [exs] at hY |-
 have b0:=zbt hSb 0 (by omega) (off2) (by omega)
 simp only [Nat.reduceMul,Nat.reduceAdd,Nat.mul_zero,Nat.zero_add] at b0
 have w0:=zbu hm 0 (by omega) (off) (by omega)
 have v0:=zch hSb 0 (by omega) (off2) (by omega)
 simp only [Nat.reduceMul,Nat.reduceAdd,Nat.mul_zero,Nat.zero_add] at v0
 have e0:=zci hrt 0 0 (by omega) (by omega)
 simp only [Nat.reduceMul,Nat.reduceAdd,Nat.mul_zero,Nat.zero_add] at e0
 have b1:=zbt hSb 1 (by omega) (off2+6) (by omega)
 simp only [Nat.reduceMul,Nat.reduceAdd,Nat.mul_zero,Nat.zero_add] at b1
 have w1:=zbu hm 1 (by omega) (off+1) (by omega)
 have v1:=zch hSb 1 (by omega) (off2+6) (by omega)
 simp only [Nat.reduceMul,Nat.reduceAdd,Nat.mul_zero,Nat.zero_add] at v1
 have e1:=zci hrt 0 1 (by omega) (by omega)
 simp only [Nat.reduceMul,Nat.reduceAdd,Nat.mul_zero,Nat.zero_add] at e1
 have b2:=zbt hSb 2 (by omega) (off2+12) (by omega)
 simp only [Nat.reduceMul,Nat.reduceAdd,Nat.mul_zero,Nat.zero_add] at b2
 have w2:=zbu hm 2 (by omega) (off+2) (by omega)
 have v2:=zch hSb 2 (by omega) (off2+12) (by omega)
 simp only [Nat.reduceMul,Nat.reduceAdd,Nat.mul_zero,Nat.zero_add] at v2
 have e2:=zci hrt 0 2 (by omega) (by omega)
 simp only [Nat.reduceMul,Nat.reduceAdd,Nat.mul_zero,Nat.zero_add] at e2
 have b3:=zbt hSb 3 (by omega) (off2+18) (by omega)
 simp only [Nat.reduceMul,Nat.reduceAdd,Nat.mul_zero,Nat.zero_add] at b3
 have w3:=zbu hm 3 (by omega) (off+3) (by omega)
 have v3:=zch hSb 3 (by omega) (off2+18) (by omega)
 simp only [Nat.reduceMul,Nat.reduceAdd,Nat.mul_zero,Nat.zero_add] at v3
 have e3:=zci hrt 0 3 (by omega) (by omega)
 simp only [Nat.reduceMul,Nat.reduceAdd,Nat.mul_zero,Nat.zero_add] at e3
 unfold otM cfB zcu ib
 by_cases hst:3<=stop
 ·have q0:(0 != stop)=true:=by simp;omega
  have q1:(1 != stop)=true:=by simp;omega
  have l1:1<=stop:=by omega
  have q2:(2 != stop)=true:=by simp;omega
  have l2:2<=stop:=by omega
  repeat' first|refine zad ?_|refine zag ?_|refine gwZ ?_|(refine gwX ?_;intro Q hQ hP;simp [hC,hY,hA,hS,hne,hna,zm3,b0,w0,v0,e0,b1,w1,v1,e1,b2,w2,v2,e2,b3,w3,v3,e3,q0,q1,l1,q2,l2,hst];(first|refine hQ _ _ _ _ (by rcases hT.k8 with h8|h8<;>rcases hT.a8 with h9|h9<;>subst h8<;>subst h9<;>kernel_rfl) ?_|refine hP _ _ (by rcases hT.k8 with h8|h8<;>rcases hT.a8 with h9|h9<;>subst h8<;>subst h9<;>kernel_rfl) λ_=>?_))|refine gwC ?_ ?_<;>intro hb
  refine ⟨?_,?_,?_,λk hk=>?_⟩
  ·simp
  ·simp [results42]
  ·first|trivial|omega|(simp;done)|(simp;omega)
  ·have hk:=hlt k hk
   first|rfl|(simp (disch:=omega) only [zaa]<;>rfl)
 ·have:stop=0\/stop=1\/stop=2:=by omega
  rcases this with rfl|rfl|rfl
  all_goals
   repeat' first|refine zad ?_|refine zag ?_|refine gwZ ?_|(refine gwX ?_;intro Q hQ hP;simp [hC,hY,hA,hS,hne,hna,zm3,b0,w0,v0,e0,b1,w1,v1,e1,b2,w2,v2,e2,b3,w3,v3,e3];(first|refine hQ _ _ _ _ (by rcases hT.k8 with h8|h8<;>rcases hT.a8 with h9|h9<;>subst h8<;>subst h9<;>kernel_rfl) ?_|refine hP _ _ (by rcases hT.k8 with h8|h8<;>rcases hT.a8 with h9|h9<;>subst h8<;>subst h9<;>kernel_rfl) λ_=>?_))|refine gwC ?_ ?_<;>intro hb
  all_goals
   refine ⟨?_,?_,?_,λk hk=>?_⟩
   ·simp
   ·simp [results42]
   ·first|trivial|omega|(simp;done)|(simp;omega)
   ·have hk:=hlt k hk
    first|rfl|(simp (disch:=omega) only [zaa]<;>rfl)
theorem zrh (L:List (Nat×Blk)) (ka ks:Nat) (bm bs:Blk) (hT:LKa L ka ks bm bs) (off cap off2 cap2:Nat) (fm fs:Nat->Int) (hm:MB bm off 4 fm) (hSb:SB bs off2 4 fs) (g bx tp nr md st:Int) (hrt:zay st fs 4=true) :
  IterK prog G1 42 #[.pointer (some ⟨208,0,none⟩),.pointer (some ⟨216,0,none⟩),.pointer (some ⟨200,0,none⟩)] (hpL G1 (otM L ka ks off 4 cap off2 4 cap2 g bx tp nr md st 1)) (zab (otM L ka ks off 4 cap off2 4 cap2 g bx tp nr md st 1)) (zl8 fm fs 4 1):=by
 have hL:=zf8 hT off 4 cap off2 4 cap2 g bx tp nr md st 1
 have hlt:∀ k,dom (hpL G1 (otM L ka ks off 4 cap off2 4 cap2 g bx tp nr md st 1)) k->k<300:=λk hk=>Classical.byContradiction λh1=>hk (hL.free G1F (by omega) k (by omega))
 refine zdn (B:=300) (v:=.tuple #[]) G1F func42 rfl call42 hL ?_ (by simp [ntmps42]) (by omega) ?_
 ·simp [zap,zau,zaj,zal,otM,zab]
 intro C l stop hC hC0 hY
 have hA:=hT.a
 have hS:=hT.s
 have hne:=hT.ne
 have hna:=hT.na
 have hks:=hT.k1
 have exs:zl8 fm fs 4 1=[#[.int .i64 (fm 0),.agg #[.int .i64 (fs 0 - fs 6),.int .i64 (fs 1 - fs 7),.int .i64 (fs 2 - fs 8)]],#[.int .i64 (fm 2),.agg #[.int .i64 (fs 12 - fs 6),.int .i64 (fs 13 - fs 7),.int .i64 (fs 14 - fs 8)]],#[.int .i64 (fm 3),.agg #[.int .i64 (fs 18 - fs 6),.int .i64 (fs 19 - fs 7),.int .i64 (fs 20 - fs 8)]]]:=rfl
 rw [exs] at hY |-
 have b0:=zbt hSb 0 (by omega) (off2) (by omega)
 simp only [Nat.reduceMul,Nat.reduceAdd,Nat.mul_zero,Nat.zero_add] at b0
 have w0:=zbu hm 0 (by omega) (off) (by omega)
 have v0:=zch hSb 0 (by omega) (off2) (by omega)
 simp only [Nat.reduceMul,Nat.reduceAdd,Nat.mul_zero,Nat.zero_add] at v0
 have e0:=zci hrt 1 0 (by omega) (by omega)
 simp only [Nat.reduceMul,Nat.reduceAdd,Nat.mul_zero,Nat.zero_add] at e0
 have b1:=zbt hSb 1 (by omega) (off2+6) (by omega)
 simp only [Nat.reduceMul,Nat.reduceAdd,Nat.mul_zero,Nat.zero_add] at b1
 have w1:=zbu hm 1 (by omega) (off+1) (by omega)
 have v1:=zch hSb 1 (by omega) (off2+6) (by omega)
 simp only [Nat.reduceMul,Nat.reduceAdd,Nat.mul_zero,Nat.zero_add] at v1
 have e1:=zci hrt 1 1 (by omega) (by omega)
 simp only [Nat.reduceMul,Nat.reduceAdd,Nat.mul_zero,Nat.zero_add] at e1
 have b2:=zbt hSb 2 (by omega) (off2+12) (by omega)
 simp only [Nat.reduceMul,Nat.reduceAdd,Nat.mul_zero,Nat.zero_add] at b2
 have w2:=zbu hm 2 (by omega) (off+2) (by omega)
 have v2:=zch hSb 2 (by omega) (off2+12) (by omega)
 simp only [Nat.reduceMul,Nat.reduceAdd,Nat.mul_zero,Nat.zero_add] at v2
 have e2:=zci hrt 1 2 (by omega) (by omega)
 simp only [Nat.reduceMul,Nat.reduceAdd,Nat.mul_zero,Nat.zero_add] at e2
 have b3:=zbt hSb 3 (by omega) (off2+18) (by omega)
 simp only [Nat.reduceMul,Nat.reduceAdd,Nat.mul_zero,Nat.zero_add] at b3
 have w3:=zbu hm 3 (by omega) (off+3) (by omega)
 have v3:=zch hSb 3 (by omega) (off2+18) (by omega)
 simp only [Nat.reduceMul,Nat.reduceAdd,Nat.mul_zero,Nat.zero_add] at v3
 have e3:=zci hrt 1 3 (by omega) (by omega)
 simp only [Nat.reduceMul,Nat.reduceAdd,Nat.mul_zero,Nat.zero_add] at e3
 unfold otM cfB zcu ib
 by_cases hst:3<=stop
 ·have q0:(0 != stop)=true:=by simp;omega
  have q1:(1 != stop)=true:=by simp;omega
  have l1:1<=stop:=by omega
  have q2:(2 != stop)=true:=by simp;omega
  have l2:2<=stop:=by omega
  repeat' first|refine zad ?_|refine zag ?_|refine gwZ ?_|(refine gwX ?_;intro Q hQ hP;simp [hC,hY,hA,hS,hne,hna,zm3,b0,w0,v0,e0,b1,w1,v1,e1,b2,w2,v2,e2,b3,w3,v3,e3,q0,q1,l1,q2,l2,hst];(first|refine hQ _ _ _ _ (by rcases hT.k8 with h8|h8<;>rcases hT.a8 with h9|h9<;>subst h8<;>subst h9<;>kernel_rfl) ?_|refine hP _ _ (by rcases hT.k8 with h8|h8<;>rcases hT.a8 with h9|h9<;>subst h8<;>subst h9<;>kernel_rfl) λ_=>?_))|refine gwC ?_ ?_<;>intro hb
  refine ⟨?_,?_,?_,λk hk=>?_⟩
  ·simp
  ·simp [results42]
  ·first|trivial|omega|(simp;done)|(simp;omega)
  ·have hk:=hlt k hk
   first|rfl|(simp (disch:=omega) only [zaa]<;>rfl)
 ·have:stop=0\/stop=1\/stop=2:=by omega
  rcases this with rfl|rfl|rfl
  all_goals
   repeat' first|refine zad ?_|refine zag ?_|refine gwZ ?_|(refine gwX ?_;intro Q hQ hP;simp [hC,hY,hA,hS,hne,hna,zm3,b0,w0,v0,e0,b1,w1,v1,e1,b2,w2,v2,e2,b3,w3,v3,e3];(first|refine hQ _ _ _ _ (by rcases hT.k8 with h8|h8<;>rcases hT.a8 with h9|h9<;>subst h8<;>subst h9<;>kernel_rfl) ?_|refine hP _ _ (by rcases hT.k8 with h8|h8<;>rcases hT.a8 with h9|h9<;>subst h8<;>subst h9<;>kernel_rfl) λ_=>?_))|refine gwC ?_ ?_<;>intro hb
  all_goals
   refine ⟨?_,?_,?_,λk hk=>?_⟩
   ·simp
   ·simp [results42]
   ·first|trivial|omega|(simp;done)|(simp;omega)
   ·have hk:=hlt k hk
    first|rfl|(simp (disch:=omega) only [zaa]<;>rfl)
theorem zri (L:List (Nat×Blk)) (ka ks:Nat) (bm bs:Blk) (hT:LKa L ka ks bm bs) (off cap off2 cap2:Nat) (fm fs:Nat->Int) (hm:MB bm off 4 fm) (hSb:SB bs off2 4 fs) (g bx tp nr md st:Int) (hrt:zay st fs 4=true) :
  IterK prog G1 42 #[.pointer (some ⟨208,0,none⟩),.pointer (some ⟨216,0,none⟩),.pointer (some ⟨200,0,none⟩)] (hpL G1 (otM L ka ks off 4 cap off2 4 cap2 g bx tp nr md st 2)) (zab (otM L ka ks off 4 cap off2 4 cap2 g bx tp nr md st 2)) (zl8 fm fs 4 2):=by
 have hL:=zf8 hT off 4 cap off2 4 cap2 g bx tp nr md st 2
 have hlt:∀ k,dom (hpL G1 (otM L ka ks off 4 cap off2 4 cap2 g bx tp nr md st 2)) k->k<300:=λk hk=>Classical.byContradiction λh1=>hk (hL.free G1F (by omega) k (by omega))
 refine zdn (B:=300) (v:=.tuple #[]) G1F func42 rfl call42 hL ?_ (by simp [ntmps42]) (by omega) ?_
 ·simp [zap,zau,zaj,zal,otM,zab]
 intro C l stop hC hC0 hY
 have hA:=hT.a
 have hS:=hT.s
 have hne:=hT.ne
 have hna:=hT.na
 have hks:=hT.k1
 have exs:zl8 fm fs 4 2=[#[.int .i64 (fm 0),.agg #[.int .i64 (fs 0 - fs 12),.int .i64 (fs 1 - fs 13),.int .i64 (fs 2 - fs 14)]],#[.int .i64 (fm 1),.agg #[.int .i64 (fs 6 - fs 12),.int .i64 (fs 7 - fs 13),.int .i64 (fs 8 - fs 14)]],#[.int .i64 (fm 3),.agg #[.int .i64 (fs 18 - fs 12),.int .i64 (fs 19 - fs 13),.int .i64 (fs 20 - fs 14)]]]:=rfl
 rw [exs] at hY |-
 have b0:=zbt hSb 0 (by omega) (off2) (by omega)
 simp only [Nat.reduceMul,Nat.reduceAdd,Nat.mul_zero,Nat.zero_add] at b0
 have w0:=zbu hm 0 (by omega) (off) (by omega)
 have v0:=zch hSb 0 (by omega) (off2) (by omega)
 simp only [Nat.reduceMul,Nat.reduceAdd,Nat.mul_zero,Nat.zero_add] at v0
 have e0:=zci hrt 2 0 (by omega) (by omega)
 simp only [Nat.reduceMul,Nat.reduceAdd,Nat.mul_zero,Nat.zero_add] at e0
 have b1:=zbt hSb 1 (by omega) (off2+6) (by omega)
 simp only [Nat.reduceMul,Nat.reduceAdd,Nat.mul_zero,Nat.zero_add] at b1
 have w1:=zbu hm 1 (by omega) (off+1) (by omega)
 have v1:=zch hSb 1 (by omega) (off2+6) (by omega)
 simp only [Nat.reduceMul,Nat.reduceAdd,Nat.mul_zero,Nat.zero_add] at v1
 have e1:=zci hrt 2 1 (by omega) (by omega)
 simp only [Nat.reduceMul,Nat.reduceAdd,Nat.mul_zero,Nat.zero_add] at e1
 have b2:=zbt hSb 2 (by omega) (off2+12) (by omega)
 simp only [Nat.reduceMul,Nat.reduceAdd,Nat.mul_zero,Nat.zero_add] at b2
 have w2:=zbu hm 2 (by omega) (off+2) (by omega)
 have v2:=zch hSb 2 (by omega) (off2+12) (by omega)
 simp only [Nat.reduceMul,Nat.reduceAdd,Nat.mul_zero,Nat.zero_add] at v2
 have e2:=zci hrt 2 2 (by omega) (by omega)
 simp only [Nat.reduceMul,Nat.reduceAdd,Nat.mul_zero,Nat.zero_add] at e2
 have b3:=zbt hSb 3 (by omega) (off2+18) (by omega)
 simp only [Nat.reduceMul,Nat.reduceAdd,Nat.mul_zero,Nat.zero_add] at b3
 have w3:=zbu hm 3 (by omega) (off+3) (by omega)
 have v3:=zch hSb 3 (by omega) (off2+18) (by omega)
 simp only [Nat.reduceMul,Nat.reduceAdd,Nat.mul_zero,Nat.zero_add] at v3
 have e3:=zci hrt 2 3 (by omega) (by omega)
 simp only [Nat.reduceMul,Nat.reduceAdd,Nat.mul_zero,Nat.zero_add] at e3
 unfold otM cfB zcu ib
 by_cases hst:3<=stop
 ·have q0:(0 != stop)=true:=by simp;omega
  have q1:(1 != stop)=true:=by simp;omega
  have l1:1<=stop:=by omega
  have q2:(2 != stop)=true:=by simp;omega
  have l2:2<=stop:=by omega
  repeat' first|refine zad ?_|refine zag ?_|refine gwZ ?_|(refine gwX ?_;intro Q hQ hP;simp [hC,hY,hA,hS,hne,hna,zm3,b0,w0,v0,e0,b1,w1,v1,e1,b2,w2,v2,e2,b3,w3,v3,e3,q0,q1,l1,q2,l2,hst];(first|refine hQ _ _ _ _ (by rcases hT.k8 with h8|h8<;>rcases hT.a8 with h9|h9<;>subst h8<;>subst h9<;>kernel_rfl) ?_|refine hP _ _ (by rcases hT.k8 with h8|h8<;>rcases hT.a8 with h9|h9<;>subst h8<;>subst h9<;>kernel_rfl) λ_=>?_))|refine gwC ?_ ?_<;>intro hb
  refine ⟨?_,?_,?_,λk hk=>?_⟩
  ·simp
  ·simp [results42]
  ·first|trivial|omega|(simp;done)|(simp;omega)
  ·have hk:=hlt k hk
   first|rfl|(simp (disch:=omega) only [zaa]<;>rfl)
 ·have:stop=0\/stop=1\/stop=2:=by omega
  rcases this with rfl|rfl|rfl
  all_goals
   repeat' first|refine zad ?_|refine zag ?_|refine gwZ ?_|(refine gwX ?_;intro Q hQ hP;simp [hC,hY,hA,hS,hne,hna,zm3,b0,w0,v0,e0,b1,w1,v1,e1,b2,w2,v2,e2,b3,w3,v3,e3];(first|refine hQ _ _ _ _ (by rcases hT.k8 with h8|h8<;>rcases hT.a8 with h9|h9<;>subst h8<;>subst h9<;>kernel_rfl) ?_|refine hP _ _ (by rcases hT.k8 with h8|h8<;>rcases hT.a8 with h9|h9<;>subst h8<;>subst h9<;>kernel_rfl) λ_=>?_))|refine gwC ?_ ?_<;>intro hb
  all_goals
   refine ⟨?_,?_,?_,λk hk=>?_⟩
   ·simp
   ·simp [results42]
   ·first|trivial|omega|(simp;done)|(simp;omega)
   ·have hk:=hlt k hk
    first|rfl|(simp (disch:=omega) only [zaa]<;>rfl)
theorem zrj (L:List (Nat×Blk)) (ka ks:Nat) (bm bs:Blk) (hT:LKa L ka ks bm bs) (off cap off2 cap2:Nat) (fm fs:Nat->Int) (hm:MB bm off 4 fm) (hSb:SB bs off2 4 fs) (g bx tp nr md st:Int) (hrt:zay st fs 4=true) :
  IterK prog G1 42 #[.pointer (some ⟨208,0,none⟩),.pointer (some ⟨216,0,none⟩),.pointer (some ⟨200,0,none⟩)] (hpL G1 (otM L ka ks off 4 cap off2 4 cap2 g bx tp nr md st 3)) (zab (otM L ka ks off 4 cap off2 4 cap2 g bx tp nr md st 3)) (zl8 fm fs 4 3):=by
 have hL:=zf8 hT off 4 cap off2 4 cap2 g bx tp nr md st 3
 have hlt:∀ k,dom (hpL G1 (otM L ka ks off 4 cap off2 4 cap2 g bx tp nr md st 3)) k->k<300:=λk hk=>Classical.byContradiction λh1=>hk (hL.free G1F (by omega) k (by omega))
 refine zdn (B:=300) (v:=.tuple #[]) G1F func42 rfl call42 hL ?_ (by simp [ntmps42]) (by omega) ?_
 ·simp [zap,zau,zaj,zal,otM,zab]
 intro C l stop hC hC0 hY
 have hA:=hT.a
 have hS:=hT.s
 have hne:=hT.ne
 have hna:=hT.na
 have hks:=hT.k1
 have exs:zl8 fm fs 4 3=[#[.int .i64 (fm 0),.agg #[.int .i64 (fs 0 - fs 18),.int .i64 (fs 1 - fs 19),.int .i64 (fs 2 - fs 20)]],#[.int .i64 (fm 1),.agg #[.int .i64 (fs 6 - fs 18),.int .i64 (fs 7 - fs 19),.int .i64 (fs 8 - fs 20)]],#[.int .i64 (fm 2),.agg #[.int .i64 (fs 12 - fs 18),.int .i64 (fs 13 - fs 19),.int .i64 (fs 14 - fs 20)]]]:=rfl
 rw [exs] at hY |-
 have b0:=zbt hSb 0 (by omega) (off2) (by omega)
 simp only [Nat.reduceMul,Nat.reduceAdd,Nat.mul_zero,Nat.zero_add] at b0
 have w0:=zbu hm 0 (by omega) (off) (by omega)
 have v0:=zch hSb 0 (by omega) (off2) (by omega)
 simp only [Nat.reduceMul,Nat.reduceAdd,Nat.mul_zero,Nat.zero_add] at v0
 have e0:=zci hrt 3 0 (by omega) (by omega)
 simp only [Nat.reduceMul,Nat.reduceAdd,Nat.mul_zero,Nat.zero_add] at e0
 have b1:=zbt hSb 1 (by omega) (off2+6) (by omega)
 simp only [Nat.reduceMul,Nat.reduceAdd,Nat.mul_zero,Nat.zero_add] at b1
 have w1:=zbu hm 1 (by omega) (off+1) (by omega)
 have v1:=zch hSb 1 (by omega) (off2+6) (by omega)
 simp only [Nat.reduceMul,Nat.reduceAdd,Nat.mul_zero,Nat.zero_add] at v1
 have e1:=zci hrt 3 1 (by omega) (by omega)
 simp only [Nat.reduceMul,Nat.reduceAdd,Nat.mul_zero,Nat.zero_add] at e1
 have b2:=zbt hSb 2 (by omega) (off2+12) (by omega)
 simp only [Nat.reduceMul,Nat.reduceAdd,Nat.mul_zero,Nat.zero_add] at b2
 have w2:=zbu hm 2 (by omega) (off+2) (by omega)
 have v2:=zch hSb 2 (by omega) (off2+12) (by omega)
 simp only [Nat.reduceMul,Nat.reduceAdd,Nat.mul_zero,Nat.zero_add] at v2
 have e2:=zci hrt 3 2 (by omega) (by omega)
 simp only [Nat.reduceMul,Nat.reduceAdd,Nat.mul_zero,Nat.zero_add] at e2
 have b3:=zbt hSb 3 (by omega) (off2+18) (by omega)
 simp only [Nat.reduceMul,Nat.reduceAdd,Nat.mul_zero,Nat.zero_add] at b3
 have w3:=zbu hm 3 (by omega) (off+3) (by omega)
 have v3:=zch hSb 3 (by omega) (off2+18) (by omega)
 simp only [Nat.reduceMul,Nat.reduceAdd,Nat.mul_zero,Nat.zero_add] at v3
 have e3:=zci hrt 3 3 (by omega) (by omega)
 simp only [Nat.reduceMul,Nat.reduceAdd,Nat.mul_zero,Nat.zero_add] at e3
 unfold otM cfB zcu ib
 by_cases hst:3<=stop
 ·have q0:(0 != stop)=true:=by simp;omega
  have q1:(1 != stop)=true:=by simp;omega
  have l1:1<=stop:=by omega
  have q2:(2 != stop)=true:=by simp;omega
  have l2:2<=stop:=by omega
  repeat' first|refine zad ?_|refine zag ?_|refine gwZ ?_|(refine gwX ?_;intro Q hQ hP;simp [hC,hY,hA,hS,hne,hna,zm3,b0,w0,v0,e0,b1,w1,v1,e1,b2,w2,v2,e2,b3,w3,v3,e3,q0,q1,l1,q2,l2,hst];(first|refine hQ _ _ _ _ (by rcases hT.k8 with h8|h8<;>rcases hT.a8 with h9|h9<;>subst h8<;>subst h9<;>kernel_rfl) ?_|refine hP _ _ (by rcases hT.k8 with h8|h8<;>rcases hT.a8 with h9|h9<;>subst h8<;>subst h9<;>kernel_rfl) λ_=>?_))|refine gwC ?_ ?_<;>intro hb
  refine ⟨?_,?_,?_,λk hk=>?_⟩
  ·simp
  ·simp [results42]
  ·first|trivial|omega|(simp;done)|(simp;omega)
  ·have hk:=hlt k hk
   first|rfl|(simp (disch:=omega) only [zaa]<;>rfl)
 ·have:stop=0\/stop=1\/stop=2:=by omega
  rcases this with rfl|rfl|rfl
  all_goals
   repeat' first|refine zad ?_|refine zag ?_|refine gwZ ?_|(refine gwX ?_;intro Q hQ hP;simp [hC,hY,hA,hS,hne,hna,zm3,b0,w0,v0,e0,b1,w1,v1,e1,b2,w2,v2,e2,b3,w3,v3,e3];(first|refine hQ _ _ _ _ (by rcases hT.k8 with h8|h8<;>rcases hT.a8 with h9|h9<;>subst h8<;>subst h9<;>kernel_rfl) ?_|refine hP _ _ (by rcases hT.k8 with h8|h8<;>rcases hT.a8 with h9|h9<;>subst h8<;>subst h9<;>kernel_rfl) λ_=>?_))|refine gwC ?_ ?_<;>intro hb
  all_goals
   refine ⟨?_,?_,?_,λk hk=>?_⟩
   ·simp
   ·simp [results42]
   ·first|trivial|omega|(simp;done)|(simp;omega)
   ·have hk:=hlt k hk
    first|rfl|(simp (disch:=omega) only [zaa]<;>rfl)
end Go.Gy
namespace Go.Gy
open Go Go.RowKit Go.Proofs
theorem z9f (n d g m r:Int):zf9 n d g m 0 r=0:=by
 unfold zf9
 simp only [Int.mul_zero,Int.zero_mul,Int.zero_ediv]
 rw [zd7 (r:=0) (by decide) (by decide) (by decide)]
 decide
theorem z9g (n d g m x r:Int):zf9 (-n) d g m x r=zf9 n d g m x r:=by
 unfold zf9
 have e:2*-n*g*m*x=-(2*n*g*m*x):=by simp only [Int.mul_neg,Int.neg_mul]
 rw [e,Int.neg_mul_neg]
theorem z3o (d g m x r:Int):zf9 0 d g m x r=0:=by
 unfold zf9
 simp only [Int.mul_zero,Int.zero_mul,Int.zero_ediv]
 rw [zd7 (r:=0) (by decide) (by decide) (by decide)]
 decide
theorem z9h (n d g m x r:Int):zbe (-n) d g m x r=-zbe n d g m x r:=by
 unfold zbe
 rw [z9g]
 have h0:n=0->zf9 n d g m x r=0:=λh=>by subst h;exact z3o _ _ _ _ _
 generalize zf9 n d g m x r=M at *
 (repeat' split)<;>omega
theorem zfa {n d g m x r:Int} (h:PIn n d g m x r):-4503599627370496<=zbe n d g m x r/\zbe n d g m x r<=4503599627370496:=by
 have:=h.mag
 unfold zbe
 (repeat' split)<;>omega
def kpF (n d g:Int) (fm fs:Nat->Int) (i u k:Nat):Int:=zbe n d g (fm k) (fs (6*k+u) - fs (6*i+u)) (d2F fs k i)
def oS (F:Nat->Int):List Nat->Int
 | []=>0
 | k::l=>F k+oS F l
theorem zzi (F:Nat->Int):∀ l m,oS F (l++m)=oS F l+oS F m
 | [],m=>by simp [oS]
 | p::l,m=>by
  simp only [List.cons_append,oS,zzi F l m]
  omega
theorem zi2 (F:Nat->Int) {l:List Nat} {j:Nat} (hj:j<l.length):oS F (l.take (j+1))=oS F (l.take j)+F l[j]:=by
 rw [show l.take (j+1)=l.take j++[l[j]] by simp,zzi]
 simp [oS]
theorem jf1 {F:Nat->Int} {B:Int}:∀ {l:List Nat},(∀ k∈l,-B<=F k/\F k<=B)->-(l.length*B)<=oS F l/\oS F l<=l.length*B
 | [],_=>by simp [oS]
 | p::l,h=>by
  have h1:=jf1 (l:=l) λq hq=>h q (List.mem_cons_of_mem _ hq)
  have h2:=h p (by simp)
  simp only [oS,List.length_cons,Int.natCast_succ,Int.add_mul]
  omega
theorem z66 {F H:Nat->Int}:∀ {l:List Nat},(∀ k∈l,F k=-(H k))->oS F l=-(oS H l)
 | [],_=>rfl
 | p::l,h=>by
  simp only [oS]
  rw [h p (by simp),z66 λq hq=>h q (List.mem_cons_of_mem _ hq)]
  omega
theorem ze2 {n i k:Nat}:k∈zf2 n i↔k<n/\k≠i:=by
 unfold zf2
 rw [List.mem_filter,List.mem_range]
 simp
theorem zzm {n i:Nat} (hn:n<=4):(zf2 n i).length<=4:=by
 unfold zf2
 exact Nat.le_trans (List.length_filter_le _ _) (by rw [List.length_range];exact hn)
theorem zti (F:Nat->Int) (i:Nat):∀ n:Nat,oS F (zf2 n i)=zd8 (λk=>if k=i then 0 else F k) n
 | 0=>rfl
 | n+1=>by
  unfold zd8
  rw [<-zti F i n]
  unfold zf2
  rw [List.range_succ,List.filter_append,zzi]
  by_cases c:n=i
  ·simp [c,oS]
  ·simp [c,oS]
def kS (n d g:Int) (fm fs:Nat->Int) (N i u:Nat):Int:=oS (kpF n d g fm fs i u) (zf2 N i)
def kZ (fs:Nat->Int) (N i:Nat):Bool:=(zf2 N i).any λk=>decide (d2F fs k i=0)
theorem je8 {fs:Nat->Int} {N i:Nat}:kZ fs N i=false↔∀ k,k<N->k≠i->¬d2F fs k i=0:=by
 unfold kZ
 rw [List.any_eq_false]
 exact ⟨λh k h1 h2=>by simpa using h k (ze2.2 ⟨h1,h2⟩),λh k hk=>by have:=ze2.1 hk;simpa using h k this.1 this.2⟩
theorem job {fs:Nat->Int} {N i:Nat}:kZ fs N i=true↔∃ k,k<N/\k≠i/\d2F fs k i=0:=by
 unfold kZ
 rw [List.any_eq_true]
 exact ⟨λ⟨k,h1,h2⟩=>⟨k,(ze2.1 h1).1,(ze2.1 h1).2,by simpa using h2⟩,λ⟨k,h1,h2,h3⟩=>⟨k,ze2.2 ⟨h1,h2⟩,by simpa using h3⟩⟩
def zdi (n d:Int):Bool:=decide (-2097152<=n/\n<=2097152/\1<=d/\d<=2097152)
theorem zej {n d:Int}:zdi n d=true ↔ -2097152<=n/\n<=2097152/\1<=d/\d<=2097152:=by
 unfold zdi
 exact decide_eq_true_iff
def zqx (fs:Nat->Int) (N:Nat):Bool:=(List.range N).any λi=>kZ fs N i
theorem zjg {fs:Nat->Int} {N:Nat}:zqx fs N=false↔∀ i,i<N->kZ fs N i=false:=by
 unfold zqx
 rw [List.any_eq_false]
 exact ⟨λh i hi=>by simpa using h i (by simpa using hi),λh i hi=>by simpa using h i (by simpa using hi)⟩
def kkF (n d g:Int) (fm fs:Nat->Int) (N:Nat) (j:Nat):Int:=kS n d g fm fs N (j / 3) (j%3)
def kcF (n d g:Int) (fm fs:Nat->Int) (N:Nat) (j:Nat):Int:=if j%6<3 then fs j else fs j+kS n d g fm fs N (j / 6) (j%6 - 3)
theorem zyl {st:Int} {fs:Nat->Int} {n:Nat} (hr:zay st fs n=true) {i k:Nat} (hi:i<n) (hk:k<n):0<=d2F fs k i/\d2F fs k i<=13194139533312/\∀ u,u<3->-2097152<=fs (6*k+u) - fs (6*i+u)/\fs (6*k+u) - fs (6*i+u)<=2097152/\(fs (6*k+u) - fs (6*i+u))*(fs (6*k+u) - fs (6*i+u))<=d2F fs k i:=by
 obtain ⟨⟨_,a0,a0'⟩,⟨_,a1,a1'⟩,⟨_,a2,a2'⟩⟩:=(ze3 hr hi).1
 obtain ⟨⟨_,b0,b0'⟩,⟨_,b1,b1'⟩,⟨_,b2,b2'⟩⟩:=(ze3 hr hk).1
 have s0:=ja3 (a:=fs (6*k) - fs (6*i)) (m:=2097152) ⟨by omega,by omega,by omega⟩
 have s1:=ja3 (a:=fs (6*k+1) - fs (6*i+1)) (m:=2097152) ⟨by omega,by omega,by omega⟩
 have s2:=ja3 (a:=fs (6*k+2) - fs (6*i+2)) (m:=2097152) ⟨by omega,by omega,by omega⟩
 unfold d2F
 refine ⟨by omega,by omega,λu hu=>?_⟩
 have:u=0\/u=1\/u=2:=by omega
 rcases this with rfl|rfl|rfl
 ·simp only [Nat.add_zero]
  exact ⟨by omega,by omega,by omega⟩
 ·exact ⟨by omega,by omega,by omega⟩
 ·exact ⟨by omega,by omega,by omega⟩
theorem zib {n d g bx tp nr md st:Int} {fm fs:Nat->Int} {N i k u:Nat} (hok:zd2 N fm g bx tp nr md=true) (hr:zay st fs N=true) (hp:zdi n d=true) (hi:i<N) (hk:k<N) (hu:u<3) (hz:¬d2F fs k i=0):PIn n d g (fm k) (fs (6*k+u) - fs (6*i+u)) (d2F fs k i):=by
 obtain ⟨h1,h2,h3⟩:=zyl hr hi hk
 obtain ⟨p1,p2,p3,p4⟩:=zej.1 hp
 have hg:=zxm hok
 have hm:=zkc hok hk
 have h4:=h3 u hu
 exact ⟨p1,p2,p3,p4,hg.1,hg.2,hm.1,hm.2,h4.1,h4.2.1,by omega,h2,h4.2.2⟩
theorem zqz {n d g bx tp nr md st:Int} {fm fs:Nat->Int} {N i u:Nat} (hok:zd2 N fm g bx tp nr md=true) (hr:zay st fs N=true) (hp:zdi n d=true) (hi:i<N) (hu:u<3) {l:List Nat} (hl:∀ k∈l,k<N/\¬d2F fs k i=0) (hl4:l.length<=4):-18014398509481984<=oS (kpF n d g fm fs i u) l/\oS (kpF n d g fm fs i u) l<=18014398509481984:=by
 have h:=jf1 (F:=kpF n d g fm fs i u) (B:=4503599627370496) (l:=l) λk hk=>zfa (zib hok hr hp hi (hl k hk).1 hu (hl k hk).2)
 omega
theorem z3m {n d g bx tp nr md st:Int} {fm fs:Nat->Int} {N i u:Nat} (hok:zd2 N fm g bx tp nr md=true) (hr:zay st fs N=true) (hp:zdi n d=true) (hi:i<N) (hu:u<3) (hz:kZ fs N i=false):-18014398509481984<=kS n d g fm fs N i u/\kS n d g fm fs N i u<=18014398509481984 :=
 zqz hok hr hp hi hu (λk hk=>⟨(ze2.1 hk).1,je8.1 hz k (ze2.1 hk).1 (ze2.1 hk).2⟩) (zzm (zcs hr).2.1.2)
theorem je7 (n d g:Int) (fm fs:Nat->Int) (N i u:Nat):kS (-n) d g fm fs N i u=-(kS n d g fm fs N i u):=z66 λk _=>z9h _ _ _ _ _ _
end Go.Gy
namespace Go.Gy
open Go Go.RowKit Go.Proofs Go.Proofs.Tryz
theorem zdq {T:TypeId} {M:Nat} {g:Nat->Int} {q:Nat} (h:q<M):zds prog 3 ⟨fa M .i64 g,.ty T⟩ q=some (.int .i64 (g q)):=by
 have:=zkq (P:=prog) (T:=3) (b:=⟨fa M .i64 g,.ty T⟩) (off:=0) (j:=q) (zbv isAgg3) (ztm M g _) h
 rwa [Nat.zero_add] at this
theorem zj1 (f:Nat->Int) (o:Nat) (a b c:Int):upd (upd (upd f o a) (o+1) b) (o+2) c=zwl f o a b c:=by
 funext j
 unfold upd zwl
 by_cases h0:j=o
 ·rw [if_neg (by omega),if_neg (by omega),if_pos h0,if_pos h0]
 ·by_cases h1:j=o+1
  ·rw [if_neg (by omega),if_pos h1,if_neg h0,if_pos h1]
  ·by_cases h2:j=o+2
   ·rw [if_pos h2,if_neg h0,if_neg h1,if_pos h2]
   ·rw [if_neg h2,if_neg h1,if_neg h0,if_neg h0,if_neg h1,if_neg h2]
def z5x (f:Nat->Int) (o:Nat) (a b c:Int):Nat->Int:=zwl f o (f o+a) (f (o+1)+b) (f (o+2)+c)
theorem zo3 (T:TypeId) (M o:Nat) (f:Nat->Int) (a b c:Int) (ho:o+3<=M) (q0:Int.bmod (f o+a) 18446744073709551616=f o+a) (q1:Int.bmod (f (o+1)+b) 18446744073709551616=f (o+1)+b) (q2:Int.bmod (f (o+2)+c) 18446744073709551616=f (o+2)+c) :
  Fun prog G1 28 #[.pointer (some ⟨100,o,none⟩),.agg #[.int .i64 a,.int .i64 b,.int .i64 c]] (hpL G1 [(100,⟨fa M .i64 f,.ty T⟩)]) (zab [(100,(⟨fa M .i64 f,.ty T⟩:Blk))]) (.ret (.tuple #[]) [(100,⟨fa M .i64 (z5x f o a b c),.ty T⟩)]):=by
 refine za5 (B:=200) G1F func28 rfl call28 (zam (zba _ _ _)) ?_ (zak (by simp)) ?_ (λk b c h1 h2=>by simp at h1 h2;rw [h1.2,h2.2]) (by simp [ntmps28]) (by omega) ?_
 ·simp [zap,zau,zaj,zal,zab]
 ·intro p hp
  simp at hp
  subst hp
  exact ⟨by simp [zab],Blk.fx_ids (zba _ _ _) _⟩
 intro C hC hC0 hY
 have l0:=zdq (T:=T) (M:=M) (g:=f) (q:=o) (by omega)
 have l1:=zdq (T:=T) (M:=M) (g:=upd f o (f o+a)) (q:=o+1) (by omega)
 have l2:=zdq (T:=T) (M:=M) (g:=upd (upd f o (f o+a)) (o+1) (f (o+1)+b)) (q:=o+2) (by omega)
 rw [zaa _ _ (by omega)] at l1
 rw [zaa _ _ (by omega),zaa _ _ (by omega)] at l2
 have m0:o+1<=M:=by omega
 have m1:o+1+1<=M:=by omega
 have m2:o+2+1<=M:=by omega
 have s0:=λx=>zcw M .i64 f o x
 have s1:=λx=>zcw M .i64 (upd f o (f o+a)) (o+1) x
 have s2:=λx=>zcw M .i64 (upd (upd f o (f o+a)) (o+1) (f (o+1)+b)) (o+2) x
 repeat' first|refine zad ?_|refine zag ?_|refine gwZ ?_|(refine gwX ?_;intro Q hQ _;simp [hC,hY,l0,l1,l2,m0,m1,m2,q0,q1,q2,s0,s1,s2];refine gwq hQ ?_)|refine gwC ?_ ?_<;>intro hb
 refine ⟨.inl rfl,by simp [results28],λk hk=>?_⟩
 have hp3:=zj1 f o (f o+a) (f (o+1)+b) (f (o+2)+c)
 unfold z5x
 rw [<-hp3]
 by_cases e6:k=100
 ·subst e6;simp [zaw]
 ·have h2:¬k=200:=λe=>hk (by subst e;simp)
  simp [zaw,e6,h2]
theorem zyx {w:Nat} {v0 v1 v2 a b c:Int} {hp:Hp} {nk:Nat} {K:Eff->Prop} (hw:100<=w) (hb:hp w=some (vb v0 v1 v2)) (q0:Int.bmod (v0+a) 18446744073709551616=v0+a) (q1:Int.bmod (v1+b) 18446744073709551616=v1+b) (q2:Int.bmod (v2+c) 18446744073709551616=v2+c)
  (hK:K ((Res.ret (.tuple #[]) [(w,vb (v0+a) (v1+b) (v2+c))]).eff [w])):zgn prog G1 28 #[.pointer (some ⟨w,0,none⟩),.agg #[.int .i64 a,.int .i64 b,.int .i64 c]] hp nk K:=by
 have e:∀ f:Nat->Int,(⟨fa 3 .i64 f,.ty 31⟩:Blk)=vb (f 0) (f 1) (f 2):=λf=>rfl
 have h:=zo3 31 3 0 (λj=>if j=0 then v0 else if j=1 then v1 else v2) a b c (by omega) q0 q1 q2
 rw [e,e] at h
 refine zh5 h G1F (B:=200) (zam (λx hx=>by simp [vb] at hx;rcases hx with rfl|rfl|rfl<;>rfl)) (λk=>if k=100 then w else k) (λk hk=>if_neg (by omega)) (by simp [ren,zas,zan,zao]) ?_ (by simp [zab]) ?_
 ·simp [vb,Blk.rn,zan,zao,hw]
  exact hb
 ·simpa [ren,zas,zan,zao,rnL,zab,z5x,zwl,vb,Blk.rn] using hK
theorem z9i {w M o:Nat} {f:Nat->Int} {T:TypeId} {a b c:Int} {hp:Hp} {nk:Nat} {K:Eff->Prop} (hw:100<=w) (hb:hp w=some ⟨fa M .i64 f,.ty T⟩) (ho:o+3<=M) (q0:Int.bmod (f o+a) 18446744073709551616=f o+a) (q1:Int.bmod (f (o+1)+b) 18446744073709551616=f (o+1)+b) (q2:Int.bmod (f (o+2)+c) 18446744073709551616=f (o+2)+c)
  (hK:K ((Res.ret (.tuple #[]) [(w,⟨fa M .i64 (z5x f o a b c),.ty T⟩)]).eff [w])):zgn prog G1 28 #[.pointer (some ⟨w,o,none⟩),.agg #[.int .i64 a,.int .i64 b,.int .i64 c]] hp nk K:=by
 have h:=zo3 T M o f a b c ho q0 q1 q2
 refine zh5 h G1F (B:=200) (zam (zba _ _ _)) (λk=>if k=100 then w else k) (λk hk=>if_neg (by omega)) (by simp [ren,zas,zan,zao]) ?_ (by simp [zab]) ?_
 ·simp [zd3,hw]
  exact hb
 ·simpa [ren,zas,zan,zao,rnL,zab,zd3] using hK
def zis (nk ka ks off n cap off2 n2 cap2:Nat) (g bx tp nr md st i:Int) (v:Value) (ns:List (Nat×Blk)):Prop :=
 v=.func (.func 42) #[] #[.pointer (some ⟨nk+1,0,none⟩),.pointer (some ⟨nk+2,0,none⟩),.pointer (some ⟨nk,0,none⟩)]/\ns=[(nk,cfB (.slice (some ⟨ka,off,none⟩) n cap) g bx tp nr md),(nk+1,zcu st ks off2 n2 cap2),(nk+2,ib i)]
theorem zhr {nk ka ks off n cap off2 n2 cap2:Nat} {g bx tp nr md st i:Int} {v:Value} {ns:List (Nat×Blk)} (h:zis nk ka ks off n cap off2 n2 cap2 g bx tp nr md st i v ns):∀ k∈zab ns,nk<=k/\k<nk+3:=by
 obtain ⟨rfl,rfl⟩:=h
 intro k hk
 simp [zab] at hk
 omega
theorem z4g (L:List (Nat×Blk)) (ka ks:Nat) (bm bs:Blk) (hT:LKa L ka ks bm bs) (off n cap off2 n2 cap2:Nat) (g bx tp nr md st i:Int) :
  FunS prog G1 26 #[cfV (.slice (some ⟨ka,off,none⟩) n cap) g bx tp nr md,.agg #[.int .i64 st,.slice (some ⟨ks,off2,none⟩) n2 cap2],.int .i64 i] (hpL G1 L) (zab L) (zis 1000 ka ks off n cap off2 n2 cap2 g bx tp nr md st i):=by
 refine zec (B:=200) G1F func26 rfl call26 hT.ok ?_ ?_ (by simp [ntmps26]) (by omega) ?_
 ·simp [zap,zau,zaj,zal,hT.ia,hT.ib,cfV]
 ·rintro v ns ⟨rfl,rfl⟩
  have ha:zc7 (dom (hpL G1 L)) [(1000,cfB (.slice (some ⟨ka,off,none⟩) n cap) g bx tp nr md),(1000+1,zcu st ks off2 n2 cap2),(1000+2,ib i)] ka:=.inl hT.ia
  have hb:zc7 (dom (hpL G1 L)) [(1000,cfB (.slice (some ⟨ka,off,none⟩) n cap) g bx tp nr md),(1000+1,zcu st ks off2 n2 cap2),(1000+2,ib i)] ks:=.inl hT.ib
  refine ⟨by simp [zap,zau,zaj,zal,zc7,zab],?_,?_⟩
  ·intro p hp
   simp only [List.mem_cons,List.not_mem_nil,or_false] at hp
   rcases hp with rfl|rfl|rfl
   ·exact ⟨by omega,by simp [cfB,zae,zaj,zal];exact ha⟩
   ·exact ⟨by omega,by simp [zcu,zae,zaj,zal];exact hb⟩
   ·exact ⟨by omega,by simp [ib,zae,zaj,zal]⟩
  ·intro k b c h1 h2
   simp at h1 h2
   rcases h1 with ⟨e1,rfl⟩|⟨e1,rfl⟩|⟨e1,rfl⟩<;>rcases h2 with ⟨e2,rfl⟩|⟨e2,rfl⟩|⟨e2,rfl⟩<;>first|rfl|omega
 intro C hC hC0 hY
 have hA:=hT.a
 have hS:=hT.s
 have hne:=hT.ne
 have hna:=hT.na
 have hLow:=hT.low
 have hks:=hT.k1
 have hks2:=hT.k2
 unfold cfV
 repeat' first|refine gwZ ?_|refine gwV ?_|refine gwC ?_ ?_<;>intro hb
 refine ⟨.inr trivial,kpT G1F,_,_,λk=>if k=1000 then 200 else if k=1001 then 208 else if k=1002 then 216 else k,⟨rfl,rfl⟩,λk hk=>?_,by simp,by simp,by simp [results26,ren,zas,zan,zao],?_⟩
 ·dsimp only
  rw [if_neg (by omega),if_neg (by omega),if_neg (by omega)]
 ·have h1:¬ks=1000:=by omega
  have h2:¬ks=1001:=by omega
  have h3:¬ks=1002:=by omega
  have ha2:=hT.a2
  have g1:¬ka=1000:=by omega
  have g2:¬ka=1001:=by omega
  have g3:¬ka=1002:=by omega
  simp [cfB,zcu,ib,Blk.rn,zan,zao,h1,h2,h3,g1,g2,g3]
def up3 (nk k:Nat):Nat:=if 1000<=k then (if k<1003 then k - 1000+nk else k) else k
theorem zvd {nk nk' ka ks off n cap off2 n2 cap2:Nat} {g bx tp nr md st i:Int} {ρ:Nat->Nat} (h100:ρ ka=ka) (hk:ρ ks=ks) (h0:ρ nk=nk') (h1:ρ (nk+1)=nk'+1) (h2:ρ (nk+2)=nk'+2) :
  RR ρ (zis nk ka ks off n cap off2 n2 cap2 g bx tp nr md st i)=zis nk' ka ks off n cap off2 n2 cap2 g bx tp nr md st i:=by
 funext v ns
 apply propext
 constructor
 ·rintro ⟨v0,ns0,⟨rfl,rfl⟩,rfl,rfl⟩
  exact ⟨by simp [ren,zas,zan,zao,h0,h1,h2],by simp [rnL,cfB,zcu,ib,Blk.rn,zan,zao,h100,hk,h0,h1,h2]⟩
 ·rintro ⟨rfl,rfl⟩
  exact ⟨_,_,⟨rfl,rfl⟩,by simp [ren,zas,zan,zao,h0,h1,h2],by simp [rnL,cfB,zcu,ib,Blk.rn,zan,zao,h100,hk,h0,h1,h2]⟩
theorem zpc (nk:Nat) (hnk:200<=nk) (L:List (Nat×Blk)) (ka ks:Nat) (bm bs:Blk) (hT:LKa L ka ks bm bs) (off n cap off2 n2 cap2:Nat) (g bx tp nr md st i:Int) :
  FunS prog G1 26 #[cfV (.slice (some ⟨ka,off,none⟩) n cap) g bx tp nr md,.agg #[.int .i64 st,.slice (some ⟨ks,off2,none⟩) n2 cap2],.int .i64 i] (hpL G1 L) (zab L) (zis nk ka ks off n cap off2 n2 cap2 g bx tp nr md st i):=by
 have e2:∀ j,j<3->up3 nk (1000+j)=nk+j:=λj hj=>by unfold up3;rw [if_pos (by omega),if_pos (by omega)];omega
 have hlow:∀ k,k<1000->up3 nk k=k:=λk hk=>by unfold up3;rw [if_neg (by omega)]
 have hk2:=hT.k2
 have ha2:=hT.a2
 have hid:∀ k∈zab L,up3 nk k=k:=λk hk=>by
  obtain ⟨p,hp,rfl⟩:=zah.1 hk
  have:=hT.ok.big p hp
  exact hlow _ (by omega)
 have hkk:∀ v ns,zis 1000 ka ks off n cap off2 n2 cap2 g bx tp nr md st i v ns->∀ k∈zab ns,∃ j,j<3/\k=1000+j:=by
  intro v ns hV k hk
  have:=zhr hV k hk
  exact ⟨k - 1000,by omega,by omega⟩
 refine (z4g L ka ks bm bs hT off n cap off2 n2 cap2 g bx tp nr md st i).mvL (hp':=hpL G1 L) (rs':=zab L) G1F hT.ok (up3 nk) (λk hk=>hlow k (by omega)) ?_ ?_ (zvd (hlow _ (by omega)) (hlow _ (by omega)) (e2 0 (by omega)) (e2 1 (by omega)) (e2 2 (by omega))) hT.ok.low ?_ ?_ (λv ns hV k hk=>?_) (λv ns hV k hk l hl e=>?_)
 ·simp [cfV,ren,zas,zan,zao,hlow ka (by omega),hlow ks (by omega)]
 ·rw [List.map_congr_left hid];simp
 ·intro p hp
  have hb:=hT.ok.big p hp
  rw [hlow p.1 (by omega),Blk.fx_rn (hT.fx p hp)]
  exact ⟨hb.1,hT.mem p hp⟩
 ·intro k hk l hl e
  rw [hid k hk,hid l hl] at e
  exact e
 ·obtain ⟨j,hj,rfl⟩:=hkk v ns hV k hk
  rw [e2 j hj]
  refine ⟨by omega,λh=>?_⟩
  obtain ⟨p,hp,e⟩:=zah.1 h
  have:=hT.ok.big p hp
  omega
 ·obtain ⟨j,hj,rfl⟩:=hkk v ns hV k hk
  obtain ⟨i,hi,rfl⟩:=hkk v ns hV l hl
  rw [e2 j hj,e2 i hi] at e
  omega
theorem zpd (L:List (Nat×Blk)) (ka ks:Nat) (bm bs:Blk) (hT:LKa L ka ks bm bs) (off n cap off2 cap2:Nat) (fm fs:Nat->Int) (hm:MB bm off n fm) (hSb:SB bs off2 n fs) (g bx tp nr md st:Int) (hrt:zay st fs n=true) (i:Nat) (hi:i<n) :
  IterK prog G1 42 #[.pointer (some ⟨208,0,none⟩),.pointer (some ⟨216,0,none⟩),.pointer (some ⟨200,0,none⟩)] (hpL G1 (otM L ka ks off n cap off2 n cap2 g bx tp nr md st i)) (zab (otM L ka ks off n cap off2 n cap2 g bx tp nr md st i)) ((zf2 n i).map (otV fm fs i)):=by
 have hn:=(zcs hrt).2.1
 have:(n=1/\i=0)\/(n=2/\i=0)\/(n=2/\i=1)\/(n=3/\i=0)\/(n=3/\i=1)\/(n=3/\i=2)\/(n=4/\i=0)\/(n=4/\i=1)\/(n=4/\i=2)\/(n=4/\i=3):=by omega
 rcases this with ⟨rfl,rfl⟩|⟨rfl,rfl⟩|⟨rfl,rfl⟩|⟨rfl,rfl⟩|⟨rfl,rfl⟩|⟨rfl,rfl⟩|⟨rfl,rfl⟩|⟨rfl,rfl⟩|⟨rfl,rfl⟩|⟨rfl,rfl⟩
 ·exact zra L ka ks bm bs hT off cap off2 cap2 fm fs hm hSb g bx tp nr md st hrt
 ·exact zrb L ka ks bm bs hT off cap off2 cap2 fm fs hm hSb g bx tp nr md st hrt
 ·exact zrc L ka ks bm bs hT off cap off2 cap2 fm fs hm hSb g bx tp nr md st hrt
 ·exact zrd L ka ks bm bs hT off cap off2 cap2 fm fs hm hSb g bx tp nr md st hrt
 ·exact zre L ka ks bm bs hT off cap off2 cap2 fm fs hm hSb g bx tp nr md st hrt
 ·exact zrf L ka ks bm bs hT off cap off2 cap2 fm fs hm hSb g bx tp nr md st hrt
 ·exact zrg L ka ks bm bs hT off cap off2 cap2 fm fs hm hSb g bx tp nr md st hrt
 ·exact zrh L ka ks bm bs hT off cap off2 cap2 fm fs hm hSb g bx tp nr md st hrt
 ·exact zri L ka ks bm bs hT off cap off2 cap2 fm fs hm hSb g bx tp nr md st hrt
 ·exact zrj L ka ks bm bs hT off cap off2 cap2 fm fs hm hSb g bx tp nr md st hrt
def puL (n d g m x0 x1 x2:Int) (v:Blk):List (Nat×Blk):=[(200,ib n),(208,ib d),(216,ib g),(224,ib m),(232,vb x0 x1 x2),(256,v)]
def zmb (n d g m x0 x1 x2:Int):Hp:=hpL G1 (puL n d g m x0 x1 x2 (vb 0 0 0))
theorem zfe (n d g m x0 x1 x2:Int):rst (zmb n d g m x0 x1 x2) [200,208,216,224,232,256]=zmb n d g m x0 x1 x2:=zdr G1F (by simp [puL])
theorem zkv (n d g m x0 x1 x2:Int) (D:Nat->Prop) (k:Nat) (c:Blk) (h:zmb n d g m x0 x1 x2 k=some c):c.ids D:=by
 rcases za8 h with h|h
 ·simp [puL] at h
  rcases h with ⟨_,rfl⟩|⟨_,rfl⟩|⟨_,rfl⟩|⟨_,rfl⟩|⟨_,rfl⟩|⟨_,rfl⟩<;>simp [ib,vb]
 ·exact zex _ _ _ h
theorem zgv (n d g m x0 x1 x2:Int) (x:Nat) (hx:300<=x):zmb n d g m x0 x1 x2 x=none:=by
 simp [zmb,puL,show ¬x=200 by omega,show ¬x=208 by omega,show ¬x=216 by omega,show ¬x=224 by omega,show ¬x=232 by omega,show ¬x=256 by omega,show 100<=x by omega]
def puX (n d g m x0 x1 x2 r v0 v1 v2:Int) (i:Nat):Hp:=hpL G1 [(200,ib n),(208,ib d),(216,ib g),(224,ib m),(232,vb x0 x1 x2),(256,vb (if 0<i then v0 else 0) (if 1<i then v1 else 0) (if 2<i then v2 else 0)),(316,ib r)]
def puT:Nat->Value:=tsL [(0,.pointer (some ⟨232,0,none⟩)),(1,.pointer (some ⟨200,0,none⟩)),(2,.pointer (some ⟨208,0,none⟩)),(3,.pointer (some ⟨216,0,none⟩)),(4,.pointer (some ⟨224,0,none⟩)),(5,.pointer (some ⟨256,0,none⟩)),(6,.pointer (some ⟨316,0,none⟩))]
theorem jgq (n d g m x0 x1 x2:Int) (h0:inX x0) (h1:inX x1) (h2:inX x2) (k0:PIn n d g m x0 (x0*x0+x1*x1+x2*x2)) (k1:PIn n d g m x1 (x0*x0+x1*x1+x2*x2)) (k2:PIn n d g m x2 (x0*x0+x1*x1+x2*x2)) :
  Fun prog G1 45 [.pointer (some ⟨232,0,none⟩),.pointer (some ⟨200,0,none⟩),.pointer (some ⟨208,0,none⟩),.pointer (some ⟨216,0,none⟩),.pointer (some ⟨224,0,none⟩),.pointer (some ⟨256,0,none⟩)].toArray (zmb n d g m x0 x1 x2) [200,208,216,224,232,256]
   (.ret (.tuple #[]) [(256,vb (zbe n d g m x0 (x0*x0+x1*x1+x2*x2)) (zbe n d g m x1 (x0*x0+x1*x1+x2*x2)) (zbe n d g m x2 (x0*x0+x1*x1+x2*x2)))]):=by
 refine zfn (B:=300) G1F (λk hk=>za6 (by simp [puL]) hk) func45 rfl call45 ?_ ?_ ?_ (by simp [ntmps45]) (by omega) ?_ ?_
 ·rw [zfe];simp [zmb,puL,dom]
 ·rw [zfe];exact zkv n d g m x0 x1 x2 _
 ·refine ⟨zak (by simp),by simp [zab,zmb,puL,dom],λk b c e1 e2=>?_,by simp [vb]⟩
  simp at e1 e2
  rw [e1.2,e2.2]
 ·rw [zfe];exact zgv n d g m x0 x1 x2
 ·intro C hC hC0 hY
  rw [zfe] at hC0 |-
  generalize hr:x0*x0+x1*x1+x2*x2=r at *
  have hsum:=zzy x0 x1 x2 h0 h1 h2
  rw [hr] at hsum
  repeat' first|refine gwZ ?_|((first|refine gwR [1000046] ?_|refine gwD [1000046] ?_);intro Q hQ hP;(repeat first|simp [hC,hY,zmb,puL,vb,ib]|refine za4 hsum ?_);(first|refine gwq hQ ?_|refine hP _ _ (by kernel_rfl) λ_=>?_))|refine gwC ?_ ?_<;>intro hb
  refine zck [47] (by kernel_rfl) ?_;intro Q hQ hP;simp [hC,hY]
  refine zb2 (zku x0 x1 x2 340 (by omega)) (by simp) (λ_ _=>rfl) (by simp [Res.at]) ?_
  simp
  refine hQ _ _ _ _ ?_;clear hQ hP Q
  repeat' first|refine gwZ ?_|(refine gwX ?_;intro Q hQ hP;simp [hC,hY];(first|refine gwq hQ ?_|refine hP _ _ (by kernel_rfl) λ_=>?_))|refine gwC ?_ ?_<;>intro hb
  refine zg1 (f:=68) (rs:=[340]) (xs:=zcx x0 x1 x2) (caps:=#[.pointer (some ⟨340,0,none⟩)]) (by simp) ?_ (by simp [zcx]) (by simp [ntmps45]) puT (puX n d g m x0 x1 x2 r (zbe n d g m x0 r) (zbe n d g m x1 r) (zbe n d g m x2 r)) 400 3 (by simp [zcx]) ?_ ?_ ?_ ?_ ?_
  ·rw [hC]
   refine IterX.cast (IterX.rn (λk=>if k=100 then 340 else k) G1F (λk hk=>za6 (by simp) hk) (rs:=[100]) ?_ (ztk x0 x1 x2)) (by simp [zao]) (by simp)
   refine ⟨λk hk=>?_,?_,?_,?_⟩
   ·have e1:¬k=100:=by omega
    have e2:¬k=200:=by omega
    have e3:¬k=208:=by omega
    have e4:¬k=216:=by omega
    have e5:¬k=224:=by omega
    have e6:¬k=232:=by omega
    have e7:¬k=256:=by omega
    have e8:¬k=316:=by omega
    have e9:¬k=340:=by omega
    simp [e1,e2,e3,e4,e5,e6,e7,e8,e9,pHp]
   ·simp
   ·simp [pHp,vb,Blk.rn,zan,zao]
   ·simp
  ·refine zbc _ 400 hC G1F (m0:=puL n d g m x0 x1 x2 (vb 0 0 0)) hC0 (by omega) ?_ ?_ ?_
   ·simp [zap,zau,zaj,zal,dom]
   ·simp [zae,zaj,zal,vb,ib]
   ·simp [vb,ib,puL]
  ·simp [puX,dom]
  ·intro i hi t
   refine ze6 ?_ t
   simp [zap,zau,zaj,zal,dom,puX]
  ·intro i x hi hx C1 l hC1 hh1 hY1
   have hCC:=hC
   have hC1':C1.G=G1:=hC1.trans hC
   replace hC:=hC1'
   replace hY:=hY1
   have:i=0\/i=1\/i=2:=by omega
   rcases this with rfl|rfl|rfl
   all_goals
    simp [zcx] at hx
    subst hx
    unfold puX
   all_goals
    repeat' first|refine gwZ ?_|(refine gwX ?_;intro Q hQ hP;simp [hC,hY,za3,puT];(first|refine gwq hQ ?_|refine hP _ _ (by kernel_rfl) λ_=>?_))|refine gwC ?_ ?_<;>intro hb
   all_goals
    intro C2 hC2 hh2 hY2
    replace hC:C2.G=G1:=hC2.trans hCC
    replace hY:=hY2
    repeat' first|refine gwZ ?_|((first|refine gwR [1000048] ?_|refine gwD [1000048] ?_);intro Q hQ hP;(repeat first|simp [hC,hY,za3,puT,vb,ib]|refine za4 (zzk _ _ _ _ _ _ k0) ?_|refine za4 (zzk _ _ _ _ _ _ k1) ?_|refine za4 (zzk _ _ _ _ _ _ k2) ?_);(first|refine gwq hQ ?_|refine hP _ _ (by kernel_rfl) λ_=>?_))|refine gwC ?_ ?_<;>intro hb
   all_goals
    refine zbc [] 400 hC1' G1F hh1 (by omega) ?_ ?_ ?_
    ·simp
    ·simp [zae,zaj,zal,vb,ib]
    ·simp [vb,ib]
  ·left
   refine ⟨rfl,?_⟩
   unfold puX puT
   repeat' first|refine gwZ ?_|(refine gwX ?_;intro Q hQ hP;simp [hC,hY];(first|refine gwq hQ ?_|refine hP _ _ (by kernel_rfl) λ_=>?_))|refine gwC ?_ ?_<;>intro hb
   refine ⟨.inl rfl,by simp [results45],λk hk=>?_⟩
   have hk3:¬k=316:=λe=>hk (e▸zgv n d g m x0 x1 x2 316 (by omega))
   by_cases e6:k=256
   ·subst e6;simp [zaw,zmb,puL]
   ·simp [zaw,zmb,puL,hk3,e6]
theorem z4n (n d g m x0 x1 x2:Int) (h0:inX x0) (h1:inX x1) (h2:inX x2) (he:zd5 n d g m x0 (x0*x0+x1*x1+x2*x2)≠0) :
  Fun prog G1 45 [.pointer (some ⟨232,0,none⟩),.pointer (some ⟨200,0,none⟩),.pointer (some ⟨208,0,none⟩),.pointer (some ⟨216,0,none⟩),.pointer (some ⟨224,0,none⟩),.pointer (some ⟨256,0,none⟩)].toArray (zmb n d g m x0 x1 x2) [200,208,216,224,232,256]
   (.pan (erV (zd5 n d g m x0 (x0*x0+x1*x1+x2*x2)))):=by
 refine zfn (B:=300) G1F (λk hk=>za6 (by simp [puL]) hk) func45 rfl call45 ?_ ?_ trivial (by simp [ntmps45]) (by omega) ?_ ?_
 ·rw [zfe];simp [zmb,puL,dom]
 ·rw [zfe];exact zkv n d g m x0 x1 x2 _
 ·rw [zfe];exact zgv n d g m x0 x1 x2
 ·intro C hC hC0 hY
  rw [zfe] at hC0 |-
  generalize hr:x0*x0+x1*x1+x2*x2=r at *
  have hsum:=zzy x0 x1 x2 h0 h1 h2
  rw [hr] at hsum
  repeat' first|refine gwZ ?_|((first|refine gwR [1000046] ?_|refine gwD [1000046] ?_);intro Q hQ hP;(repeat first|simp [hC,hY,zmb,puL,vb,ib]|refine za4 hsum ?_);(first|refine gwq hQ ?_|refine hP _ _ (by kernel_rfl) λ_=>?_))|refine gwC ?_ ?_<;>intro hb
  refine zck [47] (by kernel_rfl) ?_;intro Q hQ hP;simp [hC,hY]
  refine zb2 (zku x0 x1 x2 340 (by omega)) (by simp) (λ_ _=>rfl) (by simp [Res.at]) ?_
  simp
  refine hQ _ _ _ _ ?_;clear hQ hP Q
  repeat' first|refine gwZ ?_|(refine gwX ?_;intro Q hQ hP;simp [hC,hY];(first|refine gwq hQ ?_|refine hP _ _ (by kernel_rfl) λ_=>?_))|refine gwC ?_ ?_<;>intro hb
  refine zws (erV (zd5 n d g m x0 r)) (f:=68) (rs:=[340]) (xs:=zcx x0 x1 x2) (caps:=#[.pointer (some ⟨340,0,none⟩)]) (by simp) ?_ (by simp [zcx]) (by simp [ntmps45]) puT (puX n d g m x0 x1 x2 r 0 0 0) 400 0 (by simp [zcx]) ?_ ?_ ?_ ?_ ?_ ?_
  ·rw [hC]
   intro pv
   refine IterX.cast (IterX.rn (λk=>if k=100 then 340 else k) G1F (λk hk=>za6 (by simp) hk) (rs:=[100]) ?_ (zzp x0 x1 x2 pv)) (by simp [zao]) (by simp)
   refine ⟨λk hk=>?_,?_,?_,?_⟩
   ·have e1:¬k=100:=by omega
    have e2:¬k=200:=by omega
    have e3:¬k=208:=by omega
    have e4:¬k=216:=by omega
    have e5:¬k=224:=by omega
    have e6:¬k=232:=by omega
    have e7:¬k=256:=by omega
    have e8:¬k=316:=by omega
    have e9:¬k=340:=by omega
    simp [e1,e2,e3,e4,e5,e6,e7,e8,e9,pHp]
   ·simp
   ·simp [pHp,vb,Blk.rn,zan,zao]
   ·simp
  ·refine zbc _ 400 hC G1F (m0:=puL n d g m x0 x1 x2 (vb 0 0 0)) hC0 (by omega) ?_ ?_ ?_
   ·simp [zap,zau,zaj,zal,dom]
   ·simp [zae,zaj,zal,vb,ib]
   ·simp [vb,ib,puL]
  ·simp [puX,dom]
  ·intro i hi t
   refine ze6 ?_ t
   simp [zap,zau,zaj,zal,dom,puX]
  ·intro i x hi hx C1 l hC1 hh1 hY1
   omega
  ·intro c hc
   obtain rfl:c=0:=by omega
   refine ⟨rfl,λk hk=>?_⟩
   have hk3:¬k=316:=λe=>hk (e▸zgv n d g m x0 x1 x2 316 (by omega))
   simp [puX,zmb,puL,hk3]
  ·refine ⟨#[.int .i64 0,.int .i64 x0],by simp [zcx],?_⟩
   intro C1 l hC1 hh1 hY1
   have hCC:=hC
   have hC1':C1.G=G1:=hC1.trans hC
   replace hC:=hC1'
   replace hY:=hY1
   unfold puX
   repeat' first|refine gwZ ?_|(refine gwX ?_;intro Q hQ hP;simp [hC,hY,za3,puT];(first|refine gwq hQ ?_|refine hP _ _ (by kernel_rfl) λ_=>?_))|refine gwC ?_ ?_<;>intro hb
   intro C2 hC2 hh2 hY2
   replace hC:C2.G=G1:=hC2.trans hCC
   replace hY:=hY2
   repeat' first|refine gwZ ?_|((first|refine gwR [1000048] ?_|refine gwD [1000048] ?_);intro Q hQ hP;(repeat first|simp [hC,hY,za3,puT,vb,ib]|refine za4 (z95 _ _ _ _ _ _ he) ?_);(first|refine gwq hQ ?_|refine hP _ _ (by kernel_rfl) λ_=>?_))|refine gwC ?_ ?_<;>intro hb
   refine ⟨rfl,λt=>?_,rfl,λk hk=>?_⟩
   ·refine ze6 ?_ t
    simp [zap,zau,zaj,zal,dom]
   ·have hk3:¬k=316:=λe=>hk (e▸zgv n d g m x0 x1 x2 316 (by omega))
    simp [zmb,puL,hk3]
theorem ztl (n d g m x0 x1 x2:Int) (h0:inX x0) (h1:inX x1) (h2:inX x2) (k0:PIn n d g m x0 (x0*x0+x1*x1+x2*x2)) (k1:PIn n d g m x1 (x0*x0+x1*x1+x2*x2)) (k2:PIn n d g m x2 (x0*x0+x1*x1+x2*x2)):Ret prog G1 27 #[.int .i64 n,.int .i64 d,.int .i64 g,.int .i64 m,vv x0 x1 x2] (.tuple #[vv (zbe n d g m x0 (x0*x0+x1*x1+x2*x2)) (zbe n d g m x1 (x0*x0+x1*x1+x2*x2)) (zbe n d g m x2 (x0*x0+x1*x1+x2*x2)),.int .i64 0]):=by
 refine zav G1F func27 rfl call27 (by simp [vv]) (by simp [vv]) (by simp [ntmps27]) ?_
 intro C hC hC0 hY
 repeat' first|refine gwZ ?_|((first|refine gwR [44] ?_|refine gwD [44] ?_);intro Q hQ hP;(repeat first|simp [hC,hY,vv,vb,ib]|refine zb2 (hp':=zmb n d g m x0 x1 x2) (zz0 (λk hk=>za6 (by simp [puL]) hk) (by simp) rfl (by simp) (jgq n d g m x0 x1 x2 h0 h1 h2 k0 k1 k2)) (by simp [zmb,puL,vb,ib]) (λk hk=>za6 (by simp [puL]) hk) trivial ?_);(first|refine gwq hQ ?_|refine hP _ _ (by kernel_rfl) λ_=>?_))|refine gwC ?_ ?_<;>intro hb
 refine ⟨.inr trivial,?_⟩
 simp [results27,vv]
theorem zvh (n d g m x0 x1 x2:Int) (h0:inX x0) (h1:inX x1) (h2:inX x2) (he:zd5 n d g m x0 (x0*x0+x1*x1+x2*x2)≠0):Ret prog G1 27 #[.int .i64 n,.int .i64 d,.int .i64 g,.int .i64 m,vv x0 x1 x2] (.tuple #[vv 0 0 0,.int .i64 (zd5 n d g m x0 (x0*x0+x1*x1+x2*x2))]):=by
 refine zav G1F func27 rfl call27 (by simp [vv]) (by simp [vv]) (by simp [ntmps27]) ?_
 intro C hC hC0 hY
 have hcb:(zd5 n d g m x0 (x0*x0+x1*x1+x2*x2) != 0)=true:=by simpa using he
 repeat' first|refine gwZ ?_|((first|refine gwR [44] ?_|refine gwD [44] ?_);intro Q hQ hP;(repeat first|simp [hC,hY,vv,vb,ib,hcb]|refine zb2 (hp':=zmb n d g m x0 x1 x2) (zzz (λk hk=>za6 (by simp [puL]) hk) (by simp) rfl (by simp) (z4n n d g m x0 x1 x2 h0 h1 h2 he)) (by simp [zmb,puL,vb,ib]) (λk hk=>za6 (by simp [puL]) hk) trivial ?_);(first|refine gwq hQ ?_|refine hP _ _ (by kernel_rfl) λ_=>?_))|refine gwC ?_ ?_<;>intro hb
 refine ⟨.inr trivial,?_⟩
 simp [results27,vv]
end Go.Gy
namespace Go.Gy
open Go Go.RowKit
section
variable {P:Program} {C:Ctx} {n:Nat} {d:List Deferred} {ro:Option Nat} {s:GS} {K:Exit->GS->Prop}
theorem GI.freeze {r:Nat->Nat} {a:Act} {W:World} {k t:Nat} {cs:Array Value} (hk:s.hp k=some ⟨cs,.ty t⟩) (h100:100<=k) (h:GI P C n d r s a W):GI P C n d r ⟨s.ts,upd s.hp k (some ⟨cs.map (zan r),.raw t (0,0)⟩),s.B,s.yc⟩ a W:=by
 have hD:dom (upd s.hp k (some ⟨cs.map (zan r),.raw t (0,0)⟩))=dom s.hp:=by
  funext q
  unfold dom
  by_cases e:q=k
  ·subst e
   rw [zbg,hk]
   simp
  ·rw [zaa _ _ e]
 have hkB:¬s.B<=k:=λhb=>by have:=h.free k hb;rw [hk] at this;cases this
 refine ⟨⟨h.ri.size,?_,λq b hq=>?_,?_,?_,λi hi=>?_,λq hq=>?_,λq hq hd=>?_⟩,λx hx=>?_,h.low,h.flat,h.rounds⟩
 ·show Rel r (dom (upd s.hp k _)) s.ts a
  rw [hD]
  exact h.ri.rel
 ·show W.heap[r q]? = some (b.obj r)/\b.ids (dom (upd s.hp k _))
  rw [hD]
  by_cases e:q=k
  ·subst e
   have hq':some (Blk.mk (cs.map (zan r)) (.raw t (0,0)))=some b:=(zbg _ _ _).symm.trans hq
   cases hq'
   exact ⟨(h.ri.sat q _ hk).1,trivial⟩
  ·have hq':s.hp q=some b:=(zaa _ _ e).symm.trans hq
   exact h.ri.sat q b hq'
 ·show Inj r (dom (upd s.hp k _))
  rw [hD]
  exact h.ri.inj
 ·obtain ⟨S,ms,h1,h2,h3,h4⟩:=h.ri.ext
  refine ⟨S,ms,h1,h2,λi hi=>?_,h4⟩
  have hi':dom (upd s.hp k (some ⟨cs.map (zan r),.raw t (0,0)⟩)) i:=hi
  rw [hD] at hi'
  exact h3 i hi'
 ·show dom (upd s.hp k _) i/\_
  rw [hD]
  exact h.ri.keep i hi
 ·show upd s.hp k _ q=_
  rw [zaa _ _ (by omega)]
  exact h.ri.glob q hq
 ·have hd':dom (upd s.hp k (some ⟨cs.map (zan r),.raw t (0,0)⟩)) q:=hd
  rw [hD] at hd'
  exact h.ri.low q hq hd'
 ·show upd s.hp k _ x=none
  have hx':s.B<=x:=hx
  rw [zaa _ _ (by omega)]
  exact h.free x hx'
theorem zn2 {c:Code} (k:Nat) {t:Nat} {cs:Array Value} (hk:s.hp k=some ⟨cs,.ty t⟩) (h100:100<=k) (h:∀ cs':Array Value,cs'.size=cs.size->(∀ (j:Nat) (v:Value),cs[j]? = some v->zbj v=true->cs'[j]? = some v)->GW P C n d ro c ⟨s.ts,upd s.hp k (some ⟨cs',.raw t (0,0)⟩),s.B,s.yc⟩ K):GW P C n d ro c s K:=λr a W hi =>
 h (cs.map (zan r)) (by simp) (λj v hj hf=>by simp [hj,zcc hf]) r a W (hi.freeze hk h100)
end
end Go.Gy
namespace Go.Gy
open Go Go.RowKit Go.Proofs Go.Proofs.Tryz
def eb (z:Int):Blk:=⟨#[.int .i64 z],.ty 32⟩
def z10 (L:List (Nat×Blk)) (v0 v1 v2 z:Int):GS:=⟨tsL [(10,.pointer (some ⟨232,0,none⟩)),(11,.pointer (some ⟨240,0,none⟩))],hpL G1 ([(232,vb v0 v1 v2),(240,eb z)]++L),1000,0⟩
def zhf:List (Nat×Value):=[(5,.pointer (some ⟨200,0,none⟩)),(7,.pointer (some ⟨216,0,none⟩)),(8,.pointer (some ⟨224,0,none⟩)),(10,.pointer (some ⟨232,0,none⟩)),(11,.pointer (some ⟨240,0,none⟩))]
def zkt (cq:Array Value) (p q v0 v1 v2:Int):List (Nat×Blk):=[(200,ezB cq),(216,ib p),(224,ib q),(232,vb v0 v1 v2),(240,eb 0)]
def z4d (cq:Array Value) (p q:Int) (F:Nat->Nat->Int) (l:List Nat) (j:Nat) (h:Hp):Prop:=h=hpL G1 (zkt cq p q (oS (F 0) (l.take j)) (oS (F 1) (l.take j)) (oS (F 2) (l.take j)))
def zge (k:Nat):Nat:=if k=200 then 520 else if k=208 then 521 else if k=216 then 522 else k
theorem zep {k:Nat} (h:k<200):zge k=k:=by unfold zge;rw [if_neg (by omega),if_neg (by omega),if_neg (by omega)]
theorem z57 {D:Nat->Prop} {ka off n cap:Nat} {g bx tp nr md:Int} (h:D ka):(cfB (.slice (some ⟨ka,off,none⟩) n cap) g bx tp nr md).ids D:=by simp [cfB,zae,zaj,zal,h]
theorem z7n {D:Nat->Prop} {ks off n cap:Nat} {st:Int} (h:D ks):(zcu st ks off n cap).ids D:=by simp [zcu,zae,zaj,zal,h]
theorem z69 {L:List (Nat×Blk)} (hL:LOk L 200):(λk=>if k∈520::521::522::zab L then none else hpL G1 L k)=hpL G1 []:=by
 funext k
 simp only [zat]
 split
 ·rename_i hm
  rcases List.mem_cons.1 hm with rfl|hm
  ·exact (zhh _ (by omega)).symm
  ·rcases List.mem_cons.1 hm with rfl|hm
   ·exact (zhh _ (by omega)).symm
   ·rcases List.mem_cons.1 hm with rfl|hm
    ·exact (zhh _ (by omega)).symm
    ·obtain ⟨p,hp,rfl⟩:=zah.1 hm
     exact (zhh _ (hL.big p hp).1).symm
 ·rename_i hm
  exact jec λh=>hm (List.mem_cons_of_mem _ (List.mem_cons_of_mem _ (List.mem_cons_of_mem _ h)))
theorem zs2 {n d g m x0 x1 x2 r:Int} (hr:x0*x0+x1*x1+x2*x2=r) (k0:PIn n d g m x0 r) (k1:PIn n d g m x1 r) (k2:PIn n d g m x2 r) (K:Value->Prop):za2 prog G1 27 #[.int .i64 n,.int .i64 d,.int .i64 g,.int .i64 m,.agg #[.int .i64 x0,.int .i64 x1,.int .i64 x2]] K ↔
  K (.tuple #[.agg #[.int .i64 (zbe n d g m x0 r),.int .i64 (zbe n d g m x1 r),.int .i64 (zbe n d g m x2 r)],.int .i64 0]):=by
 subst hr
 exact zaf G1W (by kernel_rfl) (ztl n d g m x0 x1 x2 ⟨k0.x0,k0.x1⟩ ⟨k1.x0,k1.x1⟩ ⟨k2.x0,k2.x1⟩ k0 k1 k2)
theorem z9j {n d g m x0 x1 x2:Int} (hr:x0*x0+x1*x1+x2*x2=0) (h0:inX x0) (h1:inX x1) (h2:inX x2) (hp:zdi n d=true) (hg:1<=g/\g<=1048576) (hm:1<=m/\m<=1024) (K:Value->Prop):za2 prog G1 27 #[.int .i64 n,.int .i64 d,.int .i64 g,.int .i64 m,.agg #[.int .i64 x0,.int .i64 x1,.int .i64 x2]] K ↔
  K (.tuple #[.agg #[.int .i64 0,.int .i64 0,.int .i64 0],.int .i64 30]):=by
 obtain ⟨p1,p2,p3,p4⟩:=zej.1 hp
 obtain ⟨h01,h02⟩:=h0
 have e:zd5 n d g m x0 (x0*x0+x1*x1+x2*x2)=30:=by
  unfold zd5
  rw [hr,if_pos (by omega)]
  rfl
 have:=zvh n d g m x0 x1 x2 ⟨h01,h02⟩ h1 h2 (by rw [e];decide)
 rw [e] at this
 exact zaf G1W (by kernel_rfl) this
theorem zlz {fs:Nat->Int} (i k:Nat):(fs (6*k) - fs (6*i))*(fs (6*k) - fs (6*i))+(fs (6*k+1) - fs (6*i+1))*(fs (6*k+1) - fs (6*i+1))+(fs (6*k+2) - fs (6*i+2))*(fs (6*k+2) - fs (6*i+2))=d2F fs k i:=rfl
theorem z9e (L:List (Nat×Blk)) (ka ks:Nat) (bm bs:Blk) (hT:LKa L ka ks bm bs) (off n cap off2 N2 cap2:Nat) (fm fs:Nat->Int) (hm:MB bm off n fm) (hSb:SB bs off2 N2 fs) (g bx tp nr md st:Int) (hs:i64 st) (p q z:Int) (hf:zjo n N2 (zd2 n fm g bx tp nr md) (zay st fs N2)=false) :
  Fun prog G1 9 #[cfV (.slice (some ⟨ka,off,none⟩) n cap) g bx tp nr md,.agg #[.int .i64 st,.slice (some ⟨ks,off2,none⟩) N2 cap2],.int .i64 p,.int .i64 q,.int .i64 z] (hpL G1 L) (zab L) (.ret (.tuple #[.agg #[.int .i64 0,.int .i64 0,.int .i64 0],.int .i64 2]) []):=by
 refine zbr (B:=200) G1F func9 rfl call9 hT.ok ?_ (zak (by simp)) (by simp) (by simp) (by simp [ntmps9]) (by omega) ?_
 ·simp [zap,zau,zaj,zal,hT.ia,hT.ib,cfV]
 intro C hC hC0 hY
 have hA:=hT.a
 have hS:=hT.s
 have hne:=hT.ne
 have hna:=hT.na
 have hLow:=hT.low
 have hks:=hT.k1
 have hks2:=hT.k2
 have hfit:=zdo L ka ks bm bs hT off n cap off2 N2 cap2 fm fs hm hSb g bx tp nr md st hs
 rw [hf] at hfit
 unfold cfV at hfit |-
 repeat' first|refine gwZ ?_|((first|refine gwR [19] ?_|refine gwD [19] ?_);intro Q hQ _;(repeat first|simp [hC,hY,hA,hS,hne,hna]|refine zar hfit hT.ok zby ?_);refine gwq hQ ?_)|refine gwC ?_ ?_<;>intro hb
 refine zeg 0 (λm s=>s=z10 L 0 0 0 2) rfl ?_ ?_
 ·rintro m _ rfl
  unfold z10 vb eb
  repeat' first|refine gwZ ?_|refine gwV ?_|refine gwC ?_ ?_<;>intro hb
  refine ⟨.inr rfl,by simp [results9],kpT G1F⟩
 ·intro _
  repeat' first|refine gwZ ?_|((first|refine gwR [19] ?_|refine gwD [19] ?_);intro Q hQ _;(repeat first|simp [hC,hY,hA,hS,hne,hna]|refine zar hfit hT.ok zby ?_);refine gwq hQ ?_)|refine gwC ?_ ?_<;>intro hb
  refine ⟨rfl,_,0,zc1 _ 1000 hC G1F hT.ok hT.fx hC0 (by omega) ?_ ?_ zby,rfl⟩
  ·simp [zap,zau,zaj,zal,dom,hA,hS,hne,hna]
  ·simp [vb,eb,zae,zaj,zal,dom,hA,hS,hne,hna]
theorem zyv (L:List (Nat×Blk)) (ka ks:Nat) (bm bs:Blk) (hT:LKa L ka ks bm bs) (off n cap off2 N2 cap2:Nat) (fm fs:Nat->Int) (hm:MB bm off n fm) (hSb:SB bs off2 N2 fs) (g bx tp nr md st:Int) (hs:i64 st) (p q z:Int) (hf:zjo n N2 (zd2 n fm g bx tp nr md) (zay st fs N2)=true) (hb0:¬((0<=z/\z<N2)/\zdi p q=true)) :
  Fun prog G1 9 #[cfV (.slice (some ⟨ka,off,none⟩) n cap) g bx tp nr md,.agg #[.int .i64 st,.slice (some ⟨ks,off2,none⟩) N2 cap2],.int .i64 p,.int .i64 q,.int .i64 z] (hpL G1 L) (zab L) (.ret (.tuple #[.agg #[.int .i64 0,.int .i64 0,.int .i64 0],.int .i64 2]) []):=by
 refine zbr (B:=200) G1F func9 rfl call9 hT.ok ?_ (zak (by simp)) (by simp) (by simp) (by simp [ntmps9]) (by omega) ?_
 ·simp [zap,zau,zaj,zal,hT.ia,hT.ib,cfV]
 intro C hC hC0 hY
 have hA:=hT.a
 have hS:=hT.s
 have hne:=hT.ne
 have hna:=hT.na
 have hLow:=hT.low
 have hks:=hT.k1
 have hks2:=hT.k2
 have hfit:=zdo L ka ks bm bs hT off n cap off2 N2 cap2 fm fs hm hSb g bx tp nr md st hs
 rw [hf] at hfit
 unfold cfV at hfit |-
 repeat' first|refine gwZ ?_|((first|refine gwR [19] ?_|refine gwD [19] ?_);intro Q hQ _;(repeat first|simp [hC,hY,hA,hS,hne,hna]|refine zar hfit hT.ok zby ?_);refine gwq hQ ?_)|refine gwC ?_ ?_<;>intro hb
 refine zeg 0 (λm s=>s=z10 L 0 0 0 2) rfl ?_ ?_
 ·rintro m _ rfl
  unfold z10 vb eb
  repeat' first|refine gwZ ?_|refine gwV ?_|refine gwC ?_ ?_<;>intro hb
  refine ⟨.inr rfl,by simp [results9],kpT G1F⟩
 ·intro _
  rw [zej] at hb0
  have cs:z<0\/(¬z<0/\(N2:Int)<=z)\/(¬z<0/\¬(N2:Int)<=z/\p < -2097152)\/(¬z<0/\¬(N2:Int)<=z/\¬p < -2097152/\2097152<p)\/(¬z<0/\¬(N2:Int)<=z/\¬p < -2097152/\¬2097152<p/\q<1)\/(¬z<0/\¬(N2:Int)<=z/\¬p < -2097152/\¬2097152<p/\¬q<1/\2097152<q):=by omega
  rcases cs with c1|⟨c1,c2⟩|⟨c1,c2,c3⟩|⟨c1,c2,c3,c4⟩|⟨c1,c2,c3,c4,c5⟩|⟨c1,c2,c3,c4,c5,c6⟩
  ·
   repeat' first|refine gwZ ?_|((first|refine gwR [19] ?_|refine gwD [19] ?_);intro Q hQ _;(repeat first|simp [hC,hY,hA,hS,hne,hna,c1]|refine zar hfit hT.ok zby ?_);refine gwq hQ ?_)|refine gwC ?_ ?_<;>intro hb
   refine ⟨rfl,_,0,zc1 _ 1000 hC G1F hT.ok hT.fx hC0 (by omega) ?_ ?_ zby,rfl⟩
   ·simp [zap,zau,zaj,zal,dom,hA,hS,hne,hna]
   ·simp [vb,eb,zae,zaj,zal,dom,hA,hS,hne,hna]
  ·
   repeat' first|refine gwZ ?_|((first|refine gwR [19] ?_|refine gwD [19] ?_);intro Q hQ _;(repeat first|simp [hC,hY,hA,hS,hne,hna,c1,c2]|refine zar hfit hT.ok zby ?_);refine gwq hQ ?_)|refine gwC ?_ ?_<;>intro hb
   refine ⟨rfl,_,0,zc1 _ 1000 hC G1F hT.ok hT.fx hC0 (by omega) ?_ ?_ zby,rfl⟩
   ·simp [zap,zau,zaj,zal,dom,hA,hS,hne,hna]
   ·simp [vb,eb,zae,zaj,zal,dom,hA,hS,hne,hna]
  ·
   repeat' first|refine gwZ ?_|((first|refine gwR [19] ?_|refine gwD [19] ?_);intro Q hQ _;(repeat first|simp [hC,hY,hA,hS,hne,hna,c1,c2,c3]|refine zar hfit hT.ok zby ?_);refine gwq hQ ?_)|refine gwC ?_ ?_<;>intro hb
   refine ⟨rfl,_,0,zc1 _ 1000 hC G1F hT.ok hT.fx hC0 (by omega) ?_ ?_ zby,rfl⟩
   ·simp [zap,zau,zaj,zal,dom,hA,hS,hne,hna]
   ·simp [vb,eb,zae,zaj,zal,dom,hA,hS,hne,hna]
  ·
   repeat' first|refine gwZ ?_|((first|refine gwR [19] ?_|refine gwD [19] ?_);intro Q hQ _;(repeat first|simp [hC,hY,hA,hS,hne,hna,c1,c2,c3,c4]|refine zar hfit hT.ok zby ?_);refine gwq hQ ?_)|refine gwC ?_ ?_<;>intro hb
   refine ⟨rfl,_,0,zc1 _ 1000 hC G1F hT.ok hT.fx hC0 (by omega) ?_ ?_ zby,rfl⟩
   ·simp [zap,zau,zaj,zal,dom,hA,hS,hne,hna]
   ·simp [vb,eb,zae,zaj,zal,dom,hA,hS,hne,hna]
  ·
   repeat' first|refine gwZ ?_|((first|refine gwR [19] ?_|refine gwD [19] ?_);intro Q hQ _;(repeat first|simp [hC,hY,hA,hS,hne,hna,c1,c2,c3,c4,c5]|refine zar hfit hT.ok zby ?_);refine gwq hQ ?_)|refine gwC ?_ ?_<;>intro hb
   refine ⟨rfl,_,0,zc1 _ 1000 hC G1F hT.ok hT.fx hC0 (by omega) ?_ ?_ zby,rfl⟩
   ·simp [zap,zau,zaj,zal,dom,hA,hS,hne,hna]
   ·simp [vb,eb,zae,zaj,zal,dom,hA,hS,hne,hna]
  ·
   repeat' first|refine gwZ ?_|((first|refine gwR [19] ?_|refine gwD [19] ?_);intro Q hQ _;(repeat first|simp [hC,hY,hA,hS,hne,hna,c1,c2,c3,c4,c5,c6]|refine zar hfit hT.ok zby ?_);refine gwq hQ ?_)|refine gwC ?_ ?_<;>intro hb
   refine ⟨rfl,_,0,zc1 _ 1000 hC G1F hT.ok hT.fx hC0 (by omega) ?_ ?_ zby,rfl⟩
   ·simp [zap,zau,zaj,zal,dom,hA,hS,hne,hna]
   ·simp [vb,eb,zae,zaj,zal,dom,hA,hS,hne,hna]
theorem zqy (L:List (Nat×Blk)) (ka ks:Nat) (bm bs:Blk) (hT:LKa L ka ks bm bs) (off n cap off2 cap2:Nat) (fm fs:Nat->Int) (hm:MB bm off n fm) (hSb:SB bs off2 n fs) (g bx tp nr md st:Int) (hs:i64 st) (p q z:Int) (hok:zd2 n fm g bx tp nr md=true) (hrt:zay st fs n=true) (hp:zdi p q=true) (i:Nat) (hi:i<n) (hiz:(i:Int)=z) (hz:kZ fs n i=false) :
  Fun prog G1 9 #[cfV (.slice (some ⟨ka,off,none⟩) n cap) g bx tp nr md,.agg #[.int .i64 st,.slice (some ⟨ks,off2,none⟩) n cap2],.int .i64 p,.int .i64 q,.int .i64 z] (hpL G1 L) (zab L) (.ret (.tuple #[.agg #[.int .i64 (kS p q g fm fs n i 0),.int .i64 (kS p q g fm fs n i 1),.int .i64 (kS p q g fm fs n i 2)],.int .i64 0]) []):=by
 refine zbr (B:=200) G1F func9 rfl call9 hT.ok ?_ (zak (by simp)) (by simp) (by simp) (by simp [ntmps9]) (by omega) ?_
 ·simp [zap,zau,zaj,zal,hT.ia,hT.ib,cfV]
 intro C hC hC0 hY
 have hA:=hT.a
 have hS:=hT.s
 have hne:=hT.ne
 have hna:=hT.na
 have hLow:=hT.low
 have hks:=hT.k1
 have hks2:=hT.k2
 have hfit:=zdo L ka ks bm bs hT off n cap off2 n cap2 fm fs hm hSb g bx tp nr md st hs
 rw [zde.2 ⟨rfl,hok,hrt⟩] at hfit
 have hn4:=(zcs hrt).2.1
 have hpr:=zpc 520 (by omega) L ka ks bm bs hT off n cap off2 n cap2 g bx tp nr md st z
 have hit:=zpd L ka ks bm bs hT off n cap off2 cap2 fm fs hm hSb g bx tp nr md st hrt i hi
 rw [hiz] at hit
 obtain ⟨p1,p2,p3,p4⟩:=zej.1 hp
 have c1:¬z<0:=by omega
 have c2:¬(n:Int)<=z:=by omega
 have c3:¬p < -2097152:=by omega
 have c4:¬2097152<p:=by omega
 have c5:¬q<1:=by omega
 have c6:¬2097152<q:=by omega
 unfold cfV at hfit hpr |-
 repeat' first|refine gwZ ?_|((first|refine gwR [19] ?_|refine gwD [19] ?_);intro Q hQ _;(repeat first|simp [hC,hY,hA,hS,hne,hna]|refine zar hfit hT.ok zby ?_);refine gwq hQ ?_)|refine gwC ?_ ?_<;>intro hb
 refine zeg 0 (λ_ _=>False) rfl (λ_ _ h=>h.elim) ?_
 intro _
 repeat' first|refine gwZ ?_|((first|refine gwR [19] ?_|refine gwD [19] ?_);intro Q hQ _;(repeat first|simp [hC,hY,hA,hS,hne,hna,c1,c2,c3,c4,c5,c6]|refine zar hfit hT.ok zby ?_);refine gwq hQ ?_)|refine gwC ?_ ?_<;>intro hb
 refine za7 ?_
 simp only [Array.toList]
 refine gwl 3 ?_;intro Q hQ;simp [hC,hY,hA,hS,hne,hna];apply hQ
 simp only [wT,wM,Nat.reduceAdd]
 refine zbd (f:=.func 26) (cap:=#[]) hC hpr rfl (by simp) rfl rfl (by simp [okT]) (by simp [gev]) (by simp) (by simp [okX,zbz]) (by simp [gev]) (by intro q hq;obtain ⟨p,hp,rfl⟩:=zah.1 hq;have hpb:=hT.ok.big p hp;(try dsimp only);simp (disch:=omega) only [zaa]) (by (intro k hk;first|exact hLow k hk|(simp (disch:=omega) only [hLow,zb9,List.mem_cons,List.not_mem_nil,or_false,zaa,zai,zat,if_neg,zaw,List.cons_append,List.nil_append]<;>done))) (λv ns hV k hk=>by have:=zhr hV k hk;simp;omega) ?_
 rintro v ns ⟨rfl,rfl⟩
 refine zbh ?_
 repeat' first|refine gwZ ?_|(refine gwX ?_;intro Q hQ _;simp [hC,hY,zbl,zaw,hA,hS,hne,hna];refine gwq hQ ?_)|refine gwC ?_ ?_<;>intro hb
 simp only [zbl,zaw]
 refine zn2 200 (t:=24) (cs:=#[.slice (some ⟨ka,off,none⟩) n cap,.int .i64 g,.int .i64 bx,.int .i64 tp,.int .i64 nr,.int .i64 md]) (by simp [cfB]) (by omega) ?_
 intro cq hq1 hq2
 have hq4:cq[1]? = some (.int .i64 g):=hq2 1 _ rfl rfl
 have hq6:cq.size=6:=hq1
 have hidL:∀ k∈zab L,zge k=k:=λk hk=>by
  obtain ⟨p,hp,rfl⟩:=zah.1 hk
  exact zep (hT.ok.big p hp).2
 have hout:∀ k,200<=k->k≠520->k≠521->k≠522->(k∈520::521::522::zab L)=False:=λk h1 h2 h3 h4=>eq_false λhm=>by
  rcases List.mem_cons.1 hm with e|hm
  ·exact h2 e
  ·rcases List.mem_cons.1 hm with e|hm
   ·exact h3 e
   ·rcases List.mem_cons.1 hm with e|hm
    ·exact h4 e
    ·obtain ⟨p,hp,rfl⟩:=zah.1 hm
     have:=(hT.ok.big p hp).2
     omega
 have hall:∀ k,k∈520::521::522::zab L->k=520\/k=521\/k=522\/(100<=k/\k<200):=λk hk=>by
  rcases List.mem_cons.1 hk with rfl|hk
  ·exact .inl rfl
  ·rcases List.mem_cons.1 hk with rfl|hk
   ·exact .inr (.inl rfl)
   ·rcases List.mem_cons.1 hk with rfl|hk
    ·exact .inr (.inr (.inl rfl))
    ·obtain ⟨p,hp,rfl⟩:=zah.1 hk
     exact .inr (.inr (.inr (hT.ok.big p hp)))
 have hasd:∀ C0:Ctx,(C0.hp0=λk=>if k∈520::521::522::zab L then none else C.hp0 k)->C0.hp0=hpL G1 []:=λC0 h0=>by
  rw [h0,hC0]
  exact z69 hT.ok
 have hQa:ka∈520::521::522::zab L\/(ka<100/\dom C.G ka):=by
  rw [hC]
  exact hT.aQ.imp (λh=>List.mem_cons_of_mem _ (List.mem_cons_of_mem _ (List.mem_cons_of_mem _ h))) id
 have hQs:ks∈520::521::522::zab L\/(ks<100/\dom C.G ks):=.inl (List.mem_cons_of_mem _ (List.mem_cons_of_mem _ (List.mem_cons_of_mem _ hT.kbk)))
 refine zir (f:=42) (rs:=520::521::522::zab L) (xs:=(zf2 n i).map (otV fm fs i)) (caps:=#[.pointer (some ⟨521,0,none⟩),.pointer (some ⟨522,0,none⟩),.pointer (some ⟨520,0,none⟩)]) (520::521::522::zab L) hY (by simp) ?_ ?_ (by simp [ntmps9]) (tsL zhf) (tsL zhf) (z4d cq p q (kpF p q g fm fs i) (zf2 n i)) (hpS:=hpL G1 (zkt cq p q 0 0 0)) 1000 (zf2 n i).length (by simp) (λk hk=>hk) ?_ ?_ ?_ ?_ ?_ (λ_=>.inl rfl) ?_ ?_
 ·rw [hC]
  refine zoy hit (zf8 hT off n cap off2 n cap2 g bx tp nr md st z) zge (λk hk=>zep (by omega)) (by simp [zao,zge]) ?_ (by (intro k hk;first|exact hLow k hk|(simp (disch:=omega) only [hLow,zb9,List.mem_cons,List.not_mem_nil,or_false,zaa,zai,zat,if_neg,zaw,List.cons_append,List.nil_append]<;>done))) ?_ ?_
  ·show zge 200::zge 208::zge 216::(zab L).map zge=_
   rw [List.map_congr_left hidL]
   simp [zge]
  ·intro p hp
   rcases List.mem_cons.1 hp with rfl|hp
   ·have h3:zge ka=ka:=zep hT.a2
    simp [cfB,Blk.rn,zan,zao,upd,h3]
    simp [zge,upd]
   ·rcases List.mem_cons.1 hp with rfl|hp
    ·have h3:zge ks=ks:=zep hks2
     simp [zcu,Blk.rn,zan,zao,upd,h3]
     simp [zge,upd]
    ·rcases List.mem_cons.1 hp with rfl|hp
     ·simp [ib,zge,Blk.rn,zan,zao,upd]
     ·have hpb:=hT.ok.big p hp
      rw [zep hpb.2,Blk.fx_rn (hT.fx p hp)]
      refine ⟨hpb.1,?_⟩
      (try dsimp only)
      simp (disch:=omega) only [zb9,zaa,zai,zat,if_neg,zaw]
      exact hT.mem p hp
  ·have key:∀ k∈zab (otM L ka ks off n cap off2 n cap2 g bx tp nr md st z),(k=200/\zge k=520)\/(k=208/\zge k=521)\/(k=216/\zge k=522)\/(k<200/\zge k=k):=λk hk=>by
    rcases List.mem_cons.1 hk with rfl|hk
    ·exact .inl ⟨rfl,rfl⟩
    ·rcases List.mem_cons.1 hk with rfl|hk
     ·exact .inr (.inl ⟨rfl,rfl⟩)
     ·rcases List.mem_cons.1 hk with rfl|hk
      ·exact .inr (.inr (.inl ⟨rfl,rfl⟩))
      ·obtain ⟨p,hp,rfl⟩:=zah.1 hk
       have:=(hT.ok.big p hp).2
       exact .inr (.inr (.inr ⟨this,zep this⟩))
   intro k hk l hl e
   have:=key k hk
   have:=key l hl
   omega
 ·intro x hx
  simp only [List.mem_map] at hx
  obtain ⟨p,_,rfl⟩:=hx
  simp [otV]
 ·intro k hk
  rcases List.mem_cons.1 hk with rfl|hk
  ·simp [dom,upd]
  ·rcases List.mem_cons.1 hk with rfl|hk
   ·simp [dom,upd]
   ·rcases List.mem_cons.1 hk with rfl|hk
    ·simp [dom,upd]
    ·obtain ⟨p,hp,rfl⟩:=zah.1 hk
     have hpb:=hT.ok.big p hp
     refine ⟨hpb.1,?_⟩
     unfold dom
     dsimp only
     simp (disch:=omega) only [zb9,zaa,zai,zat,if_neg,zaw]
     rw [hT.mem p hp]
     simp
 ·intro k hk b hb1
  rcases List.mem_cons.1 hk with rfl|hk
  ·simp [upd] at hb1;subst hb1;exact z57 hQa
  ·rcases List.mem_cons.1 hk with rfl|hk
   ·simp [upd] at hb1;subst hb1;exact z7n hQs
   ·rcases List.mem_cons.1 hk with rfl|hk
    ·simp [upd] at hb1;subst hb1;simp [ib,zae,zaj,zal]
    ·obtain ⟨p,hp,rfl⟩:=zah.1 hk
     have hpb:=hT.ok.big p hp
     dsimp only at hb1
     simp (disch:=omega) only [zb9,zaa,zai,zat,if_neg,zaw] at hb1
     rw [hT.mem p hp] at hb1
     simp only [Option.some.injEq] at hb1
     subst hb1
     exact Blk.fx_ids (hT.fx p hp) _
 ·intro C0 h1 h2
  refine zbc _ 1000 (h1.trans hC) G1F (m0:=[]) (hasd C0 h2) (by omega) ?_ ?_ ?_
  ·simp [zhf,zkt,zap,zau,zaj,zal,dom]
  ·simp [zkt,zm4,vb,ib,eb,zae,zaj,zal,dom,upd]
   rfl
  ·simp
 ·simp [z4d,oS]
 ·intro k hk
  have h3:=hall k hk
  rw [jec (λhm=>?_)]
  ·exact zhh k (by omega)
  ·simp [zkt,zab] at hm
   omega
 ·intro j x hq0 hj0 hx hI C1 lb hC1 hh1 hY1
  have hj:j<(zf2 n i).length:=by omega
  unfold z4d at hI
  subst hI
  rw [List.getElem?_map,List.getElem?_eq_getElem hj] at hx
  simp only [Option.map_some,Option.some.injEq] at hx
  subst hx
  have t0:=zi2 (kpF p q g fm fs i 0) hj
  have t1:=zi2 (kpF p q g fm fs i 1) hj
  have t2:=zi2 (kpF p q g fm fs i 2) hj
  have hmem:=List.getElem_mem hj
  have hk2:=(ze2.1 hmem).1
  have hz1:¬d2F fs (zf2 n i)[j] i=0:=je8.1 hz _ hk2 (ze2.1 hmem).2
  have hpre:∀ k∈(zf2 n i).take j,k<n/\¬d2F fs k i=0:=λk hk=>by have:=ze2.1 (List.mem_of_mem_take hk);exact ⟨this.1,je8.1 hz k this.1 this.2⟩
  have hl4:((zf2 n i).take j).length<=4:=by rw [List.length_take];have:=zzm (i:=i) hn4.2;omega
  have u0:=zqz (u:=0) hok hrt hp hi (by omega) hpre hl4
  have u1:=zqz (u:=1) hok hrt hp hi (by omega) hpre hl4
  have u2:=zqz (u:=2) hok hrt hp hi (by omega) hpre hl4
  unfold z4d
  rw [t0,t1,t2]
  clear t0 t1 t2 hpre hl4 hj0
  generalize (zf2 n i)[j]=k at *
  have P0:=zib (u:=0) hok hrt hp hi hk2 (by omega) hz1
  have P1:=zib (u:=1) hok hrt hp hi hk2 (by omega) hz1
  have P2:=zib (u:=2) hok hrt hp hi hk2 (by omega) hz1
  have y0:=zfa P0
  have y1:=zfa P1
  have y2:=zfa P2
  have P:=λK=>zs2 (zlz i k) P0 P1 P2 K
  have f0:kpF p q g fm fs i 0 k=zbe p q g (fm k) (fs (6*k) - fs (6*i)) (d2F fs k i):=rfl
  have f1:kpF p q g fm fs i 1 k=zbe p q g (fm k) (fs (6*k+1) - fs (6*i+1)) (d2F fs k i):=rfl
  have f2:kpF p q g fm fs i 2 k=zbe p q g (fm k) (fs (6*k+2) - fs (6*i+2)) (d2F fs k i):=rfl
  simp only [Nat.add_zero] at y0 P
  rw [f0,f1,f2]
  clear P0 P1 P2 f0 f1 f2
  have hld:=z8u hq4
  generalize oS (kpF p q g fm fs i 0) ((zf2 n i).take j)=A0 at *
  generalize oS (kpF p q g fm fs i 1) ((zf2 n i).take j)=A1 at *
  generalize oS (kpF p q g fm fs i 2) ((zf2 n i).take j)=A2 at *
  generalize zbe p q g (fm k) (fs (6*k) - fs (6*i)) (d2F fs k i)=a0 at *
  generalize zbe p q g (fm k) (fs (6*k+1) - fs (6*i+1)) (d2F fs k i)=a1 at *
  generalize zbe p q g (fm k) (fs (6*k+2) - fs (6*i+2)) (d2F fs k i)=a2 at *
  have q0:Int.bmod (A0+a0) 18446744073709551616=A0+a0:=Go.Gy.bm (by omega) (by omega)
  have q1:Int.bmod (A1+a1) 18446744073709551616=A1+a1:=Go.Gy.bm (by omega) (by omega)
  have q2:Int.bmod (A2+a2) 18446744073709551616=A2+a2:=Go.Gy.bm (by omega) (by omega)
  have hCC:=hC
  have hC1':C1.G=G1:=hC1.trans hC
  unfold otV
  clear hC hY
  have hC:=hC1'
  have hY:=hY1
  unfold zkt vb ib eb ezB
  repeat' first|refine gwZ ?_|(refine gwX ?_;intro Q hQ _;simp [hC,hY,za3,zhf];refine gwq hQ ?_)|refine gwC ?_ ?_<;>intro hb
  intro C2 hC2 hh2 hY2
  clear hC hY
  have hC:C2.G=G1:=hC2.trans hCC
  have hY:=hY2
  repeat' first|refine gwZ ?_|((first|refine gwR [28] ?_|refine gwD [28] ?_);intro Q hQ _;(repeat first|simp [hC,hY,P,hld]|refine zyx (by omega) (by simp [vb]) q0 q1 q2 ?_);refine gwq hQ ?_)|refine gwC ?_ ?_<;>intro hb
  refine ⟨λk=>k,hpL G1 (zkt cq p q (A0+a0) (A1+a1) (A2+a2)),λC0 h1 h2=>zp1 _ _ 1000 (h1.trans hCC) G1F (m0:=[]) (hasd C0 h2) (by omega) ?_ ?_ ?_ ?_ ?_,rfl⟩
  ·simp [zhf,zkt,dom,zbz,ren,zas,zan,zao,zap,zau,zaj,zal]
  ·simp [zkt,z59,zm4,vb,ib,eb,Blk.rn,zan,zao,zae,zaj,zal,dom]
   rfl
  ·simp [zkt]
  ·intro k hk;rfl
  ·simp
 ·refine .inl ⟨by simp,?_⟩
  rintro hq hI
  have hI':hq=hpL G1 (zkt cq p q (kS p q g fm fs n i 0) (kS p q g fm fs n i 1) (kS p q g fm fs n i 2)):=by
   rw [hI,List.take_length]
   rfl
  subst hI'
  refine ⟨λk hk=>?_,?_⟩
  ·have h3:=hall k hk
   refine ⟨?_,by omega⟩
   rw [jec (λhm=>?_)]
   ·exact zhh k (by omega)
   ·simp [zkt,zab] at hm
    omega
  have hm16:=hout 232 (by omega) (by omega) (by omega) (by omega)
  have hm24:=hout 240 (by omega) (by omega) (by omega) (by omega)
  unfold zhf zkt vb eb
  repeat' first|refine gwZ ?_|(refine gwX ?_;intro Q hQ _;simp [hC,hY,zb9,hm16,hm24];refine gwq hQ ?_)|refine gwC ?_ ?_<;>intro hb
  refine ⟨.inr rfl,by simp [results9,zb9,hm16,hm24],zdc G1F (λp hp=>by
    have hpb:=hT.ok.big p hp
    have hm9:p.1∈520::521::522::zab L:=List.mem_cons_of_mem _ (List.mem_cons_of_mem _ (List.mem_cons_of_mem _ (zah.2 ⟨p,hp,rfl⟩)))
    simp (disch:=omega) only [eIn hm9,zaa,zai,zat,if_neg,zaw]) (λk hk=>by
    have hm9:k∉520::521::522::zab L:=λhm9=>by have:=hall k hm9;omega
    simp (disch:=omega) only [eNi hm9,zaa,zai,zat,if_neg,zaw,hLow])⟩
theorem z6b {P:Nat->Prop}:∀ {l:List Nat},(∃ p∈l,P p)->∃ N,∃ h:N<l.length,P l[N]/\∀ j,j<N->∀ h:j<l.length,¬P l[j]
 | [],h=>by obtain ⟨p,hp,_⟩:=h;cases hp
 | a::l,h=>by
  by_cases ha:P a
  ·exact ⟨0,by simp,ha,λj hj=>by omega⟩
  ·obtain ⟨p,hp,hP⟩:=h
   rcases List.mem_cons.1 hp with rfl|hp
   ·exact absurd hP ha
   ·obtain ⟨N,h1,h2,h3⟩:=z6b ⟨p,hp,hP⟩
    refine ⟨N+1,by simpa using h1,by simpa using h2,λj hj hl=>?_⟩
    cases j with
    | zero=>exact ha
    | succ j=>simpa using h3 j (by omega) (by simpa using hl)
theorem zyw (L:List (Nat×Blk)) (ka ks:Nat) (bm bs:Blk) (hT:LKa L ka ks bm bs) (off n cap off2 cap2:Nat) (fm fs:Nat->Int) (hm:MB bm off n fm) (hSb:SB bs off2 n fs) (g bx tp nr md st:Int) (hs:i64 st) (p q z:Int) (hok:zd2 n fm g bx tp nr md=true) (hrt:zay st fs n=true) (hp:zdi p q=true) (i:Nat) (hi:i<n) (hiz:(i:Int)=z) (hz:kZ fs n i=true) :
  Fun prog G1 9 #[cfV (.slice (some ⟨ka,off,none⟩) n cap) g bx tp nr md,.agg #[.int .i64 st,.slice (some ⟨ks,off2,none⟩) n cap2],.int .i64 p,.int .i64 q,.int .i64 z] (hpL G1 L) (zab L) (.ret (.tuple #[.agg #[.int .i64 0,.int .i64 0,.int .i64 0],.int .i64 30]) []):=by
 refine zbr (B:=200) G1F func9 rfl call9 hT.ok ?_ (zak (by simp)) (by simp) (by simp) (by simp [ntmps9]) (by omega) ?_
 ·simp [zap,zau,zaj,zal,hT.ia,hT.ib,cfV]
 intro C hC hC0 hY
 have hA:=hT.a
 have hS:=hT.s
 have hne:=hT.ne
 have hna:=hT.na
 have hLow:=hT.low
 have hks:=hT.k1
 have hks2:=hT.k2
 have hfit:=zdo L ka ks bm bs hT off n cap off2 n cap2 fm fs hm hSb g bx tp nr md st hs
 rw [zde.2 ⟨rfl,hok,hrt⟩] at hfit
 have hn4:=(zcs hrt).2.1
 have hpr:=zpc 520 (by omega) L ka ks bm bs hT off n cap off2 n cap2 g bx tp nr md st z
 have hit:=zpd L ka ks bm bs hT off n cap off2 cap2 fm fs hm hSb g bx tp nr md st hrt i hi
 rw [hiz] at hit
 obtain ⟨p1,p2,p3,p4⟩:=zej.1 hp
 have c1:¬z<0:=by omega
 have c2:¬(n:Int)<=z:=by omega
 have c3:¬p < -2097152:=by omega
 have c4:¬2097152<p:=by omega
 have c5:¬q<1:=by omega
 have c6:¬2097152<q:=by omega
 obtain ⟨N,hN,hzN,hbef⟩:=z6b (P:=λk=>d2F fs k i=0) (l:=zf2 n i) (by obtain ⟨k,h1,h2,h3⟩:=job.1 hz;exact ⟨k,ze2.2 ⟨h1,h2⟩,h3⟩)
 replace hzN:d2F fs (zf2 n i)[N] i=0:=hzN
 unfold cfV at hfit hpr |-
 repeat' first|refine gwZ ?_|((first|refine gwR [19] ?_|refine gwD [19] ?_);intro Q hQ _;(repeat first|simp [hC,hY,hA,hS,hne,hna]|refine zar hfit hT.ok zby ?_);refine gwq hQ ?_)|refine gwC ?_ ?_<;>intro hb
 refine zeg 0 (λm s=>∃ v0 v1 v2,s=⟨tsL [(10,.pointer (some ⟨232,0,none⟩)),(11,.pointer (some ⟨240,0,none⟩))],hpL G1 ([(232,vb v0 v1 v2),(240,eb 30)]++L),2000,0⟩) rfl ?_ ?_
 ·rintro m _ ⟨v0,v1,v2,rfl⟩
  unfold vb eb
  repeat' first|refine gwZ ?_|refine gwV ?_|refine gwC ?_ ?_<;>intro hb
  refine ⟨.inr rfl,by simp [results9],kpT G1F⟩
 intro _
 repeat' first|refine gwZ ?_|((first|refine gwR [19] ?_|refine gwD [19] ?_);intro Q hQ _;(repeat first|simp [hC,hY,hA,hS,hne,hna,c1,c2,c3,c4,c5,c6]|refine zar hfit hT.ok zby ?_);refine gwq hQ ?_)|refine gwC ?_ ?_<;>intro hb
 refine za7 ?_
 simp only [Array.toList]
 refine gwl 3 ?_;intro Q hQ;simp [hC,hY,hA,hS,hne,hna];apply hQ
 simp only [wT,wM,Nat.reduceAdd]
 refine zbd (f:=.func 26) (cap:=#[]) hC hpr rfl (by simp) rfl rfl (by simp [okT]) (by simp [gev]) (by simp) (by simp [okX,zbz]) (by simp [gev]) (by intro q hq;obtain ⟨p,hp,rfl⟩:=zah.1 hq;have hpb:=hT.ok.big p hp;(try dsimp only);simp (disch:=omega) only [zaa]) (by (intro k hk;first|exact hLow k hk|(simp (disch:=omega) only [hLow,zb9,List.mem_cons,List.not_mem_nil,or_false,zaa,zai,zat,if_neg,zaw,List.cons_append,List.nil_append]<;>done))) (λv ns hV k hk=>by have:=zhr hV k hk;simp;omega) ?_
 rintro v ns ⟨rfl,rfl⟩
 refine zbh ?_
 repeat' first|refine gwZ ?_|(refine gwX ?_;intro Q hQ _;simp [hC,hY,zbl,zaw,hA,hS,hne,hna];refine gwq hQ ?_)|refine gwC ?_ ?_<;>intro hb
 simp only [zbl,zaw]
 refine zn2 200 (t:=24) (cs:=#[.slice (some ⟨ka,off,none⟩) n cap,.int .i64 g,.int .i64 bx,.int .i64 tp,.int .i64 nr,.int .i64 md]) (by simp [cfB]) (by omega) ?_
 intro cq hq1 hq2
 have hq4:cq[1]? = some (.int .i64 g):=hq2 1 _ rfl rfl
 have hq6:cq.size=6:=hq1
 have hidL:∀ k∈zab L,zge k=k:=λk hk=>by
  obtain ⟨p,hp,rfl⟩:=zah.1 hk
  exact zep (hT.ok.big p hp).2
 have hout:∀ k,200<=k->k≠520->k≠521->k≠522->(k∈520::521::522::zab L)=False:=λk h1 h2 h3 h4=>eq_false λhm=>by
  rcases List.mem_cons.1 hm with e|hm
  ·exact h2 e
  ·rcases List.mem_cons.1 hm with e|hm
   ·exact h3 e
   ·rcases List.mem_cons.1 hm with e|hm
    ·exact h4 e
    ·obtain ⟨p,hp,rfl⟩:=zah.1 hm
     have:=(hT.ok.big p hp).2
     omega
 have hall:∀ k,k∈520::521::522::zab L->k=520\/k=521\/k=522\/(100<=k/\k<200):=λk hk=>by
  rcases List.mem_cons.1 hk with rfl|hk
  ·exact .inl rfl
  ·rcases List.mem_cons.1 hk with rfl|hk
   ·exact .inr (.inl rfl)
   ·rcases List.mem_cons.1 hk with rfl|hk
    ·exact .inr (.inr (.inl rfl))
    ·obtain ⟨p,hp,rfl⟩:=zah.1 hk
     exact .inr (.inr (.inr (hT.ok.big p hp)))
 have hasd:∀ C0:Ctx,(C0.hp0=λk=>if k∈520::521::522::zab L then none else C.hp0 k)->C0.hp0=hpL G1 []:=λC0 h0=>by
  rw [h0,hC0]
  exact z69 hT.ok
 have hQa:ka∈520::521::522::zab L\/(ka<100/\dom C.G ka):=by
  rw [hC]
  exact hT.aQ.imp (λh=>List.mem_cons_of_mem _ (List.mem_cons_of_mem _ (List.mem_cons_of_mem _ h))) id
 have hQs:ks∈520::521::522::zab L\/(ks<100/\dom C.G ks):=.inl (List.mem_cons_of_mem _ (List.mem_cons_of_mem _ (List.mem_cons_of_mem _ hT.kbk)))
 refine zir (f:=42) (rs:=520::521::522::zab L) (xs:=(zf2 n i).map (otV fm fs i)) (caps:=#[.pointer (some ⟨521,0,none⟩),.pointer (some ⟨522,0,none⟩),.pointer (some ⟨520,0,none⟩)]) (520::521::522::zab L) hY (by simp) ?_ ?_ (by simp [ntmps9]) (tsL zhf) (tsL zhf) (z4d cq p q (kpF p q g fm fs i) (zf2 n i)) (hpS:=hpL G1 (zkt cq p q 0 0 0)) 1000 N (by simp;omega) (λk hk=>hk) ?_ ?_ ?_ ?_ ?_ (λ_=>.inl rfl) ?_ ?_
 ·rw [hC]
  refine zoy hit (zf8 hT off n cap off2 n cap2 g bx tp nr md st z) zge (λk hk=>zep (by omega)) (by simp [zao,zge]) ?_ (by (intro k hk;first|exact hLow k hk|(simp (disch:=omega) only [hLow,zb9,List.mem_cons,List.not_mem_nil,or_false,zaa,zai,zat,if_neg,zaw,List.cons_append,List.nil_append]<;>done))) ?_ ?_
  ·show zge 200::zge 208::zge 216::(zab L).map zge=_
   rw [List.map_congr_left hidL]
   simp [zge]
  ·intro p hp
   rcases List.mem_cons.1 hp with rfl|hp
   ·have h3:zge ka=ka:=zep hT.a2
    simp [cfB,Blk.rn,zan,zao,upd,h3]
    simp [zge,upd]
   ·rcases List.mem_cons.1 hp with rfl|hp
    ·have h3:zge ks=ks:=zep hks2
     simp [zcu,Blk.rn,zan,zao,upd,h3]
     simp [zge,upd]
    ·rcases List.mem_cons.1 hp with rfl|hp
     ·simp [ib,zge,Blk.rn,zan,zao,upd]
     ·have hpb:=hT.ok.big p hp
      rw [zep hpb.2,Blk.fx_rn (hT.fx p hp)]
      refine ⟨hpb.1,?_⟩
      (try dsimp only)
      simp (disch:=omega) only [zb9,zaa,zai,zat,if_neg,zaw]
      exact hT.mem p hp
  ·have key:∀ k∈zab (otM L ka ks off n cap off2 n cap2 g bx tp nr md st z),(k=200/\zge k=520)\/(k=208/\zge k=521)\/(k=216/\zge k=522)\/(k<200/\zge k=k):=λk hk=>by
    rcases List.mem_cons.1 hk with rfl|hk
    ·exact .inl ⟨rfl,rfl⟩
    ·rcases List.mem_cons.1 hk with rfl|hk
     ·exact .inr (.inl ⟨rfl,rfl⟩)
     ·rcases List.mem_cons.1 hk with rfl|hk
      ·exact .inr (.inr (.inl ⟨rfl,rfl⟩))
      ·obtain ⟨p,hp,rfl⟩:=zah.1 hk
       have:=(hT.ok.big p hp).2
       exact .inr (.inr (.inr ⟨this,zep this⟩))
   intro k hk l hl e
   have:=key k hk
   have:=key l hl
   omega
 ·intro x hx
  simp only [List.mem_map] at hx
  obtain ⟨p,_,rfl⟩:=hx
  simp [otV]
 ·intro k hk
  rcases List.mem_cons.1 hk with rfl|hk
  ·simp [dom,upd]
  ·rcases List.mem_cons.1 hk with rfl|hk
   ·simp [dom,upd]
   ·rcases List.mem_cons.1 hk with rfl|hk
    ·simp [dom,upd]
    ·obtain ⟨p,hp,rfl⟩:=zah.1 hk
     have hpb:=hT.ok.big p hp
     refine ⟨hpb.1,?_⟩
     unfold dom
     dsimp only
     simp (disch:=omega) only [zb9,zaa,zai,zat,if_neg,zaw]
     rw [hT.mem p hp]
     simp
 ·intro k hk b hb1
  rcases List.mem_cons.1 hk with rfl|hk
  ·simp [upd] at hb1;subst hb1;exact z57 hQa
  ·rcases List.mem_cons.1 hk with rfl|hk
   ·simp [upd] at hb1;subst hb1;exact z7n hQs
   ·rcases List.mem_cons.1 hk with rfl|hk
    ·simp [upd] at hb1;subst hb1;simp [ib,zae,zaj,zal]
    ·obtain ⟨p,hp,rfl⟩:=zah.1 hk
     have hpb:=hT.ok.big p hp
     dsimp only at hb1
     simp (disch:=omega) only [zb9,zaa,zai,zat,if_neg,zaw] at hb1
     rw [hT.mem p hp] at hb1
     simp only [Option.some.injEq] at hb1
     subst hb1
     exact Blk.fx_ids (hT.fx p hp) _
 ·intro C0 h1 h2
  refine zbc _ 1000 (h1.trans hC) G1F (m0:=[]) (hasd C0 h2) (by omega) ?_ ?_ ?_
  ·simp [zhf,zkt,zap,zau,zaj,zal,dom]
  ·simp [zkt,zm4,vb,ib,eb,zae,zaj,zal,dom,upd]
   rfl
  ·simp
 ·simp [z4d,oS]
 ·intro k hk
  have h3:=hall k hk
  rw [jec (λhm=>?_)]
  ·exact zhh k (by omega)
  ·simp [zkt,zab] at hm
   omega
 ·intro j x hq0 hj0 hx hI C1 lb hC1 hh1 hY1
  have hj:j<(zf2 n i).length:=by omega
  unfold z4d at hI
  subst hI
  rw [List.getElem?_map,List.getElem?_eq_getElem hj] at hx
  simp only [Option.map_some,Option.some.injEq] at hx
  subst hx
  have t0:=zi2 (kpF p q g fm fs i 0) hj
  have t1:=zi2 (kpF p q g fm fs i 1) hj
  have t2:=zi2 (kpF p q g fm fs i 2) hj
  have hmem:=List.getElem_mem hj
  have hk2:=(ze2.1 hmem).1
  have hz1:¬d2F fs (zf2 n i)[j] i=0:=hbef j hj0 hj
  have hpre:∀ k∈(zf2 n i).take j,k<n/\¬d2F fs k i=0:=λk hk=>by
   obtain ⟨m,hm1,e⟩:=List.getElem_of_mem hk
   have hm2:m<j:=by rw [List.length_take] at hm1;omega
   have hm3:m<(zf2 n i).length:=by omega
   rw [List.getElem_take] at e
   exact ⟨(ze2.1 (List.mem_of_mem_take hk)).1,by rw [<-e];exact hbef m (by omega) hm3⟩
  have hl4:((zf2 n i).take j).length<=4:=by rw [List.length_take];have:=zzm (i:=i) hn4.2;omega
  have u0:=zqz (u:=0) hok hrt hp hi (by omega) hpre hl4
  have u1:=zqz (u:=1) hok hrt hp hi (by omega) hpre hl4
  have u2:=zqz (u:=2) hok hrt hp hi (by omega) hpre hl4
  unfold z4d
  rw [t0,t1,t2]
  clear t0 t1 t2 hpre hl4 hj0
  generalize (zf2 n i)[j]=k at *
  have P0:=zib (u:=0) hok hrt hp hi hk2 (by omega) hz1
  have P1:=zib (u:=1) hok hrt hp hi hk2 (by omega) hz1
  have P2:=zib (u:=2) hok hrt hp hi hk2 (by omega) hz1
  have y0:=zfa P0
  have y1:=zfa P1
  have y2:=zfa P2
  have P:=λK=>zs2 (zlz i k) P0 P1 P2 K
  have f0:kpF p q g fm fs i 0 k=zbe p q g (fm k) (fs (6*k) - fs (6*i)) (d2F fs k i):=rfl
  have f1:kpF p q g fm fs i 1 k=zbe p q g (fm k) (fs (6*k+1) - fs (6*i+1)) (d2F fs k i):=rfl
  have f2:kpF p q g fm fs i 2 k=zbe p q g (fm k) (fs (6*k+2) - fs (6*i+2)) (d2F fs k i):=rfl
  simp only [Nat.add_zero] at y0 P
  rw [f0,f1,f2]
  clear P0 P1 P2 f0 f1 f2
  have hld:=z8u hq4
  generalize oS (kpF p q g fm fs i 0) ((zf2 n i).take j)=A0 at *
  generalize oS (kpF p q g fm fs i 1) ((zf2 n i).take j)=A1 at *
  generalize oS (kpF p q g fm fs i 2) ((zf2 n i).take j)=A2 at *
  generalize zbe p q g (fm k) (fs (6*k) - fs (6*i)) (d2F fs k i)=a0 at *
  generalize zbe p q g (fm k) (fs (6*k+1) - fs (6*i+1)) (d2F fs k i)=a1 at *
  generalize zbe p q g (fm k) (fs (6*k+2) - fs (6*i+2)) (d2F fs k i)=a2 at *
  have q0:Int.bmod (A0+a0) 18446744073709551616=A0+a0:=Go.Gy.bm (by omega) (by omega)
  have q1:Int.bmod (A1+a1) 18446744073709551616=A1+a1:=Go.Gy.bm (by omega) (by omega)
  have q2:Int.bmod (A2+a2) 18446744073709551616=A2+a2:=Go.Gy.bm (by omega) (by omega)
  have hCC:=hC
  have hC1':C1.G=G1:=hC1.trans hC
  unfold otV
  clear hC hY
  have hC:=hC1'
  have hY:=hY1
  unfold zkt vb ib eb ezB
  repeat' first|refine gwZ ?_|(refine gwX ?_;intro Q hQ _;simp [hC,hY,za3,zhf];refine gwq hQ ?_)|refine gwC ?_ ?_<;>intro hb
  intro C2 hC2 hh2 hY2
  clear hC hY
  have hC:C2.G=G1:=hC2.trans hCC
  have hY:=hY2
  repeat' first|refine gwZ ?_|((first|refine gwR [28] ?_|refine gwD [28] ?_);intro Q hQ _;(repeat first|simp [hC,hY,P,hld]|refine zyx (by omega) (by simp [vb]) q0 q1 q2 ?_);refine gwq hQ ?_)|refine gwC ?_ ?_<;>intro hb
  refine ⟨λk=>k,hpL G1 (zkt cq p q (A0+a0) (A1+a1) (A2+a2)),λC0 h1 h2=>zp1 _ _ 1000 (h1.trans hCC) G1F (m0:=[]) (hasd C0 h2) (by omega) ?_ ?_ ?_ ?_ ?_,rfl⟩
  ·simp [zhf,zkt,dom,zbz,ren,zas,zan,zao,zap,zau,zaj,zal]
  ·simp [zkt,z59,zm4,vb,ib,eb,Blk.rn,zan,zao,zae,zaj,zal,dom]
   rfl
  ·simp [zkt]
  ·intro k hk;rfl
  ·simp
 ·refine .inr ⟨otV fm fs i (zf2 n i)[N],by rw [List.getElem?_map,List.getElem?_eq_getElem hN];rfl,?_⟩
  intro hq0 hI C1 lb hC1 hh1 hY1
  unfold z4d at hI
  subst hI
  have hmem:=List.getElem_mem hN
  have hk2:=(ze2.1 hmem).1
  clear hbef
  generalize (zf2 n i)[N]=k at *
  obtain ⟨_,_,hx3⟩:=zyl hrt hi hk2
  have P:=λK=>z9j (n:=p) (d:=q) ((zlz i k).trans hzN) ⟨(hx3 0 (by omega)).1,(hx3 0 (by omega)).2.1⟩ ⟨(hx3 1 (by omega)).1,(hx3 1 (by omega)).2.1⟩ ⟨(hx3 2 (by omega)).1,(hx3 2 (by omega)).2.1⟩ hp (zxm hok) (zkc hok hk2) K
  have hld:=z8u hq4
  generalize oS (kpF p q g fm fs i 0) ((zf2 n i).take N)=A0 at *
  generalize oS (kpF p q g fm fs i 1) ((zf2 n i).take N)=A1 at *
  generalize oS (kpF p q g fm fs i 2) ((zf2 n i).take N)=A2 at *
  have hCC:=hC
  have hC1':C1.G=G1:=hC1.trans hC
  unfold otV
  clear hC hY
  have hC:=hC1'
  have hY:=hY1
  unfold zkt vb ib eb ezB
  repeat' first|refine gwZ ?_|(refine gwX ?_;intro Q hQ _;simp [hC,hY,za3,zhf];refine gwq hQ ?_)|refine gwC ?_ ?_<;>intro hb
  intro C2 hC2 hh2 hY2
  clear hC hY
  have hC:C2.G=G1:=hC2.trans hCC
  have hY:=hY2
  repeat' first|refine gwZ ?_|(refine gwX ?_;intro Q hQ _;simp [hC,hY,P,hld];refine gwq hQ ?_)|refine gwC ?_ ?_<;>intro hb
  have hm16:=hout 232 (by omega) (by omega) (by omega) (by omega)
  have hm24:=hout 240 (by omega) (by omega) (by omega) (by omega)
  refine ⟨rfl,λt=>?_,λk hk=>?_,?_⟩
  ·rcases zf5 (l:=zhf) (t:=t) with h|h
   ·rw [h];simp [zbz,zap,zau,zaj,zal]
   ·simp only [zhf,List.mem_cons,List.not_mem_nil,or_false,Prod.mk.injEq] at h
    rcases h with ⟨_,h⟩|⟨_,h⟩|⟨_,h⟩|⟨_,h⟩|⟨_,h⟩<;>(unfold zhf;rw [h];simp [zap,zau,zaj,zal,dom])
  ·have h3:=hall k hk
   refine ⟨?_,by omega⟩
   simp (disch:=omega) only [zaa,zai,zat,if_neg,zaw]
   exact zhh k (by omega)
  ·refine ⟨rfl,_,0,zc1 _ 2000 hCC G1F hT.ok hT.fx hC0 (by omega) (?_:∀ p∈[(10,Value.pointer (some ⟨232,0,none⟩)),(11,Value.pointer (some ⟨240,0,none⟩))],_) (?_:∀ p∈[(232,vb A0 A1 A2),(240,eb 30)],_) ?_,?_⟩
   ·simp [zhf,zap,zau,zaj,zal,dom]
   ·have h32:(232∈zab L)=False:=eq_false λh=>by obtain ⟨p,hp,e⟩:=zah.1 h;have:=(hT.ok.big p hp).2;omega
    have h40:(240∈zab L)=False:=eq_false λh=>by obtain ⟨p,hp,e⟩:=zah.1 h;have:=(hT.ok.big p hp).2;omega
    simp [vb,eb,zb9,hm16,hm24,h32,h40,zae,zaj,zal,dom]
   ·intro p hp
    have hpb:=hT.ok.big p hp
    have hm9:p.1∈520::521::522::zab L:=List.mem_cons_of_mem _ (List.mem_cons_of_mem _ (List.mem_cons_of_mem _ (zah.2 ⟨p,hp,rfl⟩)))
    simp (disch:=omega) only [eIn hm9,zaa,zai,zat,if_neg,zaw]
    exact hT.mem p hp
   ·exact ⟨_,_,_,rfl⟩
end Go.Gy
namespace Go.Gy
open Go Go.RowKit Go.Proofs
theorem zdp {i n:Nat} (hi:i<n) (hn:n<=4):Int.bmod ((i:Int)+1) 18446744073709551616=((i+1:Nat):Int):=by
 rw [bm (by omega) (by omega)]
 rfl
end Go.Gy
namespace Go.Gy
open Go Go.RowKit Go.Proofs Go.Proofs.Tryz
def KkV (i:Nat) (F:Nat->Int) (sl:Value) (nl:List (Nat×Blk)):Prop:=(i=0/\sl=.slice none 0 0/\nl=[])\/∃ (c:Nat) (g:Nat->Int),0<i/\i<=c/\(∀ j,j<3*i->g j=F j)/\sl=.slice (some ⟨224,0,none⟩) i c/\nl=[(224,⟨fa (3*c) .i64 g,.ty 31⟩)]
def zbw (ka ks off n cap off2 cap2:Nat) (g bx tp nr md st:Int):List (Nat×Blk):=[(200,cfB (.slice (some ⟨ka,off,none⟩) n cap) g bx tp nr md),(208,zcu st ks off2 n cap2)]
def zhi (nk n:Nat) (F:Nat->Int) (v:Value) (ns:List (Nat×Blk)):Prop:=∃ (c:Nat) (g:Nat->Int),n<=c/\(∀ j,j<3*n->g j=F j)/\v=.tuple #[.slice (some ⟨nk,0,none⟩) n c,.int .i64 0]/\ns=[(nk,⟨fa (3*c) .i64 g,.ty 31⟩)]
theorem zc9 {nk n:Nat} {F:Nat->Int} {v:Value} {ns:List (Nat×Blk)} (h:zhi nk n F v ns):∀ k∈zab ns,k=nk:=λk hk=>by
 obtain ⟨c,g,h1,h2,rfl,rfl⟩:=h
 simpa [zab] using hk
theorem zyo {D:Nat->Prop} {n:Nat} {F:Nat->Int} (v:Value) (ns:List (Nat×Blk)) (h:zhi 1000 n F v ns):zap (zc7 D ns) v/\(∀ p∈ns,200<=p.1/\p.2.ids (zc7 D ns))/\(∀ k b c,(k,b)∈ns->(k,c)∈ns->b=c):=by
 obtain ⟨c,g,h1,h2,rfl,rfl⟩:=h
 refine ⟨by simp [zap,zau,zaj,zal,zc7,zab],?_,?_⟩
 ·simp only [List.mem_singleton,forall_eq]
  exact ⟨by omega,Blk.fx_ids (zba _ _ _) _⟩
 ·intro k b c h1 h2
  simp at h1 h2
  rw [h1.2,h2.2]
theorem zia {nk:Nat} {ρ:Nat->Nat} (h:ρ 1000=nk) (n:Nat) (F:Nat->Int):RR ρ (zhi 1000 n F)=zhi nk n F:=by
 funext v ns
 apply propext
 constructor
 ·rintro ⟨v0,ns0,⟨c,g,h1,h2,rfl,rfl⟩,rfl,rfl⟩
  exact ⟨c,g,h1,h2,by simp [ren,zas,zan,zao,h],by simp [rnL,zd3,h]⟩
 ·rintro ⟨c,g,h1,h2,rfl,rfl⟩
  exact ⟨_,_,⟨c,g,h1,h2,rfl,rfl⟩,by simp [ren,zas,zan,zao,h],by simp [rnL,zd3,h]⟩
theorem zjh (p q g:Int) (fm fs:Nat->Int) (n i:Nat) {u:Nat} (hu:u<3):kkF p q g fm fs n (3*i+u)=kS p q g fm fs n i u:=by
 unfold kkF
 rw [show (3*i+u) / 3=i by omega,show (3*i+u)%3=u by omega]
theorem zyp (L:List (Nat×Blk)) (ka ks:Nat) (bm bs:Blk) (hT:LKa L ka ks bm bs) (off n cap off2 N2 cap2:Nat) (fm fs:Nat->Int) (hm:MB bm off n fm) (hSb:SB bs off2 N2 fs) (g bx tp nr md st:Int) (hs:i64 st) (p q:Int) (hf:zjo n N2 (zd2 n fm g bx tp nr md) (zay st fs N2)=false) :
  Fun prog G1 11 #[cfV (.slice (some ⟨ka,off,none⟩) n cap) g bx tp nr md,.agg #[.int .i64 st,.slice (some ⟨ks,off2,none⟩) N2 cap2],.int .i64 p,.int .i64 q] (hpL G1 L) (zab L) (.ret (.tuple #[.slice none 0 0,.int .i64 2]) []):=by
 refine zbr (B:=200) G1F func11 rfl call11 hT.ok ?_ (zak (by simp)) (by simp) (by simp) (by simp [ntmps11]) (by omega) ?_
 ·simp [zap,zau,zaj,zal,hT.ia,hT.ib,cfV]
 intro C hC hC0 hY
 have hA:=hT.a
 have hS:=hT.s
 have hne:=hT.ne
 have hna:=hT.na
 have hLow:=hT.low
 have hks:=hT.k1
 have hks2:=hT.k2
 have hfit:=zdo L ka ks bm bs hT off n cap off2 N2 cap2 fm fs hm hSb g bx tp nr md st hs
 rw [hf] at hfit
 unfold cfV at hfit |-
 repeat' first|refine gwZ ?_|((first|refine gwR [19] ?_|refine gwD [19] ?_);intro Q hQ _;(repeat first|simp [hC,hY,hA,hS,hne,hna]|refine zar hfit hT.ok zby ?_);refine gwq hQ ?_)|refine gwC ?_ ?_<;>intro hb
 refine ⟨.inr rfl,by simp [results11],kpT G1F⟩
theorem zo2 (L:List (Nat×Blk)) (ka ks:Nat) (bm bs:Blk) (hT:LKa L ka ks bm bs) (off n cap off2 cap2:Nat) (fm fs:Nat->Int) (hm:MB bm off n fm) (hSb:SB bs off2 n fs) (g bx tp nr md st:Int) (hs:i64 st) (p q:Int) (hok:zd2 n fm g bx tp nr md=true) (hrt:zay st fs n=true) (hpt:zdi p q=false) :
  Fun prog G1 11 #[cfV (.slice (some ⟨ka,off,none⟩) n cap) g bx tp nr md,.agg #[.int .i64 st,.slice (some ⟨ks,off2,none⟩) n cap2],.int .i64 p,.int .i64 q] (hpL G1 L) (zab L) (.ret (.tuple #[.slice none 0 0,.int .i64 2]) []):=by
 refine zbr (B:=200) G1F func11 rfl call11 hT.ok ?_ (zak (by simp)) (by simp) (by simp) (by simp [ntmps11]) (by omega) ?_
 ·simp [zap,zau,zaj,zal,hT.ia,hT.ib,cfV]
 intro C hC hC0 hY
 have hA:=hT.a
 have hS:=hT.s
 have hne:=hT.ne
 have hna:=hT.na
 have hLow:=hT.low
 have hks:=hT.k1
 have hks2:=hT.k2
 have hfit:=zdo L ka ks bm bs hT off n cap off2 n cap2 fm fs hm hSb g bx tp nr md st hs
 have hf:zjo n n (zd2 n fm g bx tp nr md) (zay st fs n)=true:=zde.2 ⟨rfl,hok,hrt⟩
 have hone:=zyv L ka ks bm bs hT off n cap off2 n cap2 fm fs hm hSb g bx tp nr md st hs p q 0 hf (λh=>by rw [hpt] at h;exact absurd h.2 (by simp))
 rw [hf] at hfit
 have hn4:=(zcs hrt).2.1
 have n1:0<n:=hn4.1
 have n2:(0:Int)<n:=by omega
 unfold cfV at hfit hone |-
 repeat' first|refine zad ?_|refine zag ?_|refine gwZ ?_|((first|refine gwR [19,9] ?_|refine gwD [19,9] ?_);intro Q hQ _;(repeat first|simp [hC,hY,hA,hS,hne,hna,n1,n2]|refine zar hfit hT.ok zby ?_|refine zar hone hT.ok zby ?_);refine gwq hQ ?_)|refine gwC ?_ ?_<;>intro hb
 refine ⟨.inr rfl,by simp [results11],kpT G1F⟩
def kkO (L:List (Nat×Blk)) (ka ks off n cap off2 cap2:Nat) (g bx tp nr md st p q:Int) (i:Nat) (sl:Value) (nl:List (Nat×Blk)):GS :=
 ⟨tsL [(2,.int .i64 p),(3,.int .i64 q),(4,.pointer (some ⟨200,0,none⟩)),(5,.pointer (some ⟨208,0,none⟩)),(8,sl),(19,.int .i64 n),(20,.int .i64 i)],hpL G1 ((zbw ka ks off n cap off2 cap2 g bx tp nr md st++nl)++L),400,0⟩
def kkI (L:List (Nat×Blk)) (ka ks off n cap off2 cap2:Nat) (g bx tp nr md st p q:Int) (fm fs:Nat->Int) (m:Nat) (s:GS):Prop:=∃ i sl nl,i+m=n/\KkV i (kkF p q g fm fs n) sl nl/\(∀ b,b<i->kZ fs n b=false)/\s=kkO L ka ks off n cap off2 cap2 g bx tp nr md st p q i sl nl
theorem zyq (L:List (Nat×Blk)) (ka ks:Nat) (bm bs:Blk) (hT:LKa L ka ks bm bs) (off n cap off2 cap2:Nat) (fm fs:Nat->Int) (hm:MB bm off n fm) (hSb:SB bs off2 n fs) (g bx tp nr md st:Int) (hs:i64 st) (p q:Int) (hok:zd2 n fm g bx tp nr md=true) (hrt:zay st fs n=true) (hpt:zdi p q=true) (hany:zqx fs n=true) :
  Fun prog G1 11 #[cfV (.slice (some ⟨ka,off,none⟩) n cap) g bx tp nr md,.agg #[.int .i64 st,.slice (some ⟨ks,off2,none⟩) n cap2],.int .i64 p,.int .i64 q] (hpL G1 L) (zab L) (.ret (.tuple #[.slice none 0 0,.int .i64 30]) []):=by
 refine zbr (B:=200) G1F func11 rfl call11 hT.ok ?_ (zak (by simp)) (by simp) (by simp) (by simp [ntmps11]) (by omega) ?_
 ·simp [zap,zau,zaj,zal,hT.ia,hT.ib,cfV]
 intro C hC hC0 hY
 have hA:=hT.a
 have hS:=hT.s
 have hne:=hT.ne
 have hna:=hT.na
 have hLow:=hT.low
 have hks:=hT.k1
 have hks2:=hT.k2
 have hfit:=zdo L ka ks bm bs hT off n cap off2 n cap2 fm fs hm hSb g bx tp nr md st hs
 have hf:zjo n n (zd2 n fm g bx tp nr md) (zay st fs n)=true:=zde.2 ⟨rfl,hok,hrt⟩
 rw [hf] at hfit
 have hn4:=(zcs hrt).2.1
 unfold cfV at hfit |-
 repeat' first|refine gwZ ?_|((first|refine gwR [19] ?_|refine gwD [19] ?_);intro Q hQ _;(repeat first|simp [hC,hY,hA,hS,hne,hna]|refine zar hfit hT.ok zby ?_);refine gwq hQ ?_)|refine gwC ?_ ?_<;>intro hb
 refine zhw (kkI L ka ks off n cap off2 cap2 g bx tp nr md st p q fm fs) (m0:=n) (s0:=kkO L ka ks off n cap off2 cap2 g bx tp nr md st p q 0 (.slice none 0 0) []) ?_ ⟨0,_,_,by omega,.inl ⟨rfl,rfl,rfl⟩,λb hb9=>by omega,rfl⟩ ?_
 ·refine zc1 _ 400 hC G1F hT.ok hT.fx hC0 (by omega) ?_ ?_ zby
  ·simp [zbw,zap,zau,zaj,zal,dom,hA,hS,hne,hna]
  ·simp [zbw,cfB,zcu,zae,zaj,zal,dom,hA,hS,hne,hna]
 rintro m _ ⟨i,sl,nl,him,hV,hnz,rfl⟩
 by_cases hm0:m=0
 ·obtain rfl:i=n:=by omega
  exact absurd (zjg.2 hnz) (by rw [hany];simp)
 ·have hi:i<n:=by omega
  have hi4:i<4:=by omega
  have hi':(i:Int)<n:=by omega
  have hz9:(0:Int)<=i:=Int.natCast_nonneg i
  have hs':=zdp hi hn4.2
  by_cases hzi:kZ fs n i=true
  ·have hone:=zyw L ka ks bm bs hT off n cap off2  cap2 fm fs hm hSb g bx tp nr md st hs p q i hok hrt hpt i hi rfl hzi
   unfold cfV at hone
   rcases hV with ⟨h0,rfl,rfl⟩|⟨c,g0,h0,hc,hg0,rfl,rfl⟩<;>unfold kkO zbw cfB zcu
   all_goals
    repeat' first|refine gwZ ?_|((first|refine gwR [9] ?_|refine gwD [9] ?_);intro Q hQ _;(repeat first|simp [hC,hY,hA,hS,hne,hna,hi,hi',hz9]|refine zar hone hT.ok zby ?_);refine gwq hQ ?_)|refine gwC ?_ ?_<;>intro hb
   all_goals
    refine ⟨.inr rfl,by simp [results11],kpT G1F⟩
  replace hzi:kZ fs n i=false:=by simpa using hzi
  have hone:=zqy L ka ks bm bs hT off n cap off2  cap2 fm fs hm hSb g bx tp nr md st hs p q i hok hrt hpt i hi rfl hzi
  unfold cfV at hone
  have hend:i+1+(m - 1)=n:=by omega
  have hdec:m - 1<m:=by omega
  have hpos:0<i+1:=Nat.succ_pos _
  have hb20:(i+1)*(8*3)<=140737488355328:=by omega
  have hnz':∀ b,b<i+1->kZ fs n b=false:=λb hb9=>by
   by_cases e:b=i
   ·rw [e];exact hzi
   ·exact hnz b (by omega)
  rcases hV with ⟨h0,rfl,rfl⟩|⟨c,g0,h0,hc,hg0,rfl,rfl⟩
  ·subst h0
   unfold kkO zbw cfB zcu
   repeat' first|refine gwZ ?_|((first|refine gwR [9] ?_|refine gwD [9] ?_);intro Q hQ _;(repeat first|simp [hC,hY,hA,hS,hne,hna,hi,hi',hz9]|refine zar hone hT.ok zby ?_);refine gwq hQ ?_)|refine gwC ?_ ?_<;>intro hb
   refine za7 ?_
   simp only [Array.toList]
   refine gwl 3 ?_;intro Q hQ;simp [hC,hY,hA,hS,hne,hna];apply hQ
   simp only [wT,wM,Nat.reduceAdd]
   refine ze8 .i64 (m:=3) (i:=0) (j:=552) (by':=24) (z:=.agg #[.int .i64 0,.int .i64 0,.int .i64 0]) (T2:=.ty 31) (G:=kkF p q g fm fs n) (ev:=λu=>kkF p q g fm fs n (3*0+u)) rfl (by simp) rfl underlying35 (zaq sizeOf31) (by kernel_rfl) (by kernel_rfl) (by omega) (by simp [Value.cells]) (by simp [Value.cells]) (by omega) (by omega) (.inl ⟨rfl,by simp⟩) (by simp) (by simp [zxw,kkF]) (λu hu=>rfl) hb20 ?_
   rintro k1 c1 g1 hk1 hk11 hc1 hg1
   obtain rfl:k1=560:=by
    rcases hk1 with h9|⟨c,h9⟩
    ·exact h9
    ·simp at h9
   refine gwl 1 ?_;intro Q hQ;simp [hC,hY,zbl];apply hQ
   simp only [wT,wM,Nat.reduceAdd]
   refine zbh ?_
   repeat' first|refine gwZ ?_|(refine gwX ?_;intro Q hQ _;simp [hC,hY,hs'];refine gwq hQ ?_)|refine gwC ?_ ?_<;>intro hb
   refine ⟨λx=>if x=224 then 560 else x,kkO L ka ks off n cap off2 cap2 g bx tp nr md st p q (0+1) (.slice (some ⟨224,0,none⟩) (0+1) c1) [(224,⟨fa (3*c1) .i64 g1,.ty 31⟩)],m - 1,?_,⟨0+1,_,_,hend,.inr ⟨c1,g1,hpos,hc1,hg1,rfl,rfl⟩,hnz',rfl⟩,hdec⟩
   have hf1:=λD=>Blk.fx_ids (zba (3*c1) g1 31) D
   have hm1:=λρ=>zfo (zba (3*c1) g1 31) ρ
   refine zes (s:=GS.mk _ _ _ 0) _ _ 400 hC G1F hT.ok hT.fx hC0 (by decide) ?_ ?_ ?_ ?_ zby
   ·simp [zbw,dom,zbz,ren,zas,zan,zao,zap,zau,zaj,zal,hs',hA,hS,hne,hna]
   ·simp [zbw,cfB,zcu,Blk.rn,zan,zao,zae,zaj,zal,dom,hf1,hm1,hA,hS,hne,hna]
   ·simp [zbw]
   ·intro x hx;(try dsimp only);rw [if_neg (Nat.ne_of_lt (Nat.lt_trans hx (by decide)))]
  ·unfold kkO zbw cfB zcu
   repeat' first|refine gwZ ?_|((first|refine gwR [9] ?_|refine gwD [9] ?_);intro Q hQ _;(repeat first|simp [hC,hY,hA,hS,hne,hna,hi,hi',hz9]|refine zar hone hT.ok zby ?_);refine gwq hQ ?_)|refine gwC ?_ ?_<;>intro hb
   refine za7 ?_
   simp only [Array.toList]
   refine gwl 3 ?_;intro Q hQ;simp [hC,hY,hA,hS,hne,hna];apply hQ
   simp only [wT,wM,Nat.reduceAdd]
   refine ze8 .i64 (m:=3) (i:=i) (j:=552) (by':=24) (z:=.agg #[.int .i64 0,.int .i64 0,.int .i64 0]) (T2:=.ty 31) (G:=kkF p q g fm fs n) (ev:=λu=>kS p q g fm fs n i u) rfl (by simp) rfl underlying35 (zaq sizeOf31) (by kernel_rfl) (by kernel_rfl) (by omega) (by simp [Value.cells]) (by simp [Value.cells]) (by omega) (by omega) (.inr ⟨224,c,g0,by decide,by simp,by simp,hc,hg0⟩) (by simp) (by simp [zxw]) (λu hu=>(zjh p q g fm fs n i hu).symm) hb20 ?_
   rintro k1 c1 g1 hk1 hk11 hc1 hg1
   have hk1':k1=560\/k1=224:=by
    rcases hk1 with h9|⟨c,h9⟩
    ·exact .inl h9
    ·simp at h9;exact .inr h9.1.symm
   rcases hk1' with rfl|rfl
   ·
    refine gwl 1 ?_;intro Q hQ;simp [hC,hY,zbl];apply hQ
    simp only [wT,wM,Nat.reduceAdd]
    refine zbh ?_
    repeat' first|refine gwZ ?_|(refine gwX ?_;intro Q hQ _;simp [hC,hY,hs'];refine gwq hQ ?_)|refine gwC ?_ ?_<;>intro hb
    refine ⟨λx=>if x=224 then 560 else x,kkO L ka ks off n cap off2 cap2 g bx tp nr md st p q (i+1) (.slice (some ⟨224,0,none⟩) (i+1) c1) [(224,⟨fa (3*c1) .i64 g1,.ty 31⟩)],m - 1,?_,⟨i+1,_,_,hend,.inr ⟨c1,g1,hpos,hc1,hg1,rfl,rfl⟩,hnz',rfl⟩,hdec⟩
    have hf1:=λD=>Blk.fx_ids (zba (3*c1) g1 31) D
    have hm1:=λρ=>zfo (zba (3*c1) g1 31) ρ
    refine zes (s:=GS.mk _ _ _ 0) _ _ 400 hC G1F hT.ok hT.fx hC0 (by decide) ?_ ?_ ?_ ?_ zby
    ·simp [zbw,dom,zbz,ren,zas,zan,zao,zap,zau,zaj,zal,hs',hA,hS,hne,hna]
    ·simp [zbw,cfB,zcu,Blk.rn,zan,zao,zae,zaj,zal,dom,hf1,hm1,hA,hS,hne,hna]
    ·simp [zbw]
    ·intro x hx;(try dsimp only);rw [if_neg (Nat.ne_of_lt (Nat.lt_trans hx (by decide)))]
   ·
    refine gwl 1 ?_;intro Q hQ;simp [hC,hY,zbl];apply hQ
    simp only [wT,wM,Nat.reduceAdd]
    refine zbh ?_
    repeat' first|refine gwZ ?_|(refine gwX ?_;intro Q hQ _;simp [hC,hY,hs'];refine gwq hQ ?_)|refine gwC ?_ ?_<;>intro hb
    refine ⟨λx=>if x=224 then 224 else x,kkO L ka ks off n cap off2 cap2 g bx tp nr md st p q (i+1) (.slice (some ⟨224,0,none⟩) (i+1) c1) [(224,⟨fa (3*c1) .i64 g1,.ty 31⟩)],m - 1,?_,⟨i+1,_,_,hend,.inr ⟨c1,g1,hpos,hc1,hg1,rfl,rfl⟩,hnz',rfl⟩,hdec⟩
    have hf1:=λD=>Blk.fx_ids (zba (3*c1) g1 31) D
    have hm1:=λρ=>zfo (zba (3*c1) g1 31) ρ
    refine zes (s:=GS.mk _ _ _ 0) _ _ 400 hC G1F hT.ok hT.fx hC0 (by decide) ?_ ?_ ?_ ?_ zby
    ·simp [zbw,dom,zbz,ren,zas,zan,zao,zap,zau,zaj,zal,hs',hA,hS,hne,hna]
    ·simp [zbw,cfB,zcu,Blk.rn,zan,zao,zae,zaj,zal,dom,hf1,hm1,hA,hS,hne,hna]
    ·simp [zbw]
    ·intro x hx;(try dsimp only);rw [if_neg (Nat.ne_of_lt (Nat.lt_trans hx (by decide)))]
theorem zgr (L:List (Nat×Blk)) (ka ks:Nat) (bm bs:Blk) (hT:LKa L ka ks bm bs) (off n cap off2 cap2:Nat) (fm fs:Nat->Int) (hm:MB bm off n fm) (hSb:SB bs off2 n fs) (g bx tp nr md st:Int) (hs:i64 st) (p q:Int) (hok:zd2 n fm g bx tp nr md=true) (hrt:zay st fs n=true) (hpt:zdi p q=true) (hany:zqx fs n=false) :
  FunS prog G1 11 #[cfV (.slice (some ⟨ka,off,none⟩) n cap) g bx tp nr md,.agg #[.int .i64 st,.slice (some ⟨ks,off2,none⟩) n cap2],.int .i64 p,.int .i64 q] (hpL G1 L) (zab L) (zhi 1000 n (kkF p q g fm fs n)):=by
 refine zec (B:=200) G1F func11 rfl call11 hT.ok ?_ zyo (by simp [ntmps11]) (by omega) ?_
 ·simp [zap,zau,zaj,zal,hT.ia,hT.ib,cfV]
 intro C hC hC0 hY
 have hA:=hT.a
 have hS:=hT.s
 have hne:=hT.ne
 have hna:=hT.na
 have hLow:=hT.low
 have hks:=hT.k1
 have hks2:=hT.k2
 have hfit:=zdo L ka ks bm bs hT off n cap off2 n cap2 fm fs hm hSb g bx tp nr md st hs
 have hf:zjo n n (zd2 n fm g bx tp nr md) (zay st fs n)=true:=zde.2 ⟨rfl,hok,hrt⟩
 rw [hf] at hfit
 have hn4:=(zcs hrt).2.1
 unfold cfV at hfit |-
 repeat' first|refine gwZ ?_|((first|refine gwR [19] ?_|refine gwD [19] ?_);intro Q hQ _;(repeat first|simp [hC,hY,hA,hS,hne,hna]|refine zar hfit hT.ok zby ?_);refine gwq hQ ?_)|refine gwC ?_ ?_<;>intro hb
 refine zhw (kkI L ka ks off n cap off2 cap2 g bx tp nr md st p q fm fs) (m0:=n) (s0:=kkO L ka ks off n cap off2 cap2 g bx tp nr md st p q 0 (.slice none 0 0) []) ?_ ⟨0,_,_,by omega,.inl ⟨rfl,rfl,rfl⟩,λb hb9=>by omega,rfl⟩ ?_
 ·refine zc1 _ 400 hC G1F hT.ok hT.fx hC0 (by omega) ?_ ?_ zby
  ·simp [zbw,zap,zau,zaj,zal,dom,hA,hS,hne,hna]
  ·simp [zbw,cfB,zcu,zae,zaj,zal,dom,hA,hS,hne,hna]
 rintro m _ ⟨i,sl,nl,him,hV,hnz,rfl⟩
 by_cases hm0:m=0
 ·obtain rfl:i=n:=by omega
  rcases hV with ⟨h0,rfl,rfl⟩|⟨c,g0,h0,hc,hg0,rfl,rfl⟩
  ·omega
  ·unfold kkO zbw cfB zcu
   repeat' first|refine gwZ ?_|refine gwV ?_|refine gwC ?_ ?_<;>intro hb
   refine ⟨.inr trivial,kpT G1F,_,_,λk=>if k=1000 then 224 else k,⟨c,g0,hc,hg0,rfl,rfl⟩,λk hk=>if_neg (by omega),by simp,by simp,by simp [results11,ren,zas,zan,zao],?_⟩
   simp [zd3]
 ·have hi:i<n:=by omega
  have hi4:i<4:=by omega
  have hi':(i:Int)<n:=by omega
  have hz9:(0:Int)<=i:=Int.natCast_nonneg i
  have hs':=zdp hi hn4.2
  have hzi:=zjg.1 hany i hi
  have hone:=zqy L ka ks bm bs hT off n cap off2  cap2 fm fs hm hSb g bx tp nr md st hs p q i hok hrt hpt i hi rfl hzi
  unfold cfV at hone
  have hend:i+1+(m - 1)=n:=by omega
  have hdec:m - 1<m:=by omega
  have hpos:0<i+1:=Nat.succ_pos _
  have hb20:(i+1)*(8*3)<=140737488355328:=by omega
  have hnz':∀ b,b<i+1->kZ fs n b=false:=λb hb9=>by
   by_cases e:b=i
   ·rw [e];exact hzi
   ·exact hnz b (by omega)
  rcases hV with ⟨h0,rfl,rfl⟩|⟨c,g0,h0,hc,hg0,rfl,rfl⟩
  ·subst h0
   unfold kkO zbw cfB zcu
   repeat' first|refine gwZ ?_|((first|refine gwR [9] ?_|refine gwD [9] ?_);intro Q hQ _;(repeat first|simp [hC,hY,hA,hS,hne,hna,hi,hi',hz9]|refine zar hone hT.ok zby ?_);refine gwq hQ ?_)|refine gwC ?_ ?_<;>intro hb
   refine za7 ?_
   simp only [Array.toList]
   refine gwl 3 ?_;intro Q hQ;simp [hC,hY,hA,hS,hne,hna];apply hQ
   simp only [wT,wM,Nat.reduceAdd]
   refine ze8 .i64 (m:=3) (i:=0) (j:=552) (by':=24) (z:=.agg #[.int .i64 0,.int .i64 0,.int .i64 0]) (T2:=.ty 31) (G:=kkF p q g fm fs n) (ev:=λu=>kkF p q g fm fs n (3*0+u)) rfl (by simp) rfl underlying35 (zaq sizeOf31) (by kernel_rfl) (by kernel_rfl) (by omega) (by simp [Value.cells]) (by simp [Value.cells]) (by omega) (by omega) (.inl ⟨rfl,by simp⟩) (by simp) (by simp [zxw,kkF]) (λu hu=>rfl) hb20 ?_
   rintro k1 c1 g1 hk1 hk11 hc1 hg1
   obtain rfl:k1=560:=by
    rcases hk1 with h9|⟨c,h9⟩
    ·exact h9
    ·simp at h9
   refine gwl 1 ?_;intro Q hQ;simp [hC,hY,zbl];apply hQ
   simp only [wT,wM,Nat.reduceAdd]
   refine zbh ?_
   repeat' first|refine gwZ ?_|(refine gwX ?_;intro Q hQ _;simp [hC,hY,hs'];refine gwq hQ ?_)|refine gwC ?_ ?_<;>intro hb
   refine ⟨λx=>if x=224 then 560 else x,kkO L ka ks off n cap off2 cap2 g bx tp nr md st p q (0+1) (.slice (some ⟨224,0,none⟩) (0+1) c1) [(224,⟨fa (3*c1) .i64 g1,.ty 31⟩)],m - 1,?_,⟨0+1,_,_,hend,.inr ⟨c1,g1,hpos,hc1,hg1,rfl,rfl⟩,hnz',rfl⟩,hdec⟩
   have hf1:=λD=>Blk.fx_ids (zba (3*c1) g1 31) D
   have hm1:=λρ=>zfo (zba (3*c1) g1 31) ρ
   refine zes (s:=GS.mk _ _ _ 0) _ _ 400 hC G1F hT.ok hT.fx hC0 (by decide) ?_ ?_ ?_ ?_ zby
   ·simp [zbw,dom,zbz,ren,zas,zan,zao,zap,zau,zaj,zal,hs',hA,hS,hne,hna]
   ·simp [zbw,cfB,zcu,Blk.rn,zan,zao,zae,zaj,zal,dom,hf1,hm1,hA,hS,hne,hna]
   ·simp [zbw]
   ·intro x hx;(try dsimp only);rw [if_neg (Nat.ne_of_lt (Nat.lt_trans hx (by decide)))]
  ·unfold kkO zbw cfB zcu
   repeat' first|refine gwZ ?_|((first|refine gwR [9] ?_|refine gwD [9] ?_);intro Q hQ _;(repeat first|simp [hC,hY,hA,hS,hne,hna,hi,hi',hz9]|refine zar hone hT.ok zby ?_);refine gwq hQ ?_)|refine gwC ?_ ?_<;>intro hb
   refine za7 ?_
   simp only [Array.toList]
   refine gwl 3 ?_;intro Q hQ;simp [hC,hY,hA,hS,hne,hna];apply hQ
   simp only [wT,wM,Nat.reduceAdd]
   refine ze8 .i64 (m:=3) (i:=i) (j:=552) (by':=24) (z:=.agg #[.int .i64 0,.int .i64 0,.int .i64 0]) (T2:=.ty 31) (G:=kkF p q g fm fs n) (ev:=λu=>kS p q g fm fs n i u) rfl (by simp) rfl underlying35 (zaq sizeOf31) (by kernel_rfl) (by kernel_rfl) (by omega) (by simp [Value.cells]) (by simp [Value.cells]) (by omega) (by omega) (.inr ⟨224,c,g0,by decide,by simp,by simp,hc,hg0⟩) (by simp) (by simp [zxw]) (λu hu=>(zjh p q g fm fs n i hu).symm) hb20 ?_
   rintro k1 c1 g1 hk1 hk11 hc1 hg1
   have hk1':k1=560\/k1=224:=by
    rcases hk1 with h9|⟨c,h9⟩
    ·exact .inl h9
    ·simp at h9;exact .inr h9.1.symm
   rcases hk1' with rfl|rfl
   ·
    refine gwl 1 ?_;intro Q hQ;simp [hC,hY,zbl];apply hQ
    simp only [wT,wM,Nat.reduceAdd]
    refine zbh ?_
    repeat' first|refine gwZ ?_|(refine gwX ?_;intro Q hQ _;simp [hC,hY,hs'];refine gwq hQ ?_)|refine gwC ?_ ?_<;>intro hb
    refine ⟨λx=>if x=224 then 560 else x,kkO L ka ks off n cap off2 cap2 g bx tp nr md st p q (i+1) (.slice (some ⟨224,0,none⟩) (i+1) c1) [(224,⟨fa (3*c1) .i64 g1,.ty 31⟩)],m - 1,?_,⟨i+1,_,_,hend,.inr ⟨c1,g1,hpos,hc1,hg1,rfl,rfl⟩,hnz',rfl⟩,hdec⟩
    have hf1:=λD=>Blk.fx_ids (zba (3*c1) g1 31) D
    have hm1:=λρ=>zfo (zba (3*c1) g1 31) ρ
    refine zes (s:=GS.mk _ _ _ 0) _ _ 400 hC G1F hT.ok hT.fx hC0 (by decide) ?_ ?_ ?_ ?_ zby
    ·simp [zbw,dom,zbz,ren,zas,zan,zao,zap,zau,zaj,zal,hs',hA,hS,hne,hna]
    ·simp [zbw,cfB,zcu,Blk.rn,zan,zao,zae,zaj,zal,dom,hf1,hm1,hA,hS,hne,hna]
    ·simp [zbw]
    ·intro x hx;(try dsimp only);rw [if_neg (Nat.ne_of_lt (Nat.lt_trans hx (by decide)))]
   ·
    refine gwl 1 ?_;intro Q hQ;simp [hC,hY,zbl];apply hQ
    simp only [wT,wM,Nat.reduceAdd]
    refine zbh ?_
    repeat' first|refine gwZ ?_|(refine gwX ?_;intro Q hQ _;simp [hC,hY,hs'];refine gwq hQ ?_)|refine gwC ?_ ?_<;>intro hb
    refine ⟨λx=>if x=224 then 224 else x,kkO L ka ks off n cap off2 cap2 g bx tp nr md st p q (i+1) (.slice (some ⟨224,0,none⟩) (i+1) c1) [(224,⟨fa (3*c1) .i64 g1,.ty 31⟩)],m - 1,?_,⟨i+1,_,_,hend,.inr ⟨c1,g1,hpos,hc1,hg1,rfl,rfl⟩,hnz',rfl⟩,hdec⟩
    have hf1:=λD=>Blk.fx_ids (zba (3*c1) g1 31) D
    have hm1:=λρ=>zfo (zba (3*c1) g1 31) ρ
    refine zes (s:=GS.mk _ _ _ 0) _ _ 400 hC G1F hT.ok hT.fx hC0 (by decide) ?_ ?_ ?_ ?_ zby
    ·simp [zbw,dom,zbz,ren,zas,zan,zao,zap,zau,zaj,zal,hs',hA,hS,hne,hna]
    ·simp [zbw,cfB,zcu,Blk.rn,zan,zao,zae,zaj,zal,dom,hf1,hm1,hA,hS,hne,hna]
    ·simp [zbw]
    ·intro x hx;(try dsimp only);rw [if_neg (Nat.ne_of_lt (Nat.lt_trans hx (by decide)))]
theorem zfi {n M:Nat} {g F:Nat->Int} (hM:6*n<=M) (hg:∀ j,j<6*n->g j=F j) (hF:∀ j,j<6*n->i64 (F j)) (hn:n<=2932031007402):SB ⟨fa M .i64 g,.ty 45⟩ 0 n F :=
 ⟨λj hj=>by rw [<-hg j hj];exact ztm M g _ j (by omega),zba _ _ _,hF,hn⟩
def zeu (f G:Nat->Int) (i:Nat) (j:Nat):Int:=if j<6*i/\3<=j%6 then f j+G (3*(j / 6)+(j%6 - 3)) else f j
theorem zsi (f G:Nat->Int):zeu f G 0=f:=by
 funext j
 unfold zeu
 rw [if_neg (by omega)]
theorem zeo (f G:Nat->Int) (i:Nat) {u:Nat} (hu:u<3):zeu f G i (6*i+3+u)=f (6*i+3+u):=by
 unfold zeu
 rw [if_neg (by omega)]
theorem zxb (f G:Nat->Int) (i:Nat):z5x (zeu f G i) (6*i+3) (G (3*i)) (G (3*i+1)) (G (3*i+2))=zeu f G (i+1):=by
 funext j
 have a0:zeu f G i (6*i+3)=f (6*i+3):=zeo f G i (u:=0) (by omega)
 have a1:zeu f G i (6*i+3+1)=f (6*i+3+1):=zeo f G i (by omega)
 have a2:zeu f G i (6*i+3+2)=f (6*i+3+2):=zeo f G i (by omega)
 unfold z5x zwl
 rw [a0,a1,a2]
 by_cases h0:j=6*i+3
 ·subst h0
  unfold zeu
  rw [if_pos rfl,if_pos (by omega),show 3*((6*i+3) / 6)+((6*i+3)%6 - 3)=3*i by omega]
 ·rw [if_neg h0]
  by_cases h1:j=6*i+3+1
  ·subst h1
   unfold zeu
   rw [if_pos rfl,if_pos (by omega),show 3*((6*i+3+1) / 6)+((6*i+3+1)%6 - 3)=3*i+1 by omega]
  ·rw [if_neg h1]
   by_cases h2:j=6*i+3+2
   ·subst h2
    unfold zeu
    rw [if_pos rfl,if_pos (by omega),show 3*((6*i+3+2) / 6)+((6*i+3+2)%6 - 3)=3*i+2 by omega]
   ·rw [if_neg h2]
    unfold zeu
    by_cases c:j<6*i/\3<=j%6
    ·rw [if_pos c,if_pos (by omega)]
    ·rw [if_neg c,if_neg (by omega)]
theorem zgs {c n:Nat} {g:Nat->Int} (hc:n<=c) {i:Nat} (hi:i<n):zds prog 31 ⟨fa (3*c) .i64 g,.ty 31⟩ (i*3)=some (.agg #[.int .i64 (g (3*i)),.int .i64 (g (3*i+1)),.int .i64 (g (3*i+2))]):=by
 have:=zj0 (P:=prog) (T:=31) (m:=3) (j:=3*i) (zbv isAgg31) (zaq sizeOf31) (by omega) (ztm (3*c) g (.ty 31)) (by omega)
 rw [show i*3=0+3*i by omega,this,zxw]
 rfl
def kpM (n c c2 M:Nat) (st:Int) (g f:Nat->Int):List (Nat×Blk):=[(100,⟨#[.slice (some ⟨102,0,none⟩) n c],.ty 35⟩),(101,zcu st 103 0 n c2),(102,⟨fa (3*c) .i64 g,.ty 31⟩),(103,⟨fa M .i64 f,.ty 45⟩)]
theorem z6l (n c c2 M:Nat) (st:Int) (g f:Nat->Int):LOk (kpM n c c2 M st g f) 200:=⟨by simp [kpM],by simp [kpM,zab],by
 simp only [kpM,List.mem_cons,List.not_mem_nil,or_false,forall_eq_or_imp,forall_eq]
 exact ⟨by simp [zae,zaj,zal,zab],by simp [zcu,zae,zaj,zal,zab],Blk.fx_ids (zba _ _ _) _,Blk.fx_ids (zba _ _ _) _⟩⟩
def jlf (n c c2 M:Nat) (st:Int) (g f:Nat->Int) (i:Nat):GS :=
 ⟨tsL [(0,.pointer (some ⟨100,0,none⟩)),(1,.pointer (some ⟨101,0,none⟩)),(5,.slice (some ⟨102,0,none⟩) n c),(6,.int .i64 n),(7,.int .i64 i)],hpL G1 (kpM n c c2 M st g (zeu f g i)),400,0⟩
theorem z3p (n c c2 M:Nat) (st:Int) (hs:i64 st) (g f F:Nat->Int) (hn:1<=n/\n<=4) (hc:n<=c) (hc2:n<=c2) (hM:6*n<=M) (hb1:∀ j,j<6*n->-1048576<=f j/\f j<=1048576) (hb2:∀ j,j<3*n->-18014398509481984<=g j/\g j<=18014398509481984) (hF:∀ j,j<6*n->zeu f g n j=F j) :
  Fun prog G1 32 #[.pointer (some ⟨100,0,none⟩),.pointer (some ⟨101,0,none⟩)] (hpL G1 (kpM n c c2 M st g f)) (zab (kpM n c c2 M st g f)) (.ret (.bool (zay st F n)) [(103,⟨fa M .i64 (zeu f g n),.ty 45⟩)]):=by
 refine za5 (B:=200) G1F func32 rfl call32 (z6l n c c2 M st g f) ?_ (zak (by simp)) ?_ (λk b c h1 h2=>by simp at h1 h2;rw [h1.2,h2.2]) (by simp [ntmps32]) (by omega) ?_
 ·simp [zap,zau,zaj,zal,zab,kpM]
 ·intro p hp
  simp at hp
  subst hp
  exact ⟨by simp [zab,kpM],Blk.fx_ids (zba _ _ _) _⟩
 intro C hC hC0 hY
 have hid:=λc g D=>Blk.fx_ids (zba (3*c) g 31) D
 have hid2:=λf D=>Blk.fx_ids (zba M f 45) D
 have hrn2:=λf ρ=>Blk.fx_rn (zba M f 45) ρ
 unfold kpM zcu at hC0 |-
 repeat' first|refine gwZ ?_|refine gwW ?_|refine gwC ?_ ?_<;>intro hb
 refine zb3 n (jlf n c c2 M st g f) ?_ ?_ ?_
 ·refine zbc _ 400 hC G1F (m0:=[(100,_),(101,_),(102,_),(103,_)]) hC0 (by omega) ?_ ?_ ?_
  ·simp [zap,zau,zaj,zal,dom,kpM]
  ·simp [zae,zaj,zal,hid,hid2,kpM,zcu,zsi,dom]
  ·simp [kpM,zcu,zsi]
 ·intro i hi
  have hi':(i:Int)<n:=by omega
  have hi2:i<c2:=by omega
  have hi3:(i:Int)<c2:=by omega
  have hz:(0:Int)<=i:=by omega
  have hs:=zdp hi hn.2
  have hld:=zgs (g:=g) hc hi
  have e0:=zeo f g i (u:=0) (by omega)
  have e1:=zeo f g i (u:=1) (by omega)
  have e2:=zeo f g i (u:=2) (by omega)
  simp only [Nat.add_zero] at e0
  have b0:=hb1 (6*i+3) (by omega)
  have b1:=hb1 (6*i+3+1) (by omega)
  have b2:=hb1 (6*i+3+2) (by omega)
  have d0:=hb2 (3*i) (by omega)
  have d1:=hb2 (3*i+1) (by omega)
  have d2:=hb2 (3*i+2) (by omega)
  have q0:Int.bmod (zeu f g i (6*i+3)+g (3*i)) 18446744073709551616=zeu f g i (6*i+3)+g (3*i):=by rw [e0];exact Go.Gy.bm (by omega) (by omega)
  have q1:Int.bmod (zeu f g i (6*i+3+1)+g (3*i+1)) 18446744073709551616=zeu f g i (6*i+3+1)+g (3*i+1):=by rw [e1];exact Go.Gy.bm (by omega) (by omega)
  have q2:Int.bmod (zeu f g i (6*i+3+2)+g (3*i+2)) 18446744073709551616=zeu f g i (6*i+3+2)+g (3*i+2):=by rw [e2];exact Go.Gy.bm (by omega) (by omega)
  have hs3:=zxb f g i
  have ho:i*6+3=6*i+3:=by omega
  have hM3:6*i+3+3<=M:=by omega
  unfold jlf kpM zcu
  repeat' first|refine gwZ ?_|((first|refine gwR [28] ?_|refine gwD [28] ?_);intro Q hQ _;(repeat first|simp [hC,hY,hi,hi',hi2,hi3,hz,hs,hld]|(rw [ho];refine z9i (M:=M) (f:=zeu f g i) (T:=45) (by omega) (by simp) hM3 q0 q1 q2 ?_));refine gwq hQ ?_)|refine gwC ?_ ?_<;>intro hb
  refine zbc _ 400 hC G1F (m0:=[(100,_),(101,_),(102,_),(103,_)]) hC0 (by omega) ?_ ?_ ?_
  ·simp [zap,zau,zaj,zal,dom,hs]
  ·simp [zae,zaj,zal,hid,hid2,dom,hs3]
  ·simp [hs3]
 ·have hri:=(z0f ⟨fa M .i64 (zeu f g n),.ty 45⟩ 0 n c2 F (zfi hM hF (λj hj=>by
   rw [<-hF j hj]
   have b0:=hb1 j hj
   unfold zeu
   split
   ·have d0:=hb2 (3*(j / 6)+(j%6 - 3)) (by omega)
    exact ⟨by omega,by omega⟩
   ·exact ⟨by omega,by omega⟩) (by omega)) st hs).up1 (zam (zba _ _ _))
  unfold jlf kpM zcu
  repeat' first|refine gwZ ?_|((first|refine gwR [33] ?_|refine gwD [33] ?_);intro Q hQ _;(repeat first|simp [hC,hY]|refine zac hri G1F (B:=200) (zam (zba _ _ _)) (λk=>if k=100 then 103 else k) (λk hk=>if_neg (by omega)) (by simp [ren,zas,zan,zao]) (by simp) (by simp [hrn2]) (by simp [zab]) (by simp [zab];rfl) ?_);refine gwq hQ ?_)|refine gwC ?_ ?_<;>intro hb
  refine ⟨.inr rfl,by simp [results32],λk hk=>?_⟩
  by_cases e6:k=103
  ·subst e6;simp [zaw]
  ·simp [zaw,e6]
theorem z6m {n c c2 M w0 w1 w2 w3:Nat} {st:Int} {g f F:Nat->Int} {hp:Hp} {nk:Nat} {K:Eff->Prop} (hs:i64 st) (hn:1<=n/\n<=4) (hc:n<=c) (hc2:n<=c2) (hM:6*n<=M) (hb1:∀ j,j<6*n->-1048576<=f j/\f j<=1048576) (hb2:∀ j,j<3*n->-18014398509481984<=g j/\g j<=18014398509481984) (hF:∀ j,j<6*n->zeu f g n j=F j)
  (hw:104<=w0/\104<=w1/\104<=w2/\104<=w3) (hd:w0≠w1/\w0≠w2/\w0≠w3/\w1≠w2/\w1≠w3/\w2≠w3)
  (h0:hp w0=some ⟨#[.slice (some ⟨w2,0,none⟩) n c],.ty 35⟩) (h1:hp w1=some (zcu st w3 0 n c2)) (h2:hp w2=some ⟨fa (3*c) .i64 g,.ty 31⟩) (h3:hp w3=some ⟨fa M .i64 f,.ty 45⟩)
  (hK:K ((Res.ret (.bool (zay st F n)) [(w3,⟨fa M .i64 (zeu f g n),.ty 45⟩)]).eff [w0,w1,w2,w3])):zgn prog G1 32 #[.pointer (some ⟨w0,0,none⟩),.pointer (some ⟨w1,0,none⟩)] hp nk K:=by
 refine zh5 (z3p n c c2 M st hs g f F hn hc hc2 hM hb1 hb2 hF) G1F (B:=200) (z6l n c c2 M st g f) (λk=>if k=100 then w0 else if k=101 then w1 else if k=102 then w2 else if k=103 then w3 else k) (λk hk=>?_) ?_ ?_ ?_ ?_
 ·rw [if_neg (by omega),if_neg (by omega),if_neg (by omega),if_neg (by omega)]
 ·simp [ren,zas,zan,zao]
 ·intro p hp1
  simp only [kpM,List.mem_cons,List.not_mem_nil,or_false] at hp1
  rcases hp1 with rfl|rfl|rfl|rfl
  ·refine ⟨by simp;omega,?_⟩
   simp [Blk.rn,zan,zao]
   exact h0
  ·refine ⟨by simp;omega,?_⟩
   simp [zcu,Blk.rn,zan,zao]
   exact h1
  ·refine ⟨by simp;omega,?_⟩
   rw [zd3]
   exact h2
  ·refine ⟨by simp;omega,?_⟩
   rw [zd3]
   exact h3
 ·intro k hk l hl
  simp only [kpM,zab,List.map_cons,List.map_nil,List.mem_cons,List.not_mem_nil,or_false] at hk hl
  rcases hk with rfl|rfl|rfl|rfl<;>rcases hl with rfl|rfl|rfl|rfl<;>simp<;>omega
 ·simpa [ren,zas,zan,zao,rnL,zab,kpM,zd3] using hK
def zn9 (nk:Nat) (st:Int) (n:Nat) (f:Nat->Int) (e:Int) (v:Value) (ns:List (Nat×Blk)):Prop:=∃ w,zwh nk st n f w ns/\v=.tuple #[w,.int .i64 e]
theorem zcf {nk:Nat} {st:Int} {n:Nat} {f:Nat->Int} {e:Int} {v:Value} {ns:List (Nat×Blk)} (h:zn9 nk st n f e v ns):∀ k∈zab ns,k=nk:=by
 obtain ⟨w,h,rfl⟩:=h
 exact zcm h
theorem zee {D:Nat->Prop} {st:Int} {n:Nat} {f:Nat->Int} {e:Int} (v:Value) (ns:List (Nat×Blk)) (h:zn9 1000 st n f e v ns):zap (zc7 D ns) v/\(∀ p∈ns,200<=p.1/\p.2.ids (zc7 D ns))/\(∀ k b c,(k,b)∈ns->(k,c)∈ns->b=c):=by
 obtain ⟨w,⟨c,M,g,h1,h2,h3,rfl,rfl⟩,rfl⟩:=h
 refine ⟨by simp [zap,zau,zaj,zal,zc7,zab],?_,?_⟩
 ·simp only [List.mem_singleton,forall_eq]
  exact ⟨by omega,Blk.fx_ids (zba _ _ _) _⟩
 ·intro k b c h1 h2
  simp at h1 h2
  rw [h1.2,h2.2]
theorem zf3 {nk:Nat} {ρ:Nat->Nat} (h:ρ 1000=nk) (st:Int) (n:Nat) (f:Nat->Int) (e:Int):RR ρ (zn9 1000 st n f e)=zn9 nk st n f e:=by
 funext v ns
 apply propext
 constructor
 ·rintro ⟨v0,ns0,⟨w,⟨c,M,g,h1,h2,h3,rfl,rfl⟩,rfl⟩,rfl,rfl⟩
  exact ⟨_,⟨c,M,g,h1,h2,h3,rfl,by simp [rnL,zd3,h]⟩,by simp [ren,zas,zan,zao,h]⟩
 ·rintro ⟨w,⟨c,M,g,h1,h2,h3,rfl,rfl⟩,rfl⟩
  exact ⟨_,_,⟨_,⟨c,M,g,h1,h2,h3,rfl,rfl⟩,rfl⟩,by simp [ren,zas,zan,zao,h],by simp [rnL,zd3,h]⟩
def r1n (nk k:Nat):Nat:=if k=1000 then nk else k
theorem FunS.nmL {fn:FuncId} {args:Array Value} {L:List (Nat×Blk)} {R R':Value->List (Nat×Blk)->Prop} (h:FunS prog G1 fn args (hpL G1 L) (zab L) R) (hL:LOk L 200) (hfx:∀ p∈L,p.2.fx) (nk:Nat) (hnk:200<=nk) (hR:∀ v ns,R v ns->∀ k∈zab ns,k=1000) (ea:args.map (ren (r1n nk))=args) (eR:RR (r1n nk) R=R') :
  FunS prog G1 fn args (hpL G1 L) (zab L) R':=by
 have hlow:∀ k,k<1000->r1n nk k=k:=λk hk=>if_neg (by omega)
 have hid:∀ k∈zab L,r1n nk k=k:=λk hk=>by
  obtain ⟨p,hp,rfl⟩:=zah.1 hk
  have:=hL.big p hp
  exact hlow _ (by omega)
 have h10:r1n nk 1000=nk:=if_pos rfl
 refine h.mvL (hp':=hpL G1 L) (rs':=zab L) G1F hL (r1n nk) (λk hk=>hlow k (by omega)) ea ?_ eR hL.low ?_ ?_ (λv ns hV k hk=>?_) (λv ns hV k hk l hl e=>by rw [hR v ns hV k hk,hR v ns hV l hl])
 ·rw [List.map_congr_left hid];simp
 ·intro p hp
  have hb:=hL.big p hp
  rw [hlow p.1 (by omega),Blk.fx_rn (hfx p hp)]
  exact ⟨hb.1,LOk.at hL.one p hp⟩
 ·intro k hk l hl e
  rw [hid k hk,hid l hl] at e
  exact e
 ·rw [hR v ns hV k hk,h10]
  refine ⟨by omega,λh=>?_⟩
  obtain ⟨p,hp,e⟩:=zah.1 h
  have:=hL.big p hp
  omega
theorem zpe (a nk:Nat) (ha:100<=a) (hk:100<=nk) (hne:a≠nk) (b:Blk) (off n cap:Nat) (f:Nat->Int) (h:SB b off n f) (hcap:n<=cap) (st:Int) :
  FunS prog G1 31 #[.agg #[.int .i64 st,.slice (some ⟨a,off,none⟩) n cap]] (hpL G1 [(a,b)]) [a] (zwh nk st n f) :=
 FunS.up1 (m:=[(a,b)]) (B:=a+1) ((jac b off n cap f h hcap st).own2 h.fx a nk ha hk hne (λv ns=>zcm) (by simp [ren,zas,zan,zao,z4q]) (zng jan st n f)) ⟨by simp [ha],by simp [zab],by simpa using Blk.fx_ids h.fx _⟩
theorem zfp (a nk:Nat) (ha:100<=a) (hk:100<=nk) (hne:a≠nk) (b:Blk) (off n cap:Nat) (f:Nat->Int) (h:SB b off n f) (hcap:n<=cap) (st:Int) :
  FunS prog G1 22 #[.agg #[.int .i64 st,.slice (some ⟨a,off,none⟩) n cap]] (hpL G1 [(a,b)]) [a] (zwh nk st n f) :=
 FunS.up1 (m:=[(a,b)]) (B:=a+1) (z4h a nk ha hk hne b off n cap f h hcap st) ⟨by simp [ha],by simp [zab],by simpa using Blk.fx_ids h.fx _⟩
theorem z3n (L:List (Nat×Blk)) (ka ks:Nat) (bm bs:Blk) (hT:LKa L ka ks bm bs) (off n cap off2 N2 cap2:Nat) (fm fs:Nat->Int) (hm:MB bm off n fm) (hSb:SB bs off2 N2 fs) (hcap2:N2<=cap2) (g bx tp nr md st:Int) (hs:i64 st) (p q e:Int) (he:¬e=0) (hk:Fun prog G1 11 #[cfV (.slice (some ⟨ka,off,none⟩) n cap) g bx tp nr md,.agg #[.int .i64 st,.slice (some ⟨ks,off2,none⟩) N2 cap2],.int .i64 p,.int .i64 q] (hpL G1 L) (zab L) (.ret (.tuple #[.slice none 0 0,.int .i64 e]) [])) :
  FunS prog G1 14 #[cfV (.slice (some ⟨ka,off,none⟩) n cap) g bx tp nr md,.agg #[.int .i64 st,.slice (some ⟨ks,off2,none⟩) N2 cap2],.int .i64 p,.int .i64 q] (hpL G1 L) (zab L) (zn9 1000 st N2 fs e):=by
 refine zec (B:=200) G1F func14 rfl call14 hT.ok ?_ zee (by simp [ntmps14]) (by omega) ?_
 ·simp [zap,zau,zaj,zal,hT.ia,hT.ib,cfV]
 intro C hC hC0 hY
 have hA:=hT.a
 have hS:=hT.s
 have hne:=hT.ne
 have hna:=hT.na
 have hLow:=hT.low
 have hks:=hT.k1
 have hks2:=hT.k2
 have heb:(e != 0)=true:=by simpa using he
 unfold cfV at hk |-
 repeat' first|refine gwZ ?_|((first|refine gwR [11] ?_|refine gwD [11] ?_);intro Q hQ _;(repeat first|simp [hC,hY,hA,hS,hne,hna]|refine zar hk hT.ok zby ?_);refine gwq hQ ?_)|refine gwC ?_ ?_<;>intro hb
 have dO328:=zpe ks 328 (by omega) (by omega) (by omega) bs off2 N2 cap2 fs hSb hcap2 st
 refine za7 ?_
 simp only [Array.toList]
 refine gwl 1 ?_;intro Q hQ;simp [hC,hY,hA,hS,hne,hna];apply hQ
 simp only [wT,wM,Nat.reduceAdd]
 refine zbd (f:=.func 31) (cap:=#[]) hC dO328 rfl (by simp) rfl rfl (by simp [okT]) (by simp [gev]) (by simp) (by simp [okX,zbz]) (by simp [gev]) (by simp [hS,hne,zaw]) (by (intro k hk;first|exact hLow k hk|(simp (disch:=omega) only [hLow,zb9,List.mem_cons,List.not_mem_nil,or_false,zaa,zai,zat,if_neg,zaw,List.cons_append,List.nil_append]<;>done))) ?_ ?_
 ·intro v ns hV k hk
  rw [zcm hV k hk]
  omega
 rintro v ns ⟨c328,M328,g328,x328,y328,z328,rfl,rfl⟩
 refine gwl 2 ?_;intro Q hQ;simp [hC,hY,zbl,zaw];apply hQ
 simp only [wT,wM,Nat.reduceAdd]
 refine zbh ?_
 repeat' first|refine gwZ ?_|(refine gwX ?_;intro Q hQ _;simp [hC,hY,hA,hS,hne,hna,heb];refine gwq hQ ?_)|refine gwC ?_ ?_<;>intro hb
 refine ⟨.inr trivial,kpT G1F,_,_,λk=>if k=1000 then 328 else k,⟨_,⟨c328,M328,g328,x328,y328,z328,rfl,rfl⟩,rfl⟩,λk hk=>if_neg (by omega),by simp,by simp,by simp [results14,ren,zas,zan,zao,zaw],?_⟩
 simp [zd3,zaw]

theorem je9 {st:Int} {fs:Nat->Int} {n:Nat} (h:zay st fs n=true) {j:Nat} (hj:j<6*n):-1048576<=fs j/\fs j<=1048576:=by
 obtain ⟨⟨⟨_,a0,a0'⟩,⟨_,a1,a1'⟩,⟨_,a2,a2'⟩⟩,⟨_,b0,b0'⟩,⟨_,b1,b1'⟩,⟨_,b2,b2'⟩⟩:=ze3 h (i:=j / 6) (by omega)
 have:j%6=0\/j%6=1\/j%6=2\/j%6=3\/j%6=4\/j%6=5:=by omega
 rcases this with c|c|c|c|c|c
 ·rw [show j=6*(j / 6) by omega];exact ⟨by omega,by omega⟩
 ·rw [show j=6*(j / 6)+1 by omega];exact ⟨by omega,by omega⟩
 ·rw [show j=6*(j / 6)+2 by omega];exact ⟨by omega,by omega⟩
 ·rw [show j=6*(j / 6)+3 by omega];exact ⟨by omega,by omega⟩
 ·rw [show j=6*(j / 6)+4 by omega];exact ⟨by omega,by omega⟩
 ·rw [show j=6*(j / 6)+5 by omega];exact ⟨by omega,by omega⟩
theorem zym (L:List (Nat×Blk)) (ka ks:Nat) (bm bs:Blk) (hT:LKa L ka ks bm bs) (off n cap off2 cap2:Nat) (fm fs:Nat->Int) (hm:MB bm off n fm) (hSb:SB bs off2 n fs) (hcap2:n<=cap2) (g bx tp nr md st:Int) (hs:i64 st) (p q:Int) (hok:zd2 n fm g bx tp nr md=true) (hrt:zay st fs n=true) (hpt:zdi p q=true) (hany:zqx fs n=false) (hF:zay st (kcF p q g fm fs n) n=true) :
  FunS prog G1 14 #[cfV (.slice (some ⟨ka,off,none⟩) n cap) g bx tp nr md,.agg #[.int .i64 st,.slice (some ⟨ks,off2,none⟩) n cap2],.int .i64 p,.int .i64 q] (hpL G1 L) (zab L) (zn9 1000 st n (kcF p q g fm fs n) 0):=by
 refine zec (B:=200) G1F func14 rfl call14 hT.ok ?_ zee (by simp [ntmps14]) (by omega) ?_
 ·simp [zap,zau,zaj,zal,hT.ia,hT.ib,cfV]
 intro C hC hC0 hY
 have hA:=hT.a
 have hS:=hT.s
 have hne:=hT.ne
 have hna:=hT.na
 have hLow:=hT.low
 have hks:=hT.k1
 have hks2:=hT.k2
 have hn4:=(zcs hrt).2.1
 have hk:=(zgr L ka ks bm bs hT off n cap off2 cap2 fm fs hm hSb g bx tp nr md st hs p q hok hrt hpt hany).nmL hT.ok hT.fx 264 (by omega) (λv ns=>zc9) (by have hl:r1n 264 ka=ka:=if_neg (by have:=hT.a2;omega);have hl2:r1n 264 ks=ks:=if_neg (by omega);simp [cfV,ren,zas,zan,zao,hl,hl2]) (zia (ρ:=r1n 264) (nk:=264) rfl n (kkF p q g fm fs n))
 unfold cfV at hk |-
 repeat' first|refine gwZ ?_|refine gwV ?_|refine gwC ?_ ?_<;>intro hb
 refine za7 ?_
 simp only [Array.toList]
 refine gwl 4 ?_;intro Q hQ;simp [hC,hY,hA,hS,hne,hna];apply hQ
 simp only [wT,wM,Nat.reduceAdd]
 refine zbd (f:=.func 11) (cap:=#[]) hC hk rfl (by simp) rfl rfl (by simp [okT]) (by simp [gev]) (by simp) (by simp [okX,zbz]) (by simp [gev]) (by intro q hq;obtain ⟨p,hp,rfl⟩:=zah.1 hq;have hpb:=hT.ok.big p hp;(try dsimp only);simp (disch:=omega) only [zaa]) (by (intro k hk;first|exact hLow k hk|(simp (disch:=omega) only [hLow,zb9,List.mem_cons,List.not_mem_nil,or_false,zaa,zai,zat,if_neg,zaw,List.cons_append,List.nil_append]<;>done))) ?_ ?_
 ·intro v ns hV k hk
  rw [zc9 hV k hk]
  omega
 rintro v ns ⟨c,gg,hc,hgg,rfl,rfl⟩
 refine gwl 6 ?_;intro Q hQ;simp [hC,hY,zbl,zaw];apply hQ
 simp only [wT,wM,Nat.reduceAdd]
 refine zbh ?_
 repeat' first|refine gwZ ?_|(refine gwX ?_;intro Q hQ _;simp [hC,hY,zbl,zaw,hA,hS,hne,hna];refine gwq hQ ?_)|refine gwC ?_ ?_<;>intro hb
 have dO328:=zpe ks 328 (by omega) (by omega) (by omega) bs off2 n cap2 fs hSb hcap2 st
 refine za7 ?_
 simp only [Array.toList]
 refine gwl 1 ?_;intro Q hQ;simp [hC,hY,hA,hS,hne,hna];apply hQ
 simp only [wT,wM,Nat.reduceAdd]
 refine zbd (f:=.func 31) (cap:=#[]) hC dO328 rfl (by simp) rfl rfl (by simp [okT]) (by simp [gev]) (by simp) (by simp [okX,zbz]) (by simp [gev]) (by simp [hS,hne,zaw]) (by (intro k hk;first|exact hLow k hk|(simp (disch:=omega) only [hLow,zb9,List.mem_cons,List.not_mem_nil,or_false,zaa,zai,zat,if_neg,zaw,List.cons_append,List.nil_append]<;>done))) ?_ ?_
 ·intro v ns hV k hk
  rw [zcm hV k hk]
  omega
 rintro v ns ⟨c328,M328,g328,x328,y328,z328,rfl,rfl⟩
 refine gwl 2 ?_;intro Q hQ;simp [hC,hY,zbl,zaw];apply hQ
 simp only [wT,wM,Nat.reduceAdd]
 refine zbh ?_
 have hb1:∀ j,j<6*n->-1048576<=g328 j/\g328 j<=1048576:=λj hj=>by rw [z328 j hj];exact je9 hrt hj
 have hb2:∀ j,j<3*n->-18014398509481984<=gg j/\gg j<=18014398509481984:=λj hj=>by
  rw [hgg j hj]
  exact z3m hok hrt hpt (by omega) (by omega) (zjg.1 hany _ (by omega))
 have hFF:∀ j,j<6*n->zeu g328 gg n j=kcF p q g fm fs n j:=λj hj=>by
  unfold zeu kcF
  by_cases c3:j%6<3
  ·rw [if_pos c3,if_neg (by omega),z328 j hj]
  ·rw [if_neg c3,if_pos (by omega),z328 j hj,hgg _ (by omega),zjh _ _ _ _ _ _ _ (by omega)]
 repeat' first|refine gwZ ?_|((first|refine gwR [32] ?_|refine gwD [32] ?_);intro Q hQ _;(repeat first|simp [hC,hY,hA,hS,hne,hna,hF]|refine z6m (w0:=296) (w1:=336) (w2:=264) (w3:=328) (n:=n) (c:=c) (c2:=c328) (M:=M328) (st:=st) (g:=gg) (f:=g328) (F:=kcF p q g fm fs n) hs hn4 hc x328 y328 hb1 hb2 hFF (by omega) (by omega) (by simp) (by simp [zcu]) (by simp) (by simp) ?_);refine gwq hQ ?_)|refine gwC ?_ ?_<;>intro hb
 refine ⟨.inr trivial,kpT G1F,_,_,λk=>if k=1000 then 328 else k,⟨_,⟨c328,M328,_,x328,y328,hFF,rfl,rfl⟩,rfl⟩,λk hk=>if_neg (by omega),by simp,by simp,by simp [results14,ren,zas,zan,zao,zaw],?_⟩
 simp [zd3,zaw]
theorem zyn (L:List (Nat×Blk)) (ka ks:Nat) (bm bs:Blk) (hT:LKa L ka ks bm bs) (off n cap off2 cap2:Nat) (fm fs:Nat->Int) (hm:MB bm off n fm) (hSb:SB bs off2 n fs) (hcap2:n<=cap2) (g bx tp nr md st:Int) (hs:i64 st) (p q:Int) (hok:zd2 n fm g bx tp nr md=true) (hrt:zay st fs n=true) (hpt:zdi p q=true) (hany:zqx fs n=false) (hF:zay st (kcF p q g fm fs n) n=false) :
  FunS prog G1 14 #[cfV (.slice (some ⟨ka,off,none⟩) n cap) g bx tp nr md,.agg #[.int .i64 st,.slice (some ⟨ks,off2,none⟩) n cap2],.int .i64 p,.int .i64 q] (hpL G1 L) (zab L) (zn9 1000 st n (fs) 20):=by
 refine zec (B:=200) G1F func14 rfl call14 hT.ok ?_ zee (by simp [ntmps14]) (by omega) ?_
 ·simp [zap,zau,zaj,zal,hT.ia,hT.ib,cfV]
 intro C hC hC0 hY
 have hA:=hT.a
 have hS:=hT.s
 have hne:=hT.ne
 have hna:=hT.na
 have hLow:=hT.low
 have hks:=hT.k1
 have hks2:=hT.k2
 have hn4:=(zcs hrt).2.1
 have hk:=(zgr L ka ks bm bs hT off n cap off2 cap2 fm fs hm hSb g bx tp nr md st hs p q hok hrt hpt hany).nmL hT.ok hT.fx 264 (by omega) (λv ns=>zc9) (by have hl:r1n 264 ka=ka:=if_neg (by have:=hT.a2;omega);have hl2:r1n 264 ks=ks:=if_neg (by omega);simp [cfV,ren,zas,zan,zao,hl,hl2]) (zia (ρ:=r1n 264) (nk:=264) rfl n (kkF p q g fm fs n))
 unfold cfV at hk |-
 repeat' first|refine gwZ ?_|refine gwV ?_|refine gwC ?_ ?_<;>intro hb
 refine za7 ?_
 simp only [Array.toList]
 refine gwl 4 ?_;intro Q hQ;simp [hC,hY,hA,hS,hne,hna];apply hQ
 simp only [wT,wM,Nat.reduceAdd]
 refine zbd (f:=.func 11) (cap:=#[]) hC hk rfl (by simp) rfl rfl (by simp [okT]) (by simp [gev]) (by simp) (by simp [okX,zbz]) (by simp [gev]) (by intro q hq;obtain ⟨p,hp,rfl⟩:=zah.1 hq;have hpb:=hT.ok.big p hp;(try dsimp only);simp (disch:=omega) only [zaa]) (by (intro k hk;first|exact hLow k hk|(simp (disch:=omega) only [hLow,zb9,List.mem_cons,List.not_mem_nil,or_false,zaa,zai,zat,if_neg,zaw,List.cons_append,List.nil_append]<;>done))) ?_ ?_
 ·intro v ns hV k hk
  rw [zc9 hV k hk]
  omega
 rintro v ns ⟨c,gg,hc,hgg,rfl,rfl⟩
 refine gwl 6 ?_;intro Q hQ;simp [hC,hY,zbl,zaw];apply hQ
 simp only [wT,wM,Nat.reduceAdd]
 refine zbh ?_
 repeat' first|refine gwZ ?_|(refine gwX ?_;intro Q hQ _;simp [hC,hY,zbl,zaw,hA,hS,hne,hna];refine gwq hQ ?_)|refine gwC ?_ ?_<;>intro hb
 have dO328:=zpe ks 328 (by omega) (by omega) (by omega) bs off2 n cap2 fs hSb hcap2 st
 refine za7 ?_
 simp only [Array.toList]
 refine gwl 1 ?_;intro Q hQ;simp [hC,hY,hA,hS,hne,hna];apply hQ
 simp only [wT,wM,Nat.reduceAdd]
 refine zbd (f:=.func 31) (cap:=#[]) hC dO328 rfl (by simp) rfl rfl (by simp [okT]) (by simp [gev]) (by simp) (by simp [okX,zbz]) (by simp [gev]) (by simp [hS,hne,zaw]) (by (intro k hk;first|exact hLow k hk|(simp (disch:=omega) only [hLow,zb9,List.mem_cons,List.not_mem_nil,or_false,zaa,zai,zat,if_neg,zaw,List.cons_append,List.nil_append]<;>done))) ?_ ?_
 ·intro v ns hV k hk
  rw [zcm hV k hk]
  omega
 rintro v ns ⟨c328,M328,g328,x328,y328,z328,rfl,rfl⟩
 refine gwl 2 ?_;intro Q hQ;simp [hC,hY,zbl,zaw];apply hQ
 simp only [wT,wM,Nat.reduceAdd]
 refine zbh ?_
 have hb1:∀ j,j<6*n->-1048576<=g328 j/\g328 j<=1048576:=λj hj=>by rw [z328 j hj];exact je9 hrt hj
 have hb2:∀ j,j<3*n->-18014398509481984<=gg j/\gg j<=18014398509481984:=λj hj=>by
  rw [hgg j hj]
  exact z3m hok hrt hpt (by omega) (by omega) (zjg.1 hany _ (by omega))
 have hFF:∀ j,j<6*n->zeu g328 gg n j=kcF p q g fm fs n j:=λj hj=>by
  unfold zeu kcF
  by_cases c3:j%6<3
  ·rw [if_pos c3,if_neg (by omega),z328 j hj]
  ·rw [if_neg c3,if_pos (by omega),z328 j hj,hgg _ (by omega),zjh _ _ _ _ _ _ _ (by omega)]
 repeat' first|refine gwZ ?_|((first|refine gwR [32] ?_|refine gwD [32] ?_);intro Q hQ _;(repeat first|simp [hC,hY,hA,hS,hne,hna,hF]|refine z6m (w0:=296) (w1:=336) (w2:=264) (w3:=328) (n:=n) (c:=c) (c2:=c328) (M:=M328) (st:=st) (g:=gg) (f:=g328) (F:=kcF p q g fm fs n) hs hn4 hc x328 y328 hb1 hb2 hFF (by omega) (by omega) (by simp) (by simp [zcu]) (by simp) (by simp) ?_);refine gwq hQ ?_)|refine gwC ?_ ?_<;>intro hb
 have dO432:=zpe ks 432 (by omega) (by omega) (by omega) bs off2 n cap2 fs hSb hcap2 st
 refine za7 ?_
 simp only [Array.toList]
 refine gwl 1 ?_;intro Q hQ;simp [hC,hY,hA,hS,hne,hna];apply hQ
 simp only [wT,wM,Nat.reduceAdd]
 refine zbd (f:=.func 31) (cap:=#[]) hC dO432 rfl (by simp) rfl rfl (by simp [okT]) (by simp [gev]) (by simp) (by simp [okX,zbz]) (by simp [gev]) (by simp [hS,hne,zaw]) (by (intro k hk;first|exact hLow k hk|(simp (disch:=omega) only [hLow,zb9,List.mem_cons,List.not_mem_nil,or_false,zaa,zai,zat,if_neg,zaw,List.cons_append,List.nil_append]<;>done))) ?_ ?_
 ·intro v ns hV k hk
  rw [zcm hV k hk]
  omega
 rintro v ns ⟨c432,M432,g432,x432,y432,z432,rfl,rfl⟩
 refine gwl 2 ?_;intro Q hQ;simp [hC,hY,zbl,zaw];apply hQ
 simp only [wT,wM,Nat.reduceAdd]
 refine zbh ?_
 repeat' first|refine gwZ ?_|refine gwV ?_|refine gwC ?_ ?_<;>intro hb
 refine ⟨.inr trivial,kpT G1F,_,_,λk=>if k=1000 then 432 else k,⟨_,⟨c432,M432,g432,x432,y432,z432,rfl,rfl⟩,rfl⟩,λk hk=>if_neg (by omega),by simp,by simp,by simp [results14,ren,zas,zan,zao,zaw],?_⟩
 simp [zd3,zaw]
def nzB (g:Nat->Int) (i:Nat):Bool:=!(decide (g (3*i)=0)&&(decide (g (3*i+1)=0)&&decide (g (3*i+2)=0)))
theorem ja5 (a b c:Int):Ret prog G1 36 #[.agg #[.int .i64 a,.int .i64 b,.int .i64 c]] (.bool !(decide (a=0)&&(decide (b=0)&&decide (c=0)))):=by
 refine zav G1F func36 rfl call36 (by simp) (by simp) (by simp [ntmps36]) ?_
 intro C hC hC0 hY
 repeat' first|refine gwZ ?_|refine gwW ?_|refine gwC ?_ ?_<;>intro hb
 refine ⟨.inr trivial,?_⟩
 simp [results36]
 try (by_cases h0:a=0<;>by_cases h1:b=0<;>by_cases h2:c=0<;>simp [h0,h1,h2])
@[simp] theorem jo2 (a b c:Int) (K:Value->Prop):za2 prog G1 36 #[.agg #[.int .i64 a,.int .i64 b,.int .i64 c]] K↔K (.bool !(decide (a=0)&&(decide (b=0)&&decide (c=0)))):=zaf G1W (by kernel_rfl) (ja5 a b c)
def z5c (n c:Nat) (g:Nat->Int) (i:Nat):GS :=
 ⟨tsL [(0,.slice (some ⟨100,0,none⟩) n c),(1,.func (.func 36) #[] #[]),(7,.int .i64 n),(8,.int .i64 i)],hpL G1 [(100,⟨fa (3*c) .i64 g,.ty 31⟩)],300,0⟩
theorem z1c (n c:Nat) (g:Nat->Int) (hc:n<=c) (hn:n<=4) (N:Nat) (hN:N<=n) (hlt:∀ i,i<N->nzB g i=false) (hend:N=n\/nzB g N=true) :
  Fun prog G1 54 #[.slice (some ⟨100,0,none⟩) n c,.func (.func 36) #[] #[]] (hpL G1 [(100,⟨fa (3*c) .i64 g,.ty 31⟩)]) (zab [(100,(⟨fa (3*c) .i64 g,.ty 31⟩:Blk))]) (.ret (.int .i64 (if N=n then -1 else N)) []):=by
 refine za5 (B:=200) G1F func54 rfl call54 (zam (zba _ _ _)) ?_ (by simp) (by simp) (by simp) (by simp [ntmps54]) (by omega) ?_
 ·simp [zap,zau,zaj,zal,zab]
 intro C hC hC0 hY
 have hid:=λD=>Blk.fx_ids (zba (3*c) g 31) D
 repeat' first|refine gwZ ?_|refine gwW ?_|refine gwC ?_ ?_<;>intro hb
 refine zb3 N (z5c n c g) ?_ ?_ ?_
 ·refine zbc _ 300 hC G1F (m0:=[(100,_)]) hC0 (by omega) ?_ ?_ ?_
  ·simp [zap,zau,zaj,zal,dom]
  ·simp [hid]
  ·simp
 ·intro i hi
  have hin:i<n:=by omega
  have hi':(i:Int)<n:=by omega
  have hz:(0:Int)<=i:=by omega
  have hs:=zdp hin hn
  have hld:=zgs (g:=g) hc hin
  have hq:=hlt i hi
  unfold nzB at hq
  unfold z5c
  repeat' first|refine gwZ ?_|(refine gwX ?_;intro Q hQ _;simp [hC,hY,hi,hin,hi',hz,hs,hld,hq];refine gwq hQ ?_)|refine gwC ?_ ?_<;>intro hb
  refine zbc _ 300 hC G1F (m0:=[(100,_)]) hC0 (by omega) ?_ ?_ ?_
  ·simp [zap,zau,zaj,zal,dom,hs]
  ·simp [hid]
  ·simp
 ·by_cases hNn:N=n
  ·subst hNn
   simp only [if_true]
   unfold z5c
   repeat' first|refine gwZ ?_|refine gwW ?_|refine gwC ?_ ?_<;>intro hb
   refine ⟨.inr rfl,by simp [results54],kpS G1F⟩
  ·have hin:N<n:=by omega
   have hi':(N:Int)<n:=by omega
   have hz:(0:Int)<=N:=by omega
   have hld:=zgs (g:=g) hc hin
   have hq:=hend.resolve_left hNn
   unfold nzB at hq
   rw [if_neg hNn]
   unfold z5c
   repeat' first|refine gwZ ?_|(refine gwX ?_;intro Q hQ _;simp [hC,hY,hin,hi',hz,hld,hq];refine gwq hQ ?_)|refine gwC ?_ ?_<;>intro hb
   refine ⟨.inr rfl,by simp [results54],kpS G1F⟩
def zfr (g:Nat->Int) (n:Nat):Bool:=(List.range n).any λi=>nzB g i
theorem zq7 (g:Nat->Int):∀ n,∃ N,N<=n/\(∀ i,i<N->nzB g i=false)/\(N=n\/nzB g N=true)
 | 0=>⟨0,by omega,λi hi=>by omega,.inl rfl⟩
 | n+1=>by
  obtain ⟨N,h1,h2,h3⟩:=zq7 g n
  by_cases e:N=n
  ·cases h:nzB g n with
   | true=>exact ⟨n,by omega,λi hi=>h2 i (by omega),.inr h⟩
   | false=>exact ⟨n+1,by omega,λi hi=>by
     by_cases e2:i=n
     ·rw [e2];exact h
     ·exact h2 i (by omega),.inl rfl⟩
  ·exact ⟨N,by omega,h2,.inr (h3.resolve_left e)⟩
theorem zf1 {g:Nat->Int} {n:Nat}:zfr g n=false↔∀ i,i<n->nzB g i=false:=by
 unfold zfr
 rw [List.any_eq_false]
 exact ⟨λh i hi=>by simpa using h i (by simpa using hi),λh i hi=>by simpa using h i (by simpa using hi)⟩
theorem zks {g h:Nat->Int} {n:Nat} (e:∀ j,j<3*n->g j=h j):zfr g n=zfr h n:=by
 have k:∀ i,i<n->nzB g i=nzB h i:=λi hi=>by
  unfold nzB
  rw [e _ (by omega),e _ (by omega),e _ (by omega)]
 cases c:zfr h n with
 | false=>exact zf1.2 λi hi=>by rw [k i hi];exact zf1.1 c i hi
 | true =>
  cases c2:zfr g n with
  | true=>rfl
  | false =>
   have:zfr h n=false:=zf1.2 λi hi=>by rw [<-k i hi];exact zf1.1 c2 i hi
   rw [this] at c
   exact absurd c (by simp)
theorem jbf (n c:Nat) (g:Nat->Int) (hc:n<=c) (hn:n<=4) :
  Fun prog G1 35 #[.slice (some ⟨100,0,none⟩) n c,.func (.func 36) #[] #[]] (hpL G1 [(100,⟨fa (3*c) .i64 g,.ty 31⟩)]) (zab [(100,(⟨fa (3*c) .i64 g,.ty 31⟩:Blk))]) (.ret (.bool (zfr g n)) []):=by
 refine za5 (B:=200) G1F func35 rfl call35 (zam (zba _ _ _)) ?_ (by simp) (by simp) (by simp) (by simp [ntmps35]) (by omega) ?_
 ·simp [zap,zau,zaj,zal,zab]
 intro C hC hC0 hY
 have hr:=λρ=>Blk.fx_rn (zba (3*c) g 31) ρ
 obtain ⟨N,hN,hlt,hend⟩:=zq7 g n
 by_cases hNn:N=n
 ·have e:zfr g n=false:=zf1.2 λi hi=>hlt i (by omega)
  rw [e]
  repeat' first|refine gwZ ?_|((first|refine gwR [54] ?_|refine gwD [54] ?_);intro Q hQ _;(repeat first|simp [hC,hY,hNn]|refine zac (z1c n c g hc hn N hN hlt hend) G1F (B:=200) (zam (zba _ _ _)) (λk=>k) (λk hk=>rfl) (by simp [ren,zas,zan,zao]) (by simp) (by simp [hr]) (by simp [zab]) (by simp [zab];rfl) ?_);refine gwq hQ ?_)|refine gwC ?_ ?_<;>intro hb
  refine ⟨.inr rfl,by simp [results35],kpS G1F⟩
 ·have e:zfr g n=true:=by
   cases c:zfr g n with
   | true=>rfl
   | false =>
    have:=zf1.1 c N (by omega)
    rw [hend.resolve_left hNn] at this
    exact absurd this (by simp)
  have hz:(0:Int)<=N:=by omega
  rw [e]
  repeat' first|refine gwZ ?_|((first|refine gwR [54] ?_|refine gwD [54] ?_);intro Q hQ _;(repeat first|simp [hC,hY,hNn,hz]|refine zac (z1c n c g hc hn N hN hlt hend) G1F (B:=200) (zam (zba _ _ _)) (λk=>k) (λk hk=>rfl) (by simp [ren,zas,zan,zao]) (by simp) (by simp [hr]) (by simp [zab]) (by simp [zab];rfl) ?_);refine gwq hQ ?_)|refine gwC ?_ ?_<;>intro hb
  refine ⟨.inr rfl,by simp [results35],kpS G1F⟩
theorem zu5 (L:List (Nat×Blk)) (ka ks:Nat) (bm bs:Blk) (hT:LKa L ka ks bm bs) (off n cap off2 N2 cap2:Nat) (g bx tp nr md st:Int) (p q e:Int) (he:¬e=0) (hk:Fun prog G1 11 #[cfV (.slice (some ⟨ka,off,none⟩) n cap) g bx tp nr md,.agg #[.int .i64 st,.slice (some ⟨ks,off2,none⟩) N2 cap2],.int .i64 p,.int .i64 q] (hpL G1 L) (zab L) (.ret (.tuple #[.slice none 0 0,.int .i64 e]) [])) :
  Fun prog G1 17 #[cfV (.slice (some ⟨ka,off,none⟩) n cap) g bx tp nr md,.agg #[.int .i64 st,.slice (some ⟨ks,off2,none⟩) N2 cap2],.int .i64 p,.int .i64 q] (hpL G1 L) (zab L) (.ret (.bool false) []):=by
 refine zbr (B:=200) G1F func17 rfl call17 hT.ok ?_ (by simp) (by simp) (by simp) (by simp [ntmps17]) (by omega) ?_
 ·simp [zap,zau,zaj,zal,hT.ia,hT.ib,cfV]
 intro C hC hC0 hY
 have hA:=hT.a
 have hS:=hT.s
 have hne:=hT.ne
 have hna:=hT.na
 have hLow:=hT.low
 have hks:=hT.k1
 have hks2:=hT.k2
 have heb:(e==0)=false:=by simpa using he
 unfold cfV at hk |-
 repeat' first|refine gwZ ?_|((first|refine gwR [11] ?_|refine gwD [11] ?_);intro Q hQ _;(repeat first|simp [hC,hY,hA,hS,hne,hna,heb,he]|refine zar hk hT.ok zby ?_);refine gwq hQ ?_)|refine gwC ?_ ?_<;>intro hb
 refine ⟨.inr rfl,by simp [results17],kpT G1F⟩
theorem zkn (L:List (Nat×Blk)) (ka ks:Nat) (bm bs:Blk) (hT:LKa L ka ks bm bs) (off n cap off2 cap2:Nat) (fm fs:Nat->Int) (hm:MB bm off n fm) (hSb:SB bs off2 n fs) (g bx tp nr md st:Int) (hs:i64 st) (p q:Int) (hok:zd2 n fm g bx tp nr md=true) (hrt:zay st fs n=true) (hpt:zdi p q=true) (hany:zqx fs n=false) :
  Fun prog G1 17 #[cfV (.slice (some ⟨ka,off,none⟩) n cap) g bx tp nr md,.agg #[.int .i64 st,.slice (some ⟨ks,off2,none⟩) n cap2],.int .i64 p,.int .i64 q] (hpL G1 L) (zab L) (.ret (.bool !(zfr (kkF p q g fm fs n) n)) []):=by
 refine zbr (B:=200) G1F func17 rfl call17 hT.ok ?_ (by simp) (by simp) (by simp) (by simp [ntmps17]) (by omega) ?_
 ·simp [zap,zau,zaj,zal,hT.ia,hT.ib,cfV]
 intro C hC hC0 hY
 have hA:=hT.a
 have hS:=hT.s
 have hne:=hT.ne
 have hna:=hT.na
 have hLow:=hT.low
 have hks:=hT.k1
 have hks2:=hT.k2
 have hn4:=(zcs hrt).2.1
 have hk:=(zgr L ka ks bm bs hT off n cap off2 cap2 fm fs hm hSb g bx tp nr md st hs p q hok hrt hpt hany).nmL hT.ok hT.fx 256 (by omega) (λv ns=>zc9) (by have hl:r1n 256 ka=ka:=if_neg (by have:=hT.a2;omega);have hl2:r1n 256 ks=ks:=if_neg (by omega);simp [cfV,ren,zas,zan,zao,hl,hl2]) (zia (ρ:=r1n 256) (nk:=256) rfl n (kkF p q g fm fs n))
 unfold cfV at hk |-
 repeat' first|refine gwZ ?_|refine gwV ?_|refine gwC ?_ ?_<;>intro hb
 refine za7 ?_
 simp only [Array.toList]
 refine gwl 4 ?_;intro Q hQ;simp [hC,hY,hA,hS,hne,hna];apply hQ
 simp only [wT,wM,Nat.reduceAdd]
 refine zbd (f:=.func 11) (cap:=#[]) hC hk rfl (by simp) rfl rfl (by simp [okT]) (by simp [gev]) (by simp) (by simp [okX,zbz]) (by simp [gev]) (by intro q hq;obtain ⟨p,hp,rfl⟩:=zah.1 hq;have hpb:=hT.ok.big p hp;(try dsimp only);simp (disch:=omega) only [zaa]) (by (intro k hk;first|exact hLow k hk|(simp (disch:=omega) only [hLow,zb9,List.mem_cons,List.not_mem_nil,or_false,zaa,zai,zat,if_neg,zaw,List.cons_append,List.nil_append]<;>done))) ?_ ?_
 ·intro v ns hV k hk
  rw [zc9 hV k hk]
  omega
 rintro v ns ⟨c,gg,hc,hgg,rfl,rfl⟩
 refine gwl 5 ?_;intro Q hQ;simp [hC,hY,zbl,zaw];apply hQ
 simp only [wT,wM,Nat.reduceAdd]
 refine zbh ?_
 have hr:=λρ=>Blk.fx_rn (zba (3*c) gg 31) ρ
 have hcf:=jbf n c gg hc hn4.2
 rw [zks hgg] at hcf
 cases hz:zfr (kkF p q g fm fs n) n
 all_goals rw [hz] at hcf
 all_goals
  repeat' first|refine gwZ ?_|((first|refine gwR [35] ?_|refine gwD [35] ?_);intro Q hQ _;(repeat first|simp [hC,hY,zbl,zaw,hA,hS,hne,hna]|refine zac hcf G1F (B:=200) (zam (zba _ _ _)) (λk=>if k=100 then 256 else k) (λk hk=>if_neg (by omega)) (by simp [ren,zas,zan,zao]) (by simp) (by simp [hr]) (by simp [zab]) (by simp [zab];rfl) ?_);refine gwq hQ ?_)|refine gwC ?_ ?_<;>intro hb
 all_goals
  refine ⟨.inr rfl,by simp [results17],kpT G1F⟩
def r3n (a b nk k:Nat):Nat:=if k=100 then a else if k=108 then b else if k=1000 then nk else k
theorem zz5 {a b nk:Nat}:r3n a b nk 100=a:=rfl
theorem zz6 {a b nk:Nat}:r3n a b nk 108=b:=rfl
theorem jap {a b nk:Nat}:r3n a b nk 1000=nk:=rfl
theorem jaq {a b nk:Nat} (k:Nat) (h:k<100):r3n a b nk k=k:=by
 unfold r3n
 rw [if_neg (by omega),if_neg (by omega),if_neg (by omega)]
theorem FunS.own3 {fn:FuncId} {args args':Array Value} {x y:Blk} {R R':Value->List (Nat×Blk)->Prop} (h:FunS prog G1 fn args (hpL G1 [(100,x),(108,y)]) (zab [(100,x),(108,y)]) R) (hx:x.fx) (hy:y.fx) (a b nk:Nat) (ha:100<=a) (hb:100<=b) (hk:100<=nk) (h1:a≠b) (h2:a≠nk) (h3:b≠nk) (hR:∀ v ns,R v ns->∀ k∈zab ns,k=1000) (ea:args.map (ren (r3n a b nk))=args') (eR:RR (r3n a b nk) R=R') :
  FunS prog G1 fn args' (hpL G1 [(a,x),(b,y)]) [a,b] R':=by
 refine h.mvL G1F (LTwo.two (G:=G1) hx hy).ok (r3n a b nk) jaq ea (by simp [zab,zz5,zz6]) eR (λk hk=>?_) ?_ ?_ (λv ns hV k hk=>?_) (λv ns hV k hk l hl _=>by rw [hR v ns hV k hk,hR v ns hV l hl])
 ·rw [zai,if_neg (by omega),zai,if_neg (by omega)]
  rfl
 ·simp only [List.mem_cons,List.not_mem_nil,or_false,forall_eq_or_imp,forall_eq]
  rw [Blk.fx_rn hx,Blk.fx_rn hy,zz5,zz6]
  have h1':¬b=a:=λe=>h1 e.symm
  exact ⟨⟨ha,by simp⟩,hb,by simp [h1']⟩
 ·intro k hk l hl e
  simp only [zab,List.map_cons,List.map_nil,List.mem_cons,List.not_mem_nil,or_false] at hk hl
  rcases hk with rfl|rfl<;>rcases hl with rfl|rfl<;>simp only [zz5,zz6] at e<;>first|rfl|exact absurd e h1|exact absurd e.symm h1
 ·rw [hR v ns hV k hk,jap]
  refine ⟨by omega,λhm=>?_⟩
  simp only [List.mem_cons,List.not_mem_nil,or_false] at hm
  rcases hm with e|e
  ·exact h2 e.symm
  ·exact h3 e.symm
def kwM:Blk:=⟨#[.int .i64 1,.int .i64 2],.ty 3⟩
def kwS:Blk:=⟨#[.int .i64 0,.int .i64 0,.int .i64 0,.int .i64 0,.int .i64 0,.int .i64 0,.int .i64 10,.int .i64 0,.int .i64 0,.int .i64 5,.int .i64 0,.int .i64 0],.ty 45⟩
def kwT:Blk:=⟨#[.int .i64 3],.ty 3⟩
def kwZ:Blk:=⟨#[.int .i64 0,.int .i64 0,.int .i64 0,.int .i64 0,.int .i64 0,.int .i64 0],.ty 45⟩
def kwm (j:Nat):Int:=if j=0 then 1 else 2
def kwb (j:Nat):Int:=if j=6 then 10 else if j=9 then 5 else 0
def kwx (j:Nat):Int:=if j=9 then 5 else 0
def kwo (j:Nat):Int:=if j=3 then -2 else if j=6 then 10 else if j=9 then 6 else 0
theorem zic:kwM.fx:=λx hx=>by simp [kwM] at hx;rcases hx with rfl|rfl<;>rfl
theorem zid:kwS.fx:=λx hx=>by
 unfold kwS at hx
 simp only [List.mem_toArray,List.mem_cons,List.not_mem_nil,or_false] at hx
 rcases hx with h|h|h|h|h|h|h|h|h|h|h|h<;>(rw [h];rfl)
theorem zs4:kwT.fx:=λx hx=>by
 unfold kwT at hx
 simp only [List.mem_toArray,List.mem_cons,List.not_mem_nil,or_false,or_self] at hx
 rw [hx]
 rfl
theorem zy3:kwZ.fx:=λx hx=>by
 unfold kwZ at hx
 simp only [List.mem_toArray,List.mem_cons,List.not_mem_nil,or_false,or_self] at hx
 rw [hx]
 rfl
theorem zl0:MB kwM 0 2 kwm:=⟨λj hj=>by
 have:j=0\/j=1:=by omega
 rcases this with rfl|rfl<;>rfl,zic,λj hj=>by
 have:j=0\/j=1:=by omega
 rcases this with rfl|rfl<;>decide,by omega⟩
theorem zko:SB kwS 0 2 kwb:=⟨λj hj=>by
 have:j=0\/j=1\/j=2\/j=3\/j=4\/j=5\/j=6\/j=7\/j=8\/j=9\/j=10\/j=11:=by omega
 rcases this with rfl|rfl|rfl|rfl|rfl|rfl|rfl|rfl|rfl|rfl|rfl|rfl<;>rfl,zid,λj hj=>by
 have:j=0\/j=1\/j=2\/j=3\/j=4\/j=5\/j=6\/j=7\/j=8\/j=9\/j=10\/j=11:=by omega
 rcases this with rfl|rfl|rfl|rfl|rfl|rfl|rfl|rfl|rfl|rfl|rfl|rfl<;>decide,by omega⟩
theorem z6p:MB kwT 0 1 (λ_=>3):=⟨λj hj=>by
 obtain rfl:j=0:=by omega
 rfl,zs4,λj hj=>by decide,by omega⟩
theorem jfi:SB kwZ 0 1 (λ_=>0):=⟨λj hj=>by
 have:j=0\/j=1\/j=2\/j=3\/j=4\/j=5:=by omega
 rcases this with rfl|rfl|rfl|rfl|rfl|rfl<;>rfl,zy3,λj hj=>by decide,by omega⟩
theorem zu6:zd2 2 kwm 100 1000 1000 2 0=true:=by decide
theorem zy5:zay 0 kwb 2=true:=by decide
theorem jlm:zay 0 kwx 2=true:=by decide
theorem jll:zay 0 kwo 2=true:=by decide
theorem zy4:zqx kwb 2=false:=by decide
theorem jln:kZ kwx 2 1=true:=by decide
theorem jfg:zd2 1 (λ_=>3) 1 1 1 1 0=true:=by decide
theorem jfh:zay 0 (λ_=>0) 1=true:=by decide
theorem z9m:zqx (λ_=>0) 1=false:=by decide
theorem z3q (n d g m r:Int):zbe n d g m 0 r=0:=by
 unfold zbe
 rw [z9f]
 (repeat' split)<;>rfl
theorem jli:zbe 1 1 100 2 10 100=2:=by
 have e:isq (2*1*100*2*10*(2*1*100*2*10) / (1*1*100*100*100))=4:=zd7 (by decide) (by decide) (by decide)
 unfold zbe zf9
 rw [e]
 decide
theorem jlj:zbe 1 1 100 1 (-10) 100=-1:=by
 have e:isq (2*1*100*1*(-10)*(2*1*100*1*(-10)) / (1*1*100*100*100))=2:=zd7 (by decide) (by decide) (by decide)
 unfold zbe zf9
 rw [e]
 decide
theorem z6q:kS 1 1 100 kwm kwb 2 0 0=2:=by
 have e:kS 1 1 100 kwm kwb 2 0 0=zbe 1 1 100 2 10 100+0:=rfl
 rw [e,jli]
 rfl
theorem z6r:kS 1 1 100 kwm kwb 2 0 1=0:=by
 have e:kS 1 1 100 kwm kwb 2 0 1=zbe 1 1 100 2 0 100+0:=rfl
 rw [e,z3q]
 rfl
theorem z6s:kS 1 1 100 kwm kwb 2 0 2=0:=by
 have e:kS 1 1 100 kwm kwb 2 0 2=zbe 1 1 100 2 0 100+0:=rfl
 rw [e,z3q]
 rfl
theorem z6t:kS 1 1 100 kwm kwb 2 1 0=-1:=by
 have e:kS 1 1 100 kwm kwb 2 1 0=zbe 1 1 100 1 (-10) 100+0:=rfl
 rw [e,jlj]
 rfl
theorem z6u:kS 1 1 100 kwm kwb 2 1 1=0:=by
 have e:kS 1 1 100 kwm kwb 2 1 1=zbe 1 1 100 1 0 100+0:=rfl
 rw [e,z3q]
 rfl
theorem z6v:kS 1 1 100 kwm kwb 2 1 2=0:=by
 have e:kS 1 1 100 kwm kwb 2 1 2=zbe 1 1 100 1 0 100+0:=rfl
 rw [e,z3q]
 rfl
theorem joc:kkF 1 1 100 kwm kwb 2 0=2/\kkF 1 1 100 kwm kwb 2 1=0/\kkF 1 1 100 kwm kwb 2 2=0/\kkF 1 1 100 kwm kwb 2 3=-1/\kkF 1 1 100 kwm kwb 2 4=0/\kkF 1 1 100 kwm kwb 2 5=0:=⟨z6q,z6r,z6s,z6t,z6u,z6v⟩
theorem jlh:zfr (kkF 1 1 100 kwm kwb 2) 2=true:=by
 cases c:zfr (kkF 1 1 100 kwm kwb 2) 2 with
 | true=>rfl
 | false =>
  have:=zf1.1 c 0 (by omega)
  unfold nzB at this
  rw [Nat.mul_zero,joc.1] at this
  exact absurd this (by decide)
theorem jfj:zfr (kkF 7 1 1 (λ_=>3) (λ_=>0) 1) 1=false:=by decide
theorem zq0 (j:Nat) (hj:j<6*2):kcF (-1) 1 100 kwm kwb 2 j=kwo j:=by
 have h0:=je7 1 1 100 kwm kwb 2
 have:j=0\/j=1\/j=2\/j=3\/j=4\/j=5\/j=6\/j=7\/j=8\/j=9\/j=10\/j=11:=by omega
 rcases this with rfl|rfl|rfl|rfl|rfl|rfl|rfl|rfl|rfl|rfl|rfl|rfl
 ·rfl
 ·rfl
 ·rfl
 ·show kwb 3+kS (-1) 1 100 kwm kwb 2 0 0=_
  rw [h0,z6q];rfl
 ·show kwb 4+kS (-1) 1 100 kwm kwb 2 0 1=_
  rw [h0,z6r];rfl
 ·show kwb 5+kS (-1) 1 100 kwm kwb 2 0 2=_
  rw [h0,z6s];rfl
 ·rfl
 ·rfl
 ·rfl
 ·show kwb 9+kS (-1) 1 100 kwm kwb 2 1 0=_
  rw [h0,z6t];rfl
 ·show kwb 10+kS (-1) 1 100 kwm kwb 2 1 1=_
  rw [h0,z6u];rfl
 ·show kwb 11+kS (-1) 1 100 kwm kwb 2 1 2=_
  rw [h0,z6v];rfl
theorem zo4 {st:Int} {f g:Nat->Int} {n:Nat} (h:∀ j,j<6*n->f j=g j):zay st f n=zay st g n:=by
 unfold zay
 congr 1
 unfold z2g
 rw [Bool.eq_iff_iff,List.all_eq_true,List.all_eq_true]
 have e:∀ i,i<n->inB 1048576 65536 f i=inB 1048576 65536 g i:=λi hi=>by
  unfold inB
  rw [h _ (by omega),h _ (by omega),h _ (by omega),h _ (by omega),h _ (by omega),h _ (by omega)]
 exact ⟨λk i hi=>by rw [<-e i (by simpa using hi)];exact k i hi,λk i hi=>by rw [e i (by simpa using hi)];exact k i hi⟩
theorem jlk:zay 0 (kcF (-1) 1 100 kwm kwb 2) 2=true:=by rw [zo4 zq0];exact jll
def jdq (nk:Nat) (v:Value) (ns:List (Nat×Blk)):Prop:=v=.tuple #[cfV (.slice (some ⟨nk,0,none⟩) 2 2) 100 1000 1000 2 0,.agg #[.int .i64 0,.slice (some ⟨nk+1,0,none⟩) 2 2]]/\ns=[(nk,kwM),(nk+1,kwS)]
theorem zj4 {nk:Nat} {v:Value} {ns:List (Nat×Blk)} (h:jdq nk v ns):∀ k∈zab ns,nk<=k/\k<nk+2:=by
 obtain ⟨rfl,rfl⟩:=h
 intro k hk
 simp [zab] at hk
 omega
theorem jm0:FunS prog G1 25 #[] (hpL G1 []) (zab []) (jdq 1000):=by
 refine zdz (B:=200) G1F func25 rfl call25 ⟨by simp,by simp [zab],by simp⟩ (by simp) ?_ (by simp [ntmps25]) (by omega) ?_
 ·rintro v ns ⟨rfl,rfl⟩
  refine ⟨by simp [cfV,zap,zau,zaj,zal,zc7,zab],?_,?_⟩
  ·intro p hp
   simp only [List.mem_cons,List.not_mem_nil,or_false] at hp
   rcases hp with rfl|rfl
   ·exact ⟨by omega,Blk.fx_ids zic _⟩
   ·exact ⟨by omega,Blk.fx_ids zid _⟩
  ·intro k b c h1 h2
   simp at h1 h2
   rcases h1 with ⟨e1,rfl⟩|⟨e1,rfl⟩<;>rcases h2 with ⟨e2,rfl⟩|⟨e2,rfl⟩<;>first|rfl|omega
 intro C hC hC0 hY
 repeat' first|refine gwZ ?_|refine gwW ?_|refine gwC ?_ ?_<;>intro hb
 refine ⟨.inr trivial,kpS G1F,_,_,λk=>if k=1000 then 216 else if k=1001 then 264 else k,⟨rfl,rfl⟩,λk hk=>?_,by simp,by simp,by simp [results25,cfV,ren,zas,zan,zao],?_⟩
 ·dsimp only
  rw [if_neg (by omega),if_neg (by omega)]
 ·simp only [List.mem_cons,List.not_mem_nil,or_false,forall_eq_or_imp,forall_eq]
  rw [Blk.fx_rn zic,Blk.fx_rn zid]
  simp [kwM,kwS]
  kernel_rfl
theorem jbe {nk:Nat} {ρ:Nat->Nat} (h0:ρ 1000=nk) (h1:ρ 1001=nk+1):RR ρ (jdq 1000)=jdq nk:=by
 have hm:kwM.rn ρ=kwM:=Blk.fx_rn zic ρ
 have hs:kwS.rn ρ=kwS:=Blk.fx_rn zid ρ
 funext v ns
 apply propext
 constructor
 ·rintro ⟨v0,ns0,⟨rfl,rfl⟩,rfl,rfl⟩
  exact ⟨by simp [cfV,ren,zas,zan,zao,h0,h1],by simp [rnL,hm,hs,h0,h1]⟩
 ·rintro ⟨rfl,rfl⟩
  exact ⟨_,_,⟨rfl,rfl⟩,by simp [cfV,ren,zas,zan,zao,h0,h1],by simp [rnL,hm,hs,h0,h1]⟩
theorem jhh (nk:Nat) (hnk:200<=nk):FunS prog G1 25 #[] (hpL G1 []) [] (jdq nk):=by
 have hu:∀ j,j<2->up2 nk (1000+j)=nk+j:=λj hj=>by unfold up2;rw [if_pos (by omega),if_pos (by omega)];omega
 refine jm0.mvL (hp':=hpL G1 []) (rs':=[]) G1F (B:=200) ⟨by simp,by simp [zab],by simp⟩ (up2 nk) (λk hk=>by unfold up2;rw [if_neg (by omega)]) (by simp) (by simp [zab]) (jbe (hu 0 (by omega)) (hu 1 (by omega))) (λk hk=>rfl) (by simp) (by simp [zab]) (λv ns hV k hk=>?_) (λv ns hV k hk l hl e=>?_)
 ·have h1:=zj4 hV k hk
  obtain ⟨j,rfl⟩:∃ j,k=1000+j:=⟨k - 1000,by omega⟩
  rw [hu j (by omega)]
  exact ⟨by omega,by simp⟩
 ·have h1:=zj4 hV k hk
  have h2:=zj4 hV l hl
  obtain ⟨j,rfl⟩:∃ j,k=1000+j:=⟨k - 1000,by omega⟩
  obtain ⟨i,rfl⟩:∃ i,l=1000+i:=⟨l - 1000,by omega⟩
  rw [hu j (by omega),hu i (by omega)] at e
  omega
end Go.Gy
