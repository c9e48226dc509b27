/-
  Lemmas of this claim, in their order (GyCB, GyCC, GyCD, GyCE, GyCF, GyEF, GyEP, GyEQ, GyER, GyNA, GyWI, GyCG, GyLJ, GyPA, GyFC, GyFB, GyFF, GyWO, GyPV, GyU2, GyU3, GyU4, GyU5, GyU6, GyU7).
  Conditions: those of each theorem.
-/
import Derived.Test.YtmnknnojkhkceaaGreatDoorGz04
set_option linter.unusedSimpArgs false
set_option linter.unusedVariables false
set_option maxRecDepth 8000
set_option maxHeartbeats 16000000
namespace Go.Gy
open Go Go.RowKit Go.Proofs Go.Proofs.Tryz
def mT (sl:Value) (n:Nat) (g bx tp nr:Int):List (Nat×Nat×Value):=[(0,4,.map (some 224)),
  (1,5,.func (.func 96) #[] #[]),
  (2,6,.pointer (some ⟨200,0,none⟩)),
  (3,7,sl),
  (4,8,.int .i64 n),
  (5,9,.func (.func 97) #[] #[.pointer (some ⟨264,0,none⟩),.pointer (some ⟨265,0,none⟩)]),
  (7,10,.func (.func 99) #[] #[.pointer (some ⟨200,0,none⟩)]),
  (9,11,.func (.func 96) #[] #[]),
  (10,12,.pointer (some ⟨200,1,none⟩)),
  (11,13,.int .i64 g),
  (12,14,.func (.func 97) #[] #[.pointer (some ⟨320,0,none⟩),.pointer (some ⟨321,0,none⟩)]),
  (14,15,.func (.func 96) #[] #[]),
  (15,16,.pointer (some ⟨200,2,none⟩)),
  (16,17,.int .i64 bx),
  (17,18,.func (.func 97) #[] #[.pointer (some ⟨360,0,none⟩),.pointer (some ⟨361,0,none⟩)]),
  (19,19,.func (.func 96) #[] #[]),
  (20,20,.pointer (some ⟨200,3,none⟩)),
  (21,21,.int .i64 tp),
  (22,22,.func (.func 97) #[] #[.pointer (some ⟨400,0,none⟩),.pointer (some ⟨401,0,none⟩)]),
  (24,23,.func (.func 96) #[] #[]),
  (25,24,.pointer (some ⟨200,4,none⟩)),
  (26,25,.int .i64 nr),
  (27,26,.pointer (some ⟨200,2,none⟩)),
  (28,27,.int .i64 bx),
  (29,28,.int .i64 (Int.bmod (2*bx) 18446744073709551616)),
  (30,29,.func (.func 97) #[] #[.pointer (some ⟨464,0,none⟩),.pointer (some ⟨465,0,none⟩)]),
  (32,30,.func (.func 102) #[] #[.pointer (some ⟨200,0,none⟩)]),
  (34,31,.map (some 224)),
  (35,2,.map (some 224))]
def mI:List (Nat×ByteArray×Value):=[(6,⟨#[98,111,100,105,101,115]⟩,.func (.func 97) #[] #[.pointer (some ⟨264,0,none⟩),.pointer (some ⟨265,0,none⟩)]),
  (8,⟨#[109,97,115,115]⟩,.func (.func 99) #[] #[.pointer (some ⟨200,0,none⟩)]),
  (13,⟨#[99,111,110,115,116,97,110,116]⟩,.func (.func 97) #[] #[.pointer (some ⟨320,0,none⟩),.pointer (some ⟨321,0,none⟩)]),
  (18,⟨#[98,111,120]⟩,.func (.func 97) #[] #[.pointer (some ⟨360,0,none⟩),.pointer (some ⟨361,0,none⟩)]),
  (23,⟨#[116,111,112]⟩,.func (.func 97) #[] #[.pointer (some ⟨400,0,none⟩),.pointer (some ⟨401,0,none⟩)]),
  (31,⟨#[110,101,97,114]⟩,.func (.func 97) #[] #[.pointer (some ⟨464,0,none⟩),.pointer (some ⟨465,0,none⟩)]),
  (33,⟨#[109,101,116,104,111,100]⟩,.func (.func 102) #[] #[.pointer (some ⟨200,0,none⟩)])]
def mX (n:Nat) (g bx tp nr:Int):List (Nat×Nat×Blk):=[(5,264,jb (n:Int)),(5,265,jb 4),
  (12,320,jb g),(12,321,jb 1048576),
  (17,360,jb bx),(17,361,jb 1048576),
  (22,400,jb tp),(22,401,jb 65536),
  (30,464,jb nr),(30,465,jb (Int.bmod (2*bx) 18446744073709551616))]
structure MI (b:Blk) (sl:Value) (n:Nat) (g bx tp nr md:Int) (listed:Array Bool) (ts:Nat->Value) (hp:Hp):Prop where
 t1:ts 1=.pointer (some ⟨200,0,none⟩)
 t3:ts 3=.func (.func 96) #[] #[]
 tm:∀ p∈mT sl n g bx tp nr,listed[p.1]? = some true->ts p.2.1=p.2.2
 low:∀ k,k<100->hp k=G0 k
 b:hp 100=some b
 c:hp 200=some (cfB sl g bx tp nr md)
 bx:∀ q∈mX n g bx tp nr,listed[q.1]? = some true->hp q.2.1=some q.2.2
 mp:listed[0]? = some true->∃ l,hp 224=some (mpB l)/\(∀ p∈l,∃ q∈mI,p=q.2/\listed[q.1]? = some true)/\∀ q∈mI,listed[q.1]? = some true->zda q.2.1 l=some q.2.2
 i0:∀ q∈mI,listed[q.1]? = some true->listed[0]? = some true
theorem zj2 {listed:Array Bool} {i j:Nat} (h:listed[j]? = some true):(listed.setIfInBounds i true)[j]? = some true:=by
 rw [Array.getElem?_setIfInBounds]
 split
 ·split
  ·rfl
  ·rename_i e hlt
   subst e
   exact absurd (Array.getElem?_eq_some_iff.1 h).1 hlt
 ·exact h
theorem zdl {listed:Array Bool} {i j:Nat} (h:(listed.setIfInBounds i true)[j]? = some true):j=i\/listed[j]? = some true:=by
 rw [Array.getElem?_setIfInBounds] at h
 by_cases e:i=j
 ·exact .inl e.symm
 ·rw [if_neg e] at h;exact .inr h
theorem zl7 (sl:Value) (n:Nat) (g bx tp nr:Int):∀ p∈mT sl n g bx tp nr,∀ q∈mT sl n g bx tp nr,p.1=q.1\/p.2.1=q.2.1->p=q:=by
 intro p hp q hq
 simp only [mT,List.mem_cons,List.not_mem_nil,or_false] at hp hq
 rcases hp with rfl|rfl|rfl|rfl|rfl|rfl|rfl|rfl|rfl|rfl|rfl|rfl|rfl|rfl|rfl|rfl|rfl|rfl|rfl|rfl|rfl|rfl|rfl|rfl|rfl|rfl|rfl|rfl|rfl<;>rcases hq with rfl|rfl|rfl|rfl|rfl|rfl|rfl|rfl|rfl|rfl|rfl|rfl|rfl|rfl|rfl|rfl|rfl|rfl|rfl|rfl|rfl|rfl|rfl|rfl|rfl|rfl|rfl|rfl|rfl<;>simp
theorem jfs (sl:Value) (n:Nat) (g bx tp nr:Int):∀ p∈mT sl n g bx tp nr,p.2.1≠1/\p.2.1≠3:=by simp [mT]
theorem zq5 (sl:Value) (n:Nat) (g bx tp nr:Int):∀ p∈mT sl n g bx tp nr,∀ q∈mI,p.1≠q.1:=by simp [mT,mI]
theorem jfq:∀ p∈mI,∀ q∈mI,p.1=q.1\/(p.2.1==q.2.1)=false:=by
 intro p hp q hq
 simp only [mI,List.mem_cons,List.not_mem_nil,or_false] at hp hq
 rcases hp with rfl|rfl|rfl|rfl|rfl|rfl|rfl<;>rcases hq with rfl|rfl|rfl|rfl|rfl|rfl|rfl<;>first|exact .inl rfl|(right;decide +kernel)
theorem jfr:∀ p∈mI,∀ q∈mI,p.1=q.1->p=q:=by
 intro p hp q hq
 simp only [mI,List.mem_cons,List.not_mem_nil,or_false] at hp hq
 rcases hp with rfl|rfl|rfl|rfl|rfl|rfl|rfl<;>rcases hq with rfl|rfl|rfl|rfl|rfl|rfl|rfl<;>simp
theorem z9s:∀ p∈mI,(p.2.1==p.2.1)=true:=by
 intro p hp
 simp only [mI,List.mem_cons,List.not_mem_nil,or_false] at hp
 rcases hp with rfl|rfl|rfl|rfl|rfl|rfl|rfl<;>decide +kernel
section
variable {b:Blk} {sl:Value} {n:Nat} {g bx tp nr md:Int} {listed:Array Bool} {ts:Nat->Value} {hp:Hp}
theorem MI.tmp (h:MI b sl n g bx tp nr md listed ts hp) {i t:Nat} {v:Value} (hm:(i,t,v)∈mT sl n g bx tp nr) (hx:∀ q∈mX n g bx tp nr,q.1≠i) (hi:i≠0):MI b sl n g bx tp nr md (listed.setIfInBounds i true) (upd ts t v) hp:=by
 have h13:=jfs sl n g bx tp nr _ hm
 refine ⟨by rw [zaa _ _ (λe=>h13.1 e.symm)];exact h.t1,by rw [zaa _ _ (λe=>h13.2 e.symm)];exact h.t3,λp hp hl=>?_,h.low,h.b,h.c,λq hq hl=>?_,λhl=>?_,λq hq hl=>(zdl hl).elim (λe1=>absurd e1.symm (zq5 sl n g bx tp nr _ hm q hq)) λh1=>zj2 (h.i0 q hq h1)⟩
 ·by_cases e:p.2.1=t
  ·have:=zl7 sl n g bx tp nr p hp _ hm (.inr e)
   subst this
   exact zbg _ _ _
  ·rw [zaa _ _ e]
   rcases zdl hl with e1|h1
   ·exact absurd (congrArg (λx=>x.2.1) (zl7 sl n g bx tp nr p hp _ hm (.inl e1))) e
   ·exact h.tm p hp h1
 ·rcases zdl hl with e1|h1
  ·exact absurd e1 (hx q hq)
  ·exact h.bx q hq h1
 ·rcases zdl hl with e1|h1
  ·exact absurd e1.symm hi
  ·obtain ⟨l,l1,l2,l3⟩:=h.mp h1
   refine ⟨l,l1,λp hp=>?_,λq hq hl2=>?_⟩
   ·obtain ⟨q,hq,e,h2⟩:=l2 p hp
    refine ⟨q,hq,e,?_⟩
    rw [Array.getElem?_setIfInBounds,if_neg (λe=>zq5 sl n g bx tp nr _ hm q hq e)]
    exact h2
   ·rcases zdl hl2 with e1|h2
    ·exact absurd e1.symm (zq5 sl n g bx tp nr _ hm q hq)
    ·exact l3 q hq h2
theorem MI.mkm (h:MI b sl n g bx tp nr md listed ts hp) (h0:listed[0]? = some false):MI b sl n g bx tp nr md (listed.setIfInBounds 0 true) (upd ts 4 (.map (some 224))) (upd hp 224 (some (mpB []))):=by
 have hm:(0,4,Value.map (some 224))∈mT sl n g bx tp nr:=by simp [mT]
 refine ⟨by rw [zaa _ _ (by omega)];exact h.t1,by rw [zaa _ _ (by omega)];exact h.t3,λp hp hl=>?_,λk hk=>by rw [zaa _ _ (by omega)];exact h.low k hk,by rw [zaa _ _ (by omega)];exact h.b,by rw [zaa _ _ (by omega)];exact h.c,λq hq hl=>?_,λ_=>⟨[],zbg _ _ _,by simp,λq hq hl=>?_⟩,λq hq hl=>by simp [Array.getElem?_setIfInBounds,(Array.getElem?_eq_some_iff.1 h0).1]⟩
 ·by_cases e:p.2.1=4
  ·have:=zl7 sl n g bx tp nr p hp _ hm (.inr e)
   subst this
   exact zbg _ _ _
  ·rw [zaa _ _ e]
   rcases zdl hl with e1|h1
   ·exact absurd (congrArg (λx=>x.2.1) (zl7 sl n g bx tp nr p hp _ hm (.inl e1))) e
   ·exact h.tm p hp h1
 ·have hq2:q.1≠0/\q.2.1≠224:=(show ∀ q∈mX n g bx tp nr,q.1≠0/\q.2.1≠224 by simp [mX]) q hq
  rw [zaa _ _ hq2.2]
  rcases zdl hl with e1|h1
  ·exact absurd e1 hq2.1
  ·exact h.bx q hq h1
 ·have hq2:q.1≠0:=(show ∀ q∈mI,q.1≠0 by simp [mI]) q hq
  rcases zdl hl with e1|h1
  ·exact absurd e1 hq2
  ·rw [h.i0 q hq h1] at h0;cases h0
theorem MI.call (h:MI b sl n g bx tp nr md listed ts hp) {i t nk:Nat} {v:Value} {a m:Int} (hm:(i,t,v)∈mT sl n g bx tp nr) (hnk:225<=nk) (hi:i≠0) (hx:∀ q∈mX n g bx tp nr,(q.1=i->(q.2.1=nk/\q.2.2=jb a)\/(q.2.1=nk+1/\q.2.2=jb m))/\(q.1≠i->q.2.1≠nk/\q.2.1≠nk+1)) :
  MI b sl n g bx tp nr md (listed.setIfInBounds i true) (upd ts t v) (upd (upd hp nk (some (jb a))) (nk+1) (some (jb m))):=by
 have h13:=jfs sl n g bx tp nr _ hm
 refine ⟨by rw [zaa _ _ (λe=>h13.1 e.symm)];exact h.t1,by rw [zaa _ _ (λe=>h13.2 e.symm)];exact h.t3,λp hp hl=>?_,λk hk=>by rw [zaa _ _ (by omega),zaa _ _ (by omega)];exact h.low k hk,by rw [zaa _ _ (by omega),zaa _ _ (by omega)];exact h.b,by rw [zaa _ _ (by omega),zaa _ _ (by omega)];exact h.c,λq hq hl=>?_,λhl=>?_,λq hq hl=>(zdl hl).elim (λe1=>absurd e1.symm (zq5 sl n g bx tp nr _ hm q hq)) λh1=>zj2 (h.i0 q hq h1)⟩
 ·by_cases e:p.2.1=t
  ·have:=zl7 sl n g bx tp nr p hp _ hm (.inr e)
   subst this
   exact zbg _ _ _
  ·rw [zaa _ _ e]
   rcases zdl hl with e1|h1
   ·exact absurd (congrArg (λx=>x.2.1) (zl7 sl n g bx tp nr p hp _ hm (.inl e1))) e
   ·exact h.tm p hp h1
 ·by_cases e:q.1=i
  ·rcases (hx q hq).1 e with ⟨e1,e2⟩|⟨e1,e2⟩
   ·rw [e1,e2,zaa _ _ (by omega),zbg]
   ·rw [e1,e2,zbg]
  ·obtain ⟨e1,e2⟩:=(hx q hq).2 e
   rw [zaa _ _ e2,zaa _ _ e1]
   rcases zdl hl with e3|h1
   ·exact absurd e3 e
   ·exact h.bx q hq h1
 ·rcases zdl hl with e1|h1
  ·exact absurd e1.symm hi
  ·obtain ⟨l,l1,l2,l3⟩:=h.mp h1
   refine ⟨l,by rw [zaa _ _ (by omega),zaa _ _ (by omega)];exact l1,λp hp=>?_,λq hq hl2=>?_⟩
   ·obtain ⟨q,hq,e,h2⟩:=l2 p hp
    refine ⟨q,hq,e,?_⟩
    rw [Array.getElem?_setIfInBounds,if_neg (λe=>zq5 sl n g bx tp nr _ hm q hq e)]
    exact h2
   ·rcases zdl hl2 with e1|h2
    ·exact absurd e1.symm (zq5 sl n g bx tp nr _ hm q hq)
    ·exact l3 q hq h2
theorem zom {s:ByteArray} {v:Value} {k:ByteArray}:∀ (l:List (ByteArray×Value)),zda k (l++[(s,v)])=match zda k l with|some u=>some u|none=>if (k==s)=true then some v else none
 | []=>rfl
 | p::l=>by
  simp only [List.cons_append,zda]
  split
  ·rfl
  ·exact zom l
theorem MI.fresh (h:MI b sl n g bx tp nr md listed ts hp) {i:Nat} {s:ByteArray} {v:Value} (hm:(i,s,v)∈mI) (hi:listed[i]? = some false) {l:List (ByteArray×Value)} (hl:∀ p∈l,∃ q∈mI,p=q.2/\listed[q.1]? = some true):zda s l=none:=by
 induction l with
 | nil=>rfl
 | cons p l ih =>
  simp only [zda]
  obtain ⟨q,hq,e,h2⟩:=hl p (by simp)
  have:(s==p.1)=false:=by
   rw [e]
   rcases jfq _ hm q hq with e1|e1
   ·have e1:i=q.1:=e1
    rw [<-e1,hi] at h2
    cases h2
   ·exact e1
  rw [this]
  exact ih λp hp=>hl p (List.mem_cons_of_mem _ hp)
theorem MI.ins (h:MI b sl n g bx tp nr md listed ts hp) {i:Nat} {s:ByteArray} {v:Value} (hm:(i,s,v)∈mI) (hlt:i<listed.size) {l:List (ByteArray×Value)} (hl:∀ p∈l,∃ q∈mI,p=q.2/\listed[q.1]? = some true) (hf:∀ q∈mI,listed[q.1]? = some true->zda q.2.1 l=some q.2.2) (hn:zda s l=none) (h00:listed[0]? = some true) :
  MI b sl n g bx tp nr md (listed.setIfInBounds i true) ts (upd hp 224 (some (mpB (l++[(s,v)])))):=by
 refine ⟨h.t1,h.t3,λp hp hl=>?_,λk hk=>by rw [zaa _ _ (by omega)];exact h.low k hk,by rw [zaa _ _ (by omega)];exact h.b,by rw [zaa _ _ (by omega)];exact h.c,λq hq hl=>?_,λ_=>⟨_,zbg _ _ _,λp hp=>?_,λq hq hl2=>?_⟩,λq hq hl=>zj2 h00⟩
 ·rcases zdl hl with e1|h1
  ·exact absurd e1 (zq5 sl n g bx tp nr p hp _ hm)
  ·exact h.tm p hp h1
 ·have hq2:q.2.1≠224:=(show ∀ q∈mX n g bx tp nr,q.2.1≠224 by simp [mX]) q hq
  have hq3:∀ p∈mI,q.1≠p.1:=(show ∀ q∈mX n g bx tp nr,∀ p∈mI,q.1≠p.1 by simp [mX,mI]) q hq
  rw [zaa _ _ hq2]
  rcases zdl hl with e1|h1
  ·exact absurd e1 (hq3 _ hm)
  ·exact h.bx q hq h1
 ·rcases List.mem_append.1 hp with hp|hp
  ·obtain ⟨q,hq,e,h2⟩:=hl p hp
   refine ⟨q,hq,e,?_⟩
   exact zj2 h2
  ·simp only [List.mem_singleton] at hp
   subst hp
   refine ⟨_,hm,rfl,?_⟩
   simp [Array.getElem?_setIfInBounds,hlt]
 ·rw [zom]
  rcases zdl hl2 with e1|h2
  ·have:=jfr q hq _ hm e1
   subst this
   simp only [hn]
   rw [z9s _ hm]
   rfl
  ·rw [hf q hq h2]
end
def mV (nk:Nat):List (ByteArray×Value):=[(⟨#[98,111,100,105,101,115]⟩,.func (.func 97) #[] #[.pointer (some ⟨nk+2,0,none⟩),.pointer (some ⟨nk+3,0,none⟩)]),
  (⟨#[109,97,115,115]⟩,.func (.func 99) #[] #[.pointer (some ⟨nk+1,0,none⟩)]),
  (⟨#[99,111,110,115,116,97,110,116]⟩,.func (.func 97) #[] #[.pointer (some ⟨nk+4,0,none⟩),.pointer (some ⟨nk+5,0,none⟩)]),
  (⟨#[98,111,120]⟩,.func (.func 97) #[] #[.pointer (some ⟨nk+6,0,none⟩),.pointer (some ⟨nk+7,0,none⟩)]),
  (⟨#[116,111,112]⟩,.func (.func 97) #[] #[.pointer (some ⟨nk+8,0,none⟩),.pointer (some ⟨nk+9,0,none⟩)]),
  (⟨#[110,101,97,114]⟩,.func (.func 97) #[] #[.pointer (some ⟨nk+10,0,none⟩),.pointer (some ⟨nk+11,0,none⟩)]),
  (⟨#[109,101,116,104,111,100]⟩,.func (.func 102) #[] #[.pointer (some ⟨nk+1,0,none⟩)])]
def mNs (nk:Nat) (l:List (ByteArray×Value)) (sl:Value) (n:Nat) (g bx tp nr md:Int):List (Nat×Blk):=[(nk,mpB l),(nk+1,cfB sl g bx tp nr md),(nk+2,jb (n:Int)),(nk+3,jb 4),(nk+4,jb g),(nk+5,jb 1048576),(nk+6,jb bx),(nk+7,jb 1048576),(nk+8,jb tp),(nk+9,jb 65536),(nk+10,jb nr),(nk+11,jb (Int.bmod (2*bx) 18446744073709551616))]
def zhy (nk:Nat) (sl:Value) (n:Nat) (g bx tp nr md:Int) (v:Value) (ns:List (Nat×Blk)):Prop:=∃ l,v=.map (some nk)/\ns=mNs nk l sl n g bx tp nr md/\(∀ p∈l,p∈mV nk)/\∀ q∈mV nk,zda q.1 l=some q.2
theorem zgm {s:ByteArray} {h:Value->Value}:∀ l:List (ByteArray×Value),zda s (l.map λp=>(p.1,h p.2))=(zda s l).map h
 | []=>rfl
 | p::l=>by
  simp only [List.map_cons,zda]
  split
  ·rfl
  ·exact zgm l
theorem zta (ρ:Nat->Nat) (l:List (ByteArray×Value)):(mpB l).rn ρ=mpB (l.map λp=>(p.1,zan ρ p.2)):=by
 unfold mpB Blk.rn mpC
 simp only [List.map_toArray,List.map_flatMap,List.flatMap_map,List.map_cons,List.map_nil]
 rfl
def mR (k:Nat):Nat:=if k=1000 then 224 else if k=1001 then 200 else if k=1002 then 264 else if k=1003 then 265 else if k=1004 then 320 else if k=1005 then 321 else if k=1006 then 360 else if k=1007 then 361 else if k=1008 then 400 else if k=1009 then 401 else if k=1010 then 464 else if k=1011 then 465 else k
def mS (k:Nat):Nat:=if k=224 then 1000 else if k=200 then 1001 else if k=264 then 1002 else if k=265 then 1003 else if k=320 then 1004 else if k=321 then 1005 else if k=360 then 1006 else if k=361 then 1007 else if k=400 then 1008 else if k=401 then 1009 else if k=464 then 1010 else if k=465 then 1011 else k
theorem zze (b:Blk) (hb:b.fx) (off n cap:Nat) (g bx tp nr md:Int) :
  FunS prog G0 78 #[cfV (.slice (some ⟨100,off,none⟩) n cap) g bx tp nr md] (hpL G0 [(100,b)]) (zab [(100,b)]) (zhy 1000 (.slice (some ⟨100,off,none⟩) n cap) n g bx tp nr md):=by
 refine zdz (B:=200) G0F func78 rfl call78 (zam hb) ?_ ?_ (by simp [ntmps78]) (by omega) ?_
 ·simp [zap,zau,zaj,zal,zab,cfV]
 ·rintro v ns ⟨l,rfl,rfl,hl,_⟩
  have hl2:∀ D:Nat->Prop,(∀ k,1000<=k->k<1012->D k)->(mpB l).ids D:=λD hD=>zi1.2 λp hp=>by
   have:=hl p hp
   simp only [mV,List.mem_cons,List.not_mem_nil,or_false] at this
   rcases this with rfl|rfl|rfl|rfl|rfl|rfl|rfl<;>simp [zaj,zal,hD]
  refine ⟨by simp [zap,zau,zaj,zal,zc7,zab,mNs],?_,?_⟩
  ·intro p hp
   simp only [mNs,List.mem_cons,List.not_mem_nil,or_false] at hp
   have hD:∀ k,1000<=k->k<1012->zc7 (λk=>k∈zab [(100,b)]) (mNs 1000 l (.slice (some ⟨100,off,none⟩) n cap) n g bx tp nr md) k:=λk hk1 hk2=>.inr (by
    simp only [mNs,zab,List.map_cons,List.map_nil,List.mem_cons,List.not_mem_nil,or_false]
    omega)
   rcases hp with rfl|rfl|rfl|rfl|rfl|rfl|rfl|rfl|rfl|rfl|rfl|rfl
   ·exact ⟨by omega,hl2 _ hD⟩
   ·exact ⟨by omega,by simp [cfB,zae,zaj,zal,zc7,zab]⟩
   all_goals exact ⟨by omega,by simp [jb,zae,zaj,zal]⟩
  ·intro k b c h1 h2
   simp only [mNs,List.mem_cons,List.not_mem_nil,or_false,Prod.mk.injEq] at h1 h2
   rcases h1 with ⟨e1,rfl⟩|⟨e1,rfl⟩|⟨e1,rfl⟩|⟨e1,rfl⟩|⟨e1,rfl⟩|⟨e1,rfl⟩|⟨e1,rfl⟩|⟨e1,rfl⟩|⟨e1,rfl⟩|⟨e1,rfl⟩|⟨e1,rfl⟩|⟨e1,rfl⟩<;>rcases h2 with ⟨e2,rfl⟩|⟨e2,rfl⟩|⟨e2,rfl⟩|⟨e2,rfl⟩|⟨e2,rfl⟩|⟨e2,rfl⟩|⟨e2,rfl⟩|⟨e2,rfl⟩|⟨e2,rfl⟩|⟨e2,rfl⟩|⟨e2,rfl⟩|⟨e2,rfl⟩<;>first|rfl|omega
 intro C hC hC0 hY
 unfold cfV
 repeat' first|refine gwZ ?_|refine gwW ?_|refine gwC ?_ ?_<;>intro hb
 refine z5w follows ?_
 simp only [Array.toList,List.length_cons,List.length_nil,Nat.reduceAdd]
 obtain ⟨sl,hsl⟩:∃ sl,Value.slice (some ⟨100,off,none⟩) n cap=sl:=⟨_,rfl⟩
 refine zwo (MI b sl n g bx tp nr md) (λlisted ts hp hs hr hI=>?_) (λfuel listed ts hp i hs hi hdep h hk=>?_) _ _ _ _ (by simp) (by decide +kernel) ?_
 ·have hall:=zpi hs (by kernel_rfl) hr
  have hall:∀ i,i<36->listed[i]? = some true:=λi hi=>hall i (by simpa using hi)
  obtain ⟨l,l1,l2,l3⟩:=hI.mp (hall 0 (by omega))
  have h2:=hI.tm (35,2,.map (some 224)) (by simp [mT]) (hall 35 (by omega))
  have hinv:∀ q∈mI,zan mR (zan mS q.2.2)=q.2.2:=by simp [mI,zan,zao,mR,mS]
  have hcan:∀ q∈mI,(q.2.1,zan mS q.2.2)∈mV 1000:=by simp [mI,mV,zan,zao,mS]
  have hfind:∀ q∈mV 1000,∃ p∈mI,p.2.1=q.1/\zan mS p.2.2=q.2/\p.1<36:=by
   intro q hq
   simp only [mV,List.mem_cons,List.not_mem_nil,or_false] at hq
   rcases hq with rfl|rfl|rfl|rfl|rfl|rfl|rfl
   ·exact ⟨(6,⟨#[98,111,100,105,101,115]⟩,.func (.func 97) #[] #[.pointer (some ⟨264,0,none⟩),.pointer (some ⟨265,0,none⟩)]),by simp [mI],rfl,by simp [zan,zao,mS],by omega⟩
   ·exact ⟨(8,⟨#[109,97,115,115]⟩,.func (.func 99) #[] #[.pointer (some ⟨200,0,none⟩)]),by simp [mI],rfl,by simp [zan,zao,mS],by omega⟩
   ·exact ⟨(13,⟨#[99,111,110,115,116,97,110,116]⟩,.func (.func 97) #[] #[.pointer (some ⟨320,0,none⟩),.pointer (some ⟨321,0,none⟩)]),by simp [mI],rfl,by simp [zan,zao,mS],by omega⟩
   ·exact ⟨(18,⟨#[98,111,120]⟩,.func (.func 97) #[] #[.pointer (some ⟨360,0,none⟩),.pointer (some ⟨361,0,none⟩)]),by simp [mI],rfl,by simp [zan,zao,mS],by omega⟩
   ·exact ⟨(23,⟨#[116,111,112]⟩,.func (.func 97) #[] #[.pointer (some ⟨400,0,none⟩),.pointer (some ⟨401,0,none⟩)]),by simp [mI],rfl,by simp [zan,zao,mS],by omega⟩
   ·exact ⟨(31,⟨#[110,101,97,114]⟩,.func (.func 97) #[] #[.pointer (some ⟨464,0,none⟩),.pointer (some ⟨465,0,none⟩)]),by simp [mI],rfl,by simp [zan,zao,mS],by omega⟩
   ·exact ⟨(33,⟨#[109,101,116,104,111,100]⟩,.func (.func 102) #[] #[.pointer (some ⟨200,0,none⟩)]),by simp [mI],rfl,by simp [zan,zao,mS],by omega⟩
  simp only [zca]
  refine zwu ?_
  refine ⟨.inr rfl,zdc G0F (by simp [hI.b]) (λk hk=>(hI.low k hk).trans (za6 (by simp) hk).symm),_,_,mR,⟨l.map λp=>(p.1,zan mS p.2),rfl,rfl,λp hp=>?_,λq hq=>?_⟩,λk hk=>?_,?_,?_,?_,?_⟩
  ·obtain ⟨p0,hp0,rfl⟩:=List.mem_map.1 hp
   obtain ⟨q,hq,rfl,_⟩:=l2 p0 hp0
   exact hcan q hq
  ·obtain ⟨p,hp,e1,e2,hlt⟩:=hfind q hq
   rw [zgm,<-e1,l3 p hp (hall _ hlt),<-e2]
   rfl
  ·unfold mR
   iterate 12 rw [if_neg (by omega)]
  ·simp [mNs,mR]
  ·simp [mNs,mR]
  ·simp [results78,h2,ren,zas,zan,zao,mR]
   rfl
  ·subst hsl
   have hbx:=hI.bx
   have hm:(mpB (l.map λp=>(p.1,zan mS p.2))).rn mR=mpB l:=by
    rw [zta,List.map_map]
    congr 1
    conv=>rhs;rw [<-List.map_id l]
    refine List.map_congr_left λp hp=>?_
    obtain ⟨q,hq,rfl,_⟩:=l2 p hp
    simp only [Function.comp_def,id]
    rw [hinv q hq]
   intro p hp
   simp only [mNs,List.mem_cons,List.not_mem_nil,or_false] at hp
   rcases hp with rfl|rfl|rfl|rfl|rfl|rfl|rfl|rfl|rfl|rfl|rfl|rfl
   ·show hp (mR 1000)=some ((mpB _).rn mR)
    rw [hm]
    exact l1
   ·show hp 200=some ((cfB _ g bx tp nr md).rn mR)
    rw [hI.c]
    simp [cfB,Blk.rn,zan,zao,mR]
   ·show hp 264=some ((jb (n:Int)).rn mR)
    rw [zb5]
    exact hbx (5,264,jb (n:Int)) (by simp [mX]) (hall 5 (by omega))
   ·show hp 265=some ((jb 4).rn mR)
    rw [zb5]
    exact hbx (5,265,jb 4) (by simp [mX]) (hall 5 (by omega))
   ·show hp 320=some ((jb g).rn mR)
    rw [zb5]
    exact hbx (12,320,jb g) (by simp [mX]) (hall 12 (by omega))
   ·show hp 321=some ((jb 1048576).rn mR)
    rw [zb5]
    exact hbx (12,321,jb 1048576) (by simp [mX]) (hall 12 (by omega))
   ·show hp 360=some ((jb bx).rn mR)
    rw [zb5]
    exact hbx (17,360,jb bx) (by simp [mX]) (hall 17 (by omega))
   ·show hp 361=some ((jb 1048576).rn mR)
    rw [zb5]
    exact hbx (17,361,jb 1048576) (by simp [mX]) (hall 17 (by omega))
   ·show hp 400=some ((jb tp).rn mR)
    rw [zb5]
    exact hbx (22,400,jb tp) (by simp [mX]) (hall 22 (by omega))
   ·show hp 401=some ((jb 65536).rn mR)
    rw [zb5]
    exact hbx (22,401,jb 65536) (by simp [mX]) (hall 22 (by omega))
   ·show hp 464=some ((jb nr).rn mR)
    rw [zb5]
    exact hbx (30,464,jb nr) (by simp [mX]) (hall 30 (by omega))
   ·show hp 465=some ((jb (Int.bmod (2*bx) 18446744073709551616)).rn mR)
    rw [zb5]
    exact hbx (30,465,jb (Int.bmod (2*bx) 18446744073709551616)) (by simp [mX]) (hall 30 (by omega))
 ·have hlt:i<36:=by
   have:=(Array.getElem?_eq_some_iff.1 hi).1
   rw [hs] at this
   simpa using this
  subst hsl
  obtain rfl|rfl|rfl|rfl|rfl|rfl|rfl|rfl|rfl|rfl|rfl|rfl|rfl|rfl|rfl|rfl|rfl|rfl|rfl|rfl|rfl|rfl|rfl|rfl|rfl|rfl|rfl|rfl|rfl|rfl|rfl|rfl|rfl|rfl|rfl|rfl:i=0\/i=1\/i=2\/i=3\/i=4\/i=5\/i=6\/i=7\/i=8\/i=9\/i=10\/i=11\/i=12\/i=13\/i=14\/i=15\/i=16\/i=17\/i=18\/i=19\/i=20\/i=21\/i=22\/i=23\/i=24\/i=25\/i=26\/i=27\/i=28\/i=29\/i=30\/i=31\/i=32\/i=33\/i=34\/i=35:=by omega
  ·-- 0 map
   have f0:=h.t1
   have f1:=h.t3
   refine gwo ?_;intro Q hQ;simp [hC,hY,f0,f1];apply hQ
   exact hk _ _ (h.mkm hi)
  ·-- 1 mv
   have f0:=h.t1
   have f1:=h.t3
   refine gwo ?_;intro Q hQ;simp [hC,hY,f0,f1];apply hQ
   exact hk _ _ (h.tmp (i:=1) (t:=5) (by simp [mT]) (by simp [mX]) (by omega))
  ·-- 2 fa
   have f0:=h.t1
   have f1:=h.t3
   refine gwo ?_;intro Q hQ;simp [hC,hY,f0,f1];apply hQ
   exact hk _ _ (h.tmp (i:=2) (t:=6) (by simp [mT]) (by simp [mX]) (by omega))
  ·-- 3 ld
   have hd:∀ j∈[2],listed[j]? = some true:=by
    have hd0:=hdep _ rfl
    simp [Region.binds] at hd0
    simp [hd0]
   have f0:=h.t1
   have f1:=h.t3
   have f2:=h.tm (2,6,.pointer (some ⟨200,0,none⟩)) (by simp [mT]) (hd 2 (by simp))
   have fc:=h.c
   unfold cfB at fc
   refine gwo ?_;intro Q hQ;simp [hC,hY,f0,f1,f2,fc];apply hQ
   exact hk _ _ (h.tmp (i:=3) (t:=7) (by simp [mT]) (by simp [mX]) (by omega))
  ·-- 4 len
   have hd:∀ j∈[3],listed[j]? = some true:=by
    have hd0:=hdep _ rfl
    simp [Region.binds] at hd0
    simp [hd0]
   have f0:=h.t1
   have f1:=h.t3
   have f2:=h.tm (3,7,.slice (some ⟨100,off,none⟩) n cap) (by simp [mT]) (hd 3 (by simp))
   refine gwo ?_;intro Q hQ;simp [hC,hY,f0,f1,f2];apply hQ
   exact hk _ _ (h.tmp (i:=4) (t:=8) (by simp [mT]) (by simp [mX]) (by omega))
  ·-- 5 call
   have hd:∀ j∈[1,4],listed[j]? = some true:=by
    have hd0:=hdep _ rfl
    simp [Region.binds] at hd0
    simp [hd0]
   have f0:=h.t1
   have f1:=h.t3
   have f2:=h.tm (1,5,.func (.func 96) #[] #[]) (by simp [mT]) (hd 1 (by simp))
   have f3:=h.tm (4,8,.int .i64 n) (by simp [mT]) (hd 4 (by simp))
   refine zea (f:=.tmp 5) (cap:=#[]) hC (zhj 264 (by omega) (n:Int) 4) rfl hi rfl (by simp [ntmps78]) rfl rfl (by simp [okT,f0,f1,f2,f3]) (by simp [gev,f0,f1,f2,f3]) (by simp) (by simp [okX,zbz,f0,f1,f2,f3]) (by simp [gev,f0,f1,f2,f3]) (by simp) (λq hq=>(h.low q hq).symm▸(by simp)) ?_ ?_
   ·intro v ns hV k hk
    have:=zed hV k hk
    omega
   rintro v ns ⟨rfl,rfl⟩
   exact hk _ _ (h.call (i:=5) (t:=9) (by simp [mT]) (by omega) (by omega) (by simp [mX]))
  ·-- 6 ins
   have hd:∀ j∈[0,5],listed[j]? = some true:=by
    have hd0:=hdep _ rfl
    simp [Region.binds] at hd0
    simp [hd0]
   have f0:=h.t1
   have f1:=h.t3
   have f2:=h.tm (0,4,.map (some 224)) (by simp [mT]) (hd 0 (by simp))
   have f3:=h.tm (5,9,.func (.func 97) #[] #[.pointer (some ⟨264,0,none⟩),.pointer (some ⟨265,0,none⟩)]) (by simp [mT]) (hd 5 (by simp))
   obtain ⟨l,l1,l2,l3⟩:=h.mp (hd 0 (by simp))
   have hm:(6,⟨#[98,111,100,105,101,115]⟩,.func (.func 97) #[] #[.pointer (some ⟨264,0,none⟩),.pointer (some ⟨265,0,none⟩)])∈mI:=by simp [mI]
   have hn:=h.fresh hm hi l2
   refine gwo ?_;intro Q hQ;simp [hC,hY,f0,f1,f2,f3,l1,hn];apply hQ
   exact hk _ _ (h.ins hm (Array.getElem?_eq_some_iff.1 hi).1 l2 l3 hn (hd 0 (by simp)))
  ·-- 7 mk
   have f0:=h.t1
   have f1:=h.t3
   refine gwo ?_;intro Q hQ;simp [hC,hY,f0,f1];apply hQ
   exact hk _ _ (h.tmp (i:=7) (t:=10) (by simp [mT]) (by simp [mX]) (by omega))
  ·-- 8 ins
   have hd:∀ j∈[0,7],listed[j]? = some true:=by
    have hd0:=hdep _ rfl
    simp [Region.binds] at hd0
    simp [hd0]
   have f0:=h.t1
   have f1:=h.t3
   have f2:=h.tm (0,4,.map (some 224)) (by simp [mT]) (hd 0 (by simp))
   have f3:=h.tm (7,10,.func (.func 99) #[] #[.pointer (some ⟨200,0,none⟩)]) (by simp [mT]) (hd 7 (by simp))
   obtain ⟨l,l1,l2,l3⟩:=h.mp (hd 0 (by simp))
   have hm:(8,⟨#[109,97,115,115]⟩,.func (.func 99) #[] #[.pointer (some ⟨200,0,none⟩)])∈mI:=by simp [mI]
   have hn:=h.fresh hm hi l2
   refine gwo ?_;intro Q hQ;simp [hC,hY,f0,f1,f2,f3,l1,hn];apply hQ
   exact hk _ _ (h.ins hm (Array.getElem?_eq_some_iff.1 hi).1 l2 l3 hn (hd 0 (by simp)))
  ·-- 9 mv
   have f0:=h.t1
   have f1:=h.t3
   refine gwo ?_;intro Q hQ;simp [hC,hY,f0,f1];apply hQ
   exact hk _ _ (h.tmp (i:=9) (t:=11) (by simp [mT]) (by simp [mX]) (by omega))
  ·-- 10 fa
   have f0:=h.t1
   have f1:=h.t3
   refine gwo ?_;intro Q hQ;simp [hC,hY,f0,f1];apply hQ
   exact hk _ _ (h.tmp (i:=10) (t:=12) (by simp [mT]) (by simp [mX]) (by omega))
  ·-- 11 ld
   have hd:∀ j∈[10],listed[j]? = some true:=by
    have hd0:=hdep _ rfl
    simp [Region.binds] at hd0
    simp [hd0]
   have f0:=h.t1
   have f1:=h.t3
   have f2:=h.tm (10,12,.pointer (some ⟨200,1,none⟩)) (by simp [mT]) (hd 10 (by simp))
   have fc:=h.c
   unfold cfB at fc
   refine gwo ?_;intro Q hQ;simp [hC,hY,f0,f1,f2,fc];apply hQ
   exact hk _ _ (h.tmp (i:=11) (t:=13) (by simp [mT]) (by simp [mX]) (by omega))
  ·-- 12 call
   have hd:∀ j∈[9,11],listed[j]? = some true:=by
    have hd0:=hdep _ rfl
    simp [Region.binds] at hd0
    simp [hd0]
   have f0:=h.t1
   have f1:=h.t3
   have f2:=h.tm (9,11,.func (.func 96) #[] #[]) (by simp [mT]) (hd 9 (by simp))
   have f3:=h.tm (11,13,.int .i64 g) (by simp [mT]) (hd 11 (by simp))
   refine zea (f:=.tmp 11) (cap:=#[]) hC (zhj 320 (by omega) g 1048576) rfl hi rfl (by simp [ntmps78]) rfl rfl (by simp [okT,f0,f1,f2,f3]) (by simp [gev,f0,f1,f2,f3]) (by simp) (by simp [okX,zbz,f0,f1,f2,f3]) (by simp [gev,f0,f1,f2,f3]) (by simp) (λq hq=>(h.low q hq).symm▸(by simp)) ?_ ?_
   ·intro v ns hV k hk
    have:=zed hV k hk
    omega
   rintro v ns ⟨rfl,rfl⟩
   exact hk _ _ (h.call (i:=12) (t:=14) (by simp [mT]) (by omega) (by omega) (by simp [mX]))
  ·-- 13 ins
   have hd:∀ j∈[0,12],listed[j]? = some true:=by
    have hd0:=hdep _ rfl
    simp [Region.binds] at hd0
    simp [hd0]
   have f0:=h.t1
   have f1:=h.t3
   have f2:=h.tm (0,4,.map (some 224)) (by simp [mT]) (hd 0 (by simp))
   have f3:=h.tm (12,14,.func (.func 97) #[] #[.pointer (some ⟨320,0,none⟩),.pointer (some ⟨321,0,none⟩)]) (by simp [mT]) (hd 12 (by simp))
   obtain ⟨l,l1,l2,l3⟩:=h.mp (hd 0 (by simp))
   have hm:(13,⟨#[99,111,110,115,116,97,110,116]⟩,.func (.func 97) #[] #[.pointer (some ⟨320,0,none⟩),.pointer (some ⟨321,0,none⟩)])∈mI:=by simp [mI]
   have hn:=h.fresh hm hi l2
   refine gwo ?_;intro Q hQ;simp [hC,hY,f0,f1,f2,f3,l1,hn];apply hQ
   exact hk _ _ (h.ins hm (Array.getElem?_eq_some_iff.1 hi).1 l2 l3 hn (hd 0 (by simp)))
  ·-- 14 mv
   have f0:=h.t1
   have f1:=h.t3
   refine gwo ?_;intro Q hQ;simp [hC,hY,f0,f1];apply hQ
   exact hk _ _ (h.tmp (i:=14) (t:=15) (by simp [mT]) (by simp [mX]) (by omega))
  ·-- 15 fa
   have f0:=h.t1
   have f1:=h.t3
   refine gwo ?_;intro Q hQ;simp [hC,hY,f0,f1];apply hQ
   exact hk _ _ (h.tmp (i:=15) (t:=16) (by simp [mT]) (by simp [mX]) (by omega))
  ·-- 16 ld
   have hd:∀ j∈[15],listed[j]? = some true:=by
    have hd0:=hdep _ rfl
    simp [Region.binds] at hd0
    simp [hd0]
   have f0:=h.t1
   have f1:=h.t3
   have f2:=h.tm (15,16,.pointer (some ⟨200,2,none⟩)) (by simp [mT]) (hd 15 (by simp))
   have fc:=h.c
   unfold cfB at fc
   refine gwo ?_;intro Q hQ;simp [hC,hY,f0,f1,f2,fc];apply hQ
   exact hk _ _ (h.tmp (i:=16) (t:=17) (by simp [mT]) (by simp [mX]) (by omega))
  ·-- 17 call
   have hd:∀ j∈[14,16],listed[j]? = some true:=by
    have hd0:=hdep _ rfl
    simp [Region.binds] at hd0
    simp [hd0]
   have f0:=h.t1
   have f1:=h.t3
   have f2:=h.tm (14,15,.func (.func 96) #[] #[]) (by simp [mT]) (hd 14 (by simp))
   have f3:=h.tm (16,17,.int .i64 bx) (by simp [mT]) (hd 16 (by simp))
   refine zea (f:=.tmp 15) (cap:=#[]) hC (zhj 360 (by omega) bx 1048576) rfl hi rfl (by simp [ntmps78]) rfl rfl (by simp [okT,f0,f1,f2,f3]) (by simp [gev,f0,f1,f2,f3]) (by simp) (by simp [okX,zbz,f0,f1,f2,f3]) (by simp [gev,f0,f1,f2,f3]) (by simp) (λq hq=>(h.low q hq).symm▸(by simp)) ?_ ?_
   ·intro v ns hV k hk
    have:=zed hV k hk
    omega
   rintro v ns ⟨rfl,rfl⟩
   exact hk _ _ (h.call (i:=17) (t:=18) (by simp [mT]) (by omega) (by omega) (by simp [mX]))
  ·-- 18 ins
   have hd:∀ j∈[0,17],listed[j]? = some true:=by
    have hd0:=hdep _ rfl
    simp [Region.binds] at hd0
    simp [hd0]
   have f0:=h.t1
   have f1:=h.t3
   have f2:=h.tm (0,4,.map (some 224)) (by simp [mT]) (hd 0 (by simp))
   have f3:=h.tm (17,18,.func (.func 97) #[] #[.pointer (some ⟨360,0,none⟩),.pointer (some ⟨361,0,none⟩)]) (by simp [mT]) (hd 17 (by simp))
   obtain ⟨l,l1,l2,l3⟩:=h.mp (hd 0 (by simp))
   have hm:(18,⟨#[98,111,120]⟩,.func (.func 97) #[] #[.pointer (some ⟨360,0,none⟩),.pointer (some ⟨361,0,none⟩)])∈mI:=by simp [mI]
   have hn:=h.fresh hm hi l2
   refine gwo ?_;intro Q hQ;simp [hC,hY,f0,f1,f2,f3,l1,hn];apply hQ
   exact hk _ _ (h.ins hm (Array.getElem?_eq_some_iff.1 hi).1 l2 l3 hn (hd 0 (by simp)))
  ·-- 19 mv
   have f0:=h.t1
   have f1:=h.t3
   refine gwo ?_;intro Q hQ;simp [hC,hY,f0,f1];apply hQ
   exact hk _ _ (h.tmp (i:=19) (t:=19) (by simp [mT]) (by simp [mX]) (by omega))
  ·-- 20 fa
   have f0:=h.t1
   have f1:=h.t3
   refine gwo ?_;intro Q hQ;simp [hC,hY,f0,f1];apply hQ
   exact hk _ _ (h.tmp (i:=20) (t:=20) (by simp [mT]) (by simp [mX]) (by omega))
  ·-- 21 ld
   have hd:∀ j∈[20],listed[j]? = some true:=by
    have hd0:=hdep _ rfl
    simp [Region.binds] at hd0
    simp [hd0]
   have f0:=h.t1
   have f1:=h.t3
   have f2:=h.tm (20,20,.pointer (some ⟨200,3,none⟩)) (by simp [mT]) (hd 20 (by simp))
   have fc:=h.c
   unfold cfB at fc
   refine gwo ?_;intro Q hQ;simp [hC,hY,f0,f1,f2,fc];apply hQ
   exact hk _ _ (h.tmp (i:=21) (t:=21) (by simp [mT]) (by simp [mX]) (by omega))
  ·-- 22 call
   have hd:∀ j∈[19,21],listed[j]? = some true:=by
    have hd0:=hdep _ rfl
    simp [Region.binds] at hd0
    simp [hd0]
   have f0:=h.t1
   have f1:=h.t3
   have f2:=h.tm (19,19,.func (.func 96) #[] #[]) (by simp [mT]) (hd 19 (by simp))
   have f3:=h.tm (21,21,.int .i64 tp) (by simp [mT]) (hd 21 (by simp))
   refine zea (f:=.tmp 19) (cap:=#[]) hC (zhj 400 (by omega) tp 65536) rfl hi rfl (by simp [ntmps78]) rfl rfl (by simp [okT,f0,f1,f2,f3]) (by simp [gev,f0,f1,f2,f3]) (by simp) (by simp [okX,zbz,f0,f1,f2,f3]) (by simp [gev,f0,f1,f2,f3]) (by simp) (λq hq=>(h.low q hq).symm▸(by simp)) ?_ ?_
   ·intro v ns hV k hk
    have:=zed hV k hk
    omega
   rintro v ns ⟨rfl,rfl⟩
   exact hk _ _ (h.call (i:=22) (t:=22) (by simp [mT]) (by omega) (by omega) (by simp [mX]))
  ·-- 23 ins
   have hd:∀ j∈[0,22],listed[j]? = some true:=by
    have hd0:=hdep _ rfl
    simp [Region.binds] at hd0
    simp [hd0]
   have f0:=h.t1
   have f1:=h.t3
   have f2:=h.tm (0,4,.map (some 224)) (by simp [mT]) (hd 0 (by simp))
   have f3:=h.tm (22,22,.func (.func 97) #[] #[.pointer (some ⟨400,0,none⟩),.pointer (some ⟨401,0,none⟩)]) (by simp [mT]) (hd 22 (by simp))
   obtain ⟨l,l1,l2,l3⟩:=h.mp (hd 0 (by simp))
   have hm:(23,⟨#[116,111,112]⟩,.func (.func 97) #[] #[.pointer (some ⟨400,0,none⟩),.pointer (some ⟨401,0,none⟩)])∈mI:=by simp [mI]
   have hn:=h.fresh hm hi l2
   refine gwo ?_;intro Q hQ;simp [hC,hY,f0,f1,f2,f3,l1,hn];apply hQ
   exact hk _ _ (h.ins hm (Array.getElem?_eq_some_iff.1 hi).1 l2 l3 hn (hd 0 (by simp)))
  ·-- 24 mv
   have f0:=h.t1
   have f1:=h.t3
   refine gwo ?_;intro Q hQ;simp [hC,hY,f0,f1];apply hQ
   exact hk _ _ (h.tmp (i:=24) (t:=23) (by simp [mT]) (by simp [mX]) (by omega))
  ·-- 25 fa
   have f0:=h.t1
   have f1:=h.t3
   refine gwo ?_;intro Q hQ;simp [hC,hY,f0,f1];apply hQ
   exact hk _ _ (h.tmp (i:=25) (t:=24) (by simp [mT]) (by simp [mX]) (by omega))
  ·-- 26 ld
   have hd:∀ j∈[25],listed[j]? = some true:=by
    have hd0:=hdep _ rfl
    simp [Region.binds] at hd0
    simp [hd0]
   have f0:=h.t1
   have f1:=h.t3
   have f2:=h.tm (25,24,.pointer (some ⟨200,4,none⟩)) (by simp [mT]) (hd 25 (by simp))
   have fc:=h.c
   unfold cfB at fc
   refine gwo ?_;intro Q hQ;simp [hC,hY,f0,f1,f2,fc];apply hQ
   exact hk _ _ (h.tmp (i:=26) (t:=25) (by simp [mT]) (by simp [mX]) (by omega))
  ·-- 27 fa
   have f0:=h.t1
   have f1:=h.t3
   refine gwo ?_;intro Q hQ;simp [hC,hY,f0,f1];apply hQ
   exact hk _ _ (h.tmp (i:=27) (t:=26) (by simp [mT]) (by simp [mX]) (by omega))
  ·-- 28 ld
   have hd:∀ j∈[27],listed[j]? = some true:=by
    have hd0:=hdep _ rfl
    simp [Region.binds] at hd0
    simp [hd0]
   have f0:=h.t1
   have f1:=h.t3
   have f2:=h.tm (27,26,.pointer (some ⟨200,2,none⟩)) (by simp [mT]) (hd 27 (by simp))
   have fc:=h.c
   unfold cfB at fc
   refine gwo ?_;intro Q hQ;simp [hC,hY,f0,f1,f2,fc];apply hQ
   exact hk _ _ (h.tmp (i:=28) (t:=27) (by simp [mT]) (by simp [mX]) (by omega))
  ·-- 29 mul
   have hd:∀ j∈[28],listed[j]? = some true:=by
    have hd0:=hdep _ rfl
    simp [Region.binds] at hd0
    simp [hd0]
   have f0:=h.t1
   have f1:=h.t3
   have f2:=h.tm (28,27,.int .i64 bx) (by simp [mT]) (hd 28 (by simp))
   refine gwo ?_;intro Q hQ;simp [hC,hY,f0,f1,f2];apply hQ
   exact hk _ _ (h.tmp (i:=29) (t:=28) (by simp [mT]) (by simp [mX]) (by omega))
  ·-- 30 call
   have hd:∀ j∈[24,26,29],listed[j]? = some true:=by
    have hd0:=hdep _ rfl
    simp [Region.binds] at hd0
    simp [hd0]
   have f0:=h.t1
   have f1:=h.t3
   have f2:=h.tm (24,23,.func (.func 96) #[] #[]) (by simp [mT]) (hd 24 (by simp))
   have f3:=h.tm (26,25,.int .i64 nr) (by simp [mT]) (hd 26 (by simp))
   have f4:=h.tm (29,28,.int .i64 (Int.bmod (2*bx) 18446744073709551616)) (by simp [mT]) (hd 29 (by simp))
   refine zea (f:=.tmp 23) (cap:=#[]) hC (zhj 464 (by omega) nr (Int.bmod (2*bx) 18446744073709551616)) rfl hi rfl (by simp [ntmps78]) rfl rfl (by simp [okT,f0,f1,f2,f3,f4]) (by simp [gev,f0,f1,f2,f3,f4]) (by simp) (by simp [okX,zbz,f0,f1,f2,f3,f4]) (by simp [gev,f0,f1,f2,f3,f4]) (by simp) (λq hq=>(h.low q hq).symm▸(by simp)) ?_ ?_
   ·intro v ns hV k hk
    have:=zed hV k hk
    omega
   rintro v ns ⟨rfl,rfl⟩
   exact hk _ _ (h.call (i:=30) (t:=29) (by simp [mT]) (by omega) (by omega) (by simp [mX]))
  ·-- 31 ins
   have hd:∀ j∈[0,30],listed[j]? = some true:=by
    have hd0:=hdep _ rfl
    simp [Region.binds] at hd0
    simp [hd0]
   have f0:=h.t1
   have f1:=h.t3
   have f2:=h.tm (0,4,.map (some 224)) (by simp [mT]) (hd 0 (by simp))
   have f3:=h.tm (30,29,.func (.func 97) #[] #[.pointer (some ⟨464,0,none⟩),.pointer (some ⟨465,0,none⟩)]) (by simp [mT]) (hd 30 (by simp))
   obtain ⟨l,l1,l2,l3⟩:=h.mp (hd 0 (by simp))
   have hm:(31,⟨#[110,101,97,114]⟩,.func (.func 97) #[] #[.pointer (some ⟨464,0,none⟩),.pointer (some ⟨465,0,none⟩)])∈mI:=by simp [mI]
   have hn:=h.fresh hm hi l2
   refine gwo ?_;intro Q hQ;simp [hC,hY,f0,f1,f2,f3,l1,hn];apply hQ
   exact hk _ _ (h.ins hm (Array.getElem?_eq_some_iff.1 hi).1 l2 l3 hn (hd 0 (by simp)))
  ·-- 32 mk
   have f0:=h.t1
   have f1:=h.t3
   refine gwo ?_;intro Q hQ;simp [hC,hY,f0,f1];apply hQ
   exact hk _ _ (h.tmp (i:=32) (t:=30) (by simp [mT]) (by simp [mX]) (by omega))
  ·-- 33 ins
   have hd:∀ j∈[0,32],listed[j]? = some true:=by
    have hd0:=hdep _ rfl
    simp [Region.binds] at hd0
    simp [hd0]
   have f0:=h.t1
   have f1:=h.t3
   have f2:=h.tm (0,4,.map (some 224)) (by simp [mT]) (hd 0 (by simp))
   have f3:=h.tm (32,30,.func (.func 102) #[] #[.pointer (some ⟨200,0,none⟩)]) (by simp [mT]) (hd 32 (by simp))
   obtain ⟨l,l1,l2,l3⟩:=h.mp (hd 0 (by simp))
   have hm:(33,⟨#[109,101,116,104,111,100]⟩,.func (.func 102) #[] #[.pointer (some ⟨200,0,none⟩)])∈mI:=by simp [mI]
   have hn:=h.fresh hm hi l2
   refine gwo ?_;intro Q hQ;simp [hC,hY,f0,f1,f2,f3,l1,hn];apply hQ
   exact hk _ _ (h.ins hm (Array.getElem?_eq_some_iff.1 hi).1 l2 l3 hn (hd 0 (by simp)))
  ·-- 34 mv
   have hd:∀ j∈[0],listed[j]? = some true:=by
    have hd0:=hdep _ rfl
    simp [Region.binds] at hd0
    simp [hd0]
   have f0:=h.t1
   have f1:=h.t3
   have f2:=h.tm (0,4,.map (some 224)) (by simp [mT]) (hd 0 (by simp))
   refine gwo ?_;intro Q hQ;simp [hC,hY,f0,f1,f2];apply hQ
   exact hk _ _ (h.tmp (i:=34) (t:=31) (by simp [mT]) (by simp [mX]) (by omega))
  ·-- 35 asg
   have hd:∀ j∈[34],listed[j]? = some true:=by
    have hd0:=hdep _ rfl
    simp [Region.binds] at hd0
    simp [hd0]
   have f0:=h.t1
   have f1:=h.t3
   have f2:=h.tm (34,31,.map (some 224)) (by simp [mT]) (hd 34 (by simp))
   refine gwo ?_;intro Q hQ;simp [hC,hY,f0,f1,f2];apply hQ
   exact hk _ _ (h.tmp (i:=35) (t:=2) (by simp [mT]) (by simp [mX]) (by omega))
 ·have hno:∀ j,(Array.replicate 36 false)[j]?≠some true:=λj=>by
   rw [Array.getElem?_replicate]
   split<;>simp
  exact ⟨by simp,by simp,λp hp hl=>absurd hl (hno _),λk hk=>by rw [zaa _ _ (by omega)];exact za6 (by simp) hk,by simp,by simp [cfB,hsl],λq hq hl=>absurd hl (hno _),λhl=>absurd hl (hno _),λq hq hl=>absurd hl (hno _)⟩
def zgf (n:Nat) (f:Nat->Int) (g bx tp nr md:Int):ByteArray :=
 if wiB n 1 4=false then ⟨#[98,111,100,105,101,115]⟩ else if zp6 f n=false then ⟨#[109,97,115,115]⟩ else if wiB g 1 1048576=false then ⟨#[99,111,110,115,116,97,110,116]⟩ else if wiB bx 1 1048576=false then ⟨#[98,111,120]⟩ else
  if wiB tp 1 65536=false then ⟨#[116,111,112]⟩ else if wiB nr 1 (Int.bmod (2*bx) 18446744073709551616)=false then ⟨#[110,101,97,114]⟩ else if wiB md 0 4=false then ⟨#[109,101,116,104,111,100]⟩ else ⟨#[]⟩
def mQ (nk k:Nat):Nat:=if 1000<=k then (if k<1012 then k - 1000+nk else k) else k
theorem zdt {nk n:Nat} {sl:Value} {g bx tp nr md:Int} {v:Value} {ns:List (Nat×Blk)} (h:zhy nk sl n g bx tp nr md v ns):∀ k∈zab ns,nk<=k/\k<nk+12:=by
 obtain ⟨l,rfl,rfl,_⟩:=h
 intro k hk
 simp [zab,mNs] at hk
 omega
theorem zo7 (nk j:Nat) (hj:j<12):mQ nk (1000+j)=nk+j:=by
 unfold mQ
 rw [if_pos (by omega),if_pos (by omega)]
 omega
theorem zl6 (nk k:Nat) (hk:k<1000):mQ nk k=k:=by
 unfold mQ
 rw [if_neg (by omega)]
theorem zte {nk n off cap:Nat} {g bx tp nr md:Int} {v:Value} {ns:List (Nat×Blk)} (h:RR (mQ nk) (zhy 1000 (.slice (some ⟨100,off,none⟩) n cap) n g bx tp nr md) v ns):zhy nk (.slice (some ⟨100,off,none⟩) n cap) n g bx tp nr md v ns:=by
 obtain ⟨v0,ns0,⟨l,rfl,rfl,hl,hf⟩,rfl,rfl⟩:=h
 have e:=zo7 nk
 have e0:=e 0 (by omega)
 have e1:=e 1 (by omega)
 have e2:=e 2 (by omega)
 have e3:=e 3 (by omega)
 have e4:=e 4 (by omega)
 have e5:=e 5 (by omega)
 have e6:=e 6 (by omega)
 have e7:=e 7 (by omega)
 have e8:=e 8 (by omega)
 have e9:=e 9 (by omega)
 have e10:=e 10 (by omega)
 have e11:=e 11 (by omega)
 simp only [Nat.reduceAdd,Nat.add_zero] at e0 e1 e2 e3 e4 e5 e6 e7 e8 e9 e10 e11
 have h100:=zl6 nk 100 (by omega)
 have hmv:∀ q∈mV 1000,(q.1,zan (mQ nk) q.2)∈mV nk:=by
  simp [mV,zan,zao,e1,e2,e3,e4,e5,e6,e7,e8,e9,e10,e11]
 have hvm:∀ q∈mV nk,∃ p∈mV 1000,p.1=q.1/\zan (mQ nk) p.2=q.2:=by
  simp [mV,zan,zao,e1,e2,e3,e4,e5,e6,e7,e8,e9,e10,e11]
 refine ⟨l.map λp=>(p.1,zan (mQ nk) p.2),by simp [ren,zas,zan,zao,e0],?_,λp hp=>?_,λq hq=>?_⟩
 ·have hc:(cfB (.slice (some ⟨100,off,none⟩) n cap) g bx tp nr md).rn (mQ nk)=cfB (.slice (some ⟨100,off,none⟩) n cap) g bx tp nr md:=by simp [cfB,Blk.rn,zan,zao,h100]
  simp only [rnL,mNs,List.map_cons,List.map_nil,zta,zb5,hc,Nat.reduceAdd,e0,e1,e2,e3,e4,e5,e6,e7,e8,e9,e10,e11]
 ·obtain ⟨p0,hp0,rfl⟩:=List.mem_map.1 hp
  exact hmv _ (hl _ hp0)
 ·obtain ⟨p,hp,h1,h2⟩:=hvm q hq
  rw [zgm,<-h1,hf p hp,<-h2]
  rfl
theorem z31 (nk:Nat) (hnk:200<=nk) (b:Blk) (hb:b.fx) (off n cap:Nat) (g bx tp nr md:Int) :
  FunS prog G0 78 #[cfV (.slice (some ⟨100,off,none⟩) n cap) g bx tp nr md] (hpL G0 [(100,b)]) [100] (RR (mQ nk) (zhy 1000 (.slice (some ⟨100,off,none⟩) n cap) n g bx tp nr md)):=by
 have hr:=λρ=>Blk.fx_rn hb ρ
 have h100:=zl6 nk 100 (by omega)
 refine (zze b hb off n cap g bx tp nr md).mvL G0F (zam hb) (mQ nk) (λk hk=>zl6 nk k (by omega)) (by simp [cfV,ren,zas,zan,zao,h100]) (by simp [zab,h100]) rfl (zam hb).low (by simp [h100,hr]) (by simp [zab]) (λv ns hV k hk=>?_) (λv ns hV k hk l hl e=>?_)
 ·have h1:=zdt hV k hk
  obtain ⟨j,hj,rfl⟩:∃ j,j<12/\k=1000+j:=⟨k - 1000,by omega,by omega⟩
  rw [zo7 nk j hj]
  simp
  omega
 ·have h1:=zdt hV k hk
  have h2:=zdt hV l hl
  obtain ⟨j,hj,rfl⟩:∃ j,j<12/\k=1000+j:=⟨k - 1000,by omega,by omega⟩
  obtain ⟨i,hi,rfl⟩:∃ j,j<12/\l=1000+j:=⟨l - 1000,by omega,by omega⟩
  rw [zo7 nk j hj,zo7 nk i hi] at e
  omega
theorem z1g (b:Blk) (off n cap:Nat) (f:Nat->Int) (h:MB b off n f) (g bx tp nr md:Int) :
  Fun prog G0 55 #[cfV (.slice (some ⟨100,off,none⟩) n cap) g bx tp nr md] (hpL G0 [(100,b)]) (zab [(100,b)]) (.ret (.string (zgf n f g bx tp nr md)) []):=by
 refine za5 (B:=200) G0F func55 rfl call55 (zam h.fx) ?_ (by simp) (by simp) (by simp) (by simp [ntmps55]) (by omega) ?_
 ·simp [zap,zau,zaj,zal,zab,cfV]
 intro C hC hC0 hY
 have hr:=λρ=>Blk.fx_rn h.fx ρ
 unfold cfV
 repeat' first|refine gwZ ?_|refine gwW ?_|refine gwC ?_ ?_<;>intro hb
 refine za7 ?_
 simp only [Array.toList]
 refine gwl 1 ?_;intro Q hQ;simp [hC,hY];apply hQ
 simp only [wT,wM,Nat.reduceAdd]
 refine zse 8 (f:=.func 78) (cap:=#[]) hC (z31 224 (by omega) b h.fx off n cap g bx tp nr md) rfl (by simp) rfl rfl (by simp [okT]) (by simp [gev]) (by simp) (by simp [okX,zbz]) (by simp [gev,cfV]) (by simp) (by (intro k hk;first|rfl|(simp (disch:=omega) only [zb9,List.mem_cons,List.not_mem_nil,or_false,zaa,zai,zat,if_neg,zaw]<;>done))) (λv ns hV k hk=>by have:=zdt (zte hV) k hk;omega) ?_
 intro v ns hV
 obtain ⟨l,rfl,rfl,_,hf⟩:=zte hV
 refine gwl 1 ?_;intro Q hQ;simp [hC,hY,zbl,zaw,mNs];apply hQ
 simp only [wT,wM,Nat.reduceAdd]
 refine zbh ?_
 have f0:zda ⟨#[98,111,100,105,101,115]⟩ l=some (.func (.func 97) #[] #[.pointer (some ⟨226,0,none⟩),.pointer (some ⟨227,0,none⟩)]):=hf (⟨#[98,111,100,105,101,115]⟩,_) (by simp [mV])
 have f1:zda ⟨#[109,97,115,115]⟩ l=some (.func (.func 99) #[] #[.pointer (some ⟨225,0,none⟩)]):=hf (⟨#[109,97,115,115]⟩,_) (by simp [mV])
 have f2:zda ⟨#[99,111,110,115,116,97,110,116]⟩ l=some (.func (.func 97) #[] #[.pointer (some ⟨228,0,none⟩),.pointer (some ⟨229,0,none⟩)]):=hf (⟨#[99,111,110,115,116,97,110,116]⟩,_) (by simp [mV])
 have f3:zda ⟨#[98,111,120]⟩ l=some (.func (.func 97) #[] #[.pointer (some ⟨230,0,none⟩),.pointer (some ⟨231,0,none⟩)]):=hf (⟨#[98,111,120]⟩,_) (by simp [mV])
 have f4:zda ⟨#[116,111,112]⟩ l=some (.func (.func 97) #[] #[.pointer (some ⟨232,0,none⟩),.pointer (some ⟨233,0,none⟩)]):=hf (⟨#[116,111,112]⟩,_) (by simp [mV])
 have f5:zda ⟨#[110,101,97,114]⟩ l=some (.func (.func 97) #[] #[.pointer (some ⟨234,0,none⟩),.pointer (some ⟨235,0,none⟩)]):=hf (⟨#[110,101,97,114]⟩,_) (by simp [mV])
 have f6:zda ⟨#[109,101,116,104,111,100]⟩ l=some (.func (.func 102) #[] #[.pointer (some ⟨225,0,none⟩)]):=hf (⟨#[109,101,116,104,111,100]⟩,_) (by simp [mV])
 cases c0:wiB n 1 4 with
 | false =>
  have e:zgf n f g bx tp nr md=⟨#[98,111,100,105,101,115]⟩:=by unfold zgf;simp only [c0,Bool.true_eq_false,if_true,if_false,reduceCtorEq]
  rw [e]
  repeat' first|refine zad ?_|refine zag ?_|refine gwZ ?_|((first|refine gwR [97,99,102] ?_|refine gwD [97,99,102] ?_);intro Q hQ _;(repeat first|simp [hC,hY,f0,c0,cnB]|(refine zac (zb0 n 4) G0F (B:=200) ⟨by simp,by simp [zab],by simp [jb,zae,zaj,zal]⟩ (λk=>if k=100 then 226 else if k=108 then 227 else k) (λk hk=>(if_neg (by omega)).trans (if_neg (by omega))) ?_ (by simp) (by simp [zb5]) (by simp [zab]) (by simp [zab];rfl) ?_;focus (simp [ren,zas,zan,zao];done)));refine gwq hQ ?_)|refine gwC ?_ ?_<;>intro hb
  refine ⟨.inr rfl,by simp [results55],kpS G0F⟩
 | true =>
  cases c1:zp6 f n with
  | false =>
   have e:zgf n f g bx tp nr md=⟨#[109,97,115,115]⟩:=by unfold zgf;simp only [c0,c1,Bool.true_eq_false,if_true,if_false,reduceCtorEq]
   rw [e]
   repeat' first|refine zad ?_|refine zag ?_|refine gwZ ?_|((first|refine gwR [97,99,102] ?_|refine gwD [97,99,102] ?_);intro Q hQ _;(repeat first|simp [hC,hY,f0,f1,c0,c1,cnB]|(refine zac (zb0 n 4) G0F (B:=200) ⟨by simp,by simp [zab],by simp [jb,zae,zaj,zal]⟩ (λk=>if k=100 then 226 else if k=108 then 227 else k) (λk hk=>(if_neg (by omega)).trans (if_neg (by omega))) ?_ (by simp) (by simp [zb5]) (by simp [zab]) (by simp [zab];rfl) ?_;focus (simp [ren,zas,zan,zao];done))|(refine zac (zhn b off n cap f h g bx tp nr md) G0F (B:=200) (zgj h.fx off n cap g bx tp nr md) (λk=>if k=108 then 225 else k) (λk hk=>if_neg (by omega)) ?_ (by simp) (by simp [cmL,hr];simp [cfB,Blk.rn,zan,zao]) (by simp [zab,cmL]) (by simp [zab,cmL];rfl) ?_;focus (simp [ren,zas,zan,zao];done)));refine gwq hQ ?_)|refine gwC ?_ ?_<;>intro hb
   refine ⟨.inr rfl,by simp [results55],kpS G0F⟩
  | true =>
   cases c2:wiB g 1 1048576 with
   | false =>
    have e:zgf n f g bx tp nr md=⟨#[99,111,110,115,116,97,110,116]⟩:=by unfold zgf;simp only [c0,c1,c2,Bool.true_eq_false,if_true,if_false,reduceCtorEq]
    rw [e]
    repeat' first|refine zad ?_|refine zag ?_|refine gwZ ?_|((first|refine gwR [97,99,102] ?_|refine gwD [97,99,102] ?_);intro Q hQ _;(repeat first|simp [hC,hY,f0,f1,f2,c0,c1,c2,cnB]|(refine zac (zb0 n 4) G0F (B:=200) ⟨by simp,by simp [zab],by simp [jb,zae,zaj,zal]⟩ (λk=>if k=100 then 226 else if k=108 then 227 else k) (λk hk=>(if_neg (by omega)).trans (if_neg (by omega))) ?_ (by simp) (by simp [zb5]) (by simp [zab]) (by simp [zab];rfl) ?_;focus (simp [ren,zas,zan,zao];done))|(refine zac (zhn b off n cap f h g bx tp nr md) G0F (B:=200) (zgj h.fx off n cap g bx tp nr md) (λk=>if k=108 then 225 else k) (λk hk=>if_neg (by omega)) ?_ (by simp) (by simp [cmL,hr];simp [cfB,Blk.rn,zan,zao]) (by simp [zab,cmL]) (by simp [zab,cmL];rfl) ?_;focus (simp [ren,zas,zan,zao];done))|(refine zac (zb0 g 1048576) G0F (B:=200) ⟨by simp,by simp [zab],by simp [jb,zae,zaj,zal]⟩ (λk=>if k=100 then 228 else if k=108 then 229 else k) (λk hk=>(if_neg (by omega)).trans (if_neg (by omega))) ?_ (by simp) (by simp [zb5]) (by simp [zab]) (by simp [zab];rfl) ?_;focus (simp [ren,zas,zan,zao];done)));refine gwq hQ ?_)|refine gwC ?_ ?_<;>intro hb
    refine ⟨.inr rfl,by simp [results55],kpS G0F⟩
   | true =>
    cases c3:wiB bx 1 1048576 with
    | false =>
     have e:zgf n f g bx tp nr md=⟨#[98,111,120]⟩:=by unfold zgf;simp only [c0,c1,c2,c3,Bool.true_eq_false,if_true,if_false,reduceCtorEq]
     rw [e]
     repeat' first|refine zad ?_|refine zag ?_|refine gwZ ?_|((first|refine gwR [97,99,102] ?_|refine gwD [97,99,102] ?_);intro Q hQ _;(repeat first|simp [hC,hY,f0,f1,f2,f3,c0,c1,c2,c3,cnB]|(refine zac (zb0 n 4) G0F (B:=200) ⟨by simp,by simp [zab],by simp [jb,zae,zaj,zal]⟩ (λk=>if k=100 then 226 else if k=108 then 227 else k) (λk hk=>(if_neg (by omega)).trans (if_neg (by omega))) ?_ (by simp) (by simp [zb5]) (by simp [zab]) (by simp [zab];rfl) ?_;focus (simp [ren,zas,zan,zao];done))|(refine zac (zhn b off n cap f h g bx tp nr md) G0F (B:=200) (zgj h.fx off n cap g bx tp nr md) (λk=>if k=108 then 225 else k) (λk hk=>if_neg (by omega)) ?_ (by simp) (by simp [cmL,hr];simp [cfB,Blk.rn,zan,zao]) (by simp [zab,cmL]) (by simp [zab,cmL];rfl) ?_;focus (simp [ren,zas,zan,zao];done))|(refine zac (zb0 g 1048576) G0F (B:=200) ⟨by simp,by simp [zab],by simp [jb,zae,zaj,zal]⟩ (λk=>if k=100 then 228 else if k=108 then 229 else k) (λk hk=>(if_neg (by omega)).trans (if_neg (by omega))) ?_ (by simp) (by simp [zb5]) (by simp [zab]) (by simp [zab];rfl) ?_;focus (simp [ren,zas,zan,zao];done))|(refine zac (zb0 bx 1048576) G0F (B:=200) ⟨by simp,by simp [zab],by simp [jb,zae,zaj,zal]⟩ (λk=>if k=100 then 230 else if k=108 then 231 else k) (λk hk=>(if_neg (by omega)).trans (if_neg (by omega))) ?_ (by simp) (by simp [zb5]) (by simp [zab]) (by simp [zab];rfl) ?_;focus (simp [ren,zas,zan,zao];done)));refine gwq hQ ?_)|refine gwC ?_ ?_<;>intro hb
     refine ⟨.inr rfl,by simp [results55],kpS G0F⟩
    | true =>
     cases c4:wiB tp 1 65536 with
     | false =>
      have e:zgf n f g bx tp nr md=⟨#[116,111,112]⟩:=by unfold zgf;simp only [c0,c1,c2,c3,c4,Bool.true_eq_false,if_true,if_false,reduceCtorEq]
      rw [e]
      repeat' first|refine zad ?_|refine zag ?_|refine gwZ ?_|((first|refine gwR [97,99,102] ?_|refine gwD [97,99,102] ?_);intro Q hQ _;(repeat first|simp [hC,hY,f0,f1,f2,f3,f4,c0,c1,c2,c3,c4,cnB]|(refine zac (zb0 n 4) G0F (B:=200) ⟨by simp,by simp [zab],by simp [jb,zae,zaj,zal]⟩ (λk=>if k=100 then 226 else if k=108 then 227 else k) (λk hk=>(if_neg (by omega)).trans (if_neg (by omega))) ?_ (by simp) (by simp [zb5]) (by simp [zab]) (by simp [zab];rfl) ?_;focus (simp [ren,zas,zan,zao];done))|(refine zac (zhn b off n cap f h g bx tp nr md) G0F (B:=200) (zgj h.fx off n cap g bx tp nr md) (λk=>if k=108 then 225 else k) (λk hk=>if_neg (by omega)) ?_ (by simp) (by simp [cmL,hr];simp [cfB,Blk.rn,zan,zao]) (by simp [zab,cmL]) (by simp [zab,cmL];rfl) ?_;focus (simp [ren,zas,zan,zao];done))|(refine zac (zb0 g 1048576) G0F (B:=200) ⟨by simp,by simp [zab],by simp [jb,zae,zaj,zal]⟩ (λk=>if k=100 then 228 else if k=108 then 229 else k) (λk hk=>(if_neg (by omega)).trans (if_neg (by omega))) ?_ (by simp) (by simp [zb5]) (by simp [zab]) (by simp [zab];rfl) ?_;focus (simp [ren,zas,zan,zao];done))|(refine zac (zb0 bx 1048576) G0F (B:=200) ⟨by simp,by simp [zab],by simp [jb,zae,zaj,zal]⟩ (λk=>if k=100 then 230 else if k=108 then 231 else k) (λk hk=>(if_neg (by omega)).trans (if_neg (by omega))) ?_ (by simp) (by simp [zb5]) (by simp [zab]) (by simp [zab];rfl) ?_;focus (simp [ren,zas,zan,zao];done))|(refine zac (zb0 tp 65536) G0F (B:=200) ⟨by simp,by simp [zab],by simp [jb,zae,zaj,zal]⟩ (λk=>if k=100 then 232 else if k=108 then 233 else k) (λk hk=>(if_neg (by omega)).trans (if_neg (by omega))) ?_ (by simp) (by simp [zb5]) (by simp [zab]) (by simp [zab];rfl) ?_;focus (simp [ren,zas,zan,zao];done)));refine gwq hQ ?_)|refine gwC ?_ ?_<;>intro hb
      refine ⟨.inr rfl,by simp [results55],kpS G0F⟩
     | true =>
      cases c5:wiB nr 1 (Int.bmod (2*bx) 18446744073709551616) with
      | false =>
       have e:zgf n f g bx tp nr md=⟨#[110,101,97,114]⟩:=by unfold zgf;simp only [c0,c1,c2,c3,c4,c5,Bool.true_eq_false,if_true,if_false,reduceCtorEq]
       rw [e]
       repeat' first|refine zad ?_|refine zag ?_|refine gwZ ?_|((first|refine gwR [97,99,102] ?_|refine gwD [97,99,102] ?_);intro Q hQ _;(repeat first|simp [hC,hY,f0,f1,f2,f3,f4,f5,c0,c1,c2,c3,c4,c5,cnB]|(refine zac (zb0 n 4) G0F (B:=200) ⟨by simp,by simp [zab],by simp [jb,zae,zaj,zal]⟩ (λk=>if k=100 then 226 else if k=108 then 227 else k) (λk hk=>(if_neg (by omega)).trans (if_neg (by omega))) ?_ (by simp) (by simp [zb5]) (by simp [zab]) (by simp [zab];rfl) ?_;focus (simp [ren,zas,zan,zao];done))|(refine zac (zhn b off n cap f h g bx tp nr md) G0F (B:=200) (zgj h.fx off n cap g bx tp nr md) (λk=>if k=108 then 225 else k) (λk hk=>if_neg (by omega)) ?_ (by simp) (by simp [cmL,hr];simp [cfB,Blk.rn,zan,zao]) (by simp [zab,cmL]) (by simp [zab,cmL];rfl) ?_;focus (simp [ren,zas,zan,zao];done))|(refine zac (zb0 g 1048576) G0F (B:=200) ⟨by simp,by simp [zab],by simp [jb,zae,zaj,zal]⟩ (λk=>if k=100 then 228 else if k=108 then 229 else k) (λk hk=>(if_neg (by omega)).trans (if_neg (by omega))) ?_ (by simp) (by simp [zb5]) (by simp [zab]) (by simp [zab];rfl) ?_;focus (simp [ren,zas,zan,zao];done))|(refine zac (zb0 bx 1048576) G0F (B:=200) ⟨by simp,by simp [zab],by simp [jb,zae,zaj,zal]⟩ (λk=>if k=100 then 230 else if k=108 then 231 else k) (λk hk=>(if_neg (by omega)).trans (if_neg (by omega))) ?_ (by simp) (by simp [zb5]) (by simp [zab]) (by simp [zab];rfl) ?_;focus (simp [ren,zas,zan,zao];done))|(refine zac (zb0 tp 65536) G0F (B:=200) ⟨by simp,by simp [zab],by simp [jb,zae,zaj,zal]⟩ (λk=>if k=100 then 232 else if k=108 then 233 else k) (λk hk=>(if_neg (by omega)).trans (if_neg (by omega))) ?_ (by simp) (by simp [zb5]) (by simp [zab]) (by simp [zab];rfl) ?_;focus (simp [ren,zas,zan,zao];done))|(refine zac (zb0 nr (Int.bmod (2*bx) 18446744073709551616)) G0F (B:=200) ⟨by simp,by simp [zab],by simp [jb,zae,zaj,zal]⟩ (λk=>if k=100 then 234 else if k=108 then 235 else k) (λk hk=>(if_neg (by omega)).trans (if_neg (by omega))) ?_ (by simp) (by simp [zb5]) (by simp [zab]) (by simp [zab];rfl) ?_;focus (simp [ren,zas,zan,zao];done)));refine gwq hQ ?_)|refine gwC ?_ ?_<;>intro hb
       refine ⟨.inr rfl,by simp [results55],kpS G0F⟩
      | true =>
       cases c6:wiB md 0 4 with
       | false =>
        have e:zgf n f g bx tp nr md=⟨#[109,101,116,104,111,100]⟩:=by unfold zgf;simp only [c0,c1,c2,c3,c4,c5,c6,Bool.true_eq_false,if_true,if_false,reduceCtorEq]
        rw [e]
        repeat' first|refine zad ?_|refine zag ?_|refine gwZ ?_|((first|refine gwR [97,99,102] ?_|refine gwD [97,99,102] ?_);intro Q hQ _;(repeat first|simp [hC,hY,f0,f1,f2,f3,f4,f5,f6,c0,c1,c2,c3,c4,c5,c6,cnB]|(refine zac (zb0 n 4) G0F (B:=200) ⟨by simp,by simp [zab],by simp [jb,zae,zaj,zal]⟩ (λk=>if k=100 then 226 else if k=108 then 227 else k) (λk hk=>(if_neg (by omega)).trans (if_neg (by omega))) ?_ (by simp) (by simp [zb5]) (by simp [zab]) (by simp [zab];rfl) ?_;focus (simp [ren,zas,zan,zao];done))|(refine zac (zhn b off n cap f h g bx tp nr md) G0F (B:=200) (zgj h.fx off n cap g bx tp nr md) (λk=>if k=108 then 225 else k) (λk hk=>if_neg (by omega)) ?_ (by simp) (by simp [cmL,hr];simp [cfB,Blk.rn,zan,zao]) (by simp [zab,cmL]) (by simp [zab,cmL];rfl) ?_;focus (simp [ren,zas,zan,zao];done))|(refine zac (zb0 g 1048576) G0F (B:=200) ⟨by simp,by simp [zab],by simp [jb,zae,zaj,zal]⟩ (λk=>if k=100 then 228 else if k=108 then 229 else k) (λk hk=>(if_neg (by omega)).trans (if_neg (by omega))) ?_ (by simp) (by simp [zb5]) (by simp [zab]) (by simp [zab];rfl) ?_;focus (simp [ren,zas,zan,zao];done))|(refine zac (zb0 bx 1048576) G0F (B:=200) ⟨by simp,by simp [zab],by simp [jb,zae,zaj,zal]⟩ (λk=>if k=100 then 230 else if k=108 then 231 else k) (λk hk=>(if_neg (by omega)).trans (if_neg (by omega))) ?_ (by simp) (by simp [zb5]) (by simp [zab]) (by simp [zab];rfl) ?_;focus (simp [ren,zas,zan,zao];done))|(refine zac (zb0 tp 65536) G0F (B:=200) ⟨by simp,by simp [zab],by simp [jb,zae,zaj,zal]⟩ (λk=>if k=100 then 232 else if k=108 then 233 else k) (λk hk=>(if_neg (by omega)).trans (if_neg (by omega))) ?_ (by simp) (by simp [zb5]) (by simp [zab]) (by simp [zab];rfl) ?_;focus (simp [ren,zas,zan,zao];done))|(refine zac (zb0 nr (Int.bmod (2*bx) 18446744073709551616)) G0F (B:=200) ⟨by simp,by simp [zab],by simp [jb,zae,zaj,zal]⟩ (λk=>if k=100 then 234 else if k=108 then 235 else k) (λk hk=>(if_neg (by omega)).trans (if_neg (by omega))) ?_ (by simp) (by simp [zb5]) (by simp [zab]) (by simp [zab];rfl) ?_;focus (simp [ren,zas,zan,zao];done))|(refine zac (zxs b off n cap h.fx g bx tp nr md) G0F (B:=200) (zgj h.fx off n cap g bx tp nr md) (λk=>if k=108 then 225 else k) (λk hk=>if_neg (by omega)) ?_ (by simp) (by simp [cmL,hr];simp [cfB,Blk.rn,zan,zao]) (by simp [zab,cmL]) (by simp [zab,cmL];rfl) ?_;focus (simp [ren,zas,zan,zao];done)));refine gwq hQ ?_)|refine gwC ?_ ?_<;>intro hb
        refine ⟨.inr rfl,by simp [results55],kpS G0F⟩
       | true =>
        have e:zgf n f g bx tp nr md=⟨#[]⟩:=by unfold zgf;simp only [c0,c1,c2,c3,c4,c5,c6,Bool.true_eq_false,if_true,if_false,reduceCtorEq]
        rw [e]
        repeat' first|refine zad ?_|refine zag ?_|refine gwZ ?_|((first|refine gwR [97,99,102] ?_|refine gwD [97,99,102] ?_);intro Q hQ _;(repeat first|simp [hC,hY,f0,f1,f2,f3,f4,f5,f6,c0,c1,c2,c3,c4,c5,c6,cnB]|(refine zac (zb0 n 4) G0F (B:=200) ⟨by simp,by simp [zab],by simp [jb,zae,zaj,zal]⟩ (λk=>if k=100 then 226 else if k=108 then 227 else k) (λk hk=>(if_neg (by omega)).trans (if_neg (by omega))) ?_ (by simp) (by simp [zb5]) (by simp [zab]) (by simp [zab];rfl) ?_;focus (simp [ren,zas,zan,zao];done))|(refine zac (zhn b off n cap f h g bx tp nr md) G0F (B:=200) (zgj h.fx off n cap g bx tp nr md) (λk=>if k=108 then 225 else k) (λk hk=>if_neg (by omega)) ?_ (by simp) (by simp [cmL,hr];simp [cfB,Blk.rn,zan,zao]) (by simp [zab,cmL]) (by simp [zab,cmL];rfl) ?_;focus (simp [ren,zas,zan,zao];done))|(refine zac (zb0 g 1048576) G0F (B:=200) ⟨by simp,by simp [zab],by simp [jb,zae,zaj,zal]⟩ (λk=>if k=100 then 228 else if k=108 then 229 else k) (λk hk=>(if_neg (by omega)).trans (if_neg (by omega))) ?_ (by simp) (by simp [zb5]) (by simp [zab]) (by simp [zab];rfl) ?_;focus (simp [ren,zas,zan,zao];done))|(refine zac (zb0 bx 1048576) G0F (B:=200) ⟨by simp,by simp [zab],by simp [jb,zae,zaj,zal]⟩ (λk=>if k=100 then 230 else if k=108 then 231 else k) (λk hk=>(if_neg (by omega)).trans (if_neg (by omega))) ?_ (by simp) (by simp [zb5]) (by simp [zab]) (by simp [zab];rfl) ?_;focus (simp [ren,zas,zan,zao];done))|(refine zac (zb0 tp 65536) G0F (B:=200) ⟨by simp,by simp [zab],by simp [jb,zae,zaj,zal]⟩ (λk=>if k=100 then 232 else if k=108 then 233 else k) (λk hk=>(if_neg (by omega)).trans (if_neg (by omega))) ?_ (by simp) (by simp [zb5]) (by simp [zab]) (by simp [zab];rfl) ?_;focus (simp [ren,zas,zan,zao];done))|(refine zac (zb0 nr (Int.bmod (2*bx) 18446744073709551616)) G0F (B:=200) ⟨by simp,by simp [zab],by simp [jb,zae,zaj,zal]⟩ (λk=>if k=100 then 234 else if k=108 then 235 else k) (λk hk=>(if_neg (by omega)).trans (if_neg (by omega))) ?_ (by simp) (by simp [zb5]) (by simp [zab]) (by simp [zab];rfl) ?_;focus (simp [ren,zas,zan,zao];done))|(refine zac (zxs b off n cap h.fx g bx tp nr md) G0F (B:=200) (zgj h.fx off n cap g bx tp nr md) (λk=>if k=108 then 225 else k) (λk hk=>if_neg (by omega)) ?_ (by simp) (by simp [cmL,hr];simp [cfB,Blk.rn,zan,zao]) (by simp [zab,cmL]) (by simp [zab,cmL];rfl) ?_;focus (simp [ren,zas,zan,zao];done)));refine gwq hQ ?_)|refine gwC ?_ ?_<;>intro hb
        refine ⟨.inr rfl,by simp [results55],kpS G0F⟩
def zd2 (n:Nat) (f:Nat->Int) (g bx tp nr md:Int):Bool:=wiB n 1 4&&(zp6 f n&&(wiB g 1 1048576&&(wiB bx 1 1048576&&(wiB tp 1 65536&&(wiB nr 1 (Int.bmod (2*bx) 18446744073709551616)&&(wiB md 0 4))))))
theorem zvb (b:Blk) (hb:b.fx) (g bx tp nr md:Int) :
  FunS prog G0 78 #[cfV (.slice none 0 0) g bx tp nr md] (hpL G0 [(100,b)]) (zab [(100,b)]) (zhy 1000 (.slice none 0 0) 0 g bx tp nr md):=by
 refine zdz (B:=200) G0F func78 rfl call78 (zam hb) ?_ ?_ (by simp [ntmps78]) (by omega) ?_
 ·simp [zap,zau,zaj,zal,zab,cfV]
 ·rintro v ns ⟨l,rfl,rfl,hl,_⟩
  have hl2:∀ D:Nat->Prop,(∀ k,1000<=k->k<1012->D k)->(mpB l).ids D:=λD hD=>zi1.2 λp hp=>by
   have:=hl p hp
   simp only [mV,List.mem_cons,List.not_mem_nil,or_false] at this
   rcases this with rfl|rfl|rfl|rfl|rfl|rfl|rfl<;>simp [zaj,zal,hD]
  refine ⟨by simp [zap,zau,zaj,zal,zc7,zab,mNs],?_,?_⟩
  ·intro p hp
   simp only [mNs,List.mem_cons,List.not_mem_nil,or_false] at hp
   have hD:∀ k,1000<=k->k<1012->zc7 (λk=>k∈zab [(100,b)]) (mNs 1000 l (.slice none 0 0) 0 g bx tp nr md) k:=λk hk1 hk2=>.inr (by
    simp only [mNs,zab,List.map_cons,List.map_nil,List.mem_cons,List.not_mem_nil,or_false]
    omega)
   rcases hp with rfl|rfl|rfl|rfl|rfl|rfl|rfl|rfl|rfl|rfl|rfl|rfl
   ·exact ⟨by omega,hl2 _ hD⟩
   ·exact ⟨by omega,by simp [cfB,zae,zaj,zal,zc7,zab]⟩
   all_goals exact ⟨by omega,by simp [jb,zae,zaj,zal]⟩
  ·intro k b c h1 h2
   simp only [mNs,List.mem_cons,List.not_mem_nil,or_false,Prod.mk.injEq] at h1 h2
   rcases h1 with ⟨e1,rfl⟩|⟨e1,rfl⟩|⟨e1,rfl⟩|⟨e1,rfl⟩|⟨e1,rfl⟩|⟨e1,rfl⟩|⟨e1,rfl⟩|⟨e1,rfl⟩|⟨e1,rfl⟩|⟨e1,rfl⟩|⟨e1,rfl⟩|⟨e1,rfl⟩<;>rcases h2 with ⟨e2,rfl⟩|⟨e2,rfl⟩|⟨e2,rfl⟩|⟨e2,rfl⟩|⟨e2,rfl⟩|⟨e2,rfl⟩|⟨e2,rfl⟩|⟨e2,rfl⟩|⟨e2,rfl⟩|⟨e2,rfl⟩|⟨e2,rfl⟩|⟨e2,rfl⟩<;>first|rfl|omega
 intro C hC hC0 hY
 unfold cfV
 repeat' first|refine gwZ ?_|refine gwW ?_|refine gwC ?_ ?_<;>intro hb
 refine z5w follows ?_
 simp only [Array.toList,List.length_cons,List.length_nil,Nat.reduceAdd]
 obtain ⟨sl,hsl⟩:∃ sl,Value.slice none 0 0=sl:=⟨_,rfl⟩
 refine zwo (MI b sl 0 g bx tp nr md) (λlisted ts hp hs hr hI=>?_) (λfuel listed ts hp i hs hi hdep h hk=>?_) _ _ _ _ (by simp) (by decide +kernel) ?_
 ·have hall:=zpi hs (by kernel_rfl) hr
  have hall:∀ i,i<36->listed[i]? = some true:=λi hi=>hall i (by simpa using hi)
  obtain ⟨l,l1,l2,l3⟩:=hI.mp (hall 0 (by omega))
  have h2:=hI.tm (35,2,.map (some 224)) (by simp [mT]) (hall 35 (by omega))
  have hinv:∀ q∈mI,zan mR (zan mS q.2.2)=q.2.2:=by simp [mI,zan,zao,mR,mS]
  have hcan:∀ q∈mI,(q.2.1,zan mS q.2.2)∈mV 1000:=by simp [mI,mV,zan,zao,mS]
  have hfind:∀ q∈mV 1000,∃ p∈mI,p.2.1=q.1/\zan mS p.2.2=q.2/\p.1<36:=by
   intro q hq
   simp only [mV,List.mem_cons,List.not_mem_nil,or_false] at hq
   rcases hq with rfl|rfl|rfl|rfl|rfl|rfl|rfl
   ·exact ⟨(6,⟨#[98,111,100,105,101,115]⟩,.func (.func 97) #[] #[.pointer (some ⟨264,0,none⟩),.pointer (some ⟨265,0,none⟩)]),by simp [mI],rfl,by simp [zan,zao,mS],by omega⟩
   ·exact ⟨(8,⟨#[109,97,115,115]⟩,.func (.func 99) #[] #[.pointer (some ⟨200,0,none⟩)]),by simp [mI],rfl,by simp [zan,zao,mS],by omega⟩
   ·exact ⟨(13,⟨#[99,111,110,115,116,97,110,116]⟩,.func (.func 97) #[] #[.pointer (some ⟨320,0,none⟩),.pointer (some ⟨321,0,none⟩)]),by simp [mI],rfl,by simp [zan,zao,mS],by omega⟩
   ·exact ⟨(18,⟨#[98,111,120]⟩,.func (.func 97) #[] #[.pointer (some ⟨360,0,none⟩),.pointer (some ⟨361,0,none⟩)]),by simp [mI],rfl,by simp [zan,zao,mS],by omega⟩
   ·exact ⟨(23,⟨#[116,111,112]⟩,.func (.func 97) #[] #[.pointer (some ⟨400,0,none⟩),.pointer (some ⟨401,0,none⟩)]),by simp [mI],rfl,by simp [zan,zao,mS],by omega⟩
   ·exact ⟨(31,⟨#[110,101,97,114]⟩,.func (.func 97) #[] #[.pointer (some ⟨464,0,none⟩),.pointer (some ⟨465,0,none⟩)]),by simp [mI],rfl,by simp [zan,zao,mS],by omega⟩
   ·exact ⟨(33,⟨#[109,101,116,104,111,100]⟩,.func (.func 102) #[] #[.pointer (some ⟨200,0,none⟩)]),by simp [mI],rfl,by simp [zan,zao,mS],by omega⟩
  simp only [zca]
  refine zwu ?_
  refine ⟨.inr rfl,zdc G0F (by simp [hI.b]) (λk hk=>(hI.low k hk).trans (za6 (by simp) hk).symm),_,_,mR,⟨l.map λp=>(p.1,zan mS p.2),rfl,rfl,λp hp=>?_,λq hq=>?_⟩,λk hk=>?_,?_,?_,?_,?_⟩
  ·obtain ⟨p0,hp0,rfl⟩:=List.mem_map.1 hp
   obtain ⟨q,hq,rfl,_⟩:=l2 p0 hp0
   exact hcan q hq
  ·obtain ⟨p,hp,e1,e2,hlt⟩:=hfind q hq
   rw [zgm,<-e1,l3 p hp (hall _ hlt),<-e2]
   rfl
  ·unfold mR
   iterate 12 rw [if_neg (by omega)]
  ·simp [mNs,mR]
  ·simp [mNs,mR]
  ·simp [results78,h2,ren,zas,zan,zao,mR]
   rfl
  ·subst hsl
   have hbx:=hI.bx
   have hm:(mpB (l.map λp=>(p.1,zan mS p.2))).rn mR=mpB l:=by
    rw [zta,List.map_map]
    congr 1
    conv=>rhs;rw [<-List.map_id l]
    refine List.map_congr_left λp hp=>?_
    obtain ⟨q,hq,rfl,_⟩:=l2 p hp
    simp only [Function.comp_def,id]
    rw [hinv q hq]
   intro p hp
   simp only [mNs,List.mem_cons,List.not_mem_nil,or_false] at hp
   rcases hp with rfl|rfl|rfl|rfl|rfl|rfl|rfl|rfl|rfl|rfl|rfl|rfl
   ·show hp (mR 1000)=some ((mpB _).rn mR)
    rw [hm]
    exact l1
   ·show hp 200=some ((cfB _ g bx tp nr md).rn mR)
    rw [hI.c]
    simp [cfB,Blk.rn,zan,zao,mR]
   ·show hp 264=some ((jb ((0:Nat):Int)).rn mR)
    rw [zb5]
    exact hbx (5,264,jb ((0:Nat):Int)) (by simp [mX]) (hall 5 (by omega))
   ·show hp 265=some ((jb 4).rn mR)
    rw [zb5]
    exact hbx (5,265,jb 4) (by simp [mX]) (hall 5 (by omega))
   ·show hp 320=some ((jb g).rn mR)
    rw [zb5]
    exact hbx (12,320,jb g) (by simp [mX]) (hall 12 (by omega))
   ·show hp 321=some ((jb 1048576).rn mR)
    rw [zb5]
    exact hbx (12,321,jb 1048576) (by simp [mX]) (hall 12 (by omega))
   ·show hp 360=some ((jb bx).rn mR)
    rw [zb5]
    exact hbx (17,360,jb bx) (by simp [mX]) (hall 17 (by omega))
   ·show hp 361=some ((jb 1048576).rn mR)
    rw [zb5]
    exact hbx (17,361,jb 1048576) (by simp [mX]) (hall 17 (by omega))
   ·show hp 400=some ((jb tp).rn mR)
    rw [zb5]
    exact hbx (22,400,jb tp) (by simp [mX]) (hall 22 (by omega))
   ·show hp 401=some ((jb 65536).rn mR)
    rw [zb5]
    exact hbx (22,401,jb 65536) (by simp [mX]) (hall 22 (by omega))
   ·show hp 464=some ((jb nr).rn mR)
    rw [zb5]
    exact hbx (30,464,jb nr) (by simp [mX]) (hall 30 (by omega))
   ·show hp 465=some ((jb (Int.bmod (2*bx) 18446744073709551616)).rn mR)
    rw [zb5]
    exact hbx (30,465,jb (Int.bmod (2*bx) 18446744073709551616)) (by simp [mX]) (hall 30 (by omega))
 ·have hlt:i<36:=by
   have:=(Array.getElem?_eq_some_iff.1 hi).1
   rw [hs] at this
   simpa using this
  subst hsl
  obtain rfl|rfl|rfl|rfl|rfl|rfl|rfl|rfl|rfl|rfl|rfl|rfl|rfl|rfl|rfl|rfl|rfl|rfl|rfl|rfl|rfl|rfl|rfl|rfl|rfl|rfl|rfl|rfl|rfl|rfl|rfl|rfl|rfl|rfl|rfl|rfl:i=0\/i=1\/i=2\/i=3\/i=4\/i=5\/i=6\/i=7\/i=8\/i=9\/i=10\/i=11\/i=12\/i=13\/i=14\/i=15\/i=16\/i=17\/i=18\/i=19\/i=20\/i=21\/i=22\/i=23\/i=24\/i=25\/i=26\/i=27\/i=28\/i=29\/i=30\/i=31\/i=32\/i=33\/i=34\/i=35:=by omega
  ·-- 0 map
   have f0:=h.t1
   have f1:=h.t3
   refine gwo ?_;intro Q hQ;simp [hC,hY,f0,f1];apply hQ
   exact hk _ _ (h.mkm hi)
  ·-- 1 mv
   have f0:=h.t1
   have f1:=h.t3
   refine gwo ?_;intro Q hQ;simp [hC,hY,f0,f1];apply hQ
   exact hk _ _ (h.tmp (i:=1) (t:=5) (by simp [mT]) (by simp [mX]) (by omega))
  ·-- 2 fa
   have f0:=h.t1
   have f1:=h.t3
   refine gwo ?_;intro Q hQ;simp [hC,hY,f0,f1];apply hQ
   exact hk _ _ (h.tmp (i:=2) (t:=6) (by simp [mT]) (by simp [mX]) (by omega))
  ·-- 3 ld
   have hd:∀ j∈[2],listed[j]? = some true:=by
    have hd0:=hdep _ rfl
    simp [Region.binds] at hd0
    simp [hd0]
   have f0:=h.t1
   have f1:=h.t3
   have f2:=h.tm (2,6,.pointer (some ⟨200,0,none⟩)) (by simp [mT]) (hd 2 (by simp))
   have fc:=h.c
   unfold cfB at fc
   refine gwo ?_;intro Q hQ;simp [hC,hY,f0,f1,f2,fc];apply hQ
   exact hk _ _ (h.tmp (i:=3) (t:=7) (by simp [mT]) (by simp [mX]) (by omega))
  ·-- 4 len
   have hd:∀ j∈[3],listed[j]? = some true:=by
    have hd0:=hdep _ rfl
    simp [Region.binds] at hd0
    simp [hd0]
   have f0:=h.t1
   have f1:=h.t3
   have f2:=h.tm (3,7,.slice none 0 0) (by simp [mT]) (hd 3 (by simp))
   refine gwo ?_;intro Q hQ;simp [hC,hY,f0,f1,f2];apply hQ
   exact hk _ _ (h.tmp (i:=4) (t:=8) (by simp [mT]) (by simp [mX]) (by omega))
  ·-- 5 call
   have hd:∀ j∈[1,4],listed[j]? = some true:=by
    have hd0:=hdep _ rfl
    simp [Region.binds] at hd0
    simp [hd0]
   have f0:=h.t1
   have f1:=h.t3
   have f2:=h.tm (1,5,.func (.func 96) #[] #[]) (by simp [mT]) (hd 1 (by simp))
   have f3:=h.tm (4,8,.int .i64 ((0:Nat):Int)) (by simp [mT]) (hd 4 (by simp))
   refine zea (f:=.tmp 5) (cap:=#[]) hC (zhj 264 (by omega) ((0:Nat):Int) 4) rfl hi rfl (by simp [ntmps78]) rfl rfl (by simp [okT,f0,f1,f2,f3]) (by simp [gev,f0,f1,f2,f3]) (by simp) (by simp [okX,zbz,f0,f1,f2,f3]) (by simp [gev,f0,f1,f2,f3]) (by simp) (λq hq=>(h.low q hq).symm▸(by simp)) ?_ ?_
   ·intro v ns hV k hk
    have:=zed hV k hk
    omega
   rintro v ns ⟨rfl,rfl⟩
   exact hk _ _ (h.call (i:=5) (t:=9) (by simp [mT]) (by omega) (by omega) (by simp [mX]))
  ·-- 6 ins
   have hd:∀ j∈[0,5],listed[j]? = some true:=by
    have hd0:=hdep _ rfl
    simp [Region.binds] at hd0
    simp [hd0]
   have f0:=h.t1
   have f1:=h.t3
   have f2:=h.tm (0,4,.map (some 224)) (by simp [mT]) (hd 0 (by simp))
   have f3:=h.tm (5,9,.func (.func 97) #[] #[.pointer (some ⟨264,0,none⟩),.pointer (some ⟨265,0,none⟩)]) (by simp [mT]) (hd 5 (by simp))
   obtain ⟨l,l1,l2,l3⟩:=h.mp (hd 0 (by simp))
   have hm:(6,⟨#[98,111,100,105,101,115]⟩,.func (.func 97) #[] #[.pointer (some ⟨264,0,none⟩),.pointer (some ⟨265,0,none⟩)])∈mI:=by simp [mI]
   have hn:=h.fresh hm hi l2
   refine gwo ?_;intro Q hQ;simp [hC,hY,f0,f1,f2,f3,l1,hn];apply hQ
   exact hk _ _ (h.ins hm (Array.getElem?_eq_some_iff.1 hi).1 l2 l3 hn (hd 0 (by simp)))
  ·-- 7 mk
   have f0:=h.t1
   have f1:=h.t3
   refine gwo ?_;intro Q hQ;simp [hC,hY,f0,f1];apply hQ
   exact hk _ _ (h.tmp (i:=7) (t:=10) (by simp [mT]) (by simp [mX]) (by omega))
  ·-- 8 ins
   have hd:∀ j∈[0,7],listed[j]? = some true:=by
    have hd0:=hdep _ rfl
    simp [Region.binds] at hd0
    simp [hd0]
   have f0:=h.t1
   have f1:=h.t3
   have f2:=h.tm (0,4,.map (some 224)) (by simp [mT]) (hd 0 (by simp))
   have f3:=h.tm (7,10,.func (.func 99) #[] #[.pointer (some ⟨200,0,none⟩)]) (by simp [mT]) (hd 7 (by simp))
   obtain ⟨l,l1,l2,l3⟩:=h.mp (hd 0 (by simp))
   have hm:(8,⟨#[109,97,115,115]⟩,.func (.func 99) #[] #[.pointer (some ⟨200,0,none⟩)])∈mI:=by simp [mI]
   have hn:=h.fresh hm hi l2
   refine gwo ?_;intro Q hQ;simp [hC,hY,f0,f1,f2,f3,l1,hn];apply hQ
   exact hk _ _ (h.ins hm (Array.getElem?_eq_some_iff.1 hi).1 l2 l3 hn (hd 0 (by simp)))
  ·-- 9 mv
   have f0:=h.t1
   have f1:=h.t3
   refine gwo ?_;intro Q hQ;simp [hC,hY,f0,f1];apply hQ
   exact hk _ _ (h.tmp (i:=9) (t:=11) (by simp [mT]) (by simp [mX]) (by omega))
  ·-- 10 fa
   have f0:=h.t1
   have f1:=h.t3
   refine gwo ?_;intro Q hQ;simp [hC,hY,f0,f1];apply hQ
   exact hk _ _ (h.tmp (i:=10) (t:=12) (by simp [mT]) (by simp [mX]) (by omega))
  ·-- 11 ld
   have hd:∀ j∈[10],listed[j]? = some true:=by
    have hd0:=hdep _ rfl
    simp [Region.binds] at hd0
    simp [hd0]
   have f0:=h.t1
   have f1:=h.t3
   have f2:=h.tm (10,12,.pointer (some ⟨200,1,none⟩)) (by simp [mT]) (hd 10 (by simp))
   have fc:=h.c
   unfold cfB at fc
   refine gwo ?_;intro Q hQ;simp [hC,hY,f0,f1,f2,fc];apply hQ
   exact hk _ _ (h.tmp (i:=11) (t:=13) (by simp [mT]) (by simp [mX]) (by omega))
  ·-- 12 call
   have hd:∀ j∈[9,11],listed[j]? = some true:=by
    have hd0:=hdep _ rfl
    simp [Region.binds] at hd0
    simp [hd0]
   have f0:=h.t1
   have f1:=h.t3
   have f2:=h.tm (9,11,.func (.func 96) #[] #[]) (by simp [mT]) (hd 9 (by simp))
   have f3:=h.tm (11,13,.int .i64 g) (by simp [mT]) (hd 11 (by simp))
   refine zea (f:=.tmp 11) (cap:=#[]) hC (zhj 320 (by omega) g 1048576) rfl hi rfl (by simp [ntmps78]) rfl rfl (by simp [okT,f0,f1,f2,f3]) (by simp [gev,f0,f1,f2,f3]) (by simp) (by simp [okX,zbz,f0,f1,f2,f3]) (by simp [gev,f0,f1,f2,f3]) (by simp) (λq hq=>(h.low q hq).symm▸(by simp)) ?_ ?_
   ·intro v ns hV k hk
    have:=zed hV k hk
    omega
   rintro v ns ⟨rfl,rfl⟩
   exact hk _ _ (h.call (i:=12) (t:=14) (by simp [mT]) (by omega) (by omega) (by simp [mX]))
  ·-- 13 ins
   have hd:∀ j∈[0,12],listed[j]? = some true:=by
    have hd0:=hdep _ rfl
    simp [Region.binds] at hd0
    simp [hd0]
   have f0:=h.t1
   have f1:=h.t3
   have f2:=h.tm (0,4,.map (some 224)) (by simp [mT]) (hd 0 (by simp))
   have f3:=h.tm (12,14,.func (.func 97) #[] #[.pointer (some ⟨320,0,none⟩),.pointer (some ⟨321,0,none⟩)]) (by simp [mT]) (hd 12 (by simp))
   obtain ⟨l,l1,l2,l3⟩:=h.mp (hd 0 (by simp))
   have hm:(13,⟨#[99,111,110,115,116,97,110,116]⟩,.func (.func 97) #[] #[.pointer (some ⟨320,0,none⟩),.pointer (some ⟨321,0,none⟩)])∈mI:=by simp [mI]
   have hn:=h.fresh hm hi l2
   refine gwo ?_;intro Q hQ;simp [hC,hY,f0,f1,f2,f3,l1,hn];apply hQ
   exact hk _ _ (h.ins hm (Array.getElem?_eq_some_iff.1 hi).1 l2 l3 hn (hd 0 (by simp)))
  ·-- 14 mv
   have f0:=h.t1
   have f1:=h.t3
   refine gwo ?_;intro Q hQ;simp [hC,hY,f0,f1];apply hQ
   exact hk _ _ (h.tmp (i:=14) (t:=15) (by simp [mT]) (by simp [mX]) (by omega))
  ·-- 15 fa
   have f0:=h.t1
   have f1:=h.t3
   refine gwo ?_;intro Q hQ;simp [hC,hY,f0,f1];apply hQ
   exact hk _ _ (h.tmp (i:=15) (t:=16) (by simp [mT]) (by simp [mX]) (by omega))
  ·-- 16 ld
   have hd:∀ j∈[15],listed[j]? = some true:=by
    have hd0:=hdep _ rfl
    simp [Region.binds] at hd0
    simp [hd0]
   have f0:=h.t1
   have f1:=h.t3
   have f2:=h.tm (15,16,.pointer (some ⟨200,2,none⟩)) (by simp [mT]) (hd 15 (by simp))
   have fc:=h.c
   unfold cfB at fc
   refine gwo ?_;intro Q hQ;simp [hC,hY,f0,f1,f2,fc];apply hQ
   exact hk _ _ (h.tmp (i:=16) (t:=17) (by simp [mT]) (by simp [mX]) (by omega))
  ·-- 17 call
   have hd:∀ j∈[14,16],listed[j]? = some true:=by
    have hd0:=hdep _ rfl
    simp [Region.binds] at hd0
    simp [hd0]
   have f0:=h.t1
   have f1:=h.t3
   have f2:=h.tm (14,15,.func (.func 96) #[] #[]) (by simp [mT]) (hd 14 (by simp))
   have f3:=h.tm (16,17,.int .i64 bx) (by simp [mT]) (hd 16 (by simp))
   refine zea (f:=.tmp 15) (cap:=#[]) hC (zhj 360 (by omega) bx 1048576) rfl hi rfl (by simp [ntmps78]) rfl rfl (by simp [okT,f0,f1,f2,f3]) (by simp [gev,f0,f1,f2,f3]) (by simp) (by simp [okX,zbz,f0,f1,f2,f3]) (by simp [gev,f0,f1,f2,f3]) (by simp) (λq hq=>(h.low q hq).symm▸(by simp)) ?_ ?_
   ·intro v ns hV k hk
    have:=zed hV k hk
    omega
   rintro v ns ⟨rfl,rfl⟩
   exact hk _ _ (h.call (i:=17) (t:=18) (by simp [mT]) (by omega) (by omega) (by simp [mX]))
  ·-- 18 ins
   have hd:∀ j∈[0,17],listed[j]? = some true:=by
    have hd0:=hdep _ rfl
    simp [Region.binds] at hd0
    simp [hd0]
   have f0:=h.t1
   have f1:=h.t3
   have f2:=h.tm (0,4,.map (some 224)) (by simp [mT]) (hd 0 (by simp))
   have f3:=h.tm (17,18,.func (.func 97) #[] #[.pointer (some ⟨360,0,none⟩),.pointer (some ⟨361,0,none⟩)]) (by simp [mT]) (hd 17 (by simp))
   obtain ⟨l,l1,l2,l3⟩:=h.mp (hd 0 (by simp))
   have hm:(18,⟨#[98,111,120]⟩,.func (.func 97) #[] #[.pointer (some ⟨360,0,none⟩),.pointer (some ⟨361,0,none⟩)])∈mI:=by simp [mI]
   have hn:=h.fresh hm hi l2
   refine gwo ?_;intro Q hQ;simp [hC,hY,f0,f1,f2,f3,l1,hn];apply hQ
   exact hk _ _ (h.ins hm (Array.getElem?_eq_some_iff.1 hi).1 l2 l3 hn (hd 0 (by simp)))
  ·-- 19 mv
   have f0:=h.t1
   have f1:=h.t3
   refine gwo ?_;intro Q hQ;simp [hC,hY,f0,f1];apply hQ
   exact hk _ _ (h.tmp (i:=19) (t:=19) (by simp [mT]) (by simp [mX]) (by omega))
  ·-- 20 fa
   have f0:=h.t1
   have f1:=h.t3
   refine gwo ?_;intro Q hQ;simp [hC,hY,f0,f1];apply hQ
   exact hk _ _ (h.tmp (i:=20) (t:=20) (by simp [mT]) (by simp [mX]) (by omega))
  ·-- 21 ld
   have hd:∀ j∈[20],listed[j]? = some true:=by
    have hd0:=hdep _ rfl
    simp [Region.binds] at hd0
    simp [hd0]
   have f0:=h.t1
   have f1:=h.t3
   have f2:=h.tm (20,20,.pointer (some ⟨200,3,none⟩)) (by simp [mT]) (hd 20 (by simp))
   have fc:=h.c
   unfold cfB at fc
   refine gwo ?_;intro Q hQ;simp [hC,hY,f0,f1,f2,fc];apply hQ
   exact hk _ _ (h.tmp (i:=21) (t:=21) (by simp [mT]) (by simp [mX]) (by omega))
  ·-- 22 call
   have hd:∀ j∈[19,21],listed[j]? = some true:=by
    have hd0:=hdep _ rfl
    simp [Region.binds] at hd0
    simp [hd0]
   have f0:=h.t1
   have f1:=h.t3
   have f2:=h.tm (19,19,.func (.func 96) #[] #[]) (by simp [mT]) (hd 19 (by simp))
   have f3:=h.tm (21,21,.int .i64 tp) (by simp [mT]) (hd 21 (by simp))
   refine zea (f:=.tmp 19) (cap:=#[]) hC (zhj 400 (by omega) tp 65536) rfl hi rfl (by simp [ntmps78]) rfl rfl (by simp [okT,f0,f1,f2,f3]) (by simp [gev,f0,f1,f2,f3]) (by simp) (by simp [okX,zbz,f0,f1,f2,f3]) (by simp [gev,f0,f1,f2,f3]) (by simp) (λq hq=>(h.low q hq).symm▸(by simp)) ?_ ?_
   ·intro v ns hV k hk
    have:=zed hV k hk
    omega
   rintro v ns ⟨rfl,rfl⟩
   exact hk _ _ (h.call (i:=22) (t:=22) (by simp [mT]) (by omega) (by omega) (by simp [mX]))
  ·-- 23 ins
   have hd:∀ j∈[0,22],listed[j]? = some true:=by
    have hd0:=hdep _ rfl
    simp [Region.binds] at hd0
    simp [hd0]
   have f0:=h.t1
   have f1:=h.t3
   have f2:=h.tm (0,4,.map (some 224)) (by simp [mT]) (hd 0 (by simp))
   have f3:=h.tm (22,22,.func (.func 97) #[] #[.pointer (some ⟨400,0,none⟩),.pointer (some ⟨401,0,none⟩)]) (by simp [mT]) (hd 22 (by simp))
   obtain ⟨l,l1,l2,l3⟩:=h.mp (hd 0 (by simp))
   have hm:(23,⟨#[116,111,112]⟩,.func (.func 97) #[] #[.pointer (some ⟨400,0,none⟩),.pointer (some ⟨401,0,none⟩)])∈mI:=by simp [mI]
   have hn:=h.fresh hm hi l2
   refine gwo ?_;intro Q hQ;simp [hC,hY,f0,f1,f2,f3,l1,hn];apply hQ
   exact hk _ _ (h.ins hm (Array.getElem?_eq_some_iff.1 hi).1 l2 l3 hn (hd 0 (by simp)))
  ·-- 24 mv
   have f0:=h.t1
   have f1:=h.t3
   refine gwo ?_;intro Q hQ;simp [hC,hY,f0,f1];apply hQ
   exact hk _ _ (h.tmp (i:=24) (t:=23) (by simp [mT]) (by simp [mX]) (by omega))
  ·-- 25 fa
   have f0:=h.t1
   have f1:=h.t3
   refine gwo ?_;intro Q hQ;simp [hC,hY,f0,f1];apply hQ
   exact hk _ _ (h.tmp (i:=25) (t:=24) (by simp [mT]) (by simp [mX]) (by omega))
  ·-- 26 ld
   have hd:∀ j∈[25],listed[j]? = some true:=by
    have hd0:=hdep _ rfl
    simp [Region.binds] at hd0
    simp [hd0]
   have f0:=h.t1
   have f1:=h.t3
   have f2:=h.tm (25,24,.pointer (some ⟨200,4,none⟩)) (by simp [mT]) (hd 25 (by simp))
   have fc:=h.c
   unfold cfB at fc
   refine gwo ?_;intro Q hQ;simp [hC,hY,f0,f1,f2,fc];apply hQ
   exact hk _ _ (h.tmp (i:=26) (t:=25) (by simp [mT]) (by simp [mX]) (by omega))
  ·-- 27 fa
   have f0:=h.t1
   have f1:=h.t3
   refine gwo ?_;intro Q hQ;simp [hC,hY,f0,f1];apply hQ
   exact hk _ _ (h.tmp (i:=27) (t:=26) (by simp [mT]) (by simp [mX]) (by omega))
  ·-- 28 ld
   have hd:∀ j∈[27],listed[j]? = some true:=by
    have hd0:=hdep _ rfl
    simp [Region.binds] at hd0
    simp [hd0]
   have f0:=h.t1
   have f1:=h.t3
   have f2:=h.tm (27,26,.pointer (some ⟨200,2,none⟩)) (by simp [mT]) (hd 27 (by simp))
   have fc:=h.c
   unfold cfB at fc
   refine gwo ?_;intro Q hQ;simp [hC,hY,f0,f1,f2,fc];apply hQ
   exact hk _ _ (h.tmp (i:=28) (t:=27) (by simp [mT]) (by simp [mX]) (by omega))
  ·-- 29 mul
   have hd:∀ j∈[28],listed[j]? = some true:=by
    have hd0:=hdep _ rfl
    simp [Region.binds] at hd0
    simp [hd0]
   have f0:=h.t1
   have f1:=h.t3
   have f2:=h.tm (28,27,.int .i64 bx) (by simp [mT]) (hd 28 (by simp))
   refine gwo ?_;intro Q hQ;simp [hC,hY,f0,f1,f2];apply hQ
   exact hk _ _ (h.tmp (i:=29) (t:=28) (by simp [mT]) (by simp [mX]) (by omega))
  ·-- 30 call
   have hd:∀ j∈[24,26,29],listed[j]? = some true:=by
    have hd0:=hdep _ rfl
    simp [Region.binds] at hd0
    simp [hd0]
   have f0:=h.t1
   have f1:=h.t3
   have f2:=h.tm (24,23,.func (.func 96) #[] #[]) (by simp [mT]) (hd 24 (by simp))
   have f3:=h.tm (26,25,.int .i64 nr) (by simp [mT]) (hd 26 (by simp))
   have f4:=h.tm (29,28,.int .i64 (Int.bmod (2*bx) 18446744073709551616)) (by simp [mT]) (hd 29 (by simp))
   refine zea (f:=.tmp 23) (cap:=#[]) hC (zhj 464 (by omega) nr (Int.bmod (2*bx) 18446744073709551616)) rfl hi rfl (by simp [ntmps78]) rfl rfl (by simp [okT,f0,f1,f2,f3,f4]) (by simp [gev,f0,f1,f2,f3,f4]) (by simp) (by simp [okX,zbz,f0,f1,f2,f3,f4]) (by simp [gev,f0,f1,f2,f3,f4]) (by simp) (λq hq=>(h.low q hq).symm▸(by simp)) ?_ ?_
   ·intro v ns hV k hk
    have:=zed hV k hk
    omega
   rintro v ns ⟨rfl,rfl⟩
   exact hk _ _ (h.call (i:=30) (t:=29) (by simp [mT]) (by omega) (by omega) (by simp [mX]))
  ·-- 31 ins
   have hd:∀ j∈[0,30],listed[j]? = some true:=by
    have hd0:=hdep _ rfl
    simp [Region.binds] at hd0
    simp [hd0]
   have f0:=h.t1
   have f1:=h.t3
   have f2:=h.tm (0,4,.map (some 224)) (by simp [mT]) (hd 0 (by simp))
   have f3:=h.tm (30,29,.func (.func 97) #[] #[.pointer (some ⟨464,0,none⟩),.pointer (some ⟨465,0,none⟩)]) (by simp [mT]) (hd 30 (by simp))
   obtain ⟨l,l1,l2,l3⟩:=h.mp (hd 0 (by simp))
   have hm:(31,⟨#[110,101,97,114]⟩,.func (.func 97) #[] #[.pointer (some ⟨464,0,none⟩),.pointer (some ⟨465,0,none⟩)])∈mI:=by simp [mI]
   have hn:=h.fresh hm hi l2
   refine gwo ?_;intro Q hQ;simp [hC,hY,f0,f1,f2,f3,l1,hn];apply hQ
   exact hk _ _ (h.ins hm (Array.getElem?_eq_some_iff.1 hi).1 l2 l3 hn (hd 0 (by simp)))
  ·-- 32 mk
   have f0:=h.t1
   have f1:=h.t3
   refine gwo ?_;intro Q hQ;simp [hC,hY,f0,f1];apply hQ
   exact hk _ _ (h.tmp (i:=32) (t:=30) (by simp [mT]) (by simp [mX]) (by omega))
  ·-- 33 ins
   have hd:∀ j∈[0,32],listed[j]? = some true:=by
    have hd0:=hdep _ rfl
    simp [Region.binds] at hd0
    simp [hd0]
   have f0:=h.t1
   have f1:=h.t3
   have f2:=h.tm (0,4,.map (some 224)) (by simp [mT]) (hd 0 (by simp))
   have f3:=h.tm (32,30,.func (.func 102) #[] #[.pointer (some ⟨200,0,none⟩)]) (by simp [mT]) (hd 32 (by simp))
   obtain ⟨l,l1,l2,l3⟩:=h.mp (hd 0 (by simp))
   have hm:(33,⟨#[109,101,116,104,111,100]⟩,.func (.func 102) #[] #[.pointer (some ⟨200,0,none⟩)])∈mI:=by simp [mI]
   have hn:=h.fresh hm hi l2
   refine gwo ?_;intro Q hQ;simp [hC,hY,f0,f1,f2,f3,l1,hn];apply hQ
   exact hk _ _ (h.ins hm (Array.getElem?_eq_some_iff.1 hi).1 l2 l3 hn (hd 0 (by simp)))
  ·-- 34 mv
   have hd:∀ j∈[0],listed[j]? = some true:=by
    have hd0:=hdep _ rfl
    simp [Region.binds] at hd0
    simp [hd0]
   have f0:=h.t1
   have f1:=h.t3
   have f2:=h.tm (0,4,.map (some 224)) (by simp [mT]) (hd 0 (by simp))
   refine gwo ?_;intro Q hQ;simp [hC,hY,f0,f1,f2];apply hQ
   exact hk _ _ (h.tmp (i:=34) (t:=31) (by simp [mT]) (by simp [mX]) (by omega))
  ·-- 35 asg
   have hd:∀ j∈[34],listed[j]? = some true:=by
    have hd0:=hdep _ rfl
    simp [Region.binds] at hd0
    simp [hd0]
   have f0:=h.t1
   have f1:=h.t3
   have f2:=h.tm (34,31,.map (some 224)) (by simp [mT]) (hd 34 (by simp))
   refine gwo ?_;intro Q hQ;simp [hC,hY,f0,f1,f2];apply hQ
   exact hk _ _ (h.tmp (i:=35) (t:=2) (by simp [mT]) (by simp [mX]) (by omega))
 ·have hno:∀ j,(Array.replicate 36 false)[j]?≠some true:=λj=>by
   rw [Array.getElem?_replicate]
   split<;>simp
  exact ⟨by simp,by simp,λp hp hl=>absurd hl (hno _),λk hk=>by rw [zaa _ _ (by omega)];exact za6 (by simp) hk,by simp,by simp [cfB,hsl],λq hq hl=>absurd hl (hno _),λhl=>absurd hl (hno _),λq hq hl=>absurd hl (hno _)⟩
theorem zo9 {nk:Nat} {g bx tp nr md:Int} {v:Value} {ns:List (Nat×Blk)} (h:RR (mQ nk) (zhy 1000 (.slice none 0 0) 0 g bx tp nr md) v ns):zhy nk (.slice none 0 0) 0 g bx tp nr md v ns:=by
 obtain ⟨v0,ns0,⟨l,rfl,rfl,hl,hf⟩,rfl,rfl⟩:=h
 have e:=zo7 nk
 have e0:=e 0 (by omega)
 have e1:=e 1 (by omega)
 have e2:=e 2 (by omega)
 have e3:=e 3 (by omega)
 have e4:=e 4 (by omega)
 have e5:=e 5 (by omega)
 have e6:=e 6 (by omega)
 have e7:=e 7 (by omega)
 have e8:=e 8 (by omega)
 have e9:=e 9 (by omega)
 have e10:=e 10 (by omega)
 have e11:=e 11 (by omega)
 simp only [Nat.reduceAdd,Nat.add_zero] at e0 e1 e2 e3 e4 e5 e6 e7 e8 e9 e10 e11
 have h100:=zl6 nk 100 (by omega)
 have hmv:∀ q∈mV 1000,(q.1,zan (mQ nk) q.2)∈mV nk:=by
  simp [mV,zan,zao,e1,e2,e3,e4,e5,e6,e7,e8,e9,e10,e11]
 have hvm:∀ q∈mV nk,∃ p∈mV 1000,p.1=q.1/\zan (mQ nk) p.2=q.2:=by
  simp [mV,zan,zao,e1,e2,e3,e4,e5,e6,e7,e8,e9,e10,e11]
 refine ⟨l.map λp=>(p.1,zan (mQ nk) p.2),by simp [ren,zas,zan,zao,e0],?_,λp hp=>?_,λq hq=>?_⟩
 ·have hc:(cfB (.slice none 0 0) g bx tp nr md).rn (mQ nk)=cfB (.slice none 0 0) g bx tp nr md:=by simp [cfB,Blk.rn,zan,zao,h100]
  simp only [rnL,mNs,List.map_cons,List.map_nil,zta,zb5,hc,Nat.reduceAdd,e0,e1,e2,e3,e4,e5,e6,e7,e8,e9,e10,e11]
 ·obtain ⟨p0,hp0,rfl⟩:=List.mem_map.1 hp
  exact hmv _ (hl _ hp0)
 ·obtain ⟨p,hp,h1,h2⟩:=hvm q hq
  rw [zgm,<-h1,hf p hp,<-h2]
  rfl
theorem zzd (nk:Nat) (hnk:200<=nk) (b:Blk) (hb:b.fx) (g bx tp nr md:Int) :
  FunS prog G0 78 #[cfV (.slice none 0 0) g bx tp nr md] (hpL G0 [(100,b)]) [100] (RR (mQ nk) (zhy 1000 (.slice none 0 0) 0 g bx tp nr md)):=by
 have hr:=λρ=>Blk.fx_rn hb ρ
 have h100:=zl6 nk 100 (by omega)
 refine (zvb b hb g bx tp nr md).mvL G0F (zam hb) (mQ nk) (λk hk=>zl6 nk k (by omega)) (by simp [cfV,ren,zas,zan,zao,h100]) (by simp [zab,h100]) rfl (zam hb).low (by simp [h100,hr]) (by simp [zab]) (λv ns hV k hk=>?_) (λv ns hV k hk l hl e=>?_)
 ·have h1:=zdt hV k hk
  obtain ⟨j,hj,rfl⟩:∃ j,j<12/\k=1000+j:=⟨k - 1000,by omega,by omega⟩
  rw [zo7 nk j hj]
  simp
  omega
 ·have h1:=zdt hV k hk
  have h2:=zdt hV l hl
  obtain ⟨j,hj,rfl⟩:∃ j,j<12/\k=1000+j:=⟨k - 1000,by omega,by omega⟩
  obtain ⟨i,hi,rfl⟩:∃ j,j<12/\l=1000+j:=⟨l - 1000,by omega,by omega⟩
  rw [zo7 nk j hj,zo7 nk i hi] at e
  omega
theorem z5j (b:Blk) (hb:b.fx) (g bx tp nr md:Int) :
  Fun prog G0 55 #[cfV (.slice none 0 0) g bx tp nr md] (hpL G0 [(100,b)]) (zab [(100,b)]) (.ret (.string (⟨#[98,111,100,105,101,115]⟩)) []):=by
 refine za5 (B:=200) G0F func55 rfl call55 (zam hb) ?_ (by simp) (by simp) (by simp) (by simp [ntmps55]) (by omega) ?_
 ·simp [zap,zau,zaj,zal,zab,cfV]
 intro C hC hC0 hY
 have hr:=λρ=>Blk.fx_rn hb ρ
 unfold cfV
 repeat' first|refine gwZ ?_|refine gwW ?_|refine gwC ?_ ?_<;>intro hb
 refine za7 ?_
 simp only [Array.toList]
 refine gwl 1 ?_;intro Q hQ;simp [hC,hY];apply hQ
 simp only [wT,wM,Nat.reduceAdd]
 refine zse 8 (f:=.func 78) (cap:=#[]) hC (zzd 224 (by omega) b hb g bx tp nr md) rfl (by simp) rfl rfl (by simp [okT]) (by simp [gev]) (by simp) (by simp [okX,zbz]) (by simp [gev,cfV]) (by simp) (by (intro k hk;first|rfl|(simp (disch:=omega) only [zb9,List.mem_cons,List.not_mem_nil,or_false,zaa,zai,zat,if_neg,zaw]<;>done))) (λv ns hV k hk=>by have:=zdt (zo9 hV) k hk;omega) ?_
 intro v ns hV
 obtain ⟨l,rfl,rfl,_,hf⟩:=zo9 hV
 refine gwl 1 ?_;intro Q hQ;simp [hC,hY,zbl,zaw,mNs];apply hQ
 simp only [wT,wM,Nat.reduceAdd]
 refine zbh ?_
 have f0:zda ⟨#[98,111,100,105,101,115]⟩ l=some (.func (.func 97) #[] #[.pointer (some ⟨226,0,none⟩),.pointer (some ⟨227,0,none⟩)]):=hf (⟨#[98,111,100,105,101,115]⟩,_) (by simp [mV])
 have c0:wiB 0 1 4=false:=by decide +kernel
 repeat' first|refine zad ?_|refine zag ?_|refine gwZ ?_|((first|refine gwR [97,99,102] ?_|refine gwD [97,99,102] ?_);intro Q hQ _;(repeat first|simp [hC,hY,f0,c0,cnB]|(refine zac (zb0 0 4) G0F (B:=200) ⟨by simp,by simp [zab],by simp [jb,zae,zaj,zal]⟩ (λk=>if k=100 then 226 else if k=108 then 227 else k) (λk hk=>(if_neg (by omega)).trans (if_neg (by omega))) ?_ (by simp) (by simp [zb5]) (by simp [zab]) (by simp [zab];rfl) ?_;focus (simp [ren,zas,zan,zao];done)));refine gwq hQ ?_)|refine gwC ?_ ?_<;>intro hb
 refine ⟨.inr rfl,by simp [results55],kpS G0F⟩
def zyg:Value->Bool
 | .string _=>true
 | _=>false
def jdd:Value->ByteArray
 | .string s=>s
 | _=>⟨#[]⟩
def jda (a b:ByteArray):Bool:=!(a.toList==b.toList)
@[simp] theorem jle (s:ByteArray):zyg (.string s)=true:=rfl
@[simp] theorem jhc (s:ByteArray):jdd (.string s)=s:=rfl
theorem zsx {v:Value} (h:zyg v=true):v=.string (jdd v):=by
 unfold zyg at h
 split at h
 ·rfl
 ·cases h
@[simp] theorem jh6 (P:Program) (op:BinOp) (T:TypeId) (a b:ByteArray):znz P op T (.string a) (.string b)=none:=by cases op<;>rfl
@[simp] theorem jbt {dst:Option Tmp} {x y:Operand} {T:TypeId} {ps:String} {af:Array Edge} {g:Option (Nat×Bool)} {ts:Nat->Value} {hp:Hp} {C:Eff->Prop} (h:zyg (gev ts x)=true) (h2:zyg (gev ts y)=true) (hx:okX ts hp x) (hy:okX ts hp y) :
  z8e prog none ⟨dst,.binOp .neq 9 x y 9,T,ps,af,g⟩ ts hp C↔C (val (.bool (jda (jdd (gev ts x)) (jdd (gev ts y)))) []):=by
 have e1:=zsx h
 have e2:=zsx h2
 refine zig (K:=λv=>C (val v [])) ?_ rfl λW=>?_
 ·intro z hz
  simp [Op.operands] at hz
  rcases hz with rfl|rfl
  ·exact ⟨hx,by rw [e1];rfl⟩
  ·exact ⟨hy,by rw [e2];rfl⟩
 ·generalize jdd (gev ts x)=a at e1 |-
  generalize jdd (gev ts y)=b at e2 |-
  have hg:(eqGuard .neq 9 x y (.string a) (.string b)).run prog W=.ok () W:=by unfold eqGuard;split<;>rfl
  simp only [execOp,e1,e2,Sem.run_bind,hg,Result.andThen_ok,binOp,Op.stringOp,Sem.run_pure,jhc]
  simp [jda]
theorem zt0 (n:Nat) (f:Nat->Int) (g bx tp nr md:Int):jda (zgf n f g bx tp nr md) ⟨#[]⟩=!(zd2 n f g bx tp nr md):=by
 unfold zgf zd2 jda
 rcases Bool.eq_false_or_eq_true (wiB n 1 4) with c|c<;>simp only [c,Bool.false_and,Bool.true_and,if_true,Bool.true_eq_false,if_false,Bool.not_false]<;>try decide +kernel
 rcases Bool.eq_false_or_eq_true (zp6 f n) with c|c<;>simp only [c,Bool.false_and,Bool.true_and,if_true,Bool.true_eq_false,if_false,Bool.not_false]<;>try decide +kernel
 rcases Bool.eq_false_or_eq_true (wiB g 1 1048576) with c|c<;>simp only [c,Bool.false_and,Bool.true_and,if_true,Bool.true_eq_false,if_false,Bool.not_false]<;>try decide +kernel
 rcases Bool.eq_false_or_eq_true (wiB bx 1 1048576) with c|c<;>simp only [c,Bool.false_and,Bool.true_and,if_true,Bool.true_eq_false,if_false,Bool.not_false]<;>try decide +kernel
 rcases Bool.eq_false_or_eq_true (wiB tp 1 65536) with c|c<;>simp only [c,Bool.false_and,Bool.true_and,if_true,Bool.true_eq_false,if_false,Bool.not_false]<;>try decide +kernel
 rcases Bool.eq_false_or_eq_true (wiB nr 1 (Int.bmod (2*bx) 18446744073709551616)) with c|c<;>simp only [c,Bool.false_and,Bool.true_and,if_true,Bool.true_eq_false,if_false,Bool.not_false]<;>try decide +kernel
 rcases Bool.eq_false_or_eq_true (wiB md 0 4) with c|c<;>simp only [c,Bool.false_and,Bool.true_and,if_true,Bool.true_eq_false,if_false,Bool.not_false]<;>try decide +kernel
theorem zoh (b:Blk) (off n cap:Nat) (f:Nat->Int) (h:MB b off n f) (g bx tp nr md:Int) :
  Fun prog G0 37 #[cfV (.slice (some ⟨100,off,none⟩) n cap) g bx tp nr md] (hpL G0 [(100,b)]) (zab [(100,b)]) (.ret (.int .i64 (if zd2 n f g bx tp nr md=true then 0 else 110)) []):=by
 refine za5 (B:=200) G0F func37 rfl call37 (zam h.fx) ?_ (by simp) (by simp) (by simp) (by simp [ntmps37]) (by omega) ?_
 ·simp [zap,zau,zaj,zal,zab,cfV]
 intro C hC hC0 hY
 have hr:=λρ=>Blk.fx_rn h.fx ρ
 have hne:=zt0 n f g bx tp nr md
 cases hc:zd2 n f g bx tp nr md with
 | true =>
  rw [hc] at hne
  unfold cfV
  repeat' first|refine gwZ ?_|((first|refine gwR [55] ?_|refine gwD [55] ?_);intro Q hQ _;(repeat first|simp [hC,hY,hne]|refine zac (z1g b off n cap f h g bx tp nr md) G0F (B:=200) (zam h.fx) (λk=>k) (λk hk=>rfl) (by simp [ren,zas,zan,zao,cfV]) (by simp) (by simp [hr]) (by simp [zab]) (by simp [zab];rfl) ?_);refine gwq hQ ?_)|refine gwC ?_ ?_<;>intro hb
  refine ⟨.inr rfl,by simp [results37],kpS G0F⟩
 | false =>
  rw [hc] at hne
  unfold cfV
  repeat' first|refine gwZ ?_|((first|refine gwR [55] ?_|refine gwD [55] ?_);intro Q hQ _;(repeat first|simp [hC,hY,hne]|refine zac (z1g b off n cap f h g bx tp nr md) G0F (B:=200) (zam h.fx) (λk=>k) (λk hk=>rfl) (by simp [ren,zas,zan,zao,cfV]) (by simp) (by simp [hr]) (by simp [zab]) (by simp [zab];rfl) ?_);refine gwq hQ ?_)|refine gwC ?_ ?_<;>intro hb
  refine ⟨.inr rfl,by simp [results37],kpS G0F⟩
theorem zlp (b:Blk) (hb:b.fx) (g bx tp nr md:Int) :
  Fun prog G0 37 #[cfV (.slice none 0 0) g bx tp nr md] (hpL G0 [(100,b)]) (zab [(100,b)]) (.ret (.int .i64 110) []):=by
 refine za5 (B:=200) G0F func37 rfl call37 (zam hb) ?_ (by simp) (by simp) (by simp) (by simp [ntmps37]) (by omega) ?_
 ·simp [zap,zau,zaj,zal,zab,cfV]
 intro C hC hC0 hY
 have hr:=λρ=>Blk.fx_rn hb ρ
 have hne:jda ⟨#[98,111,100,105,101,115]⟩ ⟨#[]⟩=true:=by decide +kernel
 unfold cfV
 repeat' first|refine gwZ ?_|((first|refine gwR [55] ?_|refine gwD [55] ?_);intro Q hQ _;(repeat first|simp [hC,hY,hne]|refine zac (z5j b hb g bx tp nr md) G0F (B:=200) (zam hb) (λk=>k) (λk hk=>rfl) (by simp [ren,zas,zan,zao,cfV]) (by simp) (by simp [hr]) (by simp [zab]) (by simp [zab];rfl) ?_);refine gwq hQ ?_)|refine gwC ?_ ?_<;>intro hb
 refine ⟨.inr rfl,by simp [results37],kpS G0F⟩
def zjo (n n2:Nat) (okc rt:Bool):Bool:=decide (n=n2)&&(okc&&rt)
theorem zyk (L:List (Nat×Blk)) (ks:Nat) (bm bs:Blk) (hT:LTwo G0 L ks bm bs) (off n cap off2 n2 cap2:Nat) (fm fs:Nat->Int) (hm:MB bm off n fm) (hSb:SB bs off2 n2 fs) (g bx tp nr md st:Int) (hs:i64 st) :
  Fun prog G0 19 #[cfV (.slice (some ⟨100,off,none⟩) n cap) g bx tp nr md,.agg #[.int .i64 st,.slice (some ⟨ks,off2,none⟩) n2 cap2]] (hpL G0 L) (zab L) (.ret (.bool (zjo n n2 (zd2 n fm g bx tp nr md) (zay st fs n2))) []):=by
 refine za5 (B:=200) G0F func19 rfl call19 hT.ok ?_ (by simp) (by simp) (by simp) (by simp [ntmps19]) (by omega) ?_
 ·simp [zap,zau,zaj,zal,hT.ia,hT.ib,cfV]
 intro C hC hC0 hY
 have hA:=hT.a
 have hS:=hT.s
 have hne:=hT.ne
 have hLow:=hT.low
 have hks:=hT.k1
 have hks2:=hT.k2
 have hrm:=λρ=>Blk.fx_rn hm.fx ρ
 have hrs:=λρ=>Blk.fx_rn hSb.fx ρ
 have hck:=zoh bm off n cap fm hm g bx tp nr md
 have hri:=z0f bs off2 n2 cap2 fs hSb st hs
 unfold zjo
 unfold cfV at hck |-
 by_cases hn:n=n2
 ·have hn':(n:Int)=(n2:Int):=by omega
  have hnb:((n:Int)==(n2:Int))=true:=by simpa using hn'
  rw [decide_eq_true hn]
  cases hc:zd2 n fm g bx tp nr md with
  | false =>
   rw [hc] at hck
   repeat' first|refine gwZ ?_|((first|refine gwR [37,33] ?_|refine gwD [37,33] ?_);intro Q hQ _;(repeat first|simp [hC,hY,hA,hS,hne,hn',hnb]|refine zac hck G0F (B:=200) (zam hm.fx) (λk=>k) (λk hk=>rfl) (by simp [ren,zas,zan,zao,cfV]) (by simp) (by simp [hrm,hA]) (by simp [zab]) (by simp [zab];rfl) ?_);refine gwq hQ ?_)|refine gwC ?_ ?_<;>intro hb
   refine ⟨.inr rfl,by simp [results19],kpT G0F⟩
  | true =>
   rw [hc] at hck
   repeat' first|refine gwZ ?_|((first|refine gwR [37,33] ?_|refine gwD [37,33] ?_);intro Q hQ _;(repeat first|simp [hC,hY,hA,hS,hne,hn',hnb]|refine zac hck G0F (B:=200) (zam hm.fx) (λk=>k) (λk hk=>rfl) (by simp [ren,zas,zan,zao,cfV]) (by simp) (by simp [hrm,hA]) (by simp [zab]) (by simp [zab];rfl) ?_|refine zac hri G0F (B:=200) (zam hSb.fx) (λk=>if k=100 then ks else k) (λk hk=>if_neg (by omega)) (by simp [ren,zas,zan,zao]) (by simp) (by simp [hrs,hS,hne,hks]) (by simp [zab]) (by simp [zab];rfl) ?_);refine gwq hQ ?_)|refine gwC ?_ ?_<;>intro hb
   refine ⟨.inr rfl,by simp [results19],kpT G0F⟩
 ·have hn':¬(n:Int)=(n2:Int):=by omega
  have hnb:((n:Int)==(n2:Int))=false:=by simpa using hn'
  rw [decide_eq_false hn]
  repeat' first|refine gwZ ?_|(refine gwX ?_;intro Q hQ _;simp [hC,hY,hA,hS,hne,hn',hnb];refine gwq hQ ?_)|refine gwC ?_ ?_<;>intro hb
  refine ⟨.inr rfl,by simp [results19],kpT G0F⟩
end Go.Gy
namespace Go.Gy
open Go Go.RowKit Go.Proofs
def plo (N s:Int):Int:=isq (N / s)
def phi (N s:Int):Int:=if plo N s*plo N s*s=N then plo N s else plo N s+1
theorem zj3 {a b:Int} (h0:0<=a) (h:a<=b):a*a<=b*b:=Int.mul_le_mul h h h0 (by omega)
theorem znh {N s:Int} (hN:0<=N) (hs:0<s):0<=plo N s/\plo N s*plo N s*s<=N/\N<(plo N s+1)*(plo N s+1)*s:=by
 have hq:0<=N / s:=Int.ediv_nonneg hN (by omega)
 obtain ⟨r0,r1,r2⟩:=zfz (N / s) hq
 have h1:=Int.emod_add_mul_ediv N s
 have h2:=Int.emod_nonneg N (b:=s) (by omega)
 have h3:=Int.emod_lt_of_pos N hs
 unfold plo
 generalize isq (N / s)=r at *
 generalize N / s=q at *
 refine ⟨r0,?_,?_⟩
 ·have:r*r*s<=q*s:=Int.mul_le_mul_of_nonneg_right r1 (by omega)
  rw [Int.mul_comm q s] at this
  omega
 ·have h4:(q+1)*s<=(r+1)*(r+1)*s:=Int.mul_le_mul_of_nonneg_right (by omega) (by omega)
  rw [Int.add_mul,Int.mul_comm q s] at h4
  omega
theorem jgj {N s h:Int} (hN:0<=N) (hs:0<s) (hh:0<=h):N<=h*h*s↔phi N s<=h:=by
 obtain ⟨r0,r1,r2⟩:=znh hN hs
 unfold phi
 constructor
 ·intro h1
  split
  ·rename_i e
   refine Classical.byContradiction λc=>?_
   have h2:=zj3 (a:=h+1) (b:=plo N s) (by omega) (by omega)
   have h3:h*h<plo N s*plo N s:=by
    have:(h+1)*(h+1)=h*h+2*h+1:=by rw [Int.add_mul,Int.mul_add];omega
    omega
   have h4:=Int.mul_lt_mul_of_pos_right h3 hs
   omega
  ·rename_i e
   refine Classical.byContradiction λc=>?_
   have h2:=zj3 (a:=h) (b:=plo N s) hh (by omega)
   have h3:=Int.mul_le_mul_of_nonneg_right h2 (show 0<=s by omega)
   omega
 ·intro h1
  split at h1
  ·rename_i e
   have h2:=zj3 r0 h1
   have h3:=Int.mul_le_mul_of_nonneg_right h2 (show 0<=s by omega)
   omega
  ·have h2:=zj3 (a:=plo N s+1) (b:=h) (by omega) h1
   have h3:=Int.mul_le_mul_of_nonneg_right h2 (show 0<=s by omega)
   omega
theorem jgk {N s:Int} (hN:0<=N) (hs:0<s):0<=phi N s:=by
 obtain ⟨r0,_,_⟩:=znh hN hs
 unfold phi
 split<;>omega
structure EIn (g m w q:Int):Prop where
 g0:1<=g
 g1:g<=1048576
 m0:1<=m
 m1:m<=1024
 w0:1<=w
 w1:w<=1024
 q0:0<=q
 q1:q<=13194139533312
def enA (g m w:Int):Int:=g*m*w*1048576
def z26 (g m w q:Int):Int:=plo (enA g m w*enA g m w) q
def jif (g m w q:Int):Int:=phi (enA g m w*enA g m w) q
theorem jog {a b p q:Int} (h1:1<=a) (h2:a<=p) (h3:1<=b) (h4:b<=q):1<=a*b/\a*b<=p*q:=by
 constructor
 ·have:=Int.mul_le_mul (a:=1) (b:=1) (c:=a) (d:=b) h1 h3 (by omega) (by omega)
  omega
 ·exact Int.mul_le_mul h2 h4 (by omega) (by omega)
theorem EIn.gm {g m w q:Int} (h:EIn g m w q):1<=g*m/\g*m<=1073741824:=jog h.g0 h.g1 h.m0 h.m1
theorem EIn.gmw {g m w q:Int} (h:EIn g m w q):1<=g*m*w/\g*m*w<=1099511627776:=jog h.gm.1 h.gm.2 h.w0 h.w1
theorem EIn.a {g m w q:Int} (h:EIn g m w q):1048576<=enA g m w/\enA g m w<=1152921504606846976:=by
 have:=h.gmw
 unfold enA
 omega
theorem EIn.aa {g m w q:Int} (h:EIn g m w q):0<=enA g m w*enA g m w/\enA g m w*enA g m w<=1329227995784915872903807060280344576:=by
 have h1:=h.a
 exact ⟨Int.mul_nonneg (by omega) (by omega),Int.mul_le_mul h1.2 h1.2 (by omega) (by omega)⟩
theorem z27 (g m w q:Int):jif g m w q=if z26 g m w q*z26 g m w q*q=enA g m w*enA g m w then z26 g m w q else z26 g m w q+1:=rfl
theorem EIn.holds {g m w q:Int} (h:EIn g m w q) (hq:0<q):z26 g m w q*z26 g m w q*q<=enA g m w*enA g m w/\enA g m w*enA g m w<=jif g m w q*jif g m w q*q/\(z26 g m w q=jif g m w q↔z26 g m w q*z26 g m w q*q=enA g m w*enA g m w):=by
 refine ⟨(znh h.aa.1 hq).2.1,(jgj h.aa.1 hq (jgk h.aa.1 hq)).2 (Int.le_refl _),?_⟩
 rw [z27]
 split
 ·rename_i e
  exact ⟨λ_=>e,λ_=>rfl⟩
 ·rename_i e
  exact ⟨λh=>absurd h (by omega),λh=>absurd h e⟩
def zd8 (f:Nat->Int):Nat->Int
 | 0=>0
 | n+1=>zd8 f n+f n
theorem zv7 {f g:Nat->Int}:∀ {n:Nat},(∀ i,i<n->f i=g i)->zd8 f n=zd8 g n
 | 0,_=>rfl
 | n+1,h=>by
  unfold zd8
  rw [zv7 (λi hi=>h i (by omega)),h n (by omega)]
theorem z04 {f:Nat->Int} {lo hi:Int}:∀ {n:Nat},(∀ i,i<n->lo<=f i/\f i<=hi)->n*lo<=zd8 f n/\zd8 f n<=n*hi
 | 0,_=>by simp [zd8]
 | n+1,h=>by
  have h1:=z04 (n:=n) λi hi=>h i (by omega)
  have h2:=h n (by omega)
  unfold zd8
  rw [Int.natCast_succ,Int.add_mul,Int.add_mul]
  omega
end Go.Gy
namespace Go.Gy
open Go Go.RowKit Go.Proofs Go.Proofs.Tryz
theorem z44 (x y:Int):Ret prog G0 65 #[.int .i64 x,.int .i64 y] (.int .i64 (Int.bmod (x - y) 18446744073709551616)):=by
 refine zav G0F func65 rfl call65 (by simp) (by simp) (by simp [ntmps65]) ?_
 intro C hC hC0 hY
 repeat' first|refine gwZ ?_|refine gwW ?_|refine gwC ?_ ?_<;>intro hb
 refine ⟨.inr trivial,?_⟩
 simp [results65]
@[simp] theorem jm7 (x y:Int) (K:Value->Prop):za2 prog G0 65 #[.int .i64 x,.int .i64 y] K↔K (.int .i64 (Int.bmod (x - y) 18446744073709551616)):=zaf G0W (by kernel_rfl) (z44 x y)
def znt (a b:Int):Int:=a - b
theorem jk3 {a b:Int} (h1:fnI a) (h2:fnI b):Int.bmod (a - b) 18446744073709551616=a - b:=by
 obtain ⟨h1,h3⟩:=h1
 obtain ⟨h2,h4⟩:=h2
 exact bm (by omega) (by omega)
theorem ja8 (a0 a1 a2 b0 b1 b2:Int):Ret prog G0 43 #[.agg #[.int .i64 a0,.int .i64 a1,.int .i64 a2],.agg #[.int .i64 b0,.int .i64 b1,.int .i64 b2]]
  (.tuple #[.agg #[.int .i64 (eaV (eaE znt a0 a1 a2 b0 b1 b2) (znt a0 b0)),.int .i64 (eaV (eaE znt a0 a1 a2 b0 b1 b2) (znt a1 b1)),.int .i64 (eaV (eaE znt a0 a1 a2 b0 b1 b2) (znt a2 b2))],.int .i64 (eaE znt a0 a1 a2 b0 b1 b2)]):=by
 refine zav G0F func43 rfl call43 (by simp) (by simp) (by simp [ntmps43]) ?_
 intro C hC hC0 hY
 have he:=λK=>jm6 65 znt (λx y K hx hy=>by rw [jm7,jk3 hx hy];rfl) a0 a1 a2 b0 b1 b2 K
 repeat' first|refine gwZ ?_|(refine gwX ?_;intro Q hQ _;simp [hC,hY,he];refine gwq hQ ?_)|refine gwC ?_ ?_<;>intro hb
 refine ⟨.inr trivial,?_⟩
 simp [results43]
theorem SB.vec {b:Blk} {off n:Nat} {f:Nat->Int} (h:SB b off n f) {i:Nat} (hi:i<n) {u:Nat} (hu:u+3<=6):zds prog 31 b (off+i*6+u)=some (.agg #[.int .i64 (f (6*i+u)),.int .i64 (f (6*i+u+1)),.int .i64 (f (6*i+u+2))]):=by
 have hbrd:=Blk.fx_rd h.fx
 have:=zj0 (P:=prog) (T:=31) (m:=3) (j:=6*i+u) (zbv isAgg31) (zaq sizeOf31) (by omega) h.rd (by omega)
 rw [show off+i*6+u=off+(6*i+u) by omega,this,zxw]
 rfl
theorem jbh (n lo hi:Int):Ret prog G0 79 #[.int .i64 n,.int .i64 lo,.int .i64 hi] (.bool (wiB n lo hi)):=by
 refine zav G0F func79 rfl call79 rfl (by simp) (by simp [ntmps79]) ?_
 intro C hC hC0 hY
 unfold wiB
 by_cases c0:lo<=n
 ·by_cases c1:n<=hi
  ·rw [decide_eq_true ⟨c0,c1⟩]
   (repeat' (first|refine gwZ ?_|(refine gwX ?_;intro Q hQ _;simp [hC,hY,c0,c1];refine gwq hQ ?_)|refine gwC ?_ ?_<;>intro hb))
   refine ⟨.inr trivial,?_⟩
   simp [results79]
  ·rw [decide_eq_false (by omega)]
   (repeat' (first|refine gwZ ?_|(refine gwX ?_;intro Q hQ _;simp [hC,hY,c0,c1];refine gwq hQ ?_)|refine gwC ?_ ?_<;>intro hb))
   refine ⟨.inr trivial,?_⟩
   simp [results79]
 ·rw [decide_eq_false (by omega)]
  (repeat' (first|refine gwZ ?_|(refine gwX ?_;intro Q hQ _;simp [hC,hY,c0];refine gwq hQ ?_)|refine gwC ?_ ?_<;>intro hb))
  refine ⟨.inr trivial,?_⟩
  simp [results79]
@[simp] theorem w11 (n lo hi:Int) (K:Value->Prop):za2 prog G0 79 #[.int .i64 n,.int .i64 lo,.int .i64 hi] K↔K (.bool (wiB n lo hi)):=zaf G0W (by kernel_rfl) (jbh n lo hi)
def z5i (b:Blk) (off n cap:Nat) (g bx tp nr md:Int) (i:Nat):GS :=
 ⟨tsL [(1,.pointer (some ⟨200,0,none⟩)),(3,.int .i64 i)],hpL G0 [(100,b),(200,cfB (.slice (some ⟨100,off,none⟩) n cap) g bx tp nr md)],400,0⟩
theorem zsj {f:Nat->Int} {n:Nat}:zp6 f n=true↔∀ i,i<n->wiB (f i) 1 1024=true:=by simp [zp6]
theorem zp2 (b:Blk) (off n cap:Nat) (f:Nat->Int) (h:MB b off n f) (g bx tp nr md:Int) :
  Fun prog G0 56 #[cfV (.slice (some ⟨100,off,none⟩) n cap) g bx tp nr md] (hpL G0 [(100,b)]) (zab [(100,b)]) (.ret (.string (zgf n f g bx tp nr md)) []):=by
 refine za5 (B:=200) G0F func56 rfl call56 (zam h.fx) ?_ (by simp [zap,zau,zaj,zal]) (by simp) (by simp) (by simp [ntmps56]) (by omega) ?_
 ·simp [zap,zau,zaj,zal,zab,cfV]
 intro C hC hC0 hY
 have hid:=λD=>Blk.fx_ids h.fx D
 unfold cfV
 cases h4:wiB n 1 4 with
 | false =>
  have hw:zgf n f g bx tp nr md=⟨#[98,111,100,105,101,115]⟩:=by simp [zgf,h4]
  rw [hw]
  repeat' first|refine gwZ ?_|(refine gwX ?_;intro Q hQ _;simp [hC,hY,h4];refine gwq hQ ?_)|refine gwC ?_ ?_<;>intro hb
  refine ⟨.inr rfl,by simp [results56],kpS G0F⟩
 | true =>
  obtain ⟨N,hN,hlt,hend⟩:=zy6 (λi=>wiB (f i) 1 1024) n
  repeat' first|refine gwZ ?_|(refine gwX ?_;intro Q hQ _;simp [hC,hY,h4];refine gwq hQ ?_)|refine gwC ?_ ?_<;>intro hb
  refine zb3 N (z5i b off n cap g bx tp nr md) ?_ ?_ ?_
  ·refine zbc _ 400 hC G0F (m0:=[(100,b)]) hC0 (by omega) ?_ ?_ ?_
   ·simp [zap,zau,zaj,zal,dom]
   ·simp [cfB,zae,zaj,zal,hid,dom]
   ·simp
  ·intro i hi
   have hi':(i:Int)<n:=by omega
   have hz:(0:Int)<=i:=by omega
   have hnn:=h.nn
   have hs:Int.bmod ((i:Int)+1) 18446744073709551616=((i+1:Nat):Int):=by rw [bm (by omega) (by omega)];rfl
   have hld:=h.at (i:=i) (by omega)
   have hw:=hlt i hi
   unfold z5i cfB
   repeat' first|refine gwZ ?_|(refine gwX ?_;intro Q hQ _;simp [hC,hY,hi',hz,hs,hld,hw];refine gwq hQ ?_)|refine gwC ?_ ?_<;>intro hb
   refine zbc _ 400 hC G0F (m0:=[(100,b)]) hC0 (by omega) ?_ ?_ ?_
   ·simp [zap,zau,zaj,zal,dom,hs]
   ·simp [cfB,zae,zaj,zal,hid,dom]
   ·simp
  ·by_cases hNn:N=n
   ·have hNs:=hNn.symm
    subst hNs
    have hm:zp6 f n=true:=zsj.2 hlt
    cases hg:wiB g 1 1048576 with
    | false =>
     have hw:zgf n f g bx tp nr md=⟨#[99,111,110,115,116,97,110,116]⟩:=by simp [zgf,h4,hm,hg]
     rw [hw]
     unfold z5i cfB
     repeat' first|refine gwZ ?_|(refine gwX ?_;intro Q hQ _;simp [hC,hY,h4,hg];refine gwq hQ ?_)|refine gwC ?_ ?_<;>intro hb
     refine ⟨.inr rfl,by simp [results56],kpS G0F⟩
    | true =>
     cases hx:wiB bx 1 1048576 with
     | false =>
      have hw:zgf n f g bx tp nr md=⟨#[98,111,120]⟩:=by simp [zgf,h4,hm,hg,hx]
      rw [hw]
      unfold z5i cfB
      repeat' first|refine gwZ ?_|(refine gwX ?_;intro Q hQ _;simp [hC,hY,h4,hg,hx];refine gwq hQ ?_)|refine gwC ?_ ?_<;>intro hb
      refine ⟨.inr rfl,by simp [results56],kpS G0F⟩
     | true =>
      cases ht:wiB tp 1 65536 with
      | false =>
       have hw:zgf n f g bx tp nr md=⟨#[116,111,112]⟩:=by simp [zgf,h4,hm,hg,hx,ht]
       rw [hw]
       unfold z5i cfB
       repeat' first|refine gwZ ?_|(refine gwX ?_;intro Q hQ _;simp [hC,hY,h4,hg,hx,ht];refine gwq hQ ?_)|refine gwC ?_ ?_<;>intro hb
       refine ⟨.inr rfl,by simp [results56],kpS G0F⟩
      | true =>
       cases hn:wiB nr 1 (Int.bmod (2*bx) 18446744073709551616) with
       | false =>
        have hw:zgf n f g bx tp nr md=⟨#[110,101,97,114]⟩:=by simp [zgf,h4,hm,hg,hx,ht,hn]
        rw [hw]
        unfold z5i cfB
        repeat' first|refine gwZ ?_|(refine gwX ?_;intro Q hQ _;simp [hC,hY,h4,hg,hx,ht,hn];refine gwq hQ ?_)|refine gwC ?_ ?_<;>intro hb
        refine ⟨.inr rfl,by simp [results56],kpS G0F⟩
       | true =>
        cases hd:wiB md 0 4 with
        | false =>
         have hw:zgf n f g bx tp nr md=⟨#[109,101,116,104,111,100]⟩:=by simp [zgf,h4,hm,hg,hx,ht,hn,hd]
         rw [hw]
         unfold z5i cfB
         repeat' first|refine gwZ ?_|(refine gwX ?_;intro Q hQ _;simp [hC,hY,h4,hg,hx,ht,hn,hd];refine gwq hQ ?_)|refine gwC ?_ ?_<;>intro hb
         refine ⟨.inr rfl,by simp [results56],kpS G0F⟩
        | true =>
         have hw:zgf n f g bx tp nr md=⟨#[]⟩:=by simp [zgf,h4,hm,hg,hx,ht,hn,hd]
         rw [hw]
         unfold z5i cfB
         repeat' first|refine gwZ ?_|(refine gwX ?_;intro Q hQ _;simp [hC,hY,h4,hg,hx,ht,hn,hd];refine gwq hQ ?_)|refine gwC ?_ ?_<;>intro hb
         refine ⟨.inr rfl,by simp [results56],kpS G0F⟩
   ·have hNn':N<n:=by omega
    have hend:=hend.resolve_left hNn
    have hm:zp6 f n=false:=by
     cases hm:zp6 f n with
     | false=>rfl
     | true=>have:=zsj.1 hm N hNn';rw [hend] at this;cases this
    have hw:zgf n f g bx tp nr md=⟨#[109,97,115,115]⟩:=by simp [zgf,h4,hm]
    rw [hw]
    have hi':(N:Int)<n:=by omega
    have hz:(0:Int)<=N:=by omega
    have hld:=h.at (i:=N) (by omega)
    unfold z5i cfB
    repeat' first|refine gwZ ?_|(refine gwX ?_;intro Q hQ _;simp [hC,hY,hi',hz,hld,hend];refine gwq hQ ?_)|refine gwC ?_ ?_<;>intro hb
    refine ⟨.inr rfl,by simp [results56],kpS G0F⟩
theorem zoi (b:Blk) (off n cap:Nat) (f:Nat->Int) (h:MB b off n f) (g bx tp nr md:Int) :
  Fun prog G0 38 #[cfV (.slice (some ⟨100,off,none⟩) n cap) g bx tp nr md] (hpL G0 [(100,b)]) (zab [(100,b)]) (.ret (.int .i64 (if zd2 n f g bx tp nr md=true then 0 else 110)) []):=by
 refine za5 (B:=200) G0F func38 rfl call38 (zam h.fx) ?_ (by simp) (by simp) (by simp) (by simp [ntmps38]) (by omega) ?_
 ·simp [zap,zau,zaj,zal,zab,cfV]
 intro C hC hC0 hY
 have hr:=λρ=>Blk.fx_rn h.fx ρ
 have hne:=zt0 n f g bx tp nr md
 unfold cfV
 cases hc:zd2 n f g bx tp nr md with
 | true =>
  rw [hc] at hne
  repeat' first|refine gwZ ?_|((first|refine gwR [56] ?_|refine gwD [56] ?_);intro Q hQ _;(repeat first|simp [hC,hY,hne]|refine zac (zp2 b off n cap f h g bx tp nr md) G0F (B:=200) (zam h.fx) (λk=>k) (λk hk=>rfl) (by simp [ren,zas,zan,zao,cfV]) (by simp) (by simp [hr]) (by simp [zab]) (by simp [zab];rfl) ?_);refine gwq hQ ?_)|refine gwC ?_ ?_<;>intro hb
  refine ⟨.inr rfl,by simp [results38],kpS G0F⟩
 | false =>
  rw [hc] at hne
  repeat' first|refine gwZ ?_|((first|refine gwR [56] ?_|refine gwD [56] ?_);intro Q hQ _;(repeat first|simp [hC,hY,hne]|refine zac (zp2 b off n cap f h g bx tp nr md) G0F (B:=200) (zam h.fx) (λk=>k) (λk hk=>rfl) (by simp [ren,zas,zan,zao,cfV]) (by simp) (by simp [hr]) (by simp [zab]) (by simp [zab];rfl) ?_);refine gwq hQ ?_)|refine gwC ?_ ?_<;>intro hb
  refine ⟨.inr rfl,by simp [results38],kpS G0F⟩
theorem z1f (g bx tp nr md:Int):Ret prog G0 56 #[.agg #[.slice none 0 0,.int .i64 g,.int .i64 bx,.int .i64 tp,.int .i64 nr,.int .i64 md]] (.string ⟨#[98,111,100,105,101,115]⟩):=by
 refine zav G0F func56 rfl call56 (by simp) (by simp) (by simp [ntmps56]) ?_
 intro C hC hC0 hY
 have h4:wiB 0 1 4=false:=by decide
 repeat' first|refine gwZ ?_|(refine gwX ?_;intro Q hQ _;simp [hC,hY,h4];refine gwq hQ ?_)|refine gwC ?_ ?_<;>intro hb
 refine ⟨.inr trivial,?_⟩
 simp [results56]
@[simp] theorem jo8 (g bx tp nr md:Int) (K:Value->Prop):za2 prog G0 56 #[.agg #[.slice none 0 0,.int .i64 g,.int .i64 bx,.int .i64 tp,.int .i64 nr,.int .i64 md]] K↔K (.string ⟨#[98,111,100,105,101,115]⟩):=zaf G0W (by kernel_rfl) (z1f g bx tp nr md)

theorem zxo (g bx tp nr md:Int):Ret prog G0 38 #[cfV (.slice none 0 0) g bx tp nr md] (.int .i64 110):=by
 unfold cfV
 refine zav G0F func38 rfl call38 (by simp) (by simp) (by simp [ntmps38]) ?_
 intro C hC hC0 hY
 have hne:jda ⟨#[98,111,100,105,101,115]⟩ ⟨#[]⟩=true:=by decide +kernel
 repeat' first|refine gwZ ?_|(refine gwX ?_;intro Q hQ _;simp [hC,hY,hne];refine gwq hQ ?_)|refine gwC ?_ ?_<;>intro hb
 refine ⟨.inr trivial,?_⟩
 simp [results38]
@[simp] theorem jnn (g bx tp nr md:Int) (K:Value->Prop):za2 prog G0 38 #[.agg #[.slice none 0 0,.int .i64 g,.int .i64 bx,.int .i64 tp,.int .i64 nr,.int .i64 md]] K↔K (.int .i64 110):=zaf G0W (by kernel_rfl) (zxo g bx tp nr md)
end Go.Gy
namespace Go.Gy
open Go Go.RowKit
theorem zes {C:Ctx} {G:Hp} {s:GS} {m L:List (Nat×Blk)} (ρ:Nat->Nat) (l:List (Nat×Value)) (B:Nat) (hG:C.G=G) (hGF:zbm G) (hL:LOk L 200) (hfx:∀ p∈L,p.2.fx) (h0:C.hp0=hpL G L) (hB:200<=B)
  (hl:∀ p∈l,s.ts p.1=ren ρ p.2/\s.ts p.1≠zbz/\zap (dom (hpL G (m++L))) p.2)
  (hm:∀ p∈m,s.hp (ρ p.1)=some (p.2.rn ρ)/\p.2.ids (dom (hpL G (m++L)))/\200<=p.1/\p.1<B/\200<=ρ p.1)
  (hi:∀ p∈m,∀ q∈m,ρ p.1=ρ q.1->p.1=q.1) (hid:∀ k,k<200->ρ k=k) (hk:∀ p∈L,s.hp p.1=some p.2):WeakR C ρ s ⟨tsL l,hpL G (m++L),B,s.yc⟩:=by
 refine zp1 ρ l B hG hGF h0 (by omega) hl (λp hp=>?_) (λp hp q hq e=>?_) (λk hk=>hid k (by omega)) (λp hp=>?_)
 ·rcases List.mem_append.1 hp with h|h
  ·have:=hm p h
   exact ⟨this.1,this.2.1,by omega,this.2.2.2.1,by omega⟩
  ·have hb:=hL.big p h
   rw [hid p.1 hb.2,Blk.fx_rn (hfx p h) ρ]
   exact ⟨hk p h,Blk.fx_ids (hfx p h) _,hb.1,by omega,hb.1⟩
 ·rcases List.mem_append.1 hp with h|h<;>rcases List.mem_append.1 hq with h'|h'
  ·exact hi p h q h' e
  ·have:=(hm p h).2.2.2.2
   have hb:=hL.big q h'
   rw [hid q.1 hb.2] at e
   omega
  ·have:=(hm q h').2.2.2.2
   have hb:=hL.big p h
   rw [hid p.1 hb.2] at e
   omega
  ·rw [hid p.1 (hL.big p h).2,hid q.1 (hL.big q h').2] at e
   exact e
 ·have hb:=hL.big p hp
  exact ⟨hb.1,z8s (zah.2 ⟨p,hp,rfl⟩),hid p.1 hb.2⟩
end Go.Gy
namespace Go.Gy
open Go Go.RowKit Go.Proofs Go.Proofs.Tryz
theorem zkc {n:Nat} {f:Nat->Int} {g bx tp nr md:Int} (h:zd2 n f g bx tp nr md=true) {i:Nat} (hi:i<n):1<=f i/\f i<=1024:=by
 unfold zd2 at h
 simp only [Bool.and_eq_true] at h
 have h2:=h.2.1
 unfold zp6 at h2
 rw [List.all_eq_true] at h2
 have:=h2 i (by simpa using hi)
 unfold wiB at this
 simpa using this
theorem zxm {n:Nat} {f:Nat->Int} {g bx tp nr md:Int} (h:zd2 n f g bx tp nr md=true):1<=g/\g<=1048576:=by
 unfold zd2 at h
 simp only [Bool.and_eq_true] at h
 have:=h.2.2.1
 unfold wiB at this
 simpa using this
theorem zde {n n2:Nat} {okc rt:Bool}:zjo n n2 okc rt=true↔n=n2/\okc=true/\rt=true:=by
 unfold zjo
 simp
theorem ja3 {a m:Int} (h:inW m a):0<=a*a/\a*a<=m*m:=by
 obtain ⟨h0,h1,h2⟩:=h
 by_cases c:0<=a
 ·exact ⟨Int.mul_nonneg c c,Int.mul_le_mul h2 h2 c h0⟩
 ·rw [<-Int.neg_mul_neg]
  exact ⟨Int.mul_nonneg (by omega) (by omega),Int.mul_le_mul (by omega) (by omega) (by omega) h0⟩
theorem zbt {b:Blk} {off n:Nat} {f:Nat->Int} (h:SB b off n f) (i:Nat) (hi:i<n) (o:Nat) (e:o=off+i*6):zds prog 45 b o=some (.agg #[.int .i64 (f (6*i)),.int .i64 (f (6*i+1)),.int .i64 (f (6*i+2)),.int .i64 (f (6*i+3)),.int .i64 (f (6*i+4)),.int .i64 (f (6*i+5))]):=by rw [e];exact h.body hi
theorem zbu {b:Blk} {off n:Nat} {f:Nat->Int} (h:MB b off n f) (i:Nat) (hi:i<n) (o:Nat) (e:o=off+i):zds prog 3 b o=some (.int .i64 (f i)):=by rw [e];exact h.at hi
def ezB (cq:Array Value):Blk:=⟨cq,.raw 24 (0,0)⟩
theorem z59 {cq:Array Value} {ρ:Nat->Nat}:(ezB cq).rn ρ=ezB cq:=rfl
theorem zm4 {cq:Array Value} {D:Nat->Prop}:(ezB cq).ids D:=trivial
theorem z8u {cq:Array Value} {g:Int} (h1:cq[1]? = some (.int .i64 g)):zds prog 3 ⟨cq,.raw 24 (0,0)⟩ 1=some (.int .i64 g):=by
 unfold zds
 simp [h1,za0,zbj,zho]
theorem eIn {asd:List Nat} {f g:Hp} {k:Nat} (h:k∈asd):zb9 asd f g k=f k:=if_pos h
theorem eNi {asd:List Nat} {f g:Hp} {k:Nat} (h:k∉asd):zb9 asd f g k=g k:=if_neg h
theorem jec {G:Hp}:∀ {L:List (Nat×Blk)} {k:Nat},k∉zab L->hpL G L k=G k
 | [],_,_=>rfl
 | (q,c)::L,k,h=>by
  simp only [zab,List.map_cons,List.mem_cons,not_or] at h
  rw [zai,if_neg h.1]
  exact jec h.2
def d2F (f:Nat->Int) (i k:Nat):Int:=(f (6*i) - f (6*k))*(f (6*i) - f (6*k))+(f (6*i+1) - f (6*k+1))*(f (6*i+1) - f (6*k+1))+(f (6*i+2) - f (6*k+2))*(f (6*i+2) - f (6*k+2))
end Go.Gy
namespace Go.Gy
open Go Go.RowKit Go.Proofs Go.Proofs.Tryz
def r2n (a nk k:Nat):Nat:=if k=100 then a else if k=1000 then nk else k
theorem z4q {a nk:Nat}:r2n a nk 100=a:=rfl
theorem jan {a nk:Nat}:r2n a nk 1000=nk:=rfl
theorem jao {a nk:Nat} (k:Nat) (h:k<100):r2n a nk k=k:=by
 unfold r2n
 rw [if_neg (by omega),if_neg (by omega)]
theorem FunS.own2 {fn:FuncId} {args args':Array Value} {b:Blk} {R R':Value->List (Nat×Blk)->Prop} (h:FunS prog G0 fn args (hpL G0 [(100,b)]) (zab [(100,b)]) R) (hb:b.fx) (a nk:Nat) (ha:100<=a) (hk:100<=nk) (hne:a≠nk) (hR:∀ v ns,R v ns->∀ k∈zab ns,k=1000) (ea:args.map (ren (r2n a nk))=args') (eR:RR (r2n a nk) R=R') :
  FunS prog G0 fn args' (hpL G0 [(a,b)]) [a] R':=by
 refine h.mvL G0F (zam hb) (r2n a nk) jao ea (by simp [zab,z4q]) eR (λk hk=>?_) ?_ (by simp [zab]) (λv ns hV k hk=>?_) (λv ns hV k hk l hl _=>by rw [hR v ns hV k hk,hR v ns hV l hl])
 ·rw [zai,if_neg (by omega)]
  rfl
 ·simp only [List.mem_singleton,forall_eq]
  rw [Blk.fx_rn hb,z4q]
  exact ⟨ha,by simp⟩
 ·rw [hR v ns hV k hk,jan]
  simp
  exact ⟨by omega,λe=>hne e.symm⟩
theorem zng {nk:Nat} {ρ:Nat->Nat} (h:ρ 1000=nk) (st:Int) (n:Nat) (f:Nat->Int):RR ρ (zwh 1000 st n f)=zwh nk st n f:=by
 funext v ns
 apply propext
 constructor
 ·rintro ⟨v0,ns0,⟨c,M,g,h1,h2,h3,rfl,rfl⟩,rfl,rfl⟩
  exact ⟨c,M,g,h1,h2,h3,by simp [ren,zas,zan,zao,h],by simp [rnL,zd3,h]⟩
 ·rintro ⟨c,M,g,h1,h2,h3,rfl,rfl⟩
  exact ⟨_,_,⟨c,M,g,h1,h2,h3,rfl,rfl⟩,by simp [ren,zas,zan,zao,h],by simp [rnL,zd3,h]⟩
theorem zcm {nk:Nat} {st:Int} {n:Nat} {f:Nat->Int} {v:Value} {ns:List (Nat×Blk)} (h:zwh nk st n f v ns):∀ k∈zab ns,k=nk:=λk hk=>by
 obtain ⟨c,M,g,h1,h2,h3,rfl,rfl⟩:=h
 simpa [zab] using hk
theorem z4h (a nk:Nat) (ha:100<=a) (hk:100<=nk) (hne:a≠nk) (b:Blk) (off n cap:Nat) (f:Nat->Int) (h:SB b off n f) (hcap:n<=cap) (st:Int) :
  FunS prog G0 22 #[.agg #[.int .i64 st,.slice (some ⟨a,off,none⟩) n cap]] (hpL G0 [(a,b)]) [a] (zwh nk st n f) :=
 (zzn b off n cap f h hcap st).own2 h.fx a nk ha hk hne (λv ns=>zcm) (by simp [ren,zas,zan,zao,z4q]) (zng jan st n f)
def eqB (f g:Nat->Int) (i:Nat):Bool:=f (6*i)==g (6*i)&&(f (6*i+1)==g (6*i+1)&&(f (6*i+2)==g (6*i+2)&&(f (6*i+3)==g (6*i+3)&&(f (6*i+4)==g (6*i+4)&&f (6*i+5)==g (6*i+5)))))
def znn (st st':Int) (n n':Nat) (f g:Nat->Int):Bool:=st==st'&&(n==n'&&(List.range n).all (eqB f g))
theorem zxu {f g:Nat->Int} {i:Nat}:eqB f g i=true↔∀ u,u<6->f (6*i+u)=g (6*i+u):=by
 unfold eqB
 simp only [Bool.and_eq_true,beq_iff_eq]
 constructor
 ·rintro ⟨h0,h1,h2,h3,h4,h5⟩ u hu
  obtain rfl|rfl|rfl|rfl|rfl|rfl:u=0\/u=1\/u=2\/u=3\/u=4\/u=5:=by omega
  ·exact h0
  ·exact h1
  ·exact h2
  ·exact h3
  ·exact h4
  ·exact h5
 ·intro h
  exact ⟨h 0 (by omega),h 1 (by omega),h 2 (by omega),h 3 (by omega),h 4 (by omega),h 5 (by omega)⟩
theorem z2h {f g:Nat->Int} {n:Nat}:(List.range n).all (eqB f g)=true↔∀ j,j<6*n->f j=g j:=by
 simp only [List.all_eq_true,List.mem_range,zxu]
 constructor
 ·intro h j hj
  have:=h (j / 6) (by omega) (j%6) (by omega)
  rwa [show 6*(j / 6)+j%6=j by omega] at this
 ·intro h i hi u hu
  exact h _ (by omega)
theorem zk2 {st st':Int} {n n':Nat} {f g:Nat->Int}:znn st st' n n' f g=true↔st=st'/\n=n'/\∀ j,j<6*n->f j=g j:=by
 unfold znn
 rw [Bool.and_eq_true,Bool.and_eq_true,z2h,beq_iff_eq,beq_iff_eq]
theorem jg9:∀ a b c d e f:Bool,(a&&(b&&(c&&(d&&(e&&f)))))=false->((!a||(!b||!c))||(!d||(!e||!f)))=true:=by decide
def smL (b b':Blk):List (Nat×Blk):=[(100,b),(108,b')]
theorem zk3 {b b':Blk} (hb:b.fx) (hb':b'.fx):LOk (smL b b') 200:=⟨by simp [smL],by simp [smL,zab],by
 simp only [smL,List.mem_cons,List.not_mem_nil,or_false,forall_eq_or_imp,forall_eq]
 exact ⟨Blk.fx_ids hb _,Blk.fx_ids hb' _⟩⟩
def jj6 (b b':Blk) (st st':Int) (off off' n n' cap cap' i:Nat):GS :=
 ⟨tsL [(2,.pointer (some ⟨200,0,none⟩)),(3,.pointer (some ⟨208,0,none⟩)),(5,.int .i64 i)],hpL G0 [(100,b),(108,b'),(200,⟨#[.int .i64 st,.slice (some ⟨100,off,none⟩) n cap],.ty 27⟩),(208,⟨#[.int .i64 st',.slice (some ⟨108,off',none⟩) n' cap'],.ty 27⟩)],400,0⟩
theorem zno (b b':Blk) (off off' n n' cap cap':Nat) (f g:Nat->Int) (h:SB b off n f) (h':SB b' off' n' g) (st st':Int) :
  Fun prog G0 16 #[.agg #[.int .i64 st,.slice (some ⟨100,off,none⟩) n cap],.agg #[.int .i64 st',.slice (some ⟨108,off',none⟩) n' cap']] (hpL G0 (smL b b')) (zab (smL b b')) (.ret (.bool (znn st st' n n' f g)) []):=by
 refine za5 (B:=200) G0F func16 rfl call16 (zk3 h.fx h'.fx) ?_ (by simp) (by simp) (by simp) (by simp [ntmps16]) (by omega) ?_
 ·simp [zap,zau,zaj,zal,zab,smL]
 intro C hC hC0 hY
 have hnn:=h.nn
 have hid:=λD=>Blk.fx_ids h.fx D
 have hid':=λD=>Blk.fx_ids h'.fx D
 unfold smL at hC0 |-
 by_cases cs:st=st'
 ·by_cases cn:n=n'
  ·subst cs cn
   obtain ⟨N,hN,hlt,hend⟩:=zy6 (eqB f g) n
   have hval:znn st st n n f g=decide (N=n):=by
    unfold znn
    simp only [beq_self_eq_true,Bool.true_and]
    by_cases hNn:N=n
    ·subst hNn
     rw [decide_eq_true rfl]
     simpa using hlt
    ·rw [decide_eq_false hNn]
     cases hb:(List.range n).all (eqB f g) with
     | false=>rfl
     | true =>
      have:=List.all_eq_true.1 hb N (by simp;omega)
      rw [hend.resolve_left hNn] at this
      cases this
   rw [hval]
   repeat' first|refine gwZ ?_|refine gwW ?_|refine gwC ?_ ?_<;>intro hb
   refine zb3 N (jj6 b b' st st off off' n n cap cap') ?_ ?_ ?_
   ·refine zbc _ 400 hC G0F (m0:=[(100,b),(108,b')]) hC0 (by omega) ?_ ?_ ?_
    ·simp [zap,zau,zaj,zal,dom]
    ·simp [zae,zaj,zal,hid,hid',dom]
    ·simp
   ·intro i hi
    have hin:i<n:=by omega
    have hi':(i:Int)<n:=by omega
    have hz:(0:Int)<=i:=by omega
    have hs:Int.bmod ((i:Int)+1) 18446744073709551616=((i+1:Nat):Int):=by rw [bm (by omega) (by omega)];rfl
    have hld:=h.body hin
    have hld':=h'.body hin
    have he:=zxu.1 (hlt i hi)
    have e0:=he 0 (by omega)
    have e1:=he 1 (by omega)
    have e2:=he 2 (by omega)
    have e3:=he 3 (by omega)
    have e4:=he 4 (by omega)
    have e5:=he 5 (by omega)
    simp only [Nat.add_zero] at e0
    unfold jj6
    repeat' first|refine gwZ ?_|(refine gwX ?_;intro Q hQ _;simp [hC,hY,hi,hin,hi',hz,hs,hld,hld',e0,e1,e2,e3,e4,e5];refine gwq hQ ?_)|refine gwC ?_ ?_<;>intro hb
    refine zbc _ 400 hC G0F (m0:=[(100,b),(108,b')]) hC0 (by omega) ?_ ?_ ?_
    ·simp [zap,zau,zaj,zal,dom,hs]
    ·simp [zae,zaj,zal,hid,hid',dom]
    ·simp
   ·by_cases hNn:N=n
    ·rw [decide_eq_true hNn]
     subst hNn
     unfold jj6
     repeat' first|refine gwZ ?_|refine gwW ?_|refine gwC ?_ ?_<;>intro hb
     refine ⟨.inr rfl,by simp [results16],kpS G0F⟩
    ·rw [decide_eq_false hNn]
     have hin:N<n:=by omega
     have hi':(N:Int)<n:=by omega
     have hz:(0:Int)<=N:=by omega
     have hld:=h.body hin
     have hld':=h'.body hin
     have hne:=hend.resolve_left hNn
     unfold eqB at hne
     replace hne:=jg9 _ _ _ _ _ _ hne
     unfold jj6
     repeat' first|refine gwZ ?_|(refine gwX ?_;intro Q hQ _;simp [hC,hY,hin,hi',hz,hld,hld',hne];refine gwq hQ ?_)|refine gwC ?_ ?_<;>intro hb
     refine ⟨.inr rfl,by simp [results16],kpS G0F⟩
  ·have hval:znn st st' n n' f g=false:=by
    unfold znn
    rw [show (n==n')=false by simpa using cn]
    simp
   rw [hval]
   subst cs
   have cn':((n:Int)==(n':Int))=false:=by simp;omega
   have cn2:(n==n')=false:=by simpa using cn
   have cn3:((n:Int) != (n':Int))=true:=by unfold bne;rw [cn'];rfl
   repeat' first|refine gwZ ?_|(refine gwX ?_;intro Q hQ _;simp [hC,hY,cn,cn',cn2,cn3];refine gwq hQ ?_)|refine gwC ?_ ?_<;>intro hb
   refine ⟨.inr rfl,by simp [results16],kpS G0F⟩
 ·have hval:znn st st' n n' f g=false:=by
   unfold znn
   rw [show (st==st')=false by simpa using cs]
   simp
  rw [hval]
  have cs':(st==st')=false:=by simpa using cs
  have cs2:(st != st')=true:=by unfold bne;rw [cs'];rfl
  repeat' first|refine gwZ ?_|(refine gwX ?_;intro Q hQ _;simp [hC,hY,cs,cs',cs2];refine gwq hQ ?_)|refine gwC ?_ ?_<;>intro hb
  refine ⟨.inr rfl,by simp [results16],kpS G0F⟩
theorem z7w:G0 0=none:=by simp [G0,G0L]
theorem zwm {k:Nat} {b:Blk} (h:G0 k=some b):G1 k=some b:=by
 have h0:¬k=0:=λe=>by rw [e,z7w] at h;cases h
 unfold G1
 rw [zai,if_neg h0]
 exact h
theorem zjj:lmB.fx:=λx hx=>by
 simp only [lmB,List.mem_toArray,List.mem_cons,List.not_mem_nil,or_false] at hx
 rcases hx with h|h|h|h|h|h|h|h|h|h|h|h<;>(rw [h];rfl)
theorem jho {m:List (Nat×Blk)} {B:Nat} (ok:LOk m B):MvG G0 G1 m m (λk=>k):=by
 refine ⟨G0F,G1F,⟨B,ok⟩,⟨B,ok⟩,λk b h=>⟨zwm h,rfl⟩,λp hp=>⟨p.2,LOk.at ok.one p hp,λr=>by rw [Blk.rn_id]⟩,λk _ l _ e=>e,λk hk l b hl e=>?_⟩
 obtain ⟨p,hp,rfl⟩:=zah.1 hk
 have:=(ok.big p hp).1
 have:=(G0F l b hl).1
 omega
theorem z0c {args:Array Value}:args.map (ren λk=>k)=args:=by
 rw [show (ren λk=>k)=id from funext λv=>zkx v]
 simp
theorem zru {ws:List (Nat×Blk)}:rnL (λk=>k) ws=ws:=by
 unfold rnL
 rw [List.map_congr_left (g:=id) λp _=>by rw [Blk.rn_id];rfl]
 simp
theorem jkk {R:Value->List (Nat×Blk)->Prop}:RR (λk=>k) R=R:=by
 funext v ns
 apply propext
 constructor
 ·rintro ⟨v0,ns0,h,rfl,rfl⟩
  rw [zkx,zru]
  exact h
 ·intro h
  exact ⟨v,ns,h,(zkx v).symm,zru.symm⟩
theorem Fun.up1 {f:FuncId} {args:Array Value} {m ws:List (Nat×Blk)} {v:Value} {B:Nat} (h:Fun prog G0 f args (hpL G0 m) (zab m) (.ret v ws)) (ok:LOk m B):Fun prog G1 f args (hpL G1 m) (zab m) (.ret v ws):=by
 have:=h.mvG (jho ok) (λk hk=>(h.fits.2.1 k hk).1) z0c
 rwa [zkx,zru] at this
theorem FunS.up1 {f:FuncId} {args:Array Value} {m:List (Nat×Blk)} {R:Value->List (Nat×Blk)->Prop} {B:Nat} (h:FunS prog G0 f args (hpL G0 m) (zab m) R) (ok:LOk m B):FunS prog G1 f args (hpL G1 m) (zab m) R:=by
 refine h.mvG (jho ok) z0c jkk (λv ns hR k hk=>?_) (λ_ _ _ k _ l _ e=>e)
 have h1:=(h.fits v ns hR).2.1 k hk
 rw [LOk.rst (m:=m) G0F] at h1
 refine ⟨h1.1,λhd=>h1.2 ?_⟩
 unfold dom at hd
 cases hb:hpL G1 m k with
 | none=>exact absurd hb hd
 | some b =>
  rcases za8 hb with h2|h2
  ·exact ok.sub k (zah.2 ⟨_,h2,rfl⟩)
  ·have:=(G1F k b h2).1
   omega
structure LKa (L:List (Nat×Blk)) (ka ks:Nat) (b b2:Blk):Prop where
 ok:LOk L 200
 fx:∀ p∈L,p.2.fx
 kb:(ks,b2)∈L
 k8:ks=100\/ks=108
 a8:ka=100\/ka=0
 am:ka=100->(100,b)∈L
 ag:ka=0->ks=100/\L=[(100,b2)]/\b=lmB
section
variable {L:List (Nat×Blk)} {ka ks:Nat} {b b2:Blk}
theorem LKa.mem (h:LKa L ka ks b b2) (p:Nat×Blk) (hp:p∈L):hpL G1 L p.1=some p.2:=LOk.at h.ok.one p hp
theorem LKa.a (h:LKa L ka ks b b2):hpL G1 L ka=some b:=by
 rcases h.a8 with e|e
 ·rw [e];exact h.mem _ (h.am e)
 ·obtain ⟨_,rfl,rfl⟩:=h.ag e
  rw [e]
  simp [G1]
theorem LKa.s (h:LKa L ka ks b b2):hpL G1 L ks=some b2:=h.mem _ h.kb
theorem LKa.k1 (h:LKa L ka ks b b2):100<=ks:=(h.ok.big _ h.kb).1
theorem LKa.k2 (h:LKa L ka ks b b2):ks<200:=(h.ok.big _ h.kb).2
theorem LKa.a2 (h:LKa L ka ks b b2):ka<200:=by rcases h.a8 with e|e<;>omega
theorem LKa.ne (h:LKa L ka ks b b2) (k:Nat) (hk:200<=k):(ks=k)=False:=by
 have:=h.k2
 simp only [eq_iff_iff,iff_false]
 omega
theorem LKa.na (h:LKa L ka ks b b2) (k:Nat) (hk:200<=k):(ka=k)=False:=by
 have:=h.a2
 simp only [eq_iff_iff,iff_false]
 omega
theorem LKa.low (h:LKa L ka ks b b2) (k:Nat) (hk:k<100):hpL G1 L k=G1 k:=h.ok.low k hk
theorem LKa.ia (h:LKa L ka ks b b2):dom (hpL G1 L) ka:=by unfold dom;rw [h.a];simp
theorem LKa.ib (h:LKa L ka ks b b2):dom (hpL G1 L) ks:=by unfold dom;rw [h.s];simp
theorem LKa.kbk (h:LKa L ka ks b b2):ks∈zab L:=zah.2 ⟨_,h.kb,rfl⟩
theorem LKa.aQ (h:LKa L ka ks b b2):ka∈zab L\/(ka<100/\dom G1 ka):=by
 rcases h.a8 with e|e
 ·exact .inl (zah.2 ⟨_,h.am e,e.symm⟩)
 ·refine .inr ⟨by omega,?_⟩
  unfold dom
  rw [e,zn1]
  simp
theorem LKa.two {x y:Blk} (hx:x.fx) (hy:y.fx):LKa [(100,x),(108,y)] 100 108 x y:=by
 have h:=LTwo.two (G:=G0) hx hy
 exact ⟨h.ok,h.fx,h.kb,.inr rfl,.inl rfl,λ_=>by simp,λe=>by have:(100:Nat)=0:=e;omega⟩
theorem LKa.of {L:List (Nat×Blk)} {ks:Nat} {b b2:Blk} (h:LTwo G1 L ks b b2):LKa L 100 ks b b2:=⟨h.ok,h.fx,h.kb,h.k8,.inl rfl,λ_=>h.ka,λe=>by have:(100:Nat)=0:=e;omega⟩
theorem LKa.lim {y:Blk} (hy:y.fx):LKa [(100,y)] 0 100 lmB y :=
 ⟨⟨by simp,by simp [zab],by simpa using Blk.fx_ids hy _⟩,by simpa using hy,by simp,.inl rfl,.inr rfl,λe=>by have:0=(100:Nat):=e;omega,λ_=>⟨rfl,rfl,rfl⟩⟩
theorem LKa.tw (h:LKa L 100 ks b b2):LTwo G0 L ks b b2:=⟨h.ok,h.fx,h.am rfl,h.kb,h.k8⟩
end
def gmv (k:Nat):Nat:=if k=100 then 0 else if k=108 then 100 else k
theorem z6x {y:Blk} (hy:y.fx):MvG G0 G1 [(100,lmB),(108,y)] [(100,y)] gmv:=by
 have h:=LTwo.two (G:=G0) zjj hy
 have h2:=LKa.lim hy
 refine ⟨G0F,G1F,⟨200,h.ok⟩,⟨200,h2.ok⟩,λk b hk=>⟨zwm hk,?_⟩,?_,?_,?_⟩
 ·have:=(G0F k b hk).1
  unfold gmv
  rw [if_neg (by omega),if_neg (by omega)]
 ·intro p hp
  simp only [List.mem_cons,List.not_mem_nil,or_false] at hp
  rcases hp with rfl|rfl
  ·exact ⟨lmB,h2.a,λr=>by rw [Blk.fx_rn zjj]⟩
  ·exact ⟨y,h2.s,λr=>by rw [Blk.fx_rn hy]⟩
 ·intro k hk l hl e
  simp only [zab,List.map_cons,List.map_nil,List.mem_cons,List.not_mem_nil,or_false] at hk hl
  unfold gmv at e
  rcases hk with rfl|rfl<;>rcases hl with rfl|rfl<;>simp at e |-
 ·intro k hk l b hl e
  simp only [zab,List.map_cons,List.map_nil,List.mem_cons,List.not_mem_nil,or_false] at hk
  unfold gmv at e
  rcases hk with rfl|rfl
  ·rw [if_pos rfl] at e
   rw [<-e,z7w] at hl
   cases hl
  ·have:=(G0F l b hl).1
   rw [if_neg (by omega),if_pos rfl] at e
   omega
theorem zdo (L:List (Nat×Blk)) (ka ks:Nat) (bm bs:Blk) (hT:LKa L ka ks bm bs) (off n cap off2 n2 cap2:Nat) (fm fs:Nat->Int) (hm:MB bm off n fm) (hSb:SB bs off2 n2 fs) (g bx tp nr md st:Int) (hs:i64 st) :
  Fun prog G1 19 #[cfV (.slice (some ⟨ka,off,none⟩) n cap) g bx tp nr md,.agg #[.int .i64 st,.slice (some ⟨ks,off2,none⟩) n2 cap2]] (hpL G1 L) (zab L) (.ret (.bool (zjo n n2 (zd2 n fm g bx tp nr md) (zay st fs n2))) []):=by
 rcases hT.a8 with e|e
 ·subst e
  exact (zyk L ks bm bs hT.tw off n cap off2 n2 cap2 fm fs hm hSb g bx tp nr md st hs).up1 hT.ok
 ·obtain ⟨rfl,rfl,rfl⟩:=hT.ag e
  subst e
  have h:=(zyk _ 108 lmB bs (LTwo.two zjj hSb.fx) off n cap off2 n2 cap2 fm fs hm hSb g bx tp nr md st hs).mvG (z6x hSb.fx) (λk hk=>by cases hk) rfl
  simpa [cfV,ren,zas,zan,zao,gmv,rnL] using h
@[simp] theorem jqo (a0 a1 a2 b0 b1 b2:Int) (K:Value->Prop):za2 prog G1 43 #[.agg #[.int .i64 a0,.int .i64 a1,.int .i64 a2],.agg #[.int .i64 b0,.int .i64 b1,.int .i64 b2]] K ↔
  K (.tuple #[.agg #[.int .i64 (eaV (eaE znt a0 a1 a2 b0 b1 b2) (znt a0 b0)),.int .i64 (eaV (eaE znt a0 a1 a2 b0 b1 b2) (znt a1 b1)),.int .i64 (eaV (eaE znt a0 a1 a2 b0 b1 b2) (znt a2 b2))],.int .i64 (eaE znt a0 a1 a2 b0 b1 b2)]):=zaf G1W (by kernel_rfl) ((ja8 a0 a1 a2 b0 b1 b2).up zsc)
theorem jg5 {m:List (Nat×Blk)} {B:Nat} (hm:LOd G1 m B) (ρ:Nat->Nat) (hlow:∀ k,k<100->ρ k=k) {hp:Hp} (hp0:∀ k,k<100->hp k=G1 k) (hat:∀ p∈m,100<=ρ p.1/\hp (ρ p.1)=some (p.2.rn ρ)) (hinj:∀ k∈zab m,∀ l∈zab m,ρ k=ρ l->k=l):Rn ρ (hpL G1 m) hp (zab m):=by
 refine ⟨λk hk=>⟨hlow k hk,by rw [hp0 k hk,hm.low k hk]⟩,λk hk _=>?_,λk hk _=>?_,λk hk l hl _ _ e=>?_⟩
 ·obtain ⟨p,hp,rfl⟩:=zah.1 hk
  exact (hat p hp).1
 ·obtain ⟨p,hp,rfl⟩:=zah.1 hk
  exact ⟨p.2,LOk.at hm.one p hp,(hat p hp).2⟩
 ·exact hinj k hk l hl e
theorem zoy {f:FuncId} {caps caps':Array Value} {m:List (Nat×Blk)} {B:Nat} {xs:List (Array Value)} {hp:Hp} {rs:List Nat} (h:IterK prog G1 f caps (hpL G1 m) (zab m) xs) (hm:LOd G1 m B) (ρ:Nat->Nat) (hlow:∀ k,k<100->ρ k=k) (ea:caps.map (zao ρ)=caps') (er:(zab m).map ρ=rs)
  (hp0:∀ k,k<100->hp k=G1 k) (hat:∀ p∈m,100<=ρ p.1/\hp (ρ p.1)=some (p.2.rn ρ)) (hinj:∀ k∈zab m,∀ l∈zab m,ρ k=ρ l->k=l):IterK prog G1 f caps' hp rs xs:=by
 subst ea er
 exact h.rn ρ G1F hm.low (jg5 hm ρ hlow hp0 hat hinj)
def zd5 (n d g m x r:Int):Int :=
 if -2097152<=n/\n<=2097152/\1<=d/\d<=2097152/\1<=g/\g<=1048576/\1<=m/\m<=1024/\-2097152<=x/\x<=2097152/\0<=r/\r<=13194139533312 then (if r=0 then 30 else if x*x<=r then 0 else 2) else 2
def zju (n d g m x r:Int):Hp:=hpL G1 [(100,⟨#[.int .i64 n,.int .i64 d,.int .i64 g,.int .i64 m,.int .i64 x,.int .i64 r],.ty 3⟩)]
theorem ze9 (n d g m x r:Int):rst (zju n d g m x r) [100]=zju n d g m x r:=zdr G1F (by simp)
theorem zke (n d g m x r:Int) (D:Nat->Prop) (k:Nat) (c:Blk) (h:zju n d g m x r k=some c):c.ids D:=by
 rcases za8 h with h|h
 ·simp at h
  rcases h with ⟨_,rfl⟩
  simp
 ·exact zex _ _ _ h
theorem zb4 (n d g m x r:Int) (k:Nat) (hk:200<=k):zju n d g m x r k=none:=by
 simp [zju,show ¬k=100 by omega,show 100<=k by omega]
theorem z2v (n d g m x r:Int) (h:zd5 n d g m x r=0):Fun prog G1 69 #[.slice (some ⟨100,0,none⟩) 6 6] (zju n d g m x r) [100] (.ret (.tuple #[]) []):=by
 refine zfn (B:=200) G1F (λk hk=>za6 (by simp) hk) func69 rfl call69 ?_ ?_ ⟨zak (by simp),by simp [zab],by simp,by simp⟩ (by simp [ntmps69]) (by omega) ?_ ?_
 ·rw [ze9];simp [zju,dom]
 ·rw [ze9];exact zke n d g m x r _
 ·rw [ze9];exact zb4 n d g m x r
 ·intro C hC hC0 hY
  rw [ze9] at hC0 |-
  unfold zd5 at h
  split at h
  rotate_left
  ·cases h
  rename_i hc
  obtain ⟨f0,f1,f2,f3,f4,f5,f6,f7,f8,f9,f10,f11⟩:=hc
  split at h
  ·cases h
  rename_i hr
  split at h
  rotate_left
  ·cases h
  rename_i hx
  have hr0:0<r:=by omega
  have hxx:x*x<=2097152*2097152:=by
   by_cases h0:0<=x
   ·exact Int.mul_le_mul (by omega) (by omega) h0 (by omega)
   ·rw [<-Int.neg_mul_neg];exact Int.mul_le_mul (by omega) (by omega) (by omega) (by omega)
  have hx0:0<=x*x:=by
   by_cases h0:0<=x
   ·exact Int.mul_nonneg h0 h0
   ·rw [<-Int.neg_mul_neg];exact Int.mul_nonneg (by omega) (by omega)
  have hb2:Int.bmod (x*x) 18446744073709551616=x*x:=bm (by omega) (by omega)
  repeat' first|refine zad ?_|refine zag ?_|refine gwZ ?_|((first|refine gwR [1000067] ?_|refine gwD [1000067] ?_);intro Q hQ hP;(repeat first|simp [hC,hY,zju,lmB,f0,f1,f2,f3,f4,f5,f6,f7,f8,f9,f10,f11,hr0,hx,hb2]|refine za4 (zdk _) ?_|refine za4 (zdj _) ?_);(first|refine gwq hQ ?_|refine hP _ _ (by kernel_rfl) λ_=>?_))|refine gwC ?_ ?_<;>intro hb
  refine ⟨.inl rfl,by simp [results69],λk hk=>?_⟩
  have hk3:k<200:=Classical.byContradiction λh=>hk (zb4 n d g m x r k (by omega))
  first|rfl|(simp (disch:=omega) only [zcz];rfl)
theorem zxn (n d g m x r:Int) (h:zd5 n d g m x r≠0):Fun prog G1 69 #[.slice (some ⟨100,0,none⟩) 6 6] (zju n d g m x r) [100] (.pan (erV (zd5 n d g m x r))):=by
 refine zfn (B:=200) G1F (λk hk=>za6 (by simp) hk) func69 rfl call69 ?_ ?_ trivial (by simp [ntmps69]) (by omega) ?_ ?_
 ·rw [ze9];simp [zju,dom]
 ·rw [ze9];exact zke n d g m x r _
 ·rw [ze9];exact zb4 n d g m x r
 ·intro C hC hC0 hY
  rw [ze9] at hC0 |-
  by_cases f0:-2097152<=n
  rotate_left
  ·have hE:zd5 n d g m x r=2:=if_neg (by omega)
   rw [hE]
   repeat' first|refine zad ?_|refine zag ?_|refine gwZ ?_|((first|refine gwR [1000067] ?_|refine gwD [1000067] ?_);intro Q hQ hP;(repeat first|simp [hC,hY,zju,lmB,f0]|refine za4 (zdk _) ?_|refine za4 (zdj _) ?_);(first|refine gwq hQ ?_|refine hP _ _ (by kernel_rfl) λ_=>?_))|refine gwC ?_ ?_<;>intro hb
   refine ⟨rfl,λk hk=>?_⟩
   have hk3:k<200:=Classical.byContradiction λh=>hk (zb4 n d g m x r k (by omega))
   first|rfl|(simp (disch:=omega) only [zcz];rfl)
  by_cases f1:n<=2097152
  rotate_left
  ·have hE:zd5 n d g m x r=2:=if_neg (by omega)
   rw [hE]
   repeat' first|refine zad ?_|refine zag ?_|refine gwZ ?_|((first|refine gwR [1000067] ?_|refine gwD [1000067] ?_);intro Q hQ hP;(repeat first|simp [hC,hY,zju,lmB,f0,f1]|refine za4 (zdk _) ?_|refine za4 (zdj _) ?_);(first|refine gwq hQ ?_|refine hP _ _ (by kernel_rfl) λ_=>?_))|refine gwC ?_ ?_<;>intro hb
   refine ⟨rfl,λk hk=>?_⟩
   have hk3:k<200:=Classical.byContradiction λh=>hk (zb4 n d g m x r k (by omega))
   first|rfl|(simp (disch:=omega) only [zcz];rfl)
  by_cases f2:1<=d
  rotate_left
  ·have hE:zd5 n d g m x r=2:=if_neg (by omega)
   rw [hE]
   repeat' first|refine zad ?_|refine zag ?_|refine gwZ ?_|((first|refine gwR [1000067] ?_|refine gwD [1000067] ?_);intro Q hQ hP;(repeat first|simp [hC,hY,zju,lmB,f0,f1,f2]|refine za4 (zdk _) ?_|refine za4 (zdj _) ?_);(first|refine gwq hQ ?_|refine hP _ _ (by kernel_rfl) λ_=>?_))|refine gwC ?_ ?_<;>intro hb
   refine ⟨rfl,λk hk=>?_⟩
   have hk3:k<200:=Classical.byContradiction λh=>hk (zb4 n d g m x r k (by omega))
   first|rfl|(simp (disch:=omega) only [zcz];rfl)
  by_cases f3:d<=2097152
  rotate_left
  ·have hE:zd5 n d g m x r=2:=if_neg (by omega)
   rw [hE]
   repeat' first|refine zad ?_|refine zag ?_|refine gwZ ?_|((first|refine gwR [1000067] ?_|refine gwD [1000067] ?_);intro Q hQ hP;(repeat first|simp [hC,hY,zju,lmB,f0,f1,f2,f3]|refine za4 (zdk _) ?_|refine za4 (zdj _) ?_);(first|refine gwq hQ ?_|refine hP _ _ (by kernel_rfl) λ_=>?_))|refine gwC ?_ ?_<;>intro hb
   refine ⟨rfl,λk hk=>?_⟩
   have hk3:k<200:=Classical.byContradiction λh=>hk (zb4 n d g m x r k (by omega))
   first|rfl|(simp (disch:=omega) only [zcz];rfl)
  by_cases f4:1<=g
  rotate_left
  ·have hE:zd5 n d g m x r=2:=if_neg (by omega)
   rw [hE]
   repeat' first|refine zad ?_|refine zag ?_|refine gwZ ?_|((first|refine gwR [1000067] ?_|refine gwD [1000067] ?_);intro Q hQ hP;(repeat first|simp [hC,hY,zju,lmB,f0,f1,f2,f3,f4]|refine za4 (zdk _) ?_|refine za4 (zdj _) ?_);(first|refine gwq hQ ?_|refine hP _ _ (by kernel_rfl) λ_=>?_))|refine gwC ?_ ?_<;>intro hb
   refine ⟨rfl,λk hk=>?_⟩
   have hk3:k<200:=Classical.byContradiction λh=>hk (zb4 n d g m x r k (by omega))
   first|rfl|(simp (disch:=omega) only [zcz];rfl)
  by_cases f5:g<=1048576
  rotate_left
  ·have hE:zd5 n d g m x r=2:=if_neg (by omega)
   rw [hE]
   repeat' first|refine zad ?_|refine zag ?_|refine gwZ ?_|((first|refine gwR [1000067] ?_|refine gwD [1000067] ?_);intro Q hQ hP;(repeat first|simp [hC,hY,zju,lmB,f0,f1,f2,f3,f4,f5]|refine za4 (zdk _) ?_|refine za4 (zdj _) ?_);(first|refine gwq hQ ?_|refine hP _ _ (by kernel_rfl) λ_=>?_))|refine gwC ?_ ?_<;>intro hb
   refine ⟨rfl,λk hk=>?_⟩
   have hk3:k<200:=Classical.byContradiction λh=>hk (zb4 n d g m x r k (by omega))
   first|rfl|(simp (disch:=omega) only [zcz];rfl)
  by_cases f6:1<=m
  rotate_left
  ·have hE:zd5 n d g m x r=2:=if_neg (by omega)
   rw [hE]
   repeat' first|refine zad ?_|refine zag ?_|refine gwZ ?_|((first|refine gwR [1000067] ?_|refine gwD [1000067] ?_);intro Q hQ hP;(repeat first|simp [hC,hY,zju,lmB,f0,f1,f2,f3,f4,f5,f6]|refine za4 (zdk _) ?_|refine za4 (zdj _) ?_);(first|refine gwq hQ ?_|refine hP _ _ (by kernel_rfl) λ_=>?_))|refine gwC ?_ ?_<;>intro hb
   refine ⟨rfl,λk hk=>?_⟩
   have hk3:k<200:=Classical.byContradiction λh=>hk (zb4 n d g m x r k (by omega))
   first|rfl|(simp (disch:=omega) only [zcz];rfl)
  by_cases f7:m<=1024
  rotate_left
  ·have hE:zd5 n d g m x r=2:=if_neg (by omega)
   rw [hE]
   repeat' first|refine zad ?_|refine zag ?_|refine gwZ ?_|((first|refine gwR [1000067] ?_|refine gwD [1000067] ?_);intro Q hQ hP;(repeat first|simp [hC,hY,zju,lmB,f0,f1,f2,f3,f4,f5,f6,f7]|refine za4 (zdk _) ?_|refine za4 (zdj _) ?_);(first|refine gwq hQ ?_|refine hP _ _ (by kernel_rfl) λ_=>?_))|refine gwC ?_ ?_<;>intro hb
   refine ⟨rfl,λk hk=>?_⟩
   have hk3:k<200:=Classical.byContradiction λh=>hk (zb4 n d g m x r k (by omega))
   first|rfl|(simp (disch:=omega) only [zcz];rfl)
  by_cases f8:-2097152<=x
  rotate_left
  ·have hE:zd5 n d g m x r=2:=if_neg (by omega)
   rw [hE]
   repeat' first|refine zad ?_|refine zag ?_|refine gwZ ?_|((first|refine gwR [1000067] ?_|refine gwD [1000067] ?_);intro Q hQ hP;(repeat first|simp [hC,hY,zju,lmB,f0,f1,f2,f3,f4,f5,f6,f7,f8]|refine za4 (zdk _) ?_|refine za4 (zdj _) ?_);(first|refine gwq hQ ?_|refine hP _ _ (by kernel_rfl) λ_=>?_))|refine gwC ?_ ?_<;>intro hb
   refine ⟨rfl,λk hk=>?_⟩
   have hk3:k<200:=Classical.byContradiction λh=>hk (zb4 n d g m x r k (by omega))
   first|rfl|(simp (disch:=omega) only [zcz];rfl)
  by_cases f9:x<=2097152
  rotate_left
  ·have hE:zd5 n d g m x r=2:=if_neg (by omega)
   rw [hE]
   repeat' first|refine zad ?_|refine zag ?_|refine gwZ ?_|((first|refine gwR [1000067] ?_|refine gwD [1000067] ?_);intro Q hQ hP;(repeat first|simp [hC,hY,zju,lmB,f0,f1,f2,f3,f4,f5,f6,f7,f8,f9]|refine za4 (zdk _) ?_|refine za4 (zdj _) ?_);(first|refine gwq hQ ?_|refine hP _ _ (by kernel_rfl) λ_=>?_))|refine gwC ?_ ?_<;>intro hb
   refine ⟨rfl,λk hk=>?_⟩
   have hk3:k<200:=Classical.byContradiction λh=>hk (zb4 n d g m x r k (by omega))
   first|rfl|(simp (disch:=omega) only [zcz];rfl)
  by_cases f10:0<=r
  rotate_left
  ·have hE:zd5 n d g m x r=2:=if_neg (by omega)
   rw [hE]
   repeat' first|refine zad ?_|refine zag ?_|refine gwZ ?_|((first|refine gwR [1000067] ?_|refine gwD [1000067] ?_);intro Q hQ hP;(repeat first|simp [hC,hY,zju,lmB,f0,f1,f2,f3,f4,f5,f6,f7,f8,f9,f10]|refine za4 (zdk _) ?_|refine za4 (zdj _) ?_);(first|refine gwq hQ ?_|refine hP _ _ (by kernel_rfl) λ_=>?_))|refine gwC ?_ ?_<;>intro hb
   refine ⟨rfl,λk hk=>?_⟩
   have hk3:k<200:=Classical.byContradiction λh=>hk (zb4 n d g m x r k (by omega))
   first|rfl|(simp (disch:=omega) only [zcz];rfl)
  by_cases f11:r<=13194139533312
  rotate_left
  ·have hE:zd5 n d g m x r=2:=if_neg (by omega)
   rw [hE]
   repeat' first|refine zad ?_|refine zag ?_|refine gwZ ?_|((first|refine gwR [1000067] ?_|refine gwD [1000067] ?_);intro Q hQ hP;(repeat first|simp [hC,hY,zju,lmB,f0,f1,f2,f3,f4,f5,f6,f7,f8,f9,f10,f11]|refine za4 (zdk _) ?_|refine za4 (zdj _) ?_);(first|refine gwq hQ ?_|refine hP _ _ (by kernel_rfl) λ_=>?_))|refine gwC ?_ ?_<;>intro hb
   refine ⟨rfl,λk hk=>?_⟩
   have hk3:k<200:=Classical.byContradiction λh=>hk (zb4 n d g m x r k (by omega))
   first|rfl|(simp (disch:=omega) only [zcz];rfl)
  have hall:zd5 n d g m x r=(if r=0 then 30 else if x*x<=r then 0 else 2):=if_pos ⟨f0,f1,f2,f3,f4,f5,f6,f7,f8,f9,f10,f11⟩
  rw [hall] at h |-
  by_cases hr:r=0
  ·have hr0:¬0<r:=by omega
   rw [if_pos hr]
   repeat' first|refine zad ?_|refine zag ?_|refine gwZ ?_|((first|refine gwR [1000067] ?_|refine gwD [1000067] ?_);intro Q hQ hP;(repeat first|simp [hC,hY,zju,lmB,f0,f1,f2,f3,f4,f5,f6,f7,f8,f9,f10,f11,hr0]|refine za4 (zdk _) ?_|refine za4 (zdj _) ?_);(first|refine gwq hQ ?_|refine hP _ _ (by kernel_rfl) λ_=>?_))|refine gwC ?_ ?_<;>intro hb
   refine ⟨rfl,λk hk=>?_⟩
   have hk3:k<200:=Classical.byContradiction λh=>hk (zb4 n d g m x r k (by omega))
   first|rfl|(simp (disch:=omega) only [zcz];rfl)
  have hr0:0<r:=by omega
  rw [if_neg hr] at h |-
  by_cases hx:x*x<=r
  ·rw [if_pos hx] at h;exact absurd rfl h
  ·rw [if_neg hx]
   have hxx:x*x<=2097152*2097152:=by
    by_cases h0:0<=x
    ·exact Int.mul_le_mul (by omega) (by omega) h0 (by omega)
    ·rw [<-Int.neg_mul_neg];exact Int.mul_le_mul (by omega) (by omega) (by omega) (by omega)
   have hx0:0<=x*x:=by
    by_cases h0:0<=x
    ·exact Int.mul_nonneg h0 h0
    ·rw [<-Int.neg_mul_neg];exact Int.mul_nonneg (by omega) (by omega)
   have hb2:Int.bmod (x*x) 18446744073709551616=x*x:=bm (by omega) (by omega)
   repeat' first|refine zad ?_|refine zag ?_|refine gwZ ?_|((first|refine gwR [1000067] ?_|refine gwD [1000067] ?_);intro Q hQ hP;(repeat first|simp [hC,hY,zju,lmB,f0,f1,f2,f3,f4,f5,f6,f7,f8,f9,f10,f11,hr0,hx,hb2]|refine za4 (zdk _) ?_|refine za4 (zdj _) ?_);(first|refine gwq hQ ?_|refine hP _ _ (by kernel_rfl) λ_=>?_))|refine gwC ?_ ?_<;>intro hb
   refine ⟨rfl,λk hk=>?_⟩
   have hk3:k<200:=Classical.byContradiction λh=>hk (zb4 n d g m x r k (by omega))
   first|rfl|(simp (disch:=omega) only [zcz];rfl)

theorem zrn (a:Int):Ret prog G1 71 #[wd a] (wd (sz a*sz a)):=by
 refine zav G1F func71 rfl call71 (by simp) (by simp) (by simp [ntmps71]) ?_
 intro C hC hC0 hY
 repeat' first|refine gwZ ?_|(refine gwX ?_;intro Q hQ hP;simp [hC,hY];(first|refine gwq hQ ?_|refine hP _ _ (by kernel_rfl) λ_=>?_))|refine gwC ?_ ?_<;>intro hb
 refine ⟨.inr trivial,?_⟩
 simp [results71]
@[simp] theorem jma (a:Int) (K:Value->Prop):za2 prog G1 71 #[Value.agg #[.int .u64 (wi (a) 0),.int .u64 (wi (a) 1),.int .u64 (wi (a) 2),.int .u64 (wi (a) 3)]] K↔K (wd (sz a*sz a)):=zaf G1W (by kernel_rfl) (zrn a)
theorem zml (a0 a1 a2 a3 a4:Int) (hi:i64 a0/\i64 a1/\i64 a2/\i64 a3/\i64 a4) (hw:wr (a0)/\wr (a0*a1)/\wr (a0*a1*a2)/\wr (a0*a1*a2*a3)/\wr (a0*a1*a2*a3*a4)):Fun prog G1 72 #[.slice (some ⟨100,0,none⟩) 5 5] (hpL G1 [(100,⟨#[.int .i64 a0,.int .i64 a1,.int .i64 a2,.int .i64 a3,.int .i64 a4],.ty 3⟩)]) [100] (.ret (wd (a0*a1*a2*a3*a4)) []):=by
 have hrst:rst (hpL G1 [(100,⟨#[.int .i64 a0,.int .i64 a1,.int .i64 a2,.int .i64 a3,.int .i64 a4],.ty 3⟩)]) [100]=hpL G1 [(100,⟨#[.int .i64 a0,.int .i64 a1,.int .i64 a2,.int .i64 a3,.int .i64 a4],.ty 3⟩)]:=zdr G1F (by simp)
 have hfree:∀ k,200<=k->hpL G1 [(100,⟨#[.int .i64 a0,.int .i64 a1,.int .i64 a2,.int .i64 a3,.int .i64 a4],.ty 3⟩)] k=none:=λk hk=>by simp [show ¬k=100 by omega,show 100<=k by omega]
 refine zfn (B:=200) G1F (λk hk=>za6 (by simp) hk) func72 rfl call72 ?_ ?_ ⟨zak (by simp),by simp [zab],by simp,by simp⟩ (by simp [ntmps72]) (by omega) ?_ ?_
 ·rw [hrst];simp [dom]
 ·rw [hrst]
  intro k c h
  rcases za8 h with h|h
  ·simp at h
   rcases h with ⟨_,rfl⟩
   simp
  ·exact zex _ _ _ h
 ·rw [hrst];exact hfree
 ·intro C hC hC0 hY
  rw [hrst] at hC0 |-
  obtain ⟨i0,i1,i2,i3,i4⟩:=hi
  obtain ⟨w0,w1,w2,w3,w4⟩:=hw
  have s0:=zcg w0
  have s1:=zcg w1
  have s2:=zcg w2
  have s3:=zcg w3
  have s4:=zcg w4
  have t1:=zcg (zh7 i1)
  have t2:=zcg (zh7 i2)
  have t3:=zcg (zh7 i3)
  have t4:=zcg (zh7 i4)
  have j1:=zqs
  have e1:sz 1=1:=by decide
  repeat' first|refine zad ?_|refine zag ?_|refine gwZ ?_|(refine gwX ?_;intro Q hQ hP;simp [hC,hY,j1,e1,Int.one_mul,i0,i1,i2,i3,i4,s0,s1,s2,s3,s4,t1,t2,t3,t4];(first|refine gwq hQ ?_|refine hP _ _ (by kernel_rfl) λ_=>?_))|refine gwC ?_ ?_<;>intro hb
  refine ⟨.inr rfl,by simp [results72],λk hk=>?_⟩
  have hk3:k<200:=Classical.byContradiction λh=>hk (hfree k (by omega))
  simp (disch:=omega) only [zcz]
  rfl
def vv (x0 x1 x2:Int):Value:=.agg #[.int .i64 x0,.int .i64 x1,.int .i64 x2]
def vb (x0 x1 x2:Int):Blk:=⟨#[.int .i64 x0,.int .i64 x1,.int .i64 x2],.ty 31⟩
theorem zku (x0 x1 x2:Int) (k:Nat) (h100:100<=k):Fun prog G1 47 #[vv x0 x1 x2] G1 [] (.new (.func (.func 68) #[] #[.pointer (some ⟨k,0,none⟩)]) [(k,vb x0 x1 x2)]):=by
 have e0:rst G1 []=G1:=zjr G1F []
 refine zpa (B:=200) (λj=>if j=k then 200 else j) G1F (λ_ _=>rfl) func47 rfl call47 (by simp [vv,zap,zau,zaj,zal]) (by rw [e0];exact zex _) ?_ (by simp [ntmps47]) (by omega) (by rw [e0];exact λx hx=>zhh x (by omega)) (λj hj=>?_) ?_ ?_ ?_ ?_
 ·refine ⟨by simp [zap,zau,zaj,zal,zc7,zab],by simp [zab];omega,λq b c h1 h2=>?_⟩
  simp at h1 h2
  rw [h1.2,h2.2]
 ·rw [e0] at hj;have:=zwn hj;rw [if_neg (by omega)]
 ·simp [e0,dom]
 ·simp
 ·simp [vb,zae,zaj,zal]
 ·intro C hC hC0 hY
  rw [e0]
  repeat' (first|apply gwS|simp only [wN,wM,Nat.reduceAdd,Nat.reduceMul]|(refine gwX ?_;intro Q hQ hP;simp [hC,hY,vv];(first|refine gwq hQ ?_|refine hP _ _ (by kernel_rfl) λ_=>?_);clear hQ hP Q)|apply gwB|apply gwT|apply gwK|apply gwE|apply gwG|apply gwL|simp only [zd6]|refine gwC ?_ ?_<;>intro hb<;>try (cases hb;done))
  refine ⟨.inr trivial,?_⟩
  simp [results47,ren,zas,zan,zao,vb]
  intro j hj
  have:=zwn hj
  intro h;omega
def zcx (x0 x1 x2:Int):List (Array Value):=[#[.int .i64 0,.int .i64 x0],#[.int .i64 1,.int .i64 x1],#[.int .i64 2,.int .i64 x2]]
def pHp (x0 x1 x2:Int):Hp:=hpL G1 [(100,vb x0 x1 x2)]
theorem ztk (x0 x1 x2:Int):zhl prog G1 68 #[.pointer (some ⟨100,0,none⟩)] (pHp x0 x1 x2) [100] (zcx x0 x1 x2):=by
 have e0:rst (pHp x0 x1 x2) [100]=pHp x0 x1 x2:=zdr G1F (by simp)
 refine zm9 (B:=200) (v:=.tuple #[]) G1F (λk hk=>za6 (by simp) hk) func68 rfl call68 ?_ ?_ (by simp [ntmps68]) (by omega) ?_ ?_
 ·rw [e0];simp [zap,zau,zaj,zal,dom,pHp]
 ·rw [e0]
  intro k c hk
  rcases za8 hk with h|h
  ·simp at h
   rcases h with ⟨_,rfl⟩;simp [vb,zae,zaj,zal]
  ·exact Blk.flat_ids ((G1F k c h).2)
 ·rw [e0]
  intro x hx
  have h1:¬x=100:=by omega
  have h3:100<=x:=by omega
  simp [pHp,h1,h3]
 ·intro C l stop hC hC0 hY
  rw [e0] at hC0 |-
  by_cases h3:3<=stop
  ·have q0:(0 != stop)=true:=by simp;omega
   have q1:(1 != stop)=true:=by simp;omega
   have q2:(2 != stop)=true:=by simp;omega
   have l1:1<=stop:=by omega
   have l2:2<=stop:=by omega
   repeat' (first|apply gwS|refine zad ?_|refine zag ?_|simp only [wN,wM,Nat.reduceAdd,Nat.reduceMul]|(refine gwX ?_;intro Q hQ hP;simp [hC,hY,pHp,vb,zcx,q0,q1,q2,l1,l2,h3];(first|refine gwq hQ ?_|refine hP _ _ (by kernel_rfl) λ_=>?_);clear hQ hP Q)|apply gwB|apply gwT|apply gwK|apply gwE|apply gwG|apply gwL|simp only [zd6]|refine gwC ?_ ?_<;>intro hb<;>try (cases hb;done))
   refine ⟨by simp,by simp [results68],?_⟩
   simp [zcx];omega
  ·have:stop=0\/stop=1\/stop=2:=by omega
   rcases this with rfl|rfl|rfl
   all_goals
    repeat' (first|apply gwS|refine zad ?_|refine zag ?_|simp only [wN,wM,Nat.reduceAdd,Nat.reduceMul]|(refine gwX ?_;intro Q hQ hP;simp [hC,hY,pHp,vb,zcx];(first|refine gwq hQ ?_|refine hP _ _ (by kernel_rfl) λ_=>?_);clear hQ hP Q)|apply gwB|apply gwT|apply gwK|apply gwE|apply gwG|apply gwL|simp only [zd6]|refine gwC ?_ ?_<;>intro hb<;>try (cases hb;done))
   all_goals
    exact ⟨by simp,by simp [results68],by simp [zcx]⟩
theorem zzp (x0 x1 x2:Int):z75 prog G1 68 #[.pointer (some ⟨100,0,none⟩)] (pHp x0 x1 x2) [100] (zcx x0 x1 x2):=by
 have e0:rst (pHp x0 x1 x2) [100]=pHp x0 x1 x2:=zdr G1F (by simp)
 refine z3l (B:=200) G1F (λk hk=>za6 (by simp) hk) func68 rfl call68 ?_ ?_ (by simp [ntmps68]) (by omega) ?_ ?_
 ·rw [e0];simp [zap,zau,zaj,zal,dom,pHp]
 ·rw [e0]
  intro k c hk
  rcases za8 hk with h|h
  ·simp at h
   rcases h with ⟨_,rfl⟩;simp [vb,zae,zaj,zal]
  ·exact Blk.flat_ids ((G1F k c h).2)
 ·rw [e0]
  intro x hx
  have h1:¬x=100:=by omega
  have h3:100<=x:=by omega
  simp [pHp,h1,h3]
 ·intro pv C l stop hC hC0 hl hY
  rw [e0] at hC0 |-
  have:stop=0\/stop=1\/stop=2:=by simp [zcx] at hl;omega
  rcases this with rfl|rfl|rfl
  all_goals
   repeat' (first|apply gwS|refine zad ?_|refine zag ?_|simp only [wN,wM,Nat.reduceAdd,Nat.reduceMul]|(refine gwX ?_;intro Q hQ hP;simp [hC,hY,pHp,vb,zcx];(first|refine gwq hQ ?_|refine hP _ _ (by kernel_rfl) λ_=>?_);clear hQ hP Q)|apply gwB|apply gwT|apply gwK|apply gwE|apply gwG|apply gwL|simp only [zd6]|refine gwC ?_ ?_<;>intro hb<;>try (cases hb;done))
def inX (x:Int):Prop:=-2097152<=x/\x<=2097152
instance (x:Int):Decidable (inX x):=by unfold inX;infer_instance
theorem zgq {x:Int} (h:inX x):0<=x*x/\x*x<=4398046511104:=by
 obtain ⟨h1,h2⟩:=h
 by_cases h0:0<=x
 ·have h:x*x<=2097152*2097152:=Int.mul_le_mul (by omega) (by omega) h0 (by omega)
  exact ⟨Int.mul_nonneg h0 h0,by omega⟩
 ·rw [<-Int.neg_mul_neg]
  have h:-x*-x<=2097152*2097152:=Int.mul_le_mul (by omega) (by omega) (by omega) (by omega)
  exact ⟨Int.mul_nonneg (by omega) (by omega),by omega⟩
theorem IterX.cast {pn:Option Value} {P:Program} {G:Hp} {f:FuncId} {caps caps':Array Value} {hp:Hp} {rs rs':List Nat} {xs:List (Array Value)} (h:IterX pn P G f caps hp rs xs) (e1:caps=caps') (e2:rs=rs'):IterX pn P G f caps' hp rs' xs:=by subst e1 e2;exact h
def jhb (x0 x1 x2:Int) (i:Nat):Hp:=hpL G1 [(200,vb x0 x1 x2),(208,⟨#[.int .i64 (match i with|0=>0|1=>x0*x0|2=>x0*x0+x1*x1|_=>x0*x0+x1*x1+x2*x2)],.ty 3⟩)]
def jj7:Nat->Value:=tsL [(1,.pointer (some ⟨200,0,none⟩)),(2,.pointer (some ⟨208,0,none⟩))]
theorem zzy (x0 x1 x2:Int) (h0:inX x0) (h1:inX x1) (h2:inX x2):zli prog G1 46 #[vv x0 x1 x2] (.ret (.int .i64 (x0*x0+x1*x1+x2*x2))):=by
 refine zeq G1F func46 rfl call46 (λv h=>by cases h;simp) (by simp [vv]) (by simp [ntmps46]) ?_
 have z0:=zgq h0
 obtain ⟨l0,u0⟩:=h0
 have q0:Int.bmod (x0*x0) 18446744073709551616=x0*x0:=bm (by omega) (by omega)
 have s0:Int.bmod (x0*x0) 18446744073709551616=x0*x0:=bm (by omega) (by omega)
 have z1:=zgq h1
 obtain ⟨l1,u1⟩:=h1
 have q1:Int.bmod (x1*x1) 18446744073709551616=x1*x1:=bm (by omega) (by omega)
 have s1:Int.bmod (x0*x0+x1*x1) 18446744073709551616=x0*x0+x1*x1:=bm (by omega) (by omega)
 have z2:=zgq h2
 obtain ⟨l2,u2⟩:=h2
 have q2:Int.bmod (x2*x2) 18446744073709551616=x2*x2:=bm (by omega) (by omega)
 have s2:Int.bmod (x0*x0+x1*x1+x2*x2) 18446744073709551616=x0*x0+x1*x1+x2*x2:=bm (by omega) (by omega)
 intro C hC hC0 hY
 repeat' first|refine gwZ ?_|(refine gwX ?_;intro Q hQ hP;simp [hC,hY,vv];(first|refine gwq hQ ?_|refine hP _ _ (by kernel_rfl) λ_=>?_))|refine gwC ?_ ?_<;>intro hb
 refine zck [47] (by kernel_rfl) ?_;intro Q hQ hP;simp [hC,hY]
 refine zb2 (zku x0 x1 x2 224 (by omega)) (by simp) (λ_ _=>rfl) (by simp [Res.at]) ?_
 simp
 refine hQ _ _ _ _ ?_;clear hQ hP Q
 repeat' first|refine gwZ ?_|(refine gwX ?_;intro Q hQ hP;simp [hC,hY];(first|refine gwq hQ ?_|refine hP _ _ (by kernel_rfl) λ_=>?_))|refine gwC ?_ ?_<;>intro hb
 refine zg1 (f:=68) (rs:=[224]) (xs:=zcx x0 x1 x2) (caps:=#[.pointer (some ⟨224,0,none⟩)]) (by simp) ?_ (by simp [zcx]) (by simp [ntmps46]) jj7 (jhb x0 x1 x2) 300 3 (by simp [zcx]) ?_ ?_ ?_ ?_ ?_
 ·rw [hC]
  refine IterX.cast (IterX.rn (λk=>if k=100 then 224 else k) G1F (λk hk=>za6 (by simp) hk) (rs:=[100]) ?_ (ztk x0 x1 x2)) (by simp [zao]) (by simp)
  refine ⟨λk hk=>?_,?_,?_,?_⟩
  ·have h1:¬k=100:=by omega
   have h3:¬k=200:=by omega
   have h4:¬k=208:=by omega
   have h8:¬k=224:=by omega
   simp [h1,h3,h4,h8,pHp]
  ·simp
  ·simp [pHp,vb,Blk.rn,zan,zao]
  ·simp
 ·refine zbc _ 300 hC G1F (m0:=[]) hC0 (by omega) ?_ ?_ ?_
  ·simp [zap,zau,zaj,zal,dom]
  ·simp [zae,zaj,zal,vb]
  ·simp
 ·simp [jhb,dom]
 ·intro i hi t
  refine ze6 ?_ t
  simp [zap,zau,zaj,zal,dom,jhb]
 ·intro i x hi hx C1 l hC1 hh1 hY1
  have hCC:=hC
  have hC1':C1.G=G1:=hC1.trans hC
  replace hC:=hC1'
  replace hY:=hY1
  have:i=0\/i=1\/i=2:=by omega
  rcases this with rfl|rfl|rfl
  all_goals
   simp [zcx] at hx
   subst hx
   unfold jhb
  all_goals
   repeat' first|refine gwZ ?_|(refine gwX ?_;intro Q hQ hP;simp [hC,hY,za3,jj7];(first|refine gwq hQ ?_|refine hP _ _ (by kernel_rfl) λ_=>?_))|refine gwC ?_ ?_<;>intro hb
  all_goals
   intro C2 hC2 hh2 hY2
   replace hC:C2.G=G1:=hC2.trans hCC
   replace hY:=hY2
   repeat' first|refine gwZ ?_|((first|refine gwR [1000067] ?_|refine gwD [1000067] ?_);intro Q hQ hP;(repeat first|simp [hC,hY,za3,jj7,lmB,l0,u0,q0,s0,l1,u1,q1,s1,l2,u2,q2,s2]|refine za4 (zdk _) ?_|refine za4 (zdj _) ?_);(first|refine gwq hQ ?_|refine hP _ _ (by kernel_rfl) λ_=>?_))|refine gwC ?_ ?_<;>intro hb
  all_goals
   refine zbc [] 300 hC1' G1F hh1 (by omega) ?_ ?_ ?_
   ·simp
   ·simp [zae,zaj,zal,vb]
   ·simp [vb]
 ·left
  refine ⟨rfl,?_⟩
  unfold jhb jj7
  repeat' first|refine gwZ ?_|(refine gwX ?_;intro Q hQ hP;simp [hC,hY];(first|refine gwq hQ ?_|refine hP _ _ (by kernel_rfl) λ_=>?_))|refine gwC ?_ ?_<;>intro hb
  refine ⟨.inr trivial,?_⟩
  simp [results46]
theorem ztr {c:Array Value} {T:TypeId} (hc:∀ x∈c,zbj x=true) (b:Nat) (hb:100<=b):Rn (λk=>if k=100 then b else k) (hpL G1 [(100,⟨c,T⟩)]) (hpL G1 [(b,⟨c,T⟩)]) [100]:=by
 refine ⟨λk hk=>?_,?_,?_,?_⟩
 ·have h1:¬k=100:=by omega
  have h2:¬k=b:=by omega
  simp [h1,h2]
 ·simp [hb]
 ·simp [Blk.rn]
  exact (zbn (λx hx=>zcc (hc x hx))).symm
 ·simp
theorem Fun.sl {f:FuncId} {c:Array Value} {T:TypeId} {n:Nat} {v:Value} (h:Fun prog G1 f #[.slice (some ⟨100,0,none⟩) n n] (hpL G1 [(100,⟨c,T⟩)]) [100] (.ret v [])) (hc:∀ x∈c,zbj x=true) (hv:za0 v=true) (b:Nat) (hb:100<=b) :
  Fun prog G1 f #[.slice (some ⟨b,0,none⟩) n n] (hpL G1 [(b,⟨c,T⟩)]) [b] (.ret v []):=by
 have h':=h.rn (λk=>if k=100 then b else k) G1F (λk hk=>za6 (by simp) hk) (ztr hc b hb)
 rw [zax hv] at h'
 simpa [ren,zas,zan,zao,rnL] using h'
theorem Fun.slp {f:FuncId} {c:Array Value} {T:TypeId} {n:Nat} {v:Value} (h:Fun prog G1 f #[.slice (some ⟨100,0,none⟩) n n] (hpL G1 [(100,⟨c,T⟩)]) [100] (.pan v)) (hc:∀ x∈c,zbj x=true) (b:Nat) (hb:100<=b) :
  Fun prog G1 f #[.slice (some ⟨b,0,none⟩) n n] (hpL G1 [(b,⟨c,T⟩)]) [b] (.pan v):=by
 have h':=h.rnp (λk=>if k=100 then b else k) G1F (λk hk=>za6 (by simp) hk) (ztr hc b hb)
 simpa [ren,zas,zan,zao,rnL] using h'
theorem zh6 {f:FuncId} {c:Array Value} {T:TypeId} {n nk b:Nat} {v:Value} {hp:Hp} {K:Eff->Prop} (h:Fun prog G1 f #[.slice (some ⟨100,0,none⟩) n n] (hpL G1 [(100,⟨c,T⟩)]) [100] (.ret v [])) (hc:∀ x∈c,zbj x=true) (hv:za0 v=true) (hb:100<=b)
  (h1:hp b=some ⟨c,T⟩) (hK:K ((Res.ret v []).eff [b])):zgn prog G1 f #[.slice (some ⟨b,0,none⟩) n n] hp nk K :=
 zb2 (hp':=hpL G1 [(b,⟨c,T⟩)]) (h.sl hc hv b hb) (by simp [h1]) (λk hk=>za6 (by simp;omega) hk) trivial hK
theorem zx7 {f:FuncId} {c:Array Value} {T:TypeId} {n nk b:Nat} {v:Value} {hp:Hp} {K:Eff->Prop} (h:Fun prog G1 f #[.slice (some ⟨100,0,none⟩) n n] (hpL G1 [(100,⟨c,T⟩)]) [100] (.pan v)) (hc:∀ x∈c,zbj x=true) (hb:100<=b)
  (h1:hp b=some ⟨c,T⟩) (hK:K ((Res.pan v).eff [b])):zgn prog G1 f #[.slice (some ⟨b,0,none⟩) n n] hp nk K :=
 zb2 (hp':=hpL G1 [(b,⟨c,T⟩)]) (h.slp hc b hb) (by simp [h1]) (λk hk=>za6 (by simp;omega) hk) trivial hK
theorem zlk {a b p q:Int} (h1:-p<=a) (h2:a<=p) (h3:-q<=b) (h4:b<=q):-(p*q)<=a*b/\a*b<=p*q:=by
 have e1:a.natAbs<=p.natAbs:=by omega
 have e2:b.natAbs<=q.natAbs:=by omega
 have e3:=Nat.mul_le_mul e1 e2
 rw [<-Int.natAbs_mul,<-Int.natAbs_mul] at e3
 have e4:0<=p*q:=Int.mul_nonneg (by omega) (by omega)
 omega
theorem zen (a:Int):0<=a*a:=by
 by_cases h:0<=a
 ·exact Int.mul_nonneg h h
 ·rw [<-Int.neg_mul_neg];exact Int.mul_nonneg (by omega) (by omega)
def zf9 (n d g m x r:Int):Int:=(isq (2*n*g*m*x*(2*n*g*m*x) / (d*d*r*r*r))+1) / 2
def zbe (n d g m x r:Int):Int:=if n<0 then (if x<0 then zf9 n d g m x r else -zf9 n d g m x r) else (if x<0 then -zf9 n d g m x r else zf9 n d g m x r)
structure PIn (n d g m x r:Int):Prop where
 n0:-2097152<=n
 n1:n<=2097152
 d0:1<=d
 d1:d<=2097152
 g0:1<=g
 g1:g<=1048576
 m0:1<=m
 m1:m<=1024
 x0:-2097152<=x
 x1:x<=2097152
 r0:1<=r
 r1:r<=13194139533312
 xr:x*x<=r
theorem zlq {n d g m x r:Int}:zd5 n d g m x r=0↔PIn n d g m x r:=by
 unfold zd5
 constructor
 ·intro h
  split at h
  rotate_left
  ·cases h
  rename_i hc
  obtain ⟨f0,f1,f2,f3,f4,f5,f6,f7,f8,f9,f10,f11⟩:=hc
  split at h
  ·cases h
  rename_i hr
  split at h
  rotate_left
  ·cases h
  rename_i hx
  exact ⟨f0,f1,f2,f3,f4,f5,f6,f7,f8,f9,by omega,f11,hx⟩
 ·rintro ⟨f0,f1,f2,f3,f4,f5,f6,f7,f8,f9,f10,f11,f12⟩
  rw [if_pos ⟨f0,f1,f2,f3,f4,f5,f6,f7,f8,f9,by omega,f11⟩,if_neg (by omega),if_pos f12]
section
variable {n d g m x r:Int} (h:PIn n d g m x r)
include h
theorem PIn.p1:-4194304<=2*n/\2*n<=4194304:=⟨by have:=h.n0;omega,by have:=h.n1;omega⟩
theorem PIn.p2:-4398046511104<=2*n*g/\2*n*g<=4398046511104:=by
 have:=zlk h.p1.1 h.p1.2 (b:=g) (q:=1048576) (by have:=h.g0;omega) h.g1
 simpa using this
theorem PIn.p3:-4503599627370496<=2*n*g*m/\2*n*g*m<=4503599627370496:=by
 have:=zlk h.p2.1 h.p2.2 (b:=m) (q:=1024) (by have:=h.m0;omega) h.m1
 simpa using this
theorem PIn.p4:-9444732965739290427392<=2*n*g*m*x/\2*n*g*m*x<=9444732965739290427392:=by
 have:=zlk h.p3.1 h.p3.2 h.x0 h.x1
 simpa using this
theorem PIn.q1:1<=d*d/\d*d<=4398046511104:=by
 have h1:=zlk (p:=2097152) (q:=2097152) (by have:=h.d0;omega) h.d1 (by have:=h.d0;omega) h.d1
 have h2:1*1<=d*d:=Int.mul_le_mul h.d0 h.d0 (by omega) (by have:=h.d0;omega)
 omega
theorem PIn.q2:r<=d*d*r/\d*d*r<=4398046511104*13194139533312:=by
 refine ⟨?_,Int.mul_le_mul h.q1.2 h.r1 (by have:=h.r0;omega) (by omega)⟩
 have h2:1*r<=d*d*r:=Int.mul_le_mul_of_nonneg_right h.q1.1 (by have:=h.r0;omega)
 omega
theorem PIn.q3:r<=d*d*r*r/\d*d*r*r<=4398046511104*13194139533312*13194139533312:=by
 have hr:=h.r0
 have h1:=h.q2
 refine ⟨?_,Int.mul_le_mul h1.2 h.r1 (by omega) (by omega)⟩
 have h2:1*r<=d*d*r*r:=Int.mul_le_mul_of_nonneg_right (by omega) (by omega)
 omega
theorem PIn.q4:r<=d*d*r*r*r/\d*d*r*r*r<=4398046511104*13194139533312*13194139533312*13194139533312:=by
 have hr:=h.r0
 have h1:=h.q3
 refine ⟨?_,Int.mul_le_mul h1.2 h.r1 (by omega) (by omega)⟩
 have h2:1*r<=d*d*r*r*r:=Int.mul_le_mul_of_nonneg_right (by omega) (by omega)
 omega
theorem PIn.a_le:2*n*g*m*x*(2*n*g*m*x)<=89202980794122492566142873090593446023921664:=by
 have:=(zlk h.p4.1 h.p4.2 h.p4.1 h.p4.2).2
 simpa using this
theorem PIn.div_le:2*n*g*m*x*(2*n*g*m*x) / (d*d*r*r*r)<=20282409603651670423947251286016:=by
 have hr:=h.r0
 have hB:=h.q4.1
 have h1:(2*n*g*m)*(2*n*g*m)<=20282409603651670423947251286016:=by
  have:=(zlk h.p3.1 h.p3.2 h.p3.1 h.p3.2).2
  simpa using this
 have e:2*n*g*m*x*(2*n*g*m*x)=(2*n*g*m)*(2*n*g*m)*(x*x):=by
  rw [Int.mul_assoc (2*n*g*m) x,Int.mul_left_comm x,<-Int.mul_assoc]
 have h2:(2*n*g*m)*(2*n*g*m)*(x*x)<=20282409603651670423947251286016*r:=Int.mul_le_mul h1 h.xr (zen x) (by omega)
 have h3:20282409603651670423947251286016*r<=20282409603651670423947251286016*(d*d*r*r*r):=Int.mul_le_mul_of_nonneg_left hB (by omega)
 rw [e]
 refine Int.le_of_lt_add_one (Int.ediv_lt_of_lt_mul (by omega) ?_)
 rw [Int.add_mul]
 omega
theorem PIn.mag:0<=zf9 n d g m x r/\zf9 n d g m x r<=4503599627370496:=by
 have hB:0<d*d*r*r*r:=by have:=h.q4.1;have:=h.r0;omega
 have hA:=zen (2*n*g*m*x)
 obtain ⟨h1,h2,h3⟩:=zfz (2*n*g*m*x*(2*n*g*m*x) / (d*d*r*r*r)) (Int.ediv_nonneg hA (by omega))
 have h4:=h.div_le
 have h5:=z41 4503599627370497 h1 (by decide) (by omega)
 unfold zf9
 omega
end
theorem zzk (n d g m x r:Int) (h:PIn n d g m x r):zli prog G1 48 #[.int .i64 n,.int .i64 d,.int .i64 g,.int .i64 m,.int .i64 x,.int .i64 r] (.ret (.int .i64 (zbe n d g m x r))):=by
 refine zeq G1F func48 rfl call48 (λv h=>by cases h;simp) (by simp) (by simp [ntmps48]) ?_
 intro C hC hC0 hY
 have hck:=z2v n d g m x r (zlq.2 h)
 have p1:=h.p1
 have p2:=h.p2
 have p3:=h.p3
 have p4:=h.p4
 have q1:=h.q1
 have q2:=h.q2
 have q3:=h.q3
 have q4:=h.q4
 have r0:=h.r0
 have t1:=zml 2 n g m x ⟨by decide,⟨by have:=h.n0;omega,by have:=h.n1;omega⟩,⟨by have:=h.g0;omega,by have:=h.g1;omega⟩,⟨by have:=h.m0;omega,by have:=h.m1;omega⟩,⟨by have:=h.x0;omega,by have:=h.x1;omega⟩⟩
  ⟨⟨by decide,by decide⟩,⟨by omega,by omega⟩,⟨by omega,by omega⟩,⟨by omega,by omega⟩,⟨by omega,by omega⟩⟩
 have t2:=zml d d r r r ⟨⟨by have:=h.d0;omega,by have:=h.d1;omega⟩,⟨by have:=h.d0;omega,by have:=h.d1;omega⟩,⟨by omega,by have:=h.r1;omega⟩,⟨by omega,by have:=h.r1;omega⟩,⟨by omega,by have:=h.r1;omega⟩⟩
  ⟨⟨by have:=h.d0;omega,by have:=h.d1;omega⟩,⟨by omega,by omega⟩,⟨by omega,by omega⟩,⟨by omega,by omega⟩,⟨by omega,by omega⟩⟩
 have wA:wr (2*n*g*m*x):=⟨by omega,by omega⟩
 have sA:=zcg wA
 have hAle:=h.a_le
 have hA0:=zen (2*n*g*m*x)
 have wA2:wr (2*n*g*m*x*(2*n*g*m*x)):=⟨by omega,by omega⟩
 have wB:wr (d*d*r*r*r):=⟨by omega,by omega⟩
 have hB0:0<d*d*r*r*r:=by omega
 have hm:=h.mag
 have hmw:wr (zf9 n d g m x r):=⟨by omega,by omega⟩
 have sM:=zcg hmw
 have iM:i64 (zf9 n d g m x r):=⟨by omega,by omega⟩
 have hmb:Int.bmod (-zf9 n d g m x r) 18446744073709551616=-zf9 n d g m x r:=bm (by omega) (by omega)
 have hpm:(isq (2*n*g*m*x*(2*n*g*m*x) / (d*d*r*r*r))+1) / 2=zf9 n d g m x r:=rfl
 unfold zbe
 by_cases hn:n<0<;>by_cases hx:x<0
 all_goals simp only [hn,hx,if_true,if_false]
 all_goals
  repeat' first|refine gwZ ?_|((first|refine gwR [69,72] ?_|refine gwD [69,72] ?_);intro Q hQ hP;(repeat first|simp [hC,hY,sA,wA2,wB,hA0,hB0,hpm,sM,iM,hmb,hn,hx]|(refine zh6 hck (by simp) (by simp) (by omega) ?_ ?_;focus (simp;done))|(refine zh6 t1 (by simp) (by simp) (by omega) ?_ ?_;focus (simp;done))|(refine zh6 t2 (by simp) (by simp) (by omega) ?_ ?_;focus (simp;done)));(first|refine gwq hQ ?_|refine hP _ _ (by kernel_rfl) λ_=>?_))|refine gwC ?_ ?_<;>intro hb
 all_goals
  refine ⟨.inr trivial,?_⟩
  simp [results48]
theorem z95 (n d g m x r:Int) (h:zd5 n d g m x r≠0):zli prog G1 48 #[.int .i64 n,.int .i64 d,.int .i64 g,.int .i64 m,.int .i64 x,.int .i64 r] (.pan (erV (zd5 n d g m x r))):=by
 refine zeq G1F func48 rfl call48 (λv h=>by cases h) (by simp) (by simp [ntmps48]) ?_
 intro C hC hC0 hY
 have hck:=zxn n d g m x r h
 repeat' first|refine gwZ ?_|((first|refine gwR [69] ?_|refine gwD [69] ?_);intro Q hQ hP;(repeat first|simp [hC,hY]|refine zx7 hck (by simp) (by omega) (by simp) ?_);(first|refine gwq hQ ?_|refine hP _ _ (by kernel_rfl) λ_=>?_))|refine gwC ?_ ?_<;>intro hb
 rfl
end Go.Gy
namespace Go.Gy
open Go Go.RowKit Go.Proofs
def ib (n:Int):Blk:=⟨#[.int .i64 n],.ty 3⟩
end Go.Gy
