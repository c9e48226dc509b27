/-
  Lemmas of this claim, in their order (GyCB, GyCC, GyCD, GyCE, GyCF, GyLE, GyLG, GyLH, GyEF, GyWI, GyCG, GyLJ, GyPA, GyEK).
  Conditions: those of each theorem.
-/
import Derived.Test.YtamodcpmplmaoaaGreatDoorGz04
set_option linter.unusedSimpArgs false
set_option linter.unusedVariables false
set_option maxRecDepth 8000
set_option maxHeartbeats 16000000
namespace Go.Gy
open Go Go.RowKit Go.Proofs Go.Proofs.Tryz
def mT (sl:Value) (n:Nat) (g bx tp nr:Int):List (Nat×Nat×Value):=[(0,4,.map (some 224)),
  (1,5,.func (.func 147) #[] #[]),
  (2,6,.pointer (some ⟨200,0,none⟩)),
  (3,7,sl),
  (4,8,.int .i64 n),
  (5,9,.func (.func 148) #[] #[.pointer (some ⟨264,0,none⟩),.pointer (some ⟨265,0,none⟩)]),
  (7,10,.func (.func 150) #[] #[.pointer (some ⟨200,0,none⟩)]),
  (9,11,.func (.func 147) #[] #[]),
  (10,12,.pointer (some ⟨200,1,none⟩)),
  (11,13,.int .i64 g),
  (12,14,.func (.func 148) #[] #[.pointer (some ⟨320,0,none⟩),.pointer (some ⟨321,0,none⟩)]),
  (14,15,.func (.func 147) #[] #[]),
  (15,16,.pointer (some ⟨200,2,none⟩)),
  (16,17,.int .i64 bx),
  (17,18,.func (.func 148) #[] #[.pointer (some ⟨360,0,none⟩),.pointer (some ⟨361,0,none⟩)]),
  (19,19,.func (.func 147) #[] #[]),
  (20,20,.pointer (some ⟨200,3,none⟩)),
  (21,21,.int .i64 tp),
  (22,22,.func (.func 148) #[] #[.pointer (some ⟨400,0,none⟩),.pointer (some ⟨401,0,none⟩)]),
  (24,23,.func (.func 147) #[] #[]),
  (25,24,.pointer (some ⟨200,4,none⟩)),
  (26,25,.int .i64 nr),
  (27,26,.pointer (some ⟨200,2,none⟩)),
  (28,27,.int .i64 bx),
  (29,28,.int .i64 (Int.bmod (2*bx) 18446744073709551616)),
  (30,29,.func (.func 148) #[] #[.pointer (some ⟨464,0,none⟩),.pointer (some ⟨465,0,none⟩)]),
  (32,30,.func (.func 153) #[] #[.pointer (some ⟨200,0,none⟩)]),
  (34,31,.map (some 224)),
  (35,2,.map (some 224))]
def mI:List (Nat×ByteArray×Value):=[(6,⟨#[98,111,100,105,101,115]⟩,.func (.func 148) #[] #[.pointer (some ⟨264,0,none⟩),.pointer (some ⟨265,0,none⟩)]),
  (8,⟨#[109,97,115,115]⟩,.func (.func 150) #[] #[.pointer (some ⟨200,0,none⟩)]),
  (13,⟨#[99,111,110,115,116,97,110,116]⟩,.func (.func 148) #[] #[.pointer (some ⟨320,0,none⟩),.pointer (some ⟨321,0,none⟩)]),
  (18,⟨#[98,111,120]⟩,.func (.func 148) #[] #[.pointer (some ⟨360,0,none⟩),.pointer (some ⟨361,0,none⟩)]),
  (23,⟨#[116,111,112]⟩,.func (.func 148) #[] #[.pointer (some ⟨400,0,none⟩),.pointer (some ⟨401,0,none⟩)]),
  (31,⟨#[110,101,97,114]⟩,.func (.func 148) #[] #[.pointer (some ⟨464,0,none⟩),.pointer (some ⟨465,0,none⟩)]),
  (33,⟨#[109,101,116,104,111,100]⟩,.func (.func 153) #[] #[.pointer (some ⟨200,0,none⟩)])]
def mX (n:Nat) (g bx tp nr:Int):List (Nat×Nat×Blk):=[(5,264,jb (n:Int)),(5,265,jb 4),
  (12,320,jb g),(12,321,jb 1048576),
  (17,360,jb bx),(17,361,jb 1048576),
  (22,400,jb tp),(22,401,jb 65536),
  (30,464,jb nr),(30,465,jb (Int.bmod (2*bx) 18446744073709551616))]
structure MI (b:Blk) (sl:Value) (n:Nat) (g bx tp nr md:Int) (listed:Array Bool) (ts:Nat->Value) (hp:Hp):Prop where
 t1:ts 1=.pointer (some ⟨200,0,none⟩)
 t3:ts 3=.func (.func 147) #[] #[]
 tm:∀ p∈mT sl n g bx tp nr,listed[p.1]? = some true->ts p.2.1=p.2.2
 low:∀ k,k<100->hp k=G0 k
 b:hp 100=some b
 c:hp 200=some (cfB sl g bx tp nr md)
 bx:∀ q∈mX n g bx tp nr,listed[q.1]? = some true->hp q.2.1=some q.2.2
 mp:listed[0]? = some true->∃ l,hp 224=some (mpB l)/\(∀ p∈l,∃ q∈mI,p=q.2/\listed[q.1]? = some true)/\∀ q∈mI,listed[q.1]? = some true->zcs q.2.1 l=some q.2.2
 i0:∀ q∈mI,listed[q.1]? = some true->listed[0]? = some true
theorem zi1 {listed:Array Bool} {i j:Nat} (h:listed[j]? = some true):(listed.setIfInBounds i true)[j]? = some true:=by
 rw [Array.getElem?_setIfInBounds]
 split
 ·split
  ·rfl
  ·rename_i e hlt
   subst e
   exact absurd (Array.getElem?_eq_some_iff.1 h).1 hlt
 ·exact h
theorem zcz {listed:Array Bool} {i j:Nat} (h:(listed.setIfInBounds i true)[j]? = some true):j=i\/listed[j]? = some true:=by
 rw [Array.getElem?_setIfInBounds] at h
 by_cases e:i=j
 ·exact .inl e.symm
 ·rw [if_neg e] at h;exact .inr h
theorem zks (sl:Value) (n:Nat) (g bx tp nr:Int):∀ p∈mT sl n g bx tp nr,∀ q∈mT sl n g bx tp nr,p.1=q.1\/p.2.1=q.2.1->p=q:=by
 intro p hp q hq
 simp only [mT,List.mem_cons,List.not_mem_nil,or_false] at hp hq
 rcases hp with rfl|rfl|rfl|rfl|rfl|rfl|rfl|rfl|rfl|rfl|rfl|rfl|rfl|rfl|rfl|rfl|rfl|rfl|rfl|rfl|rfl|rfl|rfl|rfl|rfl|rfl|rfl|rfl|rfl<;>rcases hq with rfl|rfl|rfl|rfl|rfl|rfl|rfl|rfl|rfl|rfl|rfl|rfl|rfl|rfl|rfl|rfl|rfl|rfl|rfl|rfl|rfl|rfl|rfl|rfl|rfl|rfl|rfl|rfl|rfl<;>simp
theorem jb7 (sl:Value) (n:Nat) (g bx tp nr:Int):∀ p∈mT sl n g bx tp nr,p.2.1≠1/\p.2.1≠3:=by simp [mT]
theorem zpn (sl:Value) (n:Nat) (g bx tp nr:Int):∀ p∈mT sl n g bx tp nr,∀ q∈mI,p.1≠q.1:=by simp [mT,mI]
theorem jb3:∀ p∈mI,∀ q∈mI,p.1=q.1\/(p.2.1==q.2.1)=false:=by
 intro p hp q hq
 simp only [mI,List.mem_cons,List.not_mem_nil,or_false] at hp hq
 rcases hp with rfl|rfl|rfl|rfl|rfl|rfl|rfl<;>rcases hq with rfl|rfl|rfl|rfl|rfl|rfl|rfl<;>first|exact .inl rfl|(right;decide +kernel)
theorem jb4:∀ p∈mI,∀ q∈mI,p.1=q.1->p=q:=by
 intro p hp q hq
 simp only [mI,List.mem_cons,List.not_mem_nil,or_false] at hp hq
 rcases hp with rfl|rfl|rfl|rfl|rfl|rfl|rfl<;>rcases hq with rfl|rfl|rfl|rfl|rfl|rfl|rfl<;>simp
theorem z51:∀ p∈mI,(p.2.1==p.2.1)=true:=by
 intro p hp
 simp only [mI,List.mem_cons,List.not_mem_nil,or_false] at hp
 rcases hp with rfl|rfl|rfl|rfl|rfl|rfl|rfl<;>decide +kernel
section
variable {b:Blk} {sl:Value} {n:Nat} {g bx tp nr md:Int} {listed:Array Bool} {ts:Nat->Value} {hp:Hp}
theorem MI.tmp (h:MI b sl n g bx tp nr md listed ts hp) {i t:Nat} {v:Value} (hm:(i,t,v)∈mT sl n g bx tp nr) (hx:∀ q∈mX n g bx tp nr,q.1≠i) (hi:i≠0):MI b sl n g bx tp nr md (listed.setIfInBounds i true) (upd ts t v) hp:=by
 have h13:=jb7 sl n g bx tp nr _ hm
 refine ⟨by rw [zaa _ _ (λe=>h13.1 e.symm)];exact h.t1,by rw [zaa _ _ (λe=>h13.2 e.symm)];exact h.t3,λp hp hl=>?_,h.low,h.b,h.c,λq hq hl=>?_,λhl=>?_,λq hq hl=>(zcz hl).elim (λe1=>absurd e1.symm (zpn sl n g bx tp nr _ hm q hq)) λh1=>zi1 (h.i0 q hq h1)⟩
 ·by_cases e:p.2.1=t
  ·have:=zks sl n g bx tp nr p hp _ hm (.inr e)
   subst this
   exact za4 _ _ _
  ·rw [zaa _ _ e]
   rcases zcz hl with e1|h1
   ·exact absurd (congrArg (λx=>x.2.1) (zks sl n g bx tp nr p hp _ hm (.inl e1))) e
   ·exact h.tm p hp h1
 ·rcases zcz hl with e1|h1
  ·exact absurd e1 (hx q hq)
  ·exact h.bx q hq h1
 ·rcases zcz hl with e1|h1
  ·exact absurd e1.symm hi
  ·obtain ⟨l,l1,l2,l3⟩:=h.mp h1
   refine ⟨l,l1,λp hp=>?_,λq hq hl2=>?_⟩
   ·obtain ⟨q,hq,e,h2⟩:=l2 p hp
    refine ⟨q,hq,e,?_⟩
    rw [Array.getElem?_setIfInBounds,if_neg (λe=>zpn sl n g bx tp nr _ hm q hq e)]
    exact h2
   ·rcases zcz hl2 with e1|h2
    ·exact absurd e1.symm (zpn sl n g bx tp nr _ hm q hq)
    ·exact l3 q hq h2
theorem MI.mkm (h:MI b sl n g bx tp nr md listed ts hp) (h0:listed[0]? = some false):MI b sl n g bx tp nr md (listed.setIfInBounds 0 true) (upd ts 4 (.map (some 224))) (upd hp 224 (some (mpB []))):=by
 have hm:(0,4,Value.map (some 224))∈mT sl n g bx tp nr:=by simp [mT]
 refine ⟨by rw [zaa _ _ (by omega)];exact h.t1,by rw [zaa _ _ (by omega)];exact h.t3,λp hp hl=>?_,λk hk=>by rw [zaa _ _ (by omega)];exact h.low k hk,by rw [zaa _ _ (by omega)];exact h.b,by rw [zaa _ _ (by omega)];exact h.c,λq hq hl=>?_,λ_=>⟨[],za4 _ _ _,by simp,λq hq hl=>?_⟩,λq hq hl=>by simp [Array.getElem?_setIfInBounds,(Array.getElem?_eq_some_iff.1 h0).1]⟩
 ·by_cases e:p.2.1=4
  ·have:=zks sl n g bx tp nr p hp _ hm (.inr e)
   subst this
   exact za4 _ _ _
  ·rw [zaa _ _ e]
   rcases zcz hl with e1|h1
   ·exact absurd (congrArg (λx=>x.2.1) (zks sl n g bx tp nr p hp _ hm (.inl e1))) e
   ·exact h.tm p hp h1
 ·have hq2:q.1≠0/\q.2.1≠224:=(show ∀ q∈mX n g bx tp nr,q.1≠0/\q.2.1≠224 by simp [mX]) q hq
  rw [zaa _ _ hq2.2]
  rcases zcz hl with e1|h1
  ·exact absurd e1 hq2.1
  ·exact h.bx q hq h1
 ·have hq2:q.1≠0:=(show ∀ q∈mI,q.1≠0 by simp [mI]) q hq
  rcases zcz hl with e1|h1
  ·exact absurd e1 hq2
  ·rw [h.i0 q hq h1] at h0;cases h0
theorem MI.call (h:MI b sl n g bx tp nr md listed ts hp) {i t nk:Nat} {v:Value} {a m:Int} (hm:(i,t,v)∈mT sl n g bx tp nr) (hnk:225<=nk) (hi:i≠0) (hx:∀ q∈mX n g bx tp nr,(q.1=i->(q.2.1=nk/\q.2.2=jb a)\/(q.2.1=nk+1/\q.2.2=jb m))/\(q.1≠i->q.2.1≠nk/\q.2.1≠nk+1)) :
  MI b sl n g bx tp nr md (listed.setIfInBounds i true) (upd ts t v) (upd (upd hp nk (some (jb a))) (nk+1) (some (jb m))):=by
 have h13:=jb7 sl n g bx tp nr _ hm
 refine ⟨by rw [zaa _ _ (λe=>h13.1 e.symm)];exact h.t1,by rw [zaa _ _ (λe=>h13.2 e.symm)];exact h.t3,λp hp hl=>?_,λk hk=>by rw [zaa _ _ (by omega),zaa _ _ (by omega)];exact h.low k hk,by rw [zaa _ _ (by omega),zaa _ _ (by omega)];exact h.b,by rw [zaa _ _ (by omega),zaa _ _ (by omega)];exact h.c,λq hq hl=>?_,λhl=>?_,λq hq hl=>(zcz hl).elim (λe1=>absurd e1.symm (zpn sl n g bx tp nr _ hm q hq)) λh1=>zi1 (h.i0 q hq h1)⟩
 ·by_cases e:p.2.1=t
  ·have:=zks sl n g bx tp nr p hp _ hm (.inr e)
   subst this
   exact za4 _ _ _
  ·rw [zaa _ _ e]
   rcases zcz hl with e1|h1
   ·exact absurd (congrArg (λx=>x.2.1) (zks sl n g bx tp nr p hp _ hm (.inl e1))) e
   ·exact h.tm p hp h1
 ·by_cases e:q.1=i
  ·rcases (hx q hq).1 e with ⟨e1,e2⟩|⟨e1,e2⟩
   ·rw [e1,e2,zaa _ _ (by omega),za4]
   ·rw [e1,e2,za4]
  ·obtain ⟨e1,e2⟩:=(hx q hq).2 e
   rw [zaa _ _ e2,zaa _ _ e1]
   rcases zcz hl with e3|h1
   ·exact absurd e3 e
   ·exact h.bx q hq h1
 ·rcases zcz hl with e1|h1
  ·exact absurd e1.symm hi
  ·obtain ⟨l,l1,l2,l3⟩:=h.mp h1
   refine ⟨l,by rw [zaa _ _ (by omega),zaa _ _ (by omega)];exact l1,λp hp=>?_,λq hq hl2=>?_⟩
   ·obtain ⟨q,hq,e,h2⟩:=l2 p hp
    refine ⟨q,hq,e,?_⟩
    rw [Array.getElem?_setIfInBounds,if_neg (λe=>zpn sl n g bx tp nr _ hm q hq e)]
    exact h2
   ·rcases zcz hl2 with e1|h2
    ·exact absurd e1.symm (zpn sl n g bx tp nr _ hm q hq)
    ·exact l3 q hq h2
theorem znh {s:ByteArray} {v:Value} {k:ByteArray}:∀ (l:List (ByteArray×Value)),zcs k (l++[(s,v)])=match zcs k l with|some u=>some u|none=>if (k==s)=true then some v else none
 | []=>rfl
 | p::l=>by
  simp only [List.cons_append,zcs]
  split
  ·rfl
  ·exact znh l
theorem MI.fresh (h:MI b sl n g bx tp nr md listed ts hp) {i:Nat} {s:ByteArray} {v:Value} (hm:(i,s,v)∈mI) (hi:listed[i]? = some false) {l:List (ByteArray×Value)} (hl:∀ p∈l,∃ q∈mI,p=q.2/\listed[q.1]? = some true):zcs s l=none:=by
 induction l with
 | nil=>rfl
 | cons p l ih =>
  simp only [zcs]
  obtain ⟨q,hq,e,h2⟩:=hl p (by simp)
  have:(s==p.1)=false:=by
   rw [e]
   rcases jb3 _ hm q hq with e1|e1
   ·have e1:i=q.1:=e1
    rw [<-e1,hi] at h2
    cases h2
   ·exact e1
  rw [this]
  exact ih λp hp=>hl p (List.mem_cons_of_mem _ hp)
theorem MI.ins (h:MI b sl n g bx tp nr md listed ts hp) {i:Nat} {s:ByteArray} {v:Value} (hm:(i,s,v)∈mI) (hlt:i<listed.size) {l:List (ByteArray×Value)} (hl:∀ p∈l,∃ q∈mI,p=q.2/\listed[q.1]? = some true) (hf:∀ q∈mI,listed[q.1]? = some true->zcs q.2.1 l=some q.2.2) (hn:zcs s l=none) (h00:listed[0]? = some true) :
  MI b sl n g bx tp nr md (listed.setIfInBounds i true) ts (upd hp 224 (some (mpB (l++[(s,v)])))):=by
 refine ⟨h.t1,h.t3,λp hp hl=>?_,λk hk=>by rw [zaa _ _ (by omega)];exact h.low k hk,by rw [zaa _ _ (by omega)];exact h.b,by rw [zaa _ _ (by omega)];exact h.c,λq hq hl=>?_,λ_=>⟨_,za4 _ _ _,λp hp=>?_,λq hq hl2=>?_⟩,λq hq hl=>zi1 h00⟩
 ·rcases zcz hl with e1|h1
  ·exact absurd e1 (zpn sl n g bx tp nr p hp _ hm)
  ·exact h.tm p hp h1
 ·have hq2:q.2.1≠224:=(show ∀ q∈mX n g bx tp nr,q.2.1≠224 by simp [mX]) q hq
  have hq3:∀ p∈mI,q.1≠p.1:=(show ∀ q∈mX n g bx tp nr,∀ p∈mI,q.1≠p.1 by simp [mX,mI]) q hq
  rw [zaa _ _ hq2]
  rcases zcz hl with e1|h1
  ·exact absurd e1 (hq3 _ hm)
  ·exact h.bx q hq h1
 ·rcases List.mem_append.1 hp with hp|hp
  ·obtain ⟨q,hq,e,h2⟩:=hl p hp
   refine ⟨q,hq,e,?_⟩
   exact zi1 h2
  ·simp only [List.mem_singleton] at hp
   subst hp
   refine ⟨_,hm,rfl,?_⟩
   simp [Array.getElem?_setIfInBounds,hlt]
 ·rw [znh]
  rcases zcz hl2 with e1|h2
  ·have:=jb4 q hq _ hm e1
   subst this
   simp only [hn]
   rw [z51 _ hm]
   rfl
  ·rw [hf q hq h2]
end
def mV (nk:Nat):List (ByteArray×Value):=[(⟨#[98,111,100,105,101,115]⟩,.func (.func 148) #[] #[.pointer (some ⟨nk+2,0,none⟩),.pointer (some ⟨nk+3,0,none⟩)]),
  (⟨#[109,97,115,115]⟩,.func (.func 150) #[] #[.pointer (some ⟨nk+1,0,none⟩)]),
  (⟨#[99,111,110,115,116,97,110,116]⟩,.func (.func 148) #[] #[.pointer (some ⟨nk+4,0,none⟩),.pointer (some ⟨nk+5,0,none⟩)]),
  (⟨#[98,111,120]⟩,.func (.func 148) #[] #[.pointer (some ⟨nk+6,0,none⟩),.pointer (some ⟨nk+7,0,none⟩)]),
  (⟨#[116,111,112]⟩,.func (.func 148) #[] #[.pointer (some ⟨nk+8,0,none⟩),.pointer (some ⟨nk+9,0,none⟩)]),
  (⟨#[110,101,97,114]⟩,.func (.func 148) #[] #[.pointer (some ⟨nk+10,0,none⟩),.pointer (some ⟨nk+11,0,none⟩)]),
  (⟨#[109,101,116,104,111,100]⟩,.func (.func 153) #[] #[.pointer (some ⟨nk+1,0,none⟩)])]
def mNs (nk:Nat) (l:List (ByteArray×Value)) (sl:Value) (n:Nat) (g bx tp nr md:Int):List (Nat×Blk):=[(nk,mpB l),(nk+1,cfB sl g bx tp nr md),(nk+2,jb (n:Int)),(nk+3,jb 4),(nk+4,jb g),(nk+5,jb 1048576),(nk+6,jb bx),(nk+7,jb 1048576),(nk+8,jb tp),(nk+9,jb 65536),(nk+10,jb nr),(nk+11,jb (Int.bmod (2*bx) 18446744073709551616))]
def zg3 (nk:Nat) (sl:Value) (n:Nat) (g bx tp nr md:Int) (v:Value) (ns:List (Nat×Blk)):Prop:=∃ l,v=.map (some nk)/\ns=mNs nk l sl n g bx tp nr md/\(∀ p∈l,p∈mV nk)/\∀ q∈mV nk,zcs q.1 l=some q.2
theorem zfp {s:ByteArray} {h:Value->Value}:∀ l:List (ByteArray×Value),zcs s (l.map λp=>(p.1,h p.2))=(zcs s l).map h
 | []=>rfl
 | p::l=>by
  simp only [List.map_cons,zcs]
  split
  ·rfl
  ·exact zfp l
theorem zq4 (ρ:Nat->Nat) (l:List (ByteArray×Value)):(mpB l).rn ρ=mpB (l.map λp=>(p.1,zaj ρ p.2)):=by
 unfold mpB Blk.rn mpC
 simp only [List.map_toArray,List.map_flatMap,List.flatMap_map,List.map_cons,List.map_nil]
 rfl
def mR (k:Nat):Nat:=if k=1000 then 224 else if k=1001 then 200 else if k=1002 then 264 else if k=1003 then 265 else if k=1004 then 320 else if k=1005 then 321 else if k=1006 then 360 else if k=1007 then 361 else if k=1008 then 400 else if k=1009 then 401 else if k=1010 then 464 else if k=1011 then 465 else k
def mS (k:Nat):Nat:=if k=224 then 1000 else if k=200 then 1001 else if k=264 then 1002 else if k=265 then 1003 else if k=320 then 1004 else if k=321 then 1005 else if k=360 then 1006 else if k=361 then 1007 else if k=400 then 1008 else if k=401 then 1009 else if k=464 then 1010 else if k=465 then 1011 else k
theorem zwl (b:Blk) (hb:b.fx) (off n cap:Nat) (g bx tp nr md:Int) :
  FunS prog G0 132 #[cfV (.slice (some ⟨100,off,none⟩) n cap) g bx tp nr md] (hpL G0 [(100,b)]) (zab [(100,b)]) (zg3 1000 (.slice (some ⟨100,off,none⟩) n cap) n g bx tp nr md):=by
 refine zei (B:=200) G0F func132 rfl call132 (zax hb) ?_ ?_ (by simp [ntmps132]) (by omega) ?_
 ·simp [zan,za0,zah,zal,zab,cfV]
 ·rintro v ns ⟨l,rfl,rfl,hl,_⟩
  have hl2:∀ D:Nat->Prop,(∀ k,1000<=k->k<1012->D k)->(mpB l).ids D:=λD hD=>zh5.2 λp hp=>by
   have:=hl p hp
   simp only [mV,List.mem_cons,List.not_mem_nil,or_false] at this
   rcases this with rfl|rfl|rfl|rfl|rfl|rfl|rfl<;>simp [zah,zal,hD]
  refine ⟨by simp [zan,za0,zah,zal,zcu,zab,mNs],?_,?_⟩
  ·intro p hp
   simp only [mNs,List.mem_cons,List.not_mem_nil,or_false] at hp
   have hD:∀ k,1000<=k->k<1012->zcu (λk=>k∈zab [(100,b)]) (mNs 1000 l (.slice (some ⟨100,off,none⟩) n cap) n g bx tp nr md) k:=λk hk1 hk2=>.inr (by
    simp only [mNs,zab,List.map_cons,List.map_nil,List.mem_cons,List.not_mem_nil,or_false]
    omega)
   rcases hp with rfl|rfl|rfl|rfl|rfl|rfl|rfl|rfl|rfl|rfl|rfl|rfl
   ·exact ⟨by omega,hl2 _ hD⟩
   ·exact ⟨by omega,by simp [cfB,zac,zah,zal,zcu,zab]⟩
   all_goals exact ⟨by omega,by simp [jb,zac,zah,zal]⟩
  ·intro k b c h1 h2
   simp only [mNs,List.mem_cons,List.not_mem_nil,or_false,Prod.mk.injEq] at h1 h2
   rcases h1 with ⟨e1,rfl⟩|⟨e1,rfl⟩|⟨e1,rfl⟩|⟨e1,rfl⟩|⟨e1,rfl⟩|⟨e1,rfl⟩|⟨e1,rfl⟩|⟨e1,rfl⟩|⟨e1,rfl⟩|⟨e1,rfl⟩|⟨e1,rfl⟩|⟨e1,rfl⟩<;>rcases h2 with ⟨e2,rfl⟩|⟨e2,rfl⟩|⟨e2,rfl⟩|⟨e2,rfl⟩|⟨e2,rfl⟩|⟨e2,rfl⟩|⟨e2,rfl⟩|⟨e2,rfl⟩|⟨e2,rfl⟩|⟨e2,rfl⟩|⟨e2,rfl⟩|⟨e2,rfl⟩<;>first|rfl|omega
 intro C hC hC0 hY
 unfold cfV
 repeat' first|refine gwZ ?_|refine gwW ?_|refine gwC ?_ ?_<;>intro hb
 refine zt8 follows ?_
 simp only [Array.toList,List.length_cons,List.length_nil,Nat.reduceAdd]
 obtain ⟨sl,hsl⟩:∃ sl,Value.slice (some ⟨100,off,none⟩) n cap=sl:=⟨_,rfl⟩
 refine zp6 (MI b sl n g bx tp nr md) (λlisted ts hp hs hr hI=>?_) (λfuel listed ts hp i hs hi hdep h hk=>?_) _ _ _ _ (by simp) (by decide +kernel) ?_
 ·have hall:=zoa hs (by kernel_rfl) hr
  have hall:∀ i,i<36->listed[i]? = some true:=λi hi=>hall i (by simpa using hi)
  obtain ⟨l,l1,l2,l3⟩:=hI.mp (hall 0 (by omega))
  have h2:=hI.tm (35,2,.map (some 224)) (by simp [mT]) (hall 35 (by omega))
  have hinv:∀ q∈mI,zaj mR (zaj mS q.2.2)=q.2.2:=by simp [mI,zaj,zam,mR,mS]
  have hcan:∀ q∈mI,(q.2.1,zaj mS q.2.2)∈mV 1000:=by simp [mI,mV,zaj,zam,mS]
  have hfind:∀ q∈mV 1000,∃ p∈mI,p.2.1=q.1/\zaj mS p.2.2=q.2/\p.1<36:=by
   intro q hq
   simp only [mV,List.mem_cons,List.not_mem_nil,or_false] at hq
   rcases hq with rfl|rfl|rfl|rfl|rfl|rfl|rfl
   ·exact ⟨(6,⟨#[98,111,100,105,101,115]⟩,.func (.func 148) #[] #[.pointer (some ⟨264,0,none⟩),.pointer (some ⟨265,0,none⟩)]),by simp [mI],rfl,by simp [zaj,zam,mS],by omega⟩
   ·exact ⟨(8,⟨#[109,97,115,115]⟩,.func (.func 150) #[] #[.pointer (some ⟨200,0,none⟩)]),by simp [mI],rfl,by simp [zaj,zam,mS],by omega⟩
   ·exact ⟨(13,⟨#[99,111,110,115,116,97,110,116]⟩,.func (.func 148) #[] #[.pointer (some ⟨320,0,none⟩),.pointer (some ⟨321,0,none⟩)]),by simp [mI],rfl,by simp [zaj,zam,mS],by omega⟩
   ·exact ⟨(18,⟨#[98,111,120]⟩,.func (.func 148) #[] #[.pointer (some ⟨360,0,none⟩),.pointer (some ⟨361,0,none⟩)]),by simp [mI],rfl,by simp [zaj,zam,mS],by omega⟩
   ·exact ⟨(23,⟨#[116,111,112]⟩,.func (.func 148) #[] #[.pointer (some ⟨400,0,none⟩),.pointer (some ⟨401,0,none⟩)]),by simp [mI],rfl,by simp [zaj,zam,mS],by omega⟩
   ·exact ⟨(31,⟨#[110,101,97,114]⟩,.func (.func 148) #[] #[.pointer (some ⟨464,0,none⟩),.pointer (some ⟨465,0,none⟩)]),by simp [mI],rfl,by simp [zaj,zam,mS],by omega⟩
   ·exact ⟨(33,⟨#[109,101,116,104,111,100]⟩,.func (.func 153) #[] #[.pointer (some ⟨200,0,none⟩)]),by simp [mI],rfl,by simp [zaj,zam,mS],by omega⟩
  simp only [zca]
  refine zud ?_
  refine ⟨.inr rfl,zbz G0F (by simp [hI.b]) (λk hk=>(hI.low k hk).trans (za7 (by simp) hk).symm),_,_,mR,⟨l.map λp=>(p.1,zaj mS p.2),rfl,rfl,λp hp=>?_,λq hq=>?_⟩,λk hk=>?_,?_,?_,?_,?_⟩
  ·obtain ⟨p0,hp0,rfl⟩:=List.mem_map.1 hp
   obtain ⟨q,hq,rfl,_⟩:=l2 p0 hp0
   exact hcan q hq
  ·obtain ⟨p,hp,e1,e2,hlt⟩:=hfind q hq
   rw [zfp,<-e1,l3 p hp (hall _ hlt),<-e2]
   rfl
  ·unfold mR
   iterate 12 rw [if_neg (by omega)]
  ·simp [mNs,mR]
  ·simp [mNs,mR]
  ·simp [results132,h2,ren,zay,zaj,zam,mR]
   rfl
  ·subst hsl
   have hbx:=hI.bx
   have hm:(mpB (l.map λp=>(p.1,zaj mS p.2))).rn mR=mpB l:=by
    rw [zq4,List.map_map]
    congr 1
    conv=>rhs;rw [<-List.map_id l]
    refine List.map_congr_left λp hp=>?_
    obtain ⟨q,hq,rfl,_⟩:=l2 p hp
    simp only [Function.comp_def,id]
    rw [hinv q hq]
   intro p hp
   simp only [mNs,List.mem_cons,List.not_mem_nil,or_false] at hp
   rcases hp with rfl|rfl|rfl|rfl|rfl|rfl|rfl|rfl|rfl|rfl|rfl|rfl
   ·show hp (mR 1000)=some ((mpB _).rn mR)
    rw [hm]
    exact l1
   ·show hp 200=some ((cfB _ g bx tp nr md).rn mR)
    rw [hI.c]
    simp [cfB,Blk.rn,zaj,zam,mR]
   ·show hp 264=some ((jb (n:Int)).rn mR)
    rw [zbu]
    exact hbx (5,264,jb (n:Int)) (by simp [mX]) (hall 5 (by omega))
   ·show hp 265=some ((jb 4).rn mR)
    rw [zbu]
    exact hbx (5,265,jb 4) (by simp [mX]) (hall 5 (by omega))
   ·show hp 320=some ((jb g).rn mR)
    rw [zbu]
    exact hbx (12,320,jb g) (by simp [mX]) (hall 12 (by omega))
   ·show hp 321=some ((jb 1048576).rn mR)
    rw [zbu]
    exact hbx (12,321,jb 1048576) (by simp [mX]) (hall 12 (by omega))
   ·show hp 360=some ((jb bx).rn mR)
    rw [zbu]
    exact hbx (17,360,jb bx) (by simp [mX]) (hall 17 (by omega))
   ·show hp 361=some ((jb 1048576).rn mR)
    rw [zbu]
    exact hbx (17,361,jb 1048576) (by simp [mX]) (hall 17 (by omega))
   ·show hp 400=some ((jb tp).rn mR)
    rw [zbu]
    exact hbx (22,400,jb tp) (by simp [mX]) (hall 22 (by omega))
   ·show hp 401=some ((jb 65536).rn mR)
    rw [zbu]
    exact hbx (22,401,jb 65536) (by simp [mX]) (hall 22 (by omega))
   ·show hp 464=some ((jb nr).rn mR)
    rw [zbu]
    exact hbx (30,464,jb nr) (by simp [mX]) (hall 30 (by omega))
   ·show hp 465=some ((jb (Int.bmod (2*bx) 18446744073709551616)).rn mR)
    rw [zbu]
    exact hbx (30,465,jb (Int.bmod (2*bx) 18446744073709551616)) (by simp [mX]) (hall 30 (by omega))
 ·have hlt:i<36:=by
   have:=(Array.getElem?_eq_some_iff.1 hi).1
   rw [hs] at this
   simpa using this
  subst hsl
  obtain rfl|rfl|rfl|rfl|rfl|rfl|rfl|rfl|rfl|rfl|rfl|rfl|rfl|rfl|rfl|rfl|rfl|rfl|rfl|rfl|rfl|rfl|rfl|rfl|rfl|rfl|rfl|rfl|rfl|rfl|rfl|rfl|rfl|rfl|rfl|rfl:i=0\/i=1\/i=2\/i=3\/i=4\/i=5\/i=6\/i=7\/i=8\/i=9\/i=10\/i=11\/i=12\/i=13\/i=14\/i=15\/i=16\/i=17\/i=18\/i=19\/i=20\/i=21\/i=22\/i=23\/i=24\/i=25\/i=26\/i=27\/i=28\/i=29\/i=30\/i=31\/i=32\/i=33\/i=34\/i=35:=by omega
  ·-- 0 map
   have f0:=h.t1
   have f1:=h.t3
   refine gwo ?_;intro Q hQ;simp [hC,hY,f0,f1];apply hQ
   exact hk _ _ (h.mkm hi)
  ·-- 1 mv
   have f0:=h.t1
   have f1:=h.t3
   refine gwo ?_;intro Q hQ;simp [hC,hY,f0,f1];apply hQ
   exact hk _ _ (h.tmp (i:=1) (t:=5) (by simp [mT]) (by simp [mX]) (by omega))
  ·-- 2 fa
   have f0:=h.t1
   have f1:=h.t3
   refine gwo ?_;intro Q hQ;simp [hC,hY,f0,f1];apply hQ
   exact hk _ _ (h.tmp (i:=2) (t:=6) (by simp [mT]) (by simp [mX]) (by omega))
  ·-- 3 ld
   have hd:∀ j∈[2],listed[j]? = some true:=by
    have hd0:=hdep _ rfl
    simp [Region.binds] at hd0
    simp [hd0]
   have f0:=h.t1
   have f1:=h.t3
   have f2:=h.tm (2,6,.pointer (some ⟨200,0,none⟩)) (by simp [mT]) (hd 2 (by simp))
   have fc:=h.c
   unfold cfB at fc
   refine gwo ?_;intro Q hQ;simp [hC,hY,f0,f1,f2,fc];apply hQ
   exact hk _ _ (h.tmp (i:=3) (t:=7) (by simp [mT]) (by simp [mX]) (by omega))
  ·-- 4 len
   have hd:∀ j∈[3],listed[j]? = some true:=by
    have hd0:=hdep _ rfl
    simp [Region.binds] at hd0
    simp [hd0]
   have f0:=h.t1
   have f1:=h.t3
   have f2:=h.tm (3,7,.slice (some ⟨100,off,none⟩) n cap) (by simp [mT]) (hd 3 (by simp))
   refine gwo ?_;intro Q hQ;simp [hC,hY,f0,f1,f2];apply hQ
   exact hk _ _ (h.tmp (i:=4) (t:=8) (by simp [mT]) (by simp [mX]) (by omega))
  ·-- 5 call
   have hd:∀ j∈[1,4],listed[j]? = some true:=by
    have hd0:=hdep _ rfl
    simp [Region.binds] at hd0
    simp [hd0]
   have f0:=h.t1
   have f1:=h.t3
   have f2:=h.tm (1,5,.func (.func 147) #[] #[]) (by simp [mT]) (hd 1 (by simp))
   have f3:=h.tm (4,8,.int .i64 n) (by simp [mT]) (hd 4 (by simp))
   refine zdk (f:=.tmp 5) (cap:=#[]) hC (zgo 264 (by omega) (n:Int) 4) rfl hi rfl (by simp [ntmps132]) rfl rfl (by simp [okT,f0,f1,f2,f3]) (by simp [gev,f0,f1,f2,f3]) (by simp) (by simp [okX,zcj,f0,f1,f2,f3]) (by simp [gev,f0,f1,f2,f3]) (by simp) (λq hq=>(h.low q hq).symm▸(by simp)) ?_ ?_
   ·intro v ns hV k hk
    have:=zdm hV k hk
    omega
   rintro v ns ⟨rfl,rfl⟩
   exact hk _ _ (h.call (i:=5) (t:=9) (by simp [mT]) (by omega) (by omega) (by simp [mX]))
  ·-- 6 ins
   have hd:∀ j∈[0,5],listed[j]? = some true:=by
    have hd0:=hdep _ rfl
    simp [Region.binds] at hd0
    simp [hd0]
   have f0:=h.t1
   have f1:=h.t3
   have f2:=h.tm (0,4,.map (some 224)) (by simp [mT]) (hd 0 (by simp))
   have f3:=h.tm (5,9,.func (.func 148) #[] #[.pointer (some ⟨264,0,none⟩),.pointer (some ⟨265,0,none⟩)]) (by simp [mT]) (hd 5 (by simp))
   obtain ⟨l,l1,l2,l3⟩:=h.mp (hd 0 (by simp))
   have hm:(6,⟨#[98,111,100,105,101,115]⟩,.func (.func 148) #[] #[.pointer (some ⟨264,0,none⟩),.pointer (some ⟨265,0,none⟩)])∈mI:=by simp [mI]
   have hn:=h.fresh hm hi l2
   refine gwo ?_;intro Q hQ;simp [hC,hY,f0,f1,f2,f3,l1,hn];apply hQ
   exact hk _ _ (h.ins hm (Array.getElem?_eq_some_iff.1 hi).1 l2 l3 hn (hd 0 (by simp)))
  ·-- 7 mk
   have f0:=h.t1
   have f1:=h.t3
   refine gwo ?_;intro Q hQ;simp [hC,hY,f0,f1];apply hQ
   exact hk _ _ (h.tmp (i:=7) (t:=10) (by simp [mT]) (by simp [mX]) (by omega))
  ·-- 8 ins
   have hd:∀ j∈[0,7],listed[j]? = some true:=by
    have hd0:=hdep _ rfl
    simp [Region.binds] at hd0
    simp [hd0]
   have f0:=h.t1
   have f1:=h.t3
   have f2:=h.tm (0,4,.map (some 224)) (by simp [mT]) (hd 0 (by simp))
   have f3:=h.tm (7,10,.func (.func 150) #[] #[.pointer (some ⟨200,0,none⟩)]) (by simp [mT]) (hd 7 (by simp))
   obtain ⟨l,l1,l2,l3⟩:=h.mp (hd 0 (by simp))
   have hm:(8,⟨#[109,97,115,115]⟩,.func (.func 150) #[] #[.pointer (some ⟨200,0,none⟩)])∈mI:=by simp [mI]
   have hn:=h.fresh hm hi l2
   refine gwo ?_;intro Q hQ;simp [hC,hY,f0,f1,f2,f3,l1,hn];apply hQ
   exact hk _ _ (h.ins hm (Array.getElem?_eq_some_iff.1 hi).1 l2 l3 hn (hd 0 (by simp)))
  ·-- 9 mv
   have f0:=h.t1
   have f1:=h.t3
   refine gwo ?_;intro Q hQ;simp [hC,hY,f0,f1];apply hQ
   exact hk _ _ (h.tmp (i:=9) (t:=11) (by simp [mT]) (by simp [mX]) (by omega))
  ·-- 10 fa
   have f0:=h.t1
   have f1:=h.t3
   refine gwo ?_;intro Q hQ;simp [hC,hY,f0,f1];apply hQ
   exact hk _ _ (h.tmp (i:=10) (t:=12) (by simp [mT]) (by simp [mX]) (by omega))
  ·-- 11 ld
   have hd:∀ j∈[10],listed[j]? = some true:=by
    have hd0:=hdep _ rfl
    simp [Region.binds] at hd0
    simp [hd0]
   have f0:=h.t1
   have f1:=h.t3
   have f2:=h.tm (10,12,.pointer (some ⟨200,1,none⟩)) (by simp [mT]) (hd 10 (by simp))
   have fc:=h.c
   unfold cfB at fc
   refine gwo ?_;intro Q hQ;simp [hC,hY,f0,f1,f2,fc];apply hQ
   exact hk _ _ (h.tmp (i:=11) (t:=13) (by simp [mT]) (by simp [mX]) (by omega))
  ·-- 12 call
   have hd:∀ j∈[9,11],listed[j]? = some true:=by
    have hd0:=hdep _ rfl
    simp [Region.binds] at hd0
    simp [hd0]
   have f0:=h.t1
   have f1:=h.t3
   have f2:=h.tm (9,11,.func (.func 147) #[] #[]) (by simp [mT]) (hd 9 (by simp))
   have f3:=h.tm (11,13,.int .i64 g) (by simp [mT]) (hd 11 (by simp))
   refine zdk (f:=.tmp 11) (cap:=#[]) hC (zgo 320 (by omega) g 1048576) rfl hi rfl (by simp [ntmps132]) rfl rfl (by simp [okT,f0,f1,f2,f3]) (by simp [gev,f0,f1,f2,f3]) (by simp) (by simp [okX,zcj,f0,f1,f2,f3]) (by simp [gev,f0,f1,f2,f3]) (by simp) (λq hq=>(h.low q hq).symm▸(by simp)) ?_ ?_
   ·intro v ns hV k hk
    have:=zdm hV k hk
    omega
   rintro v ns ⟨rfl,rfl⟩
   exact hk _ _ (h.call (i:=12) (t:=14) (by simp [mT]) (by omega) (by omega) (by simp [mX]))
  ·-- 13 ins
   have hd:∀ j∈[0,12],listed[j]? = some true:=by
    have hd0:=hdep _ rfl
    simp [Region.binds] at hd0
    simp [hd0]
   have f0:=h.t1
   have f1:=h.t3
   have f2:=h.tm (0,4,.map (some 224)) (by simp [mT]) (hd 0 (by simp))
   have f3:=h.tm (12,14,.func (.func 148) #[] #[.pointer (some ⟨320,0,none⟩),.pointer (some ⟨321,0,none⟩)]) (by simp [mT]) (hd 12 (by simp))
   obtain ⟨l,l1,l2,l3⟩:=h.mp (hd 0 (by simp))
   have hm:(13,⟨#[99,111,110,115,116,97,110,116]⟩,.func (.func 148) #[] #[.pointer (some ⟨320,0,none⟩),.pointer (some ⟨321,0,none⟩)])∈mI:=by simp [mI]
   have hn:=h.fresh hm hi l2
   refine gwo ?_;intro Q hQ;simp [hC,hY,f0,f1,f2,f3,l1,hn];apply hQ
   exact hk _ _ (h.ins hm (Array.getElem?_eq_some_iff.1 hi).1 l2 l3 hn (hd 0 (by simp)))
  ·-- 14 mv
   have f0:=h.t1
   have f1:=h.t3
   refine gwo ?_;intro Q hQ;simp [hC,hY,f0,f1];apply hQ
   exact hk _ _ (h.tmp (i:=14) (t:=15) (by simp [mT]) (by simp [mX]) (by omega))
  ·-- 15 fa
   have f0:=h.t1
   have f1:=h.t3
   refine gwo ?_;intro Q hQ;simp [hC,hY,f0,f1];apply hQ
   exact hk _ _ (h.tmp (i:=15) (t:=16) (by simp [mT]) (by simp [mX]) (by omega))
  ·-- 16 ld
   have hd:∀ j∈[15],listed[j]? = some true:=by
    have hd0:=hdep _ rfl
    simp [Region.binds] at hd0
    simp [hd0]
   have f0:=h.t1
   have f1:=h.t3
   have f2:=h.tm (15,16,.pointer (some ⟨200,2,none⟩)) (by simp [mT]) (hd 15 (by simp))
   have fc:=h.c
   unfold cfB at fc
   refine gwo ?_;intro Q hQ;simp [hC,hY,f0,f1,f2,fc];apply hQ
   exact hk _ _ (h.tmp (i:=16) (t:=17) (by simp [mT]) (by simp [mX]) (by omega))
  ·-- 17 call
   have hd:∀ j∈[14,16],listed[j]? = some true:=by
    have hd0:=hdep _ rfl
    simp [Region.binds] at hd0
    simp [hd0]
   have f0:=h.t1
   have f1:=h.t3
   have f2:=h.tm (14,15,.func (.func 147) #[] #[]) (by simp [mT]) (hd 14 (by simp))
   have f3:=h.tm (16,17,.int .i64 bx) (by simp [mT]) (hd 16 (by simp))
   refine zdk (f:=.tmp 15) (cap:=#[]) hC (zgo 360 (by omega) bx 1048576) rfl hi rfl (by simp [ntmps132]) rfl rfl (by simp [okT,f0,f1,f2,f3]) (by simp [gev,f0,f1,f2,f3]) (by simp) (by simp [okX,zcj,f0,f1,f2,f3]) (by simp [gev,f0,f1,f2,f3]) (by simp) (λq hq=>(h.low q hq).symm▸(by simp)) ?_ ?_
   ·intro v ns hV k hk
    have:=zdm hV k hk
    omega
   rintro v ns ⟨rfl,rfl⟩
   exact hk _ _ (h.call (i:=17) (t:=18) (by simp [mT]) (by omega) (by omega) (by simp [mX]))
  ·-- 18 ins
   have hd:∀ j∈[0,17],listed[j]? = some true:=by
    have hd0:=hdep _ rfl
    simp [Region.binds] at hd0
    simp [hd0]
   have f0:=h.t1
   have f1:=h.t3
   have f2:=h.tm (0,4,.map (some 224)) (by simp [mT]) (hd 0 (by simp))
   have f3:=h.tm (17,18,.func (.func 148) #[] #[.pointer (some ⟨360,0,none⟩),.pointer (some ⟨361,0,none⟩)]) (by simp [mT]) (hd 17 (by simp))
   obtain ⟨l,l1,l2,l3⟩:=h.mp (hd 0 (by simp))
   have hm:(18,⟨#[98,111,120]⟩,.func (.func 148) #[] #[.pointer (some ⟨360,0,none⟩),.pointer (some ⟨361,0,none⟩)])∈mI:=by simp [mI]
   have hn:=h.fresh hm hi l2
   refine gwo ?_;intro Q hQ;simp [hC,hY,f0,f1,f2,f3,l1,hn];apply hQ
   exact hk _ _ (h.ins hm (Array.getElem?_eq_some_iff.1 hi).1 l2 l3 hn (hd 0 (by simp)))
  ·-- 19 mv
   have f0:=h.t1
   have f1:=h.t3
   refine gwo ?_;intro Q hQ;simp [hC,hY,f0,f1];apply hQ
   exact hk _ _ (h.tmp (i:=19) (t:=19) (by simp [mT]) (by simp [mX]) (by omega))
  ·-- 20 fa
   have f0:=h.t1
   have f1:=h.t3
   refine gwo ?_;intro Q hQ;simp [hC,hY,f0,f1];apply hQ
   exact hk _ _ (h.tmp (i:=20) (t:=20) (by simp [mT]) (by simp [mX]) (by omega))
  ·-- 21 ld
   have hd:∀ j∈[20],listed[j]? = some true:=by
    have hd0:=hdep _ rfl
    simp [Region.binds] at hd0
    simp [hd0]
   have f0:=h.t1
   have f1:=h.t3
   have f2:=h.tm (20,20,.pointer (some ⟨200,3,none⟩)) (by simp [mT]) (hd 20 (by simp))
   have fc:=h.c
   unfold cfB at fc
   refine gwo ?_;intro Q hQ;simp [hC,hY,f0,f1,f2,fc];apply hQ
   exact hk _ _ (h.tmp (i:=21) (t:=21) (by simp [mT]) (by simp [mX]) (by omega))
  ·-- 22 call
   have hd:∀ j∈[19,21],listed[j]? = some true:=by
    have hd0:=hdep _ rfl
    simp [Region.binds] at hd0
    simp [hd0]
   have f0:=h.t1
   have f1:=h.t3
   have f2:=h.tm (19,19,.func (.func 147) #[] #[]) (by simp [mT]) (hd 19 (by simp))
   have f3:=h.tm (21,21,.int .i64 tp) (by simp [mT]) (hd 21 (by simp))
   refine zdk (f:=.tmp 19) (cap:=#[]) hC (zgo 400 (by omega) tp 65536) rfl hi rfl (by simp [ntmps132]) rfl rfl (by simp [okT,f0,f1,f2,f3]) (by simp [gev,f0,f1,f2,f3]) (by simp) (by simp [okX,zcj,f0,f1,f2,f3]) (by simp [gev,f0,f1,f2,f3]) (by simp) (λq hq=>(h.low q hq).symm▸(by simp)) ?_ ?_
   ·intro v ns hV k hk
    have:=zdm hV k hk
    omega
   rintro v ns ⟨rfl,rfl⟩
   exact hk _ _ (h.call (i:=22) (t:=22) (by simp [mT]) (by omega) (by omega) (by simp [mX]))
  ·-- 23 ins
   have hd:∀ j∈[0,22],listed[j]? = some true:=by
    have hd0:=hdep _ rfl
    simp [Region.binds] at hd0
    simp [hd0]
   have f0:=h.t1
   have f1:=h.t3
   have f2:=h.tm (0,4,.map (some 224)) (by simp [mT]) (hd 0 (by simp))
   have f3:=h.tm (22,22,.func (.func 148) #[] #[.pointer (some ⟨400,0,none⟩),.pointer (some ⟨401,0,none⟩)]) (by simp [mT]) (hd 22 (by simp))
   obtain ⟨l,l1,l2,l3⟩:=h.mp (hd 0 (by simp))
   have hm:(23,⟨#[116,111,112]⟩,.func (.func 148) #[] #[.pointer (some ⟨400,0,none⟩),.pointer (some ⟨401,0,none⟩)])∈mI:=by simp [mI]
   have hn:=h.fresh hm hi l2
   refine gwo ?_;intro Q hQ;simp [hC,hY,f0,f1,f2,f3,l1,hn];apply hQ
   exact hk _ _ (h.ins hm (Array.getElem?_eq_some_iff.1 hi).1 l2 l3 hn (hd 0 (by simp)))
  ·-- 24 mv
   have f0:=h.t1
   have f1:=h.t3
   refine gwo ?_;intro Q hQ;simp [hC,hY,f0,f1];apply hQ
   exact hk _ _ (h.tmp (i:=24) (t:=23) (by simp [mT]) (by simp [mX]) (by omega))
  ·-- 25 fa
   have f0:=h.t1
   have f1:=h.t3
   refine gwo ?_;intro Q hQ;simp [hC,hY,f0,f1];apply hQ
   exact hk _ _ (h.tmp (i:=25) (t:=24) (by simp [mT]) (by simp [mX]) (by omega))
  ·-- 26 ld
   have hd:∀ j∈[25],listed[j]? = some true:=by
    have hd0:=hdep _ rfl
    simp [Region.binds] at hd0
    simp [hd0]
   have f0:=h.t1
   have f1:=h.t3
   have f2:=h.tm (25,24,.pointer (some ⟨200,4,none⟩)) (by simp [mT]) (hd 25 (by simp))
   have fc:=h.c
   unfold cfB at fc
   refine gwo ?_;intro Q hQ;simp [hC,hY,f0,f1,f2,fc];apply hQ
   exact hk _ _ (h.tmp (i:=26) (t:=25) (by simp [mT]) (by simp [mX]) (by omega))
  ·-- 27 fa
   have f0:=h.t1
   have f1:=h.t3
   refine gwo ?_;intro Q hQ;simp [hC,hY,f0,f1];apply hQ
   exact hk _ _ (h.tmp (i:=27) (t:=26) (by simp [mT]) (by simp [mX]) (by omega))
  ·-- 28 ld
   have hd:∀ j∈[27],listed[j]? = some true:=by
    have hd0:=hdep _ rfl
    simp [Region.binds] at hd0
    simp [hd0]
   have f0:=h.t1
   have f1:=h.t3
   have f2:=h.tm (27,26,.pointer (some ⟨200,2,none⟩)) (by simp [mT]) (hd 27 (by simp))
   have fc:=h.c
   unfold cfB at fc
   refine gwo ?_;intro Q hQ;simp [hC,hY,f0,f1,f2,fc];apply hQ
   exact hk _ _ (h.tmp (i:=28) (t:=27) (by simp [mT]) (by simp [mX]) (by omega))
  ·-- 29 mul
   have hd:∀ j∈[28],listed[j]? = some true:=by
    have hd0:=hdep _ rfl
    simp [Region.binds] at hd0
    simp [hd0]
   have f0:=h.t1
   have f1:=h.t3
   have f2:=h.tm (28,27,.int .i64 bx) (by simp [mT]) (hd 28 (by simp))
   refine gwo ?_;intro Q hQ;simp [hC,hY,f0,f1,f2];apply hQ
   exact hk _ _ (h.tmp (i:=29) (t:=28) (by simp [mT]) (by simp [mX]) (by omega))
  ·-- 30 call
   have hd:∀ j∈[24,26,29],listed[j]? = some true:=by
    have hd0:=hdep _ rfl
    simp [Region.binds] at hd0
    simp [hd0]
   have f0:=h.t1
   have f1:=h.t3
   have f2:=h.tm (24,23,.func (.func 147) #[] #[]) (by simp [mT]) (hd 24 (by simp))
   have f3:=h.tm (26,25,.int .i64 nr) (by simp [mT]) (hd 26 (by simp))
   have f4:=h.tm (29,28,.int .i64 (Int.bmod (2*bx) 18446744073709551616)) (by simp [mT]) (hd 29 (by simp))
   refine zdk (f:=.tmp 23) (cap:=#[]) hC (zgo 464 (by omega) nr (Int.bmod (2*bx) 18446744073709551616)) rfl hi rfl (by simp [ntmps132]) rfl rfl (by simp [okT,f0,f1,f2,f3,f4]) (by simp [gev,f0,f1,f2,f3,f4]) (by simp) (by simp [okX,zcj,f0,f1,f2,f3,f4]) (by simp [gev,f0,f1,f2,f3,f4]) (by simp) (λq hq=>(h.low q hq).symm▸(by simp)) ?_ ?_
   ·intro v ns hV k hk
    have:=zdm hV k hk
    omega
   rintro v ns ⟨rfl,rfl⟩
   exact hk _ _ (h.call (i:=30) (t:=29) (by simp [mT]) (by omega) (by omega) (by simp [mX]))
  ·-- 31 ins
   have hd:∀ j∈[0,30],listed[j]? = some true:=by
    have hd0:=hdep _ rfl
    simp [Region.binds] at hd0
    simp [hd0]
   have f0:=h.t1
   have f1:=h.t3
   have f2:=h.tm (0,4,.map (some 224)) (by simp [mT]) (hd 0 (by simp))
   have f3:=h.tm (30,29,.func (.func 148) #[] #[.pointer (some ⟨464,0,none⟩),.pointer (some ⟨465,0,none⟩)]) (by simp [mT]) (hd 30 (by simp))
   obtain ⟨l,l1,l2,l3⟩:=h.mp (hd 0 (by simp))
   have hm:(31,⟨#[110,101,97,114]⟩,.func (.func 148) #[] #[.pointer (some ⟨464,0,none⟩),.pointer (some ⟨465,0,none⟩)])∈mI:=by simp [mI]
   have hn:=h.fresh hm hi l2
   refine gwo ?_;intro Q hQ;simp [hC,hY,f0,f1,f2,f3,l1,hn];apply hQ
   exact hk _ _ (h.ins hm (Array.getElem?_eq_some_iff.1 hi).1 l2 l3 hn (hd 0 (by simp)))
  ·-- 32 mk
   have f0:=h.t1
   have f1:=h.t3
   refine gwo ?_;intro Q hQ;simp [hC,hY,f0,f1];apply hQ
   exact hk _ _ (h.tmp (i:=32) (t:=30) (by simp [mT]) (by simp [mX]) (by omega))
  ·-- 33 ins
   have hd:∀ j∈[0,32],listed[j]? = some true:=by
    have hd0:=hdep _ rfl
    simp [Region.binds] at hd0
    simp [hd0]
   have f0:=h.t1
   have f1:=h.t3
   have f2:=h.tm (0,4,.map (some 224)) (by simp [mT]) (hd 0 (by simp))
   have f3:=h.tm (32,30,.func (.func 153) #[] #[.pointer (some ⟨200,0,none⟩)]) (by simp [mT]) (hd 32 (by simp))
   obtain ⟨l,l1,l2,l3⟩:=h.mp (hd 0 (by simp))
   have hm:(33,⟨#[109,101,116,104,111,100]⟩,.func (.func 153) #[] #[.pointer (some ⟨200,0,none⟩)])∈mI:=by simp [mI]
   have hn:=h.fresh hm hi l2
   refine gwo ?_;intro Q hQ;simp [hC,hY,f0,f1,f2,f3,l1,hn];apply hQ
   exact hk _ _ (h.ins hm (Array.getElem?_eq_some_iff.1 hi).1 l2 l3 hn (hd 0 (by simp)))
  ·-- 34 mv
   have hd:∀ j∈[0],listed[j]? = some true:=by
    have hd0:=hdep _ rfl
    simp [Region.binds] at hd0
    simp [hd0]
   have f0:=h.t1
   have f1:=h.t3
   have f2:=h.tm (0,4,.map (some 224)) (by simp [mT]) (hd 0 (by simp))
   refine gwo ?_;intro Q hQ;simp [hC,hY,f0,f1,f2];apply hQ
   exact hk _ _ (h.tmp (i:=34) (t:=31) (by simp [mT]) (by simp [mX]) (by omega))
  ·-- 35 asg
   have hd:∀ j∈[34],listed[j]? = some true:=by
    have hd0:=hdep _ rfl
    simp [Region.binds] at hd0
    simp [hd0]
   have f0:=h.t1
   have f1:=h.t3
   have f2:=h.tm (34,31,.map (some 224)) (by simp [mT]) (hd 34 (by simp))
   refine gwo ?_;intro Q hQ;simp [hC,hY,f0,f1,f2];apply hQ
   exact hk _ _ (h.tmp (i:=35) (t:=2) (by simp [mT]) (by simp [mX]) (by omega))
 ·have hno:∀ j,(Array.replicate 36 false)[j]?≠some true:=λj=>by
   rw [Array.getElem?_replicate]
   split<;>simp
  exact ⟨by simp,by simp,λp hp hl=>absurd hl (hno _),λk hk=>by rw [zaa _ _ (by omega)];exact za7 (by simp) hk,by simp,by simp [cfB,hsl],λq hq hl=>absurd hl (hno _),λhl=>absurd hl (hno _),λq hq hl=>absurd hl (hno _)⟩
def zmj (n:Nat) (f:Nat->Int) (g bx tp nr md:Int):ByteArray :=
 if wiB n 1 4=false then ⟨#[98,111,100,105,101,115]⟩ else if zuu f n=false then ⟨#[109,97,115,115]⟩ else if wiB g 1 1048576=false then ⟨#[99,111,110,115,116,97,110,116]⟩ else if wiB bx 1 1048576=false then ⟨#[98,111,120]⟩ else
  if wiB tp 1 65536=false then ⟨#[116,111,112]⟩ else if wiB nr 1 (Int.bmod (2*bx) 18446744073709551616)=false then ⟨#[110,101,97,114]⟩ else if wiB md 0 4=false then ⟨#[109,101,116,104,111,100]⟩ else ⟨#[]⟩
def mQ (nk k:Nat):Nat:=if 1000<=k then (if k<1012 then k - 1000+nk else k) else k
theorem zc4 {nk n:Nat} {sl:Value} {g bx tp nr md:Int} {v:Value} {ns:List (Nat×Blk)} (h:zg3 nk sl n g bx tp nr md v ns):∀ k∈zab ns,nk<=k/\k<nk+12:=by
 obtain ⟨l,rfl,rfl,_⟩:=h
 intro k hk
 simp [zab,mNs] at hk
 omega
theorem zn1 (nk j:Nat) (hj:j<12):mQ nk (1000+j)=nk+j:=by
 unfold mQ
 rw [if_pos (by omega),if_pos (by omega)]
 omega
theorem zkr (nk k:Nat) (hk:k<1000):mQ nk k=k:=by
 unfold mQ
 rw [if_neg (by omega)]
theorem zq7 {nk n off cap:Nat} {g bx tp nr md:Int} {v:Value} {ns:List (Nat×Blk)} (h:RR (mQ nk) (zg3 1000 (.slice (some ⟨100,off,none⟩) n cap) n g bx tp nr md) v ns):zg3 nk (.slice (some ⟨100,off,none⟩) n cap) n g bx tp nr md v ns:=by
 obtain ⟨v0,ns0,⟨l,rfl,rfl,hl,hf⟩,rfl,rfl⟩:=h
 have e:=zn1 nk
 have e0:=e 0 (by omega)
 have e1:=e 1 (by omega)
 have e2:=e 2 (by omega)
 have e3:=e 3 (by omega)
 have e4:=e 4 (by omega)
 have e5:=e 5 (by omega)
 have e6:=e 6 (by omega)
 have e7:=e 7 (by omega)
 have e8:=e 8 (by omega)
 have e9:=e 9 (by omega)
 have e10:=e 10 (by omega)
 have e11:=e 11 (by omega)
 simp only [Nat.reduceAdd,Nat.add_zero] at e0 e1 e2 e3 e4 e5 e6 e7 e8 e9 e10 e11
 have h100:=zkr nk 100 (by omega)
 have hmv:∀ q∈mV 1000,(q.1,zaj (mQ nk) q.2)∈mV nk:=by
  simp [mV,zaj,zam,e1,e2,e3,e4,e5,e6,e7,e8,e9,e10,e11]
 have hvm:∀ q∈mV nk,∃ p∈mV 1000,p.1=q.1/\zaj (mQ nk) p.2=q.2:=by
  simp [mV,zaj,zam,e1,e2,e3,e4,e5,e6,e7,e8,e9,e10,e11]
 refine ⟨l.map λp=>(p.1,zaj (mQ nk) p.2),by simp [ren,zay,zaj,zam,e0],?_,λp hp=>?_,λq hq=>?_⟩
 ·have hc:(cfB (.slice (some ⟨100,off,none⟩) n cap) g bx tp nr md).rn (mQ nk)=cfB (.slice (some ⟨100,off,none⟩) n cap) g bx tp nr md:=by simp [cfB,Blk.rn,zaj,zam,h100]
  simp only [rnL,mNs,List.map_cons,List.map_nil,zq4,zbu,hc,Nat.reduceAdd,e0,e1,e2,e3,e4,e5,e6,e7,e8,e9,e10,e11]
 ·obtain ⟨p0,hp0,rfl⟩:=List.mem_map.1 hp
  exact hmv _ (hl _ hp0)
 ·obtain ⟨p,hp,h1,h2⟩:=hvm q hq
  rw [zfp,<-h1,hf p hp,<-h2]
  rfl
theorem z0w (nk:Nat) (hnk:200<=nk) (b:Blk) (hb:b.fx) (off n cap:Nat) (g bx tp nr md:Int) :
  FunS prog G0 132 #[cfV (.slice (some ⟨100,off,none⟩) n cap) g bx tp nr md] (hpL G0 [(100,b)]) [100] (RR (mQ nk) (zg3 1000 (.slice (some ⟨100,off,none⟩) n cap) n g bx tp nr md)):=by
 have hr:=λρ=>Blk.fx_rn hb ρ
 have h100:=zkr nk 100 (by omega)
 refine (zwl b hb off n cap g bx tp nr md).mvL G0F (zax hb) (mQ nk) (λk hk=>zkr nk k (by omega)) (by simp [cfV,ren,zay,zaj,zam,h100]) (by simp [zab,h100]) rfl (zax hb).low (by simp [h100,hr]) (by simp [zab]) (λv ns hV k hk=>?_) (λv ns hV k hk l hl e=>?_)
 ·have h1:=zc4 hV k hk
  obtain ⟨j,hj,rfl⟩:∃ j,j<12/\k=1000+j:=⟨k - 1000,by omega,by omega⟩
  rw [zn1 nk j hj]
  simp
  omega
 ·have h1:=zc4 hV k hk
  have h2:=zc4 hV l hl
  obtain ⟨j,hj,rfl⟩:∃ j,j<12/\k=1000+j:=⟨k - 1000,by omega,by omega⟩
  obtain ⟨i,hi,rfl⟩:∃ j,j<12/\l=1000+j:=⟨l - 1000,by omega,by omega⟩
  rw [zn1 nk j hj,zn1 nk i hi] at e
  omega
theorem zxy (b:Blk) (off n cap:Nat) (f:Nat->Int) (h:MB b off n f) (g bx tp nr md:Int) :
  Fun prog G0 110 #[cfV (.slice (some ⟨100,off,none⟩) n cap) g bx tp nr md] (hpL G0 [(100,b)]) (zab [(100,b)]) (.ret (.string (zmj n f g bx tp nr md)) []):=by
 refine zaz (B:=200) G0F func110 rfl call110 (zax h.fx) ?_ (by simp) (by simp) (by simp) (by simp [ntmps110]) (by omega) ?_
 ·simp [zan,za0,zah,zal,zab,cfV]
 intro C hC hC0 hY
 have hr:=λρ=>Blk.fx_rn h.fx ρ
 unfold cfV
 repeat' first|refine gwZ ?_|refine gwW ?_|refine gwC ?_ ?_<;>intro hb
 refine zdf ?_
 simp only [Array.toList]
 refine gwl 1 ?_;intro Q hQ;simp [hC,hY];apply hQ
 simp only [wT,wM,Nat.reduceAdd]
 refine zp7 8 (f:=.func 132) (cap:=#[]) hC (z0w 224 (by omega) b h.fx off n cap g bx tp nr md) rfl (by simp) rfl rfl (by simp [okT]) (by simp [gev]) (by simp) (by simp [okX,zcj]) (by simp [gev,cfV]) (by simp) (by (intro k hk;first|rfl|(simp (disch:=omega) only [zbw,List.mem_cons,List.not_mem_nil,or_false,zaa,zag,zaq,if_neg,zbb]<;>done))) (λv ns hV k hk=>by have:=zc4 (zq7 hV) k hk;omega) ?_
 intro v ns hV
 obtain ⟨l,rfl,rfl,_,hf⟩:=zq7 hV
 refine gwl 1 ?_;intro Q hQ;simp [hC,hY,zcq,zbb,mNs];apply hQ
 simp only [wT,wM,Nat.reduceAdd]
 refine zec ?_
 have f0:zcs ⟨#[98,111,100,105,101,115]⟩ l=some (.func (.func 148) #[] #[.pointer (some ⟨226,0,none⟩),.pointer (some ⟨227,0,none⟩)]):=hf (⟨#[98,111,100,105,101,115]⟩,_) (by simp [mV])
 have f1:zcs ⟨#[109,97,115,115]⟩ l=some (.func (.func 150) #[] #[.pointer (some ⟨225,0,none⟩)]):=hf (⟨#[109,97,115,115]⟩,_) (by simp [mV])
 have f2:zcs ⟨#[99,111,110,115,116,97,110,116]⟩ l=some (.func (.func 148) #[] #[.pointer (some ⟨228,0,none⟩),.pointer (some ⟨229,0,none⟩)]):=hf (⟨#[99,111,110,115,116,97,110,116]⟩,_) (by simp [mV])
 have f3:zcs ⟨#[98,111,120]⟩ l=some (.func (.func 148) #[] #[.pointer (some ⟨230,0,none⟩),.pointer (some ⟨231,0,none⟩)]):=hf (⟨#[98,111,120]⟩,_) (by simp [mV])
 have f4:zcs ⟨#[116,111,112]⟩ l=some (.func (.func 148) #[] #[.pointer (some ⟨232,0,none⟩),.pointer (some ⟨233,0,none⟩)]):=hf (⟨#[116,111,112]⟩,_) (by simp [mV])
 have f5:zcs ⟨#[110,101,97,114]⟩ l=some (.func (.func 148) #[] #[.pointer (some ⟨234,0,none⟩),.pointer (some ⟨235,0,none⟩)]):=hf (⟨#[110,101,97,114]⟩,_) (by simp [mV])
 have f6:zcs ⟨#[109,101,116,104,111,100]⟩ l=some (.func (.func 153) #[] #[.pointer (some ⟨225,0,none⟩)]):=hf (⟨#[109,101,116,104,111,100]⟩,_) (by simp [mV])
 cases c0:wiB n 1 4 with
 | false =>
  have e:zmj n f g bx tp nr md=⟨#[98,111,100,105,101,115]⟩:=by unfold zmj;simp only [c0,Bool.true_eq_false,if_true,if_false,reduceCtorEq]
  rw [e]
  repeat' first|refine zat ?_|refine zaw ?_|refine gwZ ?_|((first|refine gwR [148,150,153] ?_|refine gwD [148,150,153] ?_);intro Q hQ _;(repeat first|simp [hC,hY,f0,c0,cnB]|(refine zae (zbr n 4) G0F (B:=200) ⟨by simp,by simp [zab],by simp [jb,zac,zah,zal]⟩ (λk=>if k=100 then 226 else if k=108 then 227 else k) (λk hk=>(if_neg (by omega)).trans (if_neg (by omega))) ?_ (by simp) (by simp [zbu]) (by simp [zab]) (by simp [zab];rfl) ?_;focus (simp [ren,zay,zaj,zam];done)));refine gwq hQ ?_)|refine gwC ?_ ?_<;>intro hb
  refine ⟨.inr rfl,by simp [results110],kpS G0F⟩
 | true =>
  cases c1:zuu f n with
  | false =>
   have e:zmj n f g bx tp nr md=⟨#[109,97,115,115]⟩:=by unfold zmj;simp only [c0,c1,Bool.true_eq_false,if_true,if_false,reduceCtorEq]
   rw [e]
   repeat' first|refine zat ?_|refine zaw ?_|refine gwZ ?_|((first|refine gwR [148,150,153] ?_|refine gwD [148,150,153] ?_);intro Q hQ _;(repeat first|simp [hC,hY,f0,f1,c0,c1,cnB]|(refine zae (zbr n 4) G0F (B:=200) ⟨by simp,by simp [zab],by simp [jb,zac,zah,zal]⟩ (λk=>if k=100 then 226 else if k=108 then 227 else k) (λk hk=>(if_neg (by omega)).trans (if_neg (by omega))) ?_ (by simp) (by simp [zbu]) (by simp [zab]) (by simp [zab];rfl) ?_;focus (simp [ren,zay,zaj,zam];done))|(refine zae (zgr b off n cap f h g bx tp nr md) G0F (B:=200) (zfk h.fx off n cap g bx tp nr md) (λk=>if k=108 then 225 else k) (λk hk=>if_neg (by omega)) ?_ (by simp) (by simp [cmL,hr];simp [cfB,Blk.rn,zaj,zam]) (by simp [zab,cmL]) (by simp [zab,cmL];rfl) ?_;focus (simp [ren,zay,zaj,zam];done)));refine gwq hQ ?_)|refine gwC ?_ ?_<;>intro hb
   refine ⟨.inr rfl,by simp [results110],kpS G0F⟩
  | true =>
   cases c2:wiB g 1 1048576 with
   | false =>
    have e:zmj n f g bx tp nr md=⟨#[99,111,110,115,116,97,110,116]⟩:=by unfold zmj;simp only [c0,c1,c2,Bool.true_eq_false,if_true,if_false,reduceCtorEq]
    rw [e]
    repeat' first|refine zat ?_|refine zaw ?_|refine gwZ ?_|((first|refine gwR [148,150,153] ?_|refine gwD [148,150,153] ?_);intro Q hQ _;(repeat first|simp [hC,hY,f0,f1,f2,c0,c1,c2,cnB]|(refine zae (zbr n 4) G0F (B:=200) ⟨by simp,by simp [zab],by simp [jb,zac,zah,zal]⟩ (λk=>if k=100 then 226 else if k=108 then 227 else k) (λk hk=>(if_neg (by omega)).trans (if_neg (by omega))) ?_ (by simp) (by simp [zbu]) (by simp [zab]) (by simp [zab];rfl) ?_;focus (simp [ren,zay,zaj,zam];done))|(refine zae (zgr b off n cap f h g bx tp nr md) G0F (B:=200) (zfk h.fx off n cap g bx tp nr md) (λk=>if k=108 then 225 else k) (λk hk=>if_neg (by omega)) ?_ (by simp) (by simp [cmL,hr];simp [cfB,Blk.rn,zaj,zam]) (by simp [zab,cmL]) (by simp [zab,cmL];rfl) ?_;focus (simp [ren,zay,zaj,zam];done))|(refine zae (zbr g 1048576) G0F (B:=200) ⟨by simp,by simp [zab],by simp [jb,zac,zah,zal]⟩ (λk=>if k=100 then 228 else if k=108 then 229 else k) (λk hk=>(if_neg (by omega)).trans (if_neg (by omega))) ?_ (by simp) (by simp [zbu]) (by simp [zab]) (by simp [zab];rfl) ?_;focus (simp [ren,zay,zaj,zam];done)));refine gwq hQ ?_)|refine gwC ?_ ?_<;>intro hb
    refine ⟨.inr rfl,by simp [results110],kpS G0F⟩
   | true =>
    cases c3:wiB bx 1 1048576 with
    | false =>
     have e:zmj n f g bx tp nr md=⟨#[98,111,120]⟩:=by unfold zmj;simp only [c0,c1,c2,c3,Bool.true_eq_false,if_true,if_false,reduceCtorEq]
     rw [e]
     repeat' first|refine zat ?_|refine zaw ?_|refine gwZ ?_|((first|refine gwR [148,150,153] ?_|refine gwD [148,150,153] ?_);intro Q hQ _;(repeat first|simp [hC,hY,f0,f1,f2,f3,c0,c1,c2,c3,cnB]|(refine zae (zbr n 4) G0F (B:=200) ⟨by simp,by simp [zab],by simp [jb,zac,zah,zal]⟩ (λk=>if k=100 then 226 else if k=108 then 227 else k) (λk hk=>(if_neg (by omega)).trans (if_neg (by omega))) ?_ (by simp) (by simp [zbu]) (by simp [zab]) (by simp [zab];rfl) ?_;focus (simp [ren,zay,zaj,zam];done))|(refine zae (zgr b off n cap f h g bx tp nr md) G0F (B:=200) (zfk h.fx off n cap g bx tp nr md) (λk=>if k=108 then 225 else k) (λk hk=>if_neg (by omega)) ?_ (by simp) (by simp [cmL,hr];simp [cfB,Blk.rn,zaj,zam]) (by simp [zab,cmL]) (by simp [zab,cmL];rfl) ?_;focus (simp [ren,zay,zaj,zam];done))|(refine zae (zbr g 1048576) G0F (B:=200) ⟨by simp,by simp [zab],by simp [jb,zac,zah,zal]⟩ (λk=>if k=100 then 228 else if k=108 then 229 else k) (λk hk=>(if_neg (by omega)).trans (if_neg (by omega))) ?_ (by simp) (by simp [zbu]) (by simp [zab]) (by simp [zab];rfl) ?_;focus (simp [ren,zay,zaj,zam];done))|(refine zae (zbr bx 1048576) G0F (B:=200) ⟨by simp,by simp [zab],by simp [jb,zac,zah,zal]⟩ (λk=>if k=100 then 230 else if k=108 then 231 else k) (λk hk=>(if_neg (by omega)).trans (if_neg (by omega))) ?_ (by simp) (by simp [zbu]) (by simp [zab]) (by simp [zab];rfl) ?_;focus (simp [ren,zay,zaj,zam];done)));refine gwq hQ ?_)|refine gwC ?_ ?_<;>intro hb
     refine ⟨.inr rfl,by simp [results110],kpS G0F⟩
    | true =>
     cases c4:wiB tp 1 65536 with
     | false =>
      have e:zmj n f g bx tp nr md=⟨#[116,111,112]⟩:=by unfold zmj;simp only [c0,c1,c2,c3,c4,Bool.true_eq_false,if_true,if_false,reduceCtorEq]
      rw [e]
      repeat' first|refine zat ?_|refine zaw ?_|refine gwZ ?_|((first|refine gwR [148,150,153] ?_|refine gwD [148,150,153] ?_);intro Q hQ _;(repeat first|simp [hC,hY,f0,f1,f2,f3,f4,c0,c1,c2,c3,c4,cnB]|(refine zae (zbr n 4) G0F (B:=200) ⟨by simp,by simp [zab],by simp [jb,zac,zah,zal]⟩ (λk=>if k=100 then 226 else if k=108 then 227 else k) (λk hk=>(if_neg (by omega)).trans (if_neg (by omega))) ?_ (by simp) (by simp [zbu]) (by simp [zab]) (by simp [zab];rfl) ?_;focus (simp [ren,zay,zaj,zam];done))|(refine zae (zgr b off n cap f h g bx tp nr md) G0F (B:=200) (zfk h.fx off n cap g bx tp nr md) (λk=>if k=108 then 225 else k) (λk hk=>if_neg (by omega)) ?_ (by simp) (by simp [cmL,hr];simp [cfB,Blk.rn,zaj,zam]) (by simp [zab,cmL]) (by simp [zab,cmL];rfl) ?_;focus (simp [ren,zay,zaj,zam];done))|(refine zae (zbr g 1048576) G0F (B:=200) ⟨by simp,by simp [zab],by simp [jb,zac,zah,zal]⟩ (λk=>if k=100 then 228 else if k=108 then 229 else k) (λk hk=>(if_neg (by omega)).trans (if_neg (by omega))) ?_ (by simp) (by simp [zbu]) (by simp [zab]) (by simp [zab];rfl) ?_;focus (simp [ren,zay,zaj,zam];done))|(refine zae (zbr bx 1048576) G0F (B:=200) ⟨by simp,by simp [zab],by simp [jb,zac,zah,zal]⟩ (λk=>if k=100 then 230 else if k=108 then 231 else k) (λk hk=>(if_neg (by omega)).trans (if_neg (by omega))) ?_ (by simp) (by simp [zbu]) (by simp [zab]) (by simp [zab];rfl) ?_;focus (simp [ren,zay,zaj,zam];done))|(refine zae (zbr tp 65536) G0F (B:=200) ⟨by simp,by simp [zab],by simp [jb,zac,zah,zal]⟩ (λk=>if k=100 then 232 else if k=108 then 233 else k) (λk hk=>(if_neg (by omega)).trans (if_neg (by omega))) ?_ (by simp) (by simp [zbu]) (by simp [zab]) (by simp [zab];rfl) ?_;focus (simp [ren,zay,zaj,zam];done)));refine gwq hQ ?_)|refine gwC ?_ ?_<;>intro hb
      refine ⟨.inr rfl,by simp [results110],kpS G0F⟩
     | true =>
      cases c5:wiB nr 1 (Int.bmod (2*bx) 18446744073709551616) with
      | false =>
       have e:zmj n f g bx tp nr md=⟨#[110,101,97,114]⟩:=by unfold zmj;simp only [c0,c1,c2,c3,c4,c5,Bool.true_eq_false,if_true,if_false,reduceCtorEq]
       rw [e]
       repeat' first|refine zat ?_|refine zaw ?_|refine gwZ ?_|((first|refine gwR [148,150,153] ?_|refine gwD [148,150,153] ?_);intro Q hQ _;(repeat first|simp [hC,hY,f0,f1,f2,f3,f4,f5,c0,c1,c2,c3,c4,c5,cnB]|(refine zae (zbr n 4) G0F (B:=200) ⟨by simp,by simp [zab],by simp [jb,zac,zah,zal]⟩ (λk=>if k=100 then 226 else if k=108 then 227 else k) (λk hk=>(if_neg (by omega)).trans (if_neg (by omega))) ?_ (by simp) (by simp [zbu]) (by simp [zab]) (by simp [zab];rfl) ?_;focus (simp [ren,zay,zaj,zam];done))|(refine zae (zgr b off n cap f h g bx tp nr md) G0F (B:=200) (zfk h.fx off n cap g bx tp nr md) (λk=>if k=108 then 225 else k) (λk hk=>if_neg (by omega)) ?_ (by simp) (by simp [cmL,hr];simp [cfB,Blk.rn,zaj,zam]) (by simp [zab,cmL]) (by simp [zab,cmL];rfl) ?_;focus (simp [ren,zay,zaj,zam];done))|(refine zae (zbr g 1048576) G0F (B:=200) ⟨by simp,by simp [zab],by simp [jb,zac,zah,zal]⟩ (λk=>if k=100 then 228 else if k=108 then 229 else k) (λk hk=>(if_neg (by omega)).trans (if_neg (by omega))) ?_ (by simp) (by simp [zbu]) (by simp [zab]) (by simp [zab];rfl) ?_;focus (simp [ren,zay,zaj,zam];done))|(refine zae (zbr bx 1048576) G0F (B:=200) ⟨by simp,by simp [zab],by simp [jb,zac,zah,zal]⟩ (λk=>if k=100 then 230 else if k=108 then 231 else k) (λk hk=>(if_neg (by omega)).trans (if_neg (by omega))) ?_ (by simp) (by simp [zbu]) (by simp [zab]) (by simp [zab];rfl) ?_;focus (simp [ren,zay,zaj,zam];done))|(refine zae (zbr tp 65536) G0F (B:=200) ⟨by simp,by simp [zab],by simp [jb,zac,zah,zal]⟩ (λk=>if k=100 then 232 else if k=108 then 233 else k) (λk hk=>(if_neg (by omega)).trans (if_neg (by omega))) ?_ (by simp) (by simp [zbu]) (by simp [zab]) (by simp [zab];rfl) ?_;focus (simp [ren,zay,zaj,zam];done))|(refine zae (zbr nr (Int.bmod (2*bx) 18446744073709551616)) G0F (B:=200) ⟨by simp,by simp [zab],by simp [jb,zac,zah,zal]⟩ (λk=>if k=100 then 234 else if k=108 then 235 else k) (λk hk=>(if_neg (by omega)).trans (if_neg (by omega))) ?_ (by simp) (by simp [zbu]) (by simp [zab]) (by simp [zab];rfl) ?_;focus (simp [ren,zay,zaj,zam];done)));refine gwq hQ ?_)|refine gwC ?_ ?_<;>intro hb
       refine ⟨.inr rfl,by simp [results110],kpS G0F⟩
      | true =>
       cases c6:wiB md 0 4 with
       | false =>
        have e:zmj n f g bx tp nr md=⟨#[109,101,116,104,111,100]⟩:=by unfold zmj;simp only [c0,c1,c2,c3,c4,c5,c6,Bool.true_eq_false,if_true,if_false,reduceCtorEq]
        rw [e]
        repeat' first|refine zat ?_|refine zaw ?_|refine gwZ ?_|((first|refine gwR [148,150,153] ?_|refine gwD [148,150,153] ?_);intro Q hQ _;(repeat first|simp [hC,hY,f0,f1,f2,f3,f4,f5,f6,c0,c1,c2,c3,c4,c5,c6,cnB]|(refine zae (zbr n 4) G0F (B:=200) ⟨by simp,by simp [zab],by simp [jb,zac,zah,zal]⟩ (λk=>if k=100 then 226 else if k=108 then 227 else k) (λk hk=>(if_neg (by omega)).trans (if_neg (by omega))) ?_ (by simp) (by simp [zbu]) (by simp [zab]) (by simp [zab];rfl) ?_;focus (simp [ren,zay,zaj,zam];done))|(refine zae (zgr b off n cap f h g bx tp nr md) G0F (B:=200) (zfk h.fx off n cap g bx tp nr md) (λk=>if k=108 then 225 else k) (λk hk=>if_neg (by omega)) ?_ (by simp) (by simp [cmL,hr];simp [cfB,Blk.rn,zaj,zam]) (by simp [zab,cmL]) (by simp [zab,cmL];rfl) ?_;focus (simp [ren,zay,zaj,zam];done))|(refine zae (zbr g 1048576) G0F (B:=200) ⟨by simp,by simp [zab],by simp [jb,zac,zah,zal]⟩ (λk=>if k=100 then 228 else if k=108 then 229 else k) (λk hk=>(if_neg (by omega)).trans (if_neg (by omega))) ?_ (by simp) (by simp [zbu]) (by simp [zab]) (by simp [zab];rfl) ?_;focus (simp [ren,zay,zaj,zam];done))|(refine zae (zbr bx 1048576) G0F (B:=200) ⟨by simp,by simp [zab],by simp [jb,zac,zah,zal]⟩ (λk=>if k=100 then 230 else if k=108 then 231 else k) (λk hk=>(if_neg (by omega)).trans (if_neg (by omega))) ?_ (by simp) (by simp [zbu]) (by simp [zab]) (by simp [zab];rfl) ?_;focus (simp [ren,zay,zaj,zam];done))|(refine zae (zbr tp 65536) G0F (B:=200) ⟨by simp,by simp [zab],by simp [jb,zac,zah,zal]⟩ (λk=>if k=100 then 232 else if k=108 then 233 else k) (λk hk=>(if_neg (by omega)).trans (if_neg (by omega))) ?_ (by simp) (by simp [zbu]) (by simp [zab]) (by simp [zab];rfl) ?_;focus (simp [ren,zay,zaj,zam];done))|(refine zae (zbr nr (Int.bmod (2*bx) 18446744073709551616)) G0F (B:=200) ⟨by simp,by simp [zab],by simp [jb,zac,zah,zal]⟩ (λk=>if k=100 then 234 else if k=108 then 235 else k) (λk hk=>(if_neg (by omega)).trans (if_neg (by omega))) ?_ (by simp) (by simp [zbu]) (by simp [zab]) (by simp [zab];rfl) ?_;focus (simp [ren,zay,zaj,zam];done))|(refine zae (zu6 b off n cap h.fx g bx tp nr md) G0F (B:=200) (zfk h.fx off n cap g bx tp nr md) (λk=>if k=108 then 225 else k) (λk hk=>if_neg (by omega)) ?_ (by simp) (by simp [cmL,hr];simp [cfB,Blk.rn,zaj,zam]) (by simp [zab,cmL]) (by simp [zab,cmL];rfl) ?_;focus (simp [ren,zay,zaj,zam];done)));refine gwq hQ ?_)|refine gwC ?_ ?_<;>intro hb
        refine ⟨.inr rfl,by simp [results110],kpS G0F⟩
       | true =>
        have e:zmj n f g bx tp nr md=⟨#[]⟩:=by unfold zmj;simp only [c0,c1,c2,c3,c4,c5,c6,Bool.true_eq_false,if_true,if_false,reduceCtorEq]
        rw [e]
        repeat' first|refine zat ?_|refine zaw ?_|refine gwZ ?_|((first|refine gwR [148,150,153] ?_|refine gwD [148,150,153] ?_);intro Q hQ _;(repeat first|simp [hC,hY,f0,f1,f2,f3,f4,f5,f6,c0,c1,c2,c3,c4,c5,c6,cnB]|(refine zae (zbr n 4) G0F (B:=200) ⟨by simp,by simp [zab],by simp [jb,zac,zah,zal]⟩ (λk=>if k=100 then 226 else if k=108 then 227 else k) (λk hk=>(if_neg (by omega)).trans (if_neg (by omega))) ?_ (by simp) (by simp [zbu]) (by simp [zab]) (by simp [zab];rfl) ?_;focus (simp [ren,zay,zaj,zam];done))|(refine zae (zgr b off n cap f h g bx tp nr md) G0F (B:=200) (zfk h.fx off n cap g bx tp nr md) (λk=>if k=108 then 225 else k) (λk hk=>if_neg (by omega)) ?_ (by simp) (by simp [cmL,hr];simp [cfB,Blk.rn,zaj,zam]) (by simp [zab,cmL]) (by simp [zab,cmL];rfl) ?_;focus (simp [ren,zay,zaj,zam];done))|(refine zae (zbr g 1048576) G0F (B:=200) ⟨by simp,by simp [zab],by simp [jb,zac,zah,zal]⟩ (λk=>if k=100 then 228 else if k=108 then 229 else k) (λk hk=>(if_neg (by omega)).trans (if_neg (by omega))) ?_ (by simp) (by simp [zbu]) (by simp [zab]) (by simp [zab];rfl) ?_;focus (simp [ren,zay,zaj,zam];done))|(refine zae (zbr bx 1048576) G0F (B:=200) ⟨by simp,by simp [zab],by simp [jb,zac,zah,zal]⟩ (λk=>if k=100 then 230 else if k=108 then 231 else k) (λk hk=>(if_neg (by omega)).trans (if_neg (by omega))) ?_ (by simp) (by simp [zbu]) (by simp [zab]) (by simp [zab];rfl) ?_;focus (simp [ren,zay,zaj,zam];done))|(refine zae (zbr tp 65536) G0F (B:=200) ⟨by simp,by simp [zab],by simp [jb,zac,zah,zal]⟩ (λk=>if k=100 then 232 else if k=108 then 233 else k) (λk hk=>(if_neg (by omega)).trans (if_neg (by omega))) ?_ (by simp) (by simp [zbu]) (by simp [zab]) (by simp [zab];rfl) ?_;focus (simp [ren,zay,zaj,zam];done))|(refine zae (zbr nr (Int.bmod (2*bx) 18446744073709551616)) G0F (B:=200) ⟨by simp,by simp [zab],by simp [jb,zac,zah,zal]⟩ (λk=>if k=100 then 234 else if k=108 then 235 else k) (λk hk=>(if_neg (by omega)).trans (if_neg (by omega))) ?_ (by simp) (by simp [zbu]) (by simp [zab]) (by simp [zab];rfl) ?_;focus (simp [ren,zay,zaj,zam];done))|(refine zae (zu6 b off n cap h.fx g bx tp nr md) G0F (B:=200) (zfk h.fx off n cap g bx tp nr md) (λk=>if k=108 then 225 else k) (λk hk=>if_neg (by omega)) ?_ (by simp) (by simp [cmL,hr];simp [cfB,Blk.rn,zaj,zam]) (by simp [zab,cmL]) (by simp [zab,cmL];rfl) ?_;focus (simp [ren,zay,zaj,zam];done)));refine gwq hQ ?_)|refine gwC ?_ ?_<;>intro hb
        refine ⟨.inr rfl,by simp [results110],kpS G0F⟩
def zf6 (n:Nat) (f:Nat->Int) (g bx tp nr md:Int):Bool:=wiB n 1 4&&(zuu f n&&(wiB g 1 1048576&&(wiB bx 1 1048576&&(wiB tp 1 65536&&(wiB nr 1 (Int.bmod (2*bx) 18446744073709551616)&&(wiB md 0 4))))))
theorem zs6 (b:Blk) (hb:b.fx) (g bx tp nr md:Int) :
  FunS prog G0 132 #[cfV (.slice none 0 0) g bx tp nr md] (hpL G0 [(100,b)]) (zab [(100,b)]) (zg3 1000 (.slice none 0 0) 0 g bx tp nr md):=by
 refine zei (B:=200) G0F func132 rfl call132 (zax hb) ?_ ?_ (by simp [ntmps132]) (by omega) ?_
 ·simp [zan,za0,zah,zal,zab,cfV]
 ·rintro v ns ⟨l,rfl,rfl,hl,_⟩
  have hl2:∀ D:Nat->Prop,(∀ k,1000<=k->k<1012->D k)->(mpB l).ids D:=λD hD=>zh5.2 λp hp=>by
   have:=hl p hp
   simp only [mV,List.mem_cons,List.not_mem_nil,or_false] at this
   rcases this with rfl|rfl|rfl|rfl|rfl|rfl|rfl<;>simp [zah,zal,hD]
  refine ⟨by simp [zan,za0,zah,zal,zcu,zab,mNs],?_,?_⟩
  ·intro p hp
   simp only [mNs,List.mem_cons,List.not_mem_nil,or_false] at hp
   have hD:∀ k,1000<=k->k<1012->zcu (λk=>k∈zab [(100,b)]) (mNs 1000 l (.slice none 0 0) 0 g bx tp nr md) k:=λk hk1 hk2=>.inr (by
    simp only [mNs,zab,List.map_cons,List.map_nil,List.mem_cons,List.not_mem_nil,or_false]
    omega)
   rcases hp with rfl|rfl|rfl|rfl|rfl|rfl|rfl|rfl|rfl|rfl|rfl|rfl
   ·exact ⟨by omega,hl2 _ hD⟩
   ·exact ⟨by omega,by simp [cfB,zac,zah,zal,zcu,zab]⟩
   all_goals exact ⟨by omega,by simp [jb,zac,zah,zal]⟩
  ·intro k b c h1 h2
   simp only [mNs,List.mem_cons,List.not_mem_nil,or_false,Prod.mk.injEq] at h1 h2
   rcases h1 with ⟨e1,rfl⟩|⟨e1,rfl⟩|⟨e1,rfl⟩|⟨e1,rfl⟩|⟨e1,rfl⟩|⟨e1,rfl⟩|⟨e1,rfl⟩|⟨e1,rfl⟩|⟨e1,rfl⟩|⟨e1,rfl⟩|⟨e1,rfl⟩|⟨e1,rfl⟩<;>rcases h2 with ⟨e2,rfl⟩|⟨e2,rfl⟩|⟨e2,rfl⟩|⟨e2,rfl⟩|⟨e2,rfl⟩|⟨e2,rfl⟩|⟨e2,rfl⟩|⟨e2,rfl⟩|⟨e2,rfl⟩|⟨e2,rfl⟩|⟨e2,rfl⟩|⟨e2,rfl⟩<;>first|rfl|omega
 intro C hC hC0 hY
 unfold cfV
 repeat' first|refine gwZ ?_|refine gwW ?_|refine gwC ?_ ?_<;>intro hb
 refine zt8 follows ?_
 simp only [Array.toList,List.length_cons,List.length_nil,Nat.reduceAdd]
 obtain ⟨sl,hsl⟩:∃ sl,Value.slice none 0 0=sl:=⟨_,rfl⟩
 refine zp6 (MI b sl 0 g bx tp nr md) (λlisted ts hp hs hr hI=>?_) (λfuel listed ts hp i hs hi hdep h hk=>?_) _ _ _ _ (by simp) (by decide +kernel) ?_
 ·have hall:=zoa hs (by kernel_rfl) hr
  have hall:∀ i,i<36->listed[i]? = some true:=λi hi=>hall i (by simpa using hi)
  obtain ⟨l,l1,l2,l3⟩:=hI.mp (hall 0 (by omega))
  have h2:=hI.tm (35,2,.map (some 224)) (by simp [mT]) (hall 35 (by omega))
  have hinv:∀ q∈mI,zaj mR (zaj mS q.2.2)=q.2.2:=by simp [mI,zaj,zam,mR,mS]
  have hcan:∀ q∈mI,(q.2.1,zaj mS q.2.2)∈mV 1000:=by simp [mI,mV,zaj,zam,mS]
  have hfind:∀ q∈mV 1000,∃ p∈mI,p.2.1=q.1/\zaj mS p.2.2=q.2/\p.1<36:=by
   intro q hq
   simp only [mV,List.mem_cons,List.not_mem_nil,or_false] at hq
   rcases hq with rfl|rfl|rfl|rfl|rfl|rfl|rfl
   ·exact ⟨(6,⟨#[98,111,100,105,101,115]⟩,.func (.func 148) #[] #[.pointer (some ⟨264,0,none⟩),.pointer (some ⟨265,0,none⟩)]),by simp [mI],rfl,by simp [zaj,zam,mS],by omega⟩
   ·exact ⟨(8,⟨#[109,97,115,115]⟩,.func (.func 150) #[] #[.pointer (some ⟨200,0,none⟩)]),by simp [mI],rfl,by simp [zaj,zam,mS],by omega⟩
   ·exact ⟨(13,⟨#[99,111,110,115,116,97,110,116]⟩,.func (.func 148) #[] #[.pointer (some ⟨320,0,none⟩),.pointer (some ⟨321,0,none⟩)]),by simp [mI],rfl,by simp [zaj,zam,mS],by omega⟩
   ·exact ⟨(18,⟨#[98,111,120]⟩,.func (.func 148) #[] #[.pointer (some ⟨360,0,none⟩),.pointer (some ⟨361,0,none⟩)]),by simp [mI],rfl,by simp [zaj,zam,mS],by omega⟩
   ·exact ⟨(23,⟨#[116,111,112]⟩,.func (.func 148) #[] #[.pointer (some ⟨400,0,none⟩),.pointer (some ⟨401,0,none⟩)]),by simp [mI],rfl,by simp [zaj,zam,mS],by omega⟩
   ·exact ⟨(31,⟨#[110,101,97,114]⟩,.func (.func 148) #[] #[.pointer (some ⟨464,0,none⟩),.pointer (some ⟨465,0,none⟩)]),by simp [mI],rfl,by simp [zaj,zam,mS],by omega⟩
   ·exact ⟨(33,⟨#[109,101,116,104,111,100]⟩,.func (.func 153) #[] #[.pointer (some ⟨200,0,none⟩)]),by simp [mI],rfl,by simp [zaj,zam,mS],by omega⟩
  simp only [zca]
  refine zud ?_
  refine ⟨.inr rfl,zbz G0F (by simp [hI.b]) (λk hk=>(hI.low k hk).trans (za7 (by simp) hk).symm),_,_,mR,⟨l.map λp=>(p.1,zaj mS p.2),rfl,rfl,λp hp=>?_,λq hq=>?_⟩,λk hk=>?_,?_,?_,?_,?_⟩
  ·obtain ⟨p0,hp0,rfl⟩:=List.mem_map.1 hp
   obtain ⟨q,hq,rfl,_⟩:=l2 p0 hp0
   exact hcan q hq
  ·obtain ⟨p,hp,e1,e2,hlt⟩:=hfind q hq
   rw [zfp,<-e1,l3 p hp (hall _ hlt),<-e2]
   rfl
  ·unfold mR
   iterate 12 rw [if_neg (by omega)]
  ·simp [mNs,mR]
  ·simp [mNs,mR]
  ·simp [results132,h2,ren,zay,zaj,zam,mR]
   rfl
  ·subst hsl
   have hbx:=hI.bx
   have hm:(mpB (l.map λp=>(p.1,zaj mS p.2))).rn mR=mpB l:=by
    rw [zq4,List.map_map]
    congr 1
    conv=>rhs;rw [<-List.map_id l]
    refine List.map_congr_left λp hp=>?_
    obtain ⟨q,hq,rfl,_⟩:=l2 p hp
    simp only [Function.comp_def,id]
    rw [hinv q hq]
   intro p hp
   simp only [mNs,List.mem_cons,List.not_mem_nil,or_false] at hp
   rcases hp with rfl|rfl|rfl|rfl|rfl|rfl|rfl|rfl|rfl|rfl|rfl|rfl
   ·show hp (mR 1000)=some ((mpB _).rn mR)
    rw [hm]
    exact l1
   ·show hp 200=some ((cfB _ g bx tp nr md).rn mR)
    rw [hI.c]
    simp [cfB,Blk.rn,zaj,zam,mR]
   ·show hp 264=some ((jb ((0:Nat):Int)).rn mR)
    rw [zbu]
    exact hbx (5,264,jb ((0:Nat):Int)) (by simp [mX]) (hall 5 (by omega))
   ·show hp 265=some ((jb 4).rn mR)
    rw [zbu]
    exact hbx (5,265,jb 4) (by simp [mX]) (hall 5 (by omega))
   ·show hp 320=some ((jb g).rn mR)
    rw [zbu]
    exact hbx (12,320,jb g) (by simp [mX]) (hall 12 (by omega))
   ·show hp 321=some ((jb 1048576).rn mR)
    rw [zbu]
    exact hbx (12,321,jb 1048576) (by simp [mX]) (hall 12 (by omega))
   ·show hp 360=some ((jb bx).rn mR)
    rw [zbu]
    exact hbx (17,360,jb bx) (by simp [mX]) (hall 17 (by omega))
   ·show hp 361=some ((jb 1048576).rn mR)
    rw [zbu]
    exact hbx (17,361,jb 1048576) (by simp [mX]) (hall 17 (by omega))
   ·show hp 400=some ((jb tp).rn mR)
    rw [zbu]
    exact hbx (22,400,jb tp) (by simp [mX]) (hall 22 (by omega))
   ·show hp 401=some ((jb 65536).rn mR)
    rw [zbu]
    exact hbx (22,401,jb 65536) (by simp [mX]) (hall 22 (by omega))
   ·show hp 464=some ((jb nr).rn mR)
    rw [zbu]
    exact hbx (30,464,jb nr) (by simp [mX]) (hall 30 (by omega))
   ·show hp 465=some ((jb (Int.bmod (2*bx) 18446744073709551616)).rn mR)
    rw [zbu]
    exact hbx (30,465,jb (Int.bmod (2*bx) 18446744073709551616)) (by simp [mX]) (hall 30 (by omega))
 ·have hlt:i<36:=by
   have:=(Array.getElem?_eq_some_iff.1 hi).1
   rw [hs] at this
   simpa using this
  subst hsl
  obtain rfl|rfl|rfl|rfl|rfl|rfl|rfl|rfl|rfl|rfl|rfl|rfl|rfl|rfl|rfl|rfl|rfl|rfl|rfl|rfl|rfl|rfl|rfl|rfl|rfl|rfl|rfl|rfl|rfl|rfl|rfl|rfl|rfl|rfl|rfl|rfl:i=0\/i=1\/i=2\/i=3\/i=4\/i=5\/i=6\/i=7\/i=8\/i=9\/i=10\/i=11\/i=12\/i=13\/i=14\/i=15\/i=16\/i=17\/i=18\/i=19\/i=20\/i=21\/i=22\/i=23\/i=24\/i=25\/i=26\/i=27\/i=28\/i=29\/i=30\/i=31\/i=32\/i=33\/i=34\/i=35:=by omega
  ·-- 0 map
   have f0:=h.t1
   have f1:=h.t3
   refine gwo ?_;intro Q hQ;simp [hC,hY,f0,f1];apply hQ
   exact hk _ _ (h.mkm hi)
  ·-- 1 mv
   have f0:=h.t1
   have f1:=h.t3
   refine gwo ?_;intro Q hQ;simp [hC,hY,f0,f1];apply hQ
   exact hk _ _ (h.tmp (i:=1) (t:=5) (by simp [mT]) (by simp [mX]) (by omega))
  ·-- 2 fa
   have f0:=h.t1
   have f1:=h.t3
   refine gwo ?_;intro Q hQ;simp [hC,hY,f0,f1];apply hQ
   exact hk _ _ (h.tmp (i:=2) (t:=6) (by simp [mT]) (by simp [mX]) (by omega))
  ·-- 3 ld
   have hd:∀ j∈[2],listed[j]? = some true:=by
    have hd0:=hdep _ rfl
    simp [Region.binds] at hd0
    simp [hd0]
   have f0:=h.t1
   have f1:=h.t3
   have f2:=h.tm (2,6,.pointer (some ⟨200,0,none⟩)) (by simp [mT]) (hd 2 (by simp))
   have fc:=h.c
   unfold cfB at fc
   refine gwo ?_;intro Q hQ;simp [hC,hY,f0,f1,f2,fc];apply hQ
   exact hk _ _ (h.tmp (i:=3) (t:=7) (by simp [mT]) (by simp [mX]) (by omega))
  ·-- 4 len
   have hd:∀ j∈[3],listed[j]? = some true:=by
    have hd0:=hdep _ rfl
    simp [Region.binds] at hd0
    simp [hd0]
   have f0:=h.t1
   have f1:=h.t3
   have f2:=h.tm (3,7,.slice none 0 0) (by simp [mT]) (hd 3 (by simp))
   refine gwo ?_;intro Q hQ;simp [hC,hY,f0,f1,f2];apply hQ
   exact hk _ _ (h.tmp (i:=4) (t:=8) (by simp [mT]) (by simp [mX]) (by omega))
  ·-- 5 call
   have hd:∀ j∈[1,4],listed[j]? = some true:=by
    have hd0:=hdep _ rfl
    simp [Region.binds] at hd0
    simp [hd0]
   have f0:=h.t1
   have f1:=h.t3
   have f2:=h.tm (1,5,.func (.func 147) #[] #[]) (by simp [mT]) (hd 1 (by simp))
   have f3:=h.tm (4,8,.int .i64 ((0:Nat):Int)) (by simp [mT]) (hd 4 (by simp))
   refine zdk (f:=.tmp 5) (cap:=#[]) hC (zgo 264 (by omega) ((0:Nat):Int) 4) rfl hi rfl (by simp [ntmps132]) rfl rfl (by simp [okT,f0,f1,f2,f3]) (by simp [gev,f0,f1,f2,f3]) (by simp) (by simp [okX,zcj,f0,f1,f2,f3]) (by simp [gev,f0,f1,f2,f3]) (by simp) (λq hq=>(h.low q hq).symm▸(by simp)) ?_ ?_
   ·intro v ns hV k hk
    have:=zdm hV k hk
    omega
   rintro v ns ⟨rfl,rfl⟩
   exact hk _ _ (h.call (i:=5) (t:=9) (by simp [mT]) (by omega) (by omega) (by simp [mX]))
  ·-- 6 ins
   have hd:∀ j∈[0,5],listed[j]? = some true:=by
    have hd0:=hdep _ rfl
    simp [Region.binds] at hd0
    simp [hd0]
   have f0:=h.t1
   have f1:=h.t3
   have f2:=h.tm (0,4,.map (some 224)) (by simp [mT]) (hd 0 (by simp))
   have f3:=h.tm (5,9,.func (.func 148) #[] #[.pointer (some ⟨264,0,none⟩),.pointer (some ⟨265,0,none⟩)]) (by simp [mT]) (hd 5 (by simp))
   obtain ⟨l,l1,l2,l3⟩:=h.mp (hd 0 (by simp))
   have hm:(6,⟨#[98,111,100,105,101,115]⟩,.func (.func 148) #[] #[.pointer (some ⟨264,0,none⟩),.pointer (some ⟨265,0,none⟩)])∈mI:=by simp [mI]
   have hn:=h.fresh hm hi l2
   refine gwo ?_;intro Q hQ;simp [hC,hY,f0,f1,f2,f3,l1,hn];apply hQ
   exact hk _ _ (h.ins hm (Array.getElem?_eq_some_iff.1 hi).1 l2 l3 hn (hd 0 (by simp)))
  ·-- 7 mk
   have f0:=h.t1
   have f1:=h.t3
   refine gwo ?_;intro Q hQ;simp [hC,hY,f0,f1];apply hQ
   exact hk _ _ (h.tmp (i:=7) (t:=10) (by simp [mT]) (by simp [mX]) (by omega))
  ·-- 8 ins
   have hd:∀ j∈[0,7],listed[j]? = some true:=by
    have hd0:=hdep _ rfl
    simp [Region.binds] at hd0
    simp [hd0]
   have f0:=h.t1
   have f1:=h.t3
   have f2:=h.tm (0,4,.map (some 224)) (by simp [mT]) (hd 0 (by simp))
   have f3:=h.tm (7,10,.func (.func 150) #[] #[.pointer (some ⟨200,0,none⟩)]) (by simp [mT]) (hd 7 (by simp))
   obtain ⟨l,l1,l2,l3⟩:=h.mp (hd 0 (by simp))
   have hm:(8,⟨#[109,97,115,115]⟩,.func (.func 150) #[] #[.pointer (some ⟨200,0,none⟩)])∈mI:=by simp [mI]
   have hn:=h.fresh hm hi l2
   refine gwo ?_;intro Q hQ;simp [hC,hY,f0,f1,f2,f3,l1,hn];apply hQ
   exact hk _ _ (h.ins hm (Array.getElem?_eq_some_iff.1 hi).1 l2 l3 hn (hd 0 (by simp)))
  ·-- 9 mv
   have f0:=h.t1
   have f1:=h.t3
   refine gwo ?_;intro Q hQ;simp [hC,hY,f0,f1];apply hQ
   exact hk _ _ (h.tmp (i:=9) (t:=11) (by simp [mT]) (by simp [mX]) (by omega))
  ·-- 10 fa
   have f0:=h.t1
   have f1:=h.t3
   refine gwo ?_;intro Q hQ;simp [hC,hY,f0,f1];apply hQ
   exact hk _ _ (h.tmp (i:=10) (t:=12) (by simp [mT]) (by simp [mX]) (by omega))
  ·-- 11 ld
   have hd:∀ j∈[10],listed[j]? = some true:=by
    have hd0:=hdep _ rfl
    simp [Region.binds] at hd0
    simp [hd0]
   have f0:=h.t1
   have f1:=h.t3
   have f2:=h.tm (10,12,.pointer (some ⟨200,1,none⟩)) (by simp [mT]) (hd 10 (by simp))
   have fc:=h.c
   unfold cfB at fc
   refine gwo ?_;intro Q hQ;simp [hC,hY,f0,f1,f2,fc];apply hQ
   exact hk _ _ (h.tmp (i:=11) (t:=13) (by simp [mT]) (by simp [mX]) (by omega))
  ·-- 12 call
   have hd:∀ j∈[9,11],listed[j]? = some true:=by
    have hd0:=hdep _ rfl
    simp [Region.binds] at hd0
    simp [hd0]
   have f0:=h.t1
   have f1:=h.t3
   have f2:=h.tm (9,11,.func (.func 147) #[] #[]) (by simp [mT]) (hd 9 (by simp))
   have f3:=h.tm (11,13,.int .i64 g) (by simp [mT]) (hd 11 (by simp))
   refine zdk (f:=.tmp 11) (cap:=#[]) hC (zgo 320 (by omega) g 1048576) rfl hi rfl (by simp [ntmps132]) rfl rfl (by simp [okT,f0,f1,f2,f3]) (by simp [gev,f0,f1,f2,f3]) (by simp) (by simp [okX,zcj,f0,f1,f2,f3]) (by simp [gev,f0,f1,f2,f3]) (by simp) (λq hq=>(h.low q hq).symm▸(by simp)) ?_ ?_
   ·intro v ns hV k hk
    have:=zdm hV k hk
    omega
   rintro v ns ⟨rfl,rfl⟩
   exact hk _ _ (h.call (i:=12) (t:=14) (by simp [mT]) (by omega) (by omega) (by simp [mX]))
  ·-- 13 ins
   have hd:∀ j∈[0,12],listed[j]? = some true:=by
    have hd0:=hdep _ rfl
    simp [Region.binds] at hd0
    simp [hd0]
   have f0:=h.t1
   have f1:=h.t3
   have f2:=h.tm (0,4,.map (some 224)) (by simp [mT]) (hd 0 (by simp))
   have f3:=h.tm (12,14,.func (.func 148) #[] #[.pointer (some ⟨320,0,none⟩),.pointer (some ⟨321,0,none⟩)]) (by simp [mT]) (hd 12 (by simp))
   obtain ⟨l,l1,l2,l3⟩:=h.mp (hd 0 (by simp))
   have hm:(13,⟨#[99,111,110,115,116,97,110,116]⟩,.func (.func 148) #[] #[.pointer (some ⟨320,0,none⟩),.pointer (some ⟨321,0,none⟩)])∈mI:=by simp [mI]
   have hn:=h.fresh hm hi l2
   refine gwo ?_;intro Q hQ;simp [hC,hY,f0,f1,f2,f3,l1,hn];apply hQ
   exact hk _ _ (h.ins hm (Array.getElem?_eq_some_iff.1 hi).1 l2 l3 hn (hd 0 (by simp)))
  ·-- 14 mv
   have f0:=h.t1
   have f1:=h.t3
   refine gwo ?_;intro Q hQ;simp [hC,hY,f0,f1];apply hQ
   exact hk _ _ (h.tmp (i:=14) (t:=15) (by simp [mT]) (by simp [mX]) (by omega))
  ·-- 15 fa
   have f0:=h.t1
   have f1:=h.t3
   refine gwo ?_;intro Q hQ;simp [hC,hY,f0,f1];apply hQ
   exact hk _ _ (h.tmp (i:=15) (t:=16) (by simp [mT]) (by simp [mX]) (by omega))
  ·-- 16 ld
   have hd:∀ j∈[15],listed[j]? = some true:=by
    have hd0:=hdep _ rfl
    simp [Region.binds] at hd0
    simp [hd0]
   have f0:=h.t1
   have f1:=h.t3
   have f2:=h.tm (15,16,.pointer (some ⟨200,2,none⟩)) (by simp [mT]) (hd 15 (by simp))
   have fc:=h.c
   unfold cfB at fc
   refine gwo ?_;intro Q hQ;simp [hC,hY,f0,f1,f2,fc];apply hQ
   exact hk _ _ (h.tmp (i:=16) (t:=17) (by simp [mT]) (by simp [mX]) (by omega))
  ·-- 17 call
   have hd:∀ j∈[14,16],listed[j]? = some true:=by
    have hd0:=hdep _ rfl
    simp [Region.binds] at hd0
    simp [hd0]
   have f0:=h.t1
   have f1:=h.t3
   have f2:=h.tm (14,15,.func (.func 147) #[] #[]) (by simp [mT]) (hd 14 (by simp))
   have f3:=h.tm (16,17,.int .i64 bx) (by simp [mT]) (hd 16 (by simp))
   refine zdk (f:=.tmp 15) (cap:=#[]) hC (zgo 360 (by omega) bx 1048576) rfl hi rfl (by simp [ntmps132]) rfl rfl (by simp [okT,f0,f1,f2,f3]) (by simp [gev,f0,f1,f2,f3]) (by simp) (by simp [okX,zcj,f0,f1,f2,f3]) (by simp [gev,f0,f1,f2,f3]) (by simp) (λq hq=>(h.low q hq).symm▸(by simp)) ?_ ?_
   ·intro v ns hV k hk
    have:=zdm hV k hk
    omega
   rintro v ns ⟨rfl,rfl⟩
   exact hk _ _ (h.call (i:=17) (t:=18) (by simp [mT]) (by omega) (by omega) (by simp [mX]))
  ·-- 18 ins
   have hd:∀ j∈[0,17],listed[j]? = some true:=by
    have hd0:=hdep _ rfl
    simp [Region.binds] at hd0
    simp [hd0]
   have f0:=h.t1
   have f1:=h.t3
   have f2:=h.tm (0,4,.map (some 224)) (by simp [mT]) (hd 0 (by simp))
   have f3:=h.tm (17,18,.func (.func 148) #[] #[.pointer (some ⟨360,0,none⟩),.pointer (some ⟨361,0,none⟩)]) (by simp [mT]) (hd 17 (by simp))
   obtain ⟨l,l1,l2,l3⟩:=h.mp (hd 0 (by simp))
   have hm:(18,⟨#[98,111,120]⟩,.func (.func 148) #[] #[.pointer (some ⟨360,0,none⟩),.pointer (some ⟨361,0,none⟩)])∈mI:=by simp [mI]
   have hn:=h.fresh hm hi l2
   refine gwo ?_;intro Q hQ;simp [hC,hY,f0,f1,f2,f3,l1,hn];apply hQ
   exact hk _ _ (h.ins hm (Array.getElem?_eq_some_iff.1 hi).1 l2 l3 hn (hd 0 (by simp)))
  ·-- 19 mv
   have f0:=h.t1
   have f1:=h.t3
   refine gwo ?_;intro Q hQ;simp [hC,hY,f0,f1];apply hQ
   exact hk _ _ (h.tmp (i:=19) (t:=19) (by simp [mT]) (by simp [mX]) (by omega))
  ·-- 20 fa
   have f0:=h.t1
   have f1:=h.t3
   refine gwo ?_;intro Q hQ;simp [hC,hY,f0,f1];apply hQ
   exact hk _ _ (h.tmp (i:=20) (t:=20) (by simp [mT]) (by simp [mX]) (by omega))
  ·-- 21 ld
   have hd:∀ j∈[20],listed[j]? = some true:=by
    have hd0:=hdep _ rfl
    simp [Region.binds] at hd0
    simp [hd0]
   have f0:=h.t1
   have f1:=h.t3
   have f2:=h.tm (20,20,.pointer (some ⟨200,3,none⟩)) (by simp [mT]) (hd 20 (by simp))
   have fc:=h.c
   unfold cfB at fc
   refine gwo ?_;intro Q hQ;simp [hC,hY,f0,f1,f2,fc];apply hQ
   exact hk _ _ (h.tmp (i:=21) (t:=21) (by simp [mT]) (by simp [mX]) (by omega))
  ·-- 22 call
   have hd:∀ j∈[19,21],listed[j]? = some true:=by
    have hd0:=hdep _ rfl
    simp [Region.binds] at hd0
    simp [hd0]
   have f0:=h.t1
   have f1:=h.t3
   have f2:=h.tm (19,19,.func (.func 147) #[] #[]) (by simp [mT]) (hd 19 (by simp))
   have f3:=h.tm (21,21,.int .i64 tp) (by simp [mT]) (hd 21 (by simp))
   refine zdk (f:=.tmp 19) (cap:=#[]) hC (zgo 400 (by omega) tp 65536) rfl hi rfl (by simp [ntmps132]) rfl rfl (by simp [okT,f0,f1,f2,f3]) (by simp [gev,f0,f1,f2,f3]) (by simp) (by simp [okX,zcj,f0,f1,f2,f3]) (by simp [gev,f0,f1,f2,f3]) (by simp) (λq hq=>(h.low q hq).symm▸(by simp)) ?_ ?_
   ·intro v ns hV k hk
    have:=zdm hV k hk
    omega
   rintro v ns ⟨rfl,rfl⟩
   exact hk _ _ (h.call (i:=22) (t:=22) (by simp [mT]) (by omega) (by omega) (by simp [mX]))
  ·-- 23 ins
   have hd:∀ j∈[0,22],listed[j]? = some true:=by
    have hd0:=hdep _ rfl
    simp [Region.binds] at hd0
    simp [hd0]
   have f0:=h.t1
   have f1:=h.t3
   have f2:=h.tm (0,4,.map (some 224)) (by simp [mT]) (hd 0 (by simp))
   have f3:=h.tm (22,22,.func (.func 148) #[] #[.pointer (some ⟨400,0,none⟩),.pointer (some ⟨401,0,none⟩)]) (by simp [mT]) (hd 22 (by simp))
   obtain ⟨l,l1,l2,l3⟩:=h.mp (hd 0 (by simp))
   have hm:(23,⟨#[116,111,112]⟩,.func (.func 148) #[] #[.pointer (some ⟨400,0,none⟩),.pointer (some ⟨401,0,none⟩)])∈mI:=by simp [mI]
   have hn:=h.fresh hm hi l2
   refine gwo ?_;intro Q hQ;simp [hC,hY,f0,f1,f2,f3,l1,hn];apply hQ
   exact hk _ _ (h.ins hm (Array.getElem?_eq_some_iff.1 hi).1 l2 l3 hn (hd 0 (by simp)))
  ·-- 24 mv
   have f0:=h.t1
   have f1:=h.t3
   refine gwo ?_;intro Q hQ;simp [hC,hY,f0,f1];apply hQ
   exact hk _ _ (h.tmp (i:=24) (t:=23) (by simp [mT]) (by simp [mX]) (by omega))
  ·-- 25 fa
   have f0:=h.t1
   have f1:=h.t3
   refine gwo ?_;intro Q hQ;simp [hC,hY,f0,f1];apply hQ
   exact hk _ _ (h.tmp (i:=25) (t:=24) (by simp [mT]) (by simp [mX]) (by omega))
  ·-- 26 ld
   have hd:∀ j∈[25],listed[j]? = some true:=by
    have hd0:=hdep _ rfl
    simp [Region.binds] at hd0
    simp [hd0]
   have f0:=h.t1
   have f1:=h.t3
   have f2:=h.tm (25,24,.pointer (some ⟨200,4,none⟩)) (by simp [mT]) (hd 25 (by simp))
   have fc:=h.c
   unfold cfB at fc
   refine gwo ?_;intro Q hQ;simp [hC,hY,f0,f1,f2,fc];apply hQ
   exact hk _ _ (h.tmp (i:=26) (t:=25) (by simp [mT]) (by simp [mX]) (by omega))
  ·-- 27 fa
   have f0:=h.t1
   have f1:=h.t3
   refine gwo ?_;intro Q hQ;simp [hC,hY,f0,f1];apply hQ
   exact hk _ _ (h.tmp (i:=27) (t:=26) (by simp [mT]) (by simp [mX]) (by omega))
  ·-- 28 ld
   have hd:∀ j∈[27],listed[j]? = some true:=by
    have hd0:=hdep _ rfl
    simp [Region.binds] at hd0
    simp [hd0]
   have f0:=h.t1
   have f1:=h.t3
   have f2:=h.tm (27,26,.pointer (some ⟨200,2,none⟩)) (by simp [mT]) (hd 27 (by simp))
   have fc:=h.c
   unfold cfB at fc
   refine gwo ?_;intro Q hQ;simp [hC,hY,f0,f1,f2,fc];apply hQ
   exact hk _ _ (h.tmp (i:=28) (t:=27) (by simp [mT]) (by simp [mX]) (by omega))
  ·-- 29 mul
   have hd:∀ j∈[28],listed[j]? = some true:=by
    have hd0:=hdep _ rfl
    simp [Region.binds] at hd0
    simp [hd0]
   have f0:=h.t1
   have f1:=h.t3
   have f2:=h.tm (28,27,.int .i64 bx) (by simp [mT]) (hd 28 (by simp))
   refine gwo ?_;intro Q hQ;simp [hC,hY,f0,f1,f2];apply hQ
   exact hk _ _ (h.tmp (i:=29) (t:=28) (by simp [mT]) (by simp [mX]) (by omega))
  ·-- 30 call
   have hd:∀ j∈[24,26,29],listed[j]? = some true:=by
    have hd0:=hdep _ rfl
    simp [Region.binds] at hd0
    simp [hd0]
   have f0:=h.t1
   have f1:=h.t3
   have f2:=h.tm (24,23,.func (.func 147) #[] #[]) (by simp [mT]) (hd 24 (by simp))
   have f3:=h.tm (26,25,.int .i64 nr) (by simp [mT]) (hd 26 (by simp))
   have f4:=h.tm (29,28,.int .i64 (Int.bmod (2*bx) 18446744073709551616)) (by simp [mT]) (hd 29 (by simp))
   refine zdk (f:=.tmp 23) (cap:=#[]) hC (zgo 464 (by omega) nr (Int.bmod (2*bx) 18446744073709551616)) rfl hi rfl (by simp [ntmps132]) rfl rfl (by simp [okT,f0,f1,f2,f3,f4]) (by simp [gev,f0,f1,f2,f3,f4]) (by simp) (by simp [okX,zcj,f0,f1,f2,f3,f4]) (by simp [gev,f0,f1,f2,f3,f4]) (by simp) (λq hq=>(h.low q hq).symm▸(by simp)) ?_ ?_
   ·intro v ns hV k hk
    have:=zdm hV k hk
    omega
   rintro v ns ⟨rfl,rfl⟩
   exact hk _ _ (h.call (i:=30) (t:=29) (by simp [mT]) (by omega) (by omega) (by simp [mX]))
  ·-- 31 ins
   have hd:∀ j∈[0,30],listed[j]? = some true:=by
    have hd0:=hdep _ rfl
    simp [Region.binds] at hd0
    simp [hd0]
   have f0:=h.t1
   have f1:=h.t3
   have f2:=h.tm (0,4,.map (some 224)) (by simp [mT]) (hd 0 (by simp))
   have f3:=h.tm (30,29,.func (.func 148) #[] #[.pointer (some ⟨464,0,none⟩),.pointer (some ⟨465,0,none⟩)]) (by simp [mT]) (hd 30 (by simp))
   obtain ⟨l,l1,l2,l3⟩:=h.mp (hd 0 (by simp))
   have hm:(31,⟨#[110,101,97,114]⟩,.func (.func 148) #[] #[.pointer (some ⟨464,0,none⟩),.pointer (some ⟨465,0,none⟩)])∈mI:=by simp [mI]
   have hn:=h.fresh hm hi l2
   refine gwo ?_;intro Q hQ;simp [hC,hY,f0,f1,f2,f3,l1,hn];apply hQ
   exact hk _ _ (h.ins hm (Array.getElem?_eq_some_iff.1 hi).1 l2 l3 hn (hd 0 (by simp)))
  ·-- 32 mk
   have f0:=h.t1
   have f1:=h.t3
   refine gwo ?_;intro Q hQ;simp [hC,hY,f0,f1];apply hQ
   exact hk _ _ (h.tmp (i:=32) (t:=30) (by simp [mT]) (by simp [mX]) (by omega))
  ·-- 33 ins
   have hd:∀ j∈[0,32],listed[j]? = some true:=by
    have hd0:=hdep _ rfl
    simp [Region.binds] at hd0
    simp [hd0]
   have f0:=h.t1
   have f1:=h.t3
   have f2:=h.tm (0,4,.map (some 224)) (by simp [mT]) (hd 0 (by simp))
   have f3:=h.tm (32,30,.func (.func 153) #[] #[.pointer (some ⟨200,0,none⟩)]) (by simp [mT]) (hd 32 (by simp))
   obtain ⟨l,l1,l2,l3⟩:=h.mp (hd 0 (by simp))
   have hm:(33,⟨#[109,101,116,104,111,100]⟩,.func (.func 153) #[] #[.pointer (some ⟨200,0,none⟩)])∈mI:=by simp [mI]
   have hn:=h.fresh hm hi l2
   refine gwo ?_;intro Q hQ;simp [hC,hY,f0,f1,f2,f3,l1,hn];apply hQ
   exact hk _ _ (h.ins hm (Array.getElem?_eq_some_iff.1 hi).1 l2 l3 hn (hd 0 (by simp)))
  ·-- 34 mv
   have hd:∀ j∈[0],listed[j]? = some true:=by
    have hd0:=hdep _ rfl
    simp [Region.binds] at hd0
    simp [hd0]
   have f0:=h.t1
   have f1:=h.t3
   have f2:=h.tm (0,4,.map (some 224)) (by simp [mT]) (hd 0 (by simp))
   refine gwo ?_;intro Q hQ;simp [hC,hY,f0,f1,f2];apply hQ
   exact hk _ _ (h.tmp (i:=34) (t:=31) (by simp [mT]) (by simp [mX]) (by omega))
  ·-- 35 asg
   have hd:∀ j∈[34],listed[j]? = some true:=by
    have hd0:=hdep _ rfl
    simp [Region.binds] at hd0
    simp [hd0]
   have f0:=h.t1
   have f1:=h.t3
   have f2:=h.tm (34,31,.map (some 224)) (by simp [mT]) (hd 34 (by simp))
   refine gwo ?_;intro Q hQ;simp [hC,hY,f0,f1,f2];apply hQ
   exact hk _ _ (h.tmp (i:=35) (t:=2) (by simp [mT]) (by simp [mX]) (by omega))
 ·have hno:∀ j,(Array.replicate 36 false)[j]?≠some true:=λj=>by
   rw [Array.getElem?_replicate]
   split<;>simp
  exact ⟨by simp,by simp,λp hp hl=>absurd hl (hno _),λk hk=>by rw [zaa _ _ (by omega)];exact za7 (by simp) hk,by simp,by simp [cfB,hsl],λq hq hl=>absurd hl (hno _),λhl=>absurd hl (hno _),λq hq hl=>absurd hl (hno _)⟩
theorem zn6 {nk:Nat} {g bx tp nr md:Int} {v:Value} {ns:List (Nat×Blk)} (h:RR (mQ nk) (zg3 1000 (.slice none 0 0) 0 g bx tp nr md) v ns):zg3 nk (.slice none 0 0) 0 g bx tp nr md v ns:=by
 obtain ⟨v0,ns0,⟨l,rfl,rfl,hl,hf⟩,rfl,rfl⟩:=h
 have e:=zn1 nk
 have e0:=e 0 (by omega)
 have e1:=e 1 (by omega)
 have e2:=e 2 (by omega)
 have e3:=e 3 (by omega)
 have e4:=e 4 (by omega)
 have e5:=e 5 (by omega)
 have e6:=e 6 (by omega)
 have e7:=e 7 (by omega)
 have e8:=e 8 (by omega)
 have e9:=e 9 (by omega)
 have e10:=e 10 (by omega)
 have e11:=e 11 (by omega)
 simp only [Nat.reduceAdd,Nat.add_zero] at e0 e1 e2 e3 e4 e5 e6 e7 e8 e9 e10 e11
 have h100:=zkr nk 100 (by omega)
 have hmv:∀ q∈mV 1000,(q.1,zaj (mQ nk) q.2)∈mV nk:=by
  simp [mV,zaj,zam,e1,e2,e3,e4,e5,e6,e7,e8,e9,e10,e11]
 have hvm:∀ q∈mV nk,∃ p∈mV 1000,p.1=q.1/\zaj (mQ nk) p.2=q.2:=by
  simp [mV,zaj,zam,e1,e2,e3,e4,e5,e6,e7,e8,e9,e10,e11]
 refine ⟨l.map λp=>(p.1,zaj (mQ nk) p.2),by simp [ren,zay,zaj,zam,e0],?_,λp hp=>?_,λq hq=>?_⟩
 ·have hc:(cfB (.slice none 0 0) g bx tp nr md).rn (mQ nk)=cfB (.slice none 0 0) g bx tp nr md:=by simp [cfB,Blk.rn,zaj,zam,h100]
  simp only [rnL,mNs,List.map_cons,List.map_nil,zq4,zbu,hc,Nat.reduceAdd,e0,e1,e2,e3,e4,e5,e6,e7,e8,e9,e10,e11]
 ·obtain ⟨p0,hp0,rfl⟩:=List.mem_map.1 hp
  exact hmv _ (hl _ hp0)
 ·obtain ⟨p,hp,h1,h2⟩:=hvm q hq
  rw [zfp,<-h1,hf p hp,<-h2]
  rfl
theorem zwk (nk:Nat) (hnk:200<=nk) (b:Blk) (hb:b.fx) (g bx tp nr md:Int) :
  FunS prog G0 132 #[cfV (.slice none 0 0) g bx tp nr md] (hpL G0 [(100,b)]) [100] (RR (mQ nk) (zg3 1000 (.slice none 0 0) 0 g bx tp nr md)):=by
 have hr:=λρ=>Blk.fx_rn hb ρ
 have h100:=zkr nk 100 (by omega)
 refine (zs6 b hb g bx tp nr md).mvL G0F (zax hb) (mQ nk) (λk hk=>zkr nk k (by omega)) (by simp [cfV,ren,zay,zaj,zam,h100]) (by simp [zab,h100]) rfl (zax hb).low (by simp [h100,hr]) (by simp [zab]) (λv ns hV k hk=>?_) (λv ns hV k hk l hl e=>?_)
 ·have h1:=zc4 hV k hk
  obtain ⟨j,hj,rfl⟩:∃ j,j<12/\k=1000+j:=⟨k - 1000,by omega,by omega⟩
  rw [zn1 nk j hj]
  simp
  omega
 ·have h1:=zc4 hV k hk
  have h2:=zc4 hV l hl
  obtain ⟨j,hj,rfl⟩:∃ j,j<12/\k=1000+j:=⟨k - 1000,by omega,by omega⟩
  obtain ⟨i,hi,rfl⟩:∃ j,j<12/\l=1000+j:=⟨l - 1000,by omega,by omega⟩
  rw [zn1 nk j hj,zn1 nk i hi] at e
  omega
theorem z1w (b:Blk) (hb:b.fx) (g bx tp nr md:Int) :
  Fun prog G0 110 #[cfV (.slice none 0 0) g bx tp nr md] (hpL G0 [(100,b)]) (zab [(100,b)]) (.ret (.string (⟨#[98,111,100,105,101,115]⟩)) []):=by
 refine zaz (B:=200) G0F func110 rfl call110 (zax hb) ?_ (by simp) (by simp) (by simp) (by simp [ntmps110]) (by omega) ?_
 ·simp [zan,za0,zah,zal,zab,cfV]
 intro C hC hC0 hY
 have hr:=λρ=>Blk.fx_rn hb ρ
 unfold cfV
 repeat' first|refine gwZ ?_|refine gwW ?_|refine gwC ?_ ?_<;>intro hb
 refine zdf ?_
 simp only [Array.toList]
 refine gwl 1 ?_;intro Q hQ;simp [hC,hY];apply hQ
 simp only [wT,wM,Nat.reduceAdd]
 refine zp7 8 (f:=.func 132) (cap:=#[]) hC (zwk 224 (by omega) b hb g bx tp nr md) rfl (by simp) rfl rfl (by simp [okT]) (by simp [gev]) (by simp) (by simp [okX,zcj]) (by simp [gev,cfV]) (by simp) (by (intro k hk;first|rfl|(simp (disch:=omega) only [zbw,List.mem_cons,List.not_mem_nil,or_false,zaa,zag,zaq,if_neg,zbb]<;>done))) (λv ns hV k hk=>by have:=zc4 (zn6 hV) k hk;omega) ?_
 intro v ns hV
 obtain ⟨l,rfl,rfl,_,hf⟩:=zn6 hV
 refine gwl 1 ?_;intro Q hQ;simp [hC,hY,zcq,zbb,mNs];apply hQ
 simp only [wT,wM,Nat.reduceAdd]
 refine zec ?_
 have f0:zcs ⟨#[98,111,100,105,101,115]⟩ l=some (.func (.func 148) #[] #[.pointer (some ⟨226,0,none⟩),.pointer (some ⟨227,0,none⟩)]):=hf (⟨#[98,111,100,105,101,115]⟩,_) (by simp [mV])
 have c0:wiB 0 1 4=false:=by decide +kernel
 repeat' first|refine zat ?_|refine zaw ?_|refine gwZ ?_|((first|refine gwR [148,150,153] ?_|refine gwD [148,150,153] ?_);intro Q hQ _;(repeat first|simp [hC,hY,f0,c0,cnB]|(refine zae (zbr 0 4) G0F (B:=200) ⟨by simp,by simp [zab],by simp [jb,zac,zah,zal]⟩ (λk=>if k=100 then 226 else if k=108 then 227 else k) (λk hk=>(if_neg (by omega)).trans (if_neg (by omega))) ?_ (by simp) (by simp [zbu]) (by simp [zab]) (by simp [zab];rfl) ?_;focus (simp [ren,zay,zaj,zam];done)));refine gwq hQ ?_)|refine gwC ?_ ?_<;>intro hb
 refine ⟨.inr rfl,by simp [results110],kpS G0F⟩
def zv1:Value->Bool
 | .string _=>true
 | _=>false
def z9e:Value->ByteArray
 | .string s=>s
 | _=>⟨#[]⟩
def jdp (a b:ByteArray):Bool:=!(a.toList==b.toList)
@[simp] theorem jib (s:ByteArray):zv1 (.string s)=true:=rfl
@[simp] theorem jdq (s:ByteArray):z9e (.string s)=s:=rfl
theorem zqw {v:Value} (h:zv1 v=true):v=.string (z9e v):=by
 unfold zv1 at h
 split at h
 ·rfl
 ·cases h
@[simp] theorem jem (P:Program) (op:BinOp) (T:TypeId) (a b:ByteArray):zm4 P op T (.string a) (.string b)=none:=by cases op<;>rfl
@[simp] theorem z7w {dst:Option Tmp} {x y:Operand} {T:TypeId} {ps:String} {af:Array Edge} {g:Option (Nat×Bool)} {ts:Nat->Value} {hp:Hp} {C:Eff->Prop} (h:zv1 (gev ts x)=true) (h2:zv1 (gev ts y)=true) (hx:okX ts hp x) (hy:okX ts hp y) :
  z4o prog none ⟨dst,.binOp .neq 9 x y 9,T,ps,af,g⟩ ts hp C↔C (val (.bool (jdp (z9e (gev ts x)) (z9e (gev ts y)))) []):=by
 have e1:=zqw h
 have e2:=zqw h2
 refine zjj (K:=λv=>C (val v [])) ?_ rfl λW=>?_
 ·intro z hz
  simp [Op.operands] at hz
  rcases hz with rfl|rfl
  ·exact ⟨hx,by rw [e1];rfl⟩
  ·exact ⟨hy,by rw [e2];rfl⟩
 ·generalize z9e (gev ts x)=a at e1 |-
  generalize z9e (gev ts y)=b at e2 |-
  have hg:(eqGuard .neq 9 x y (.string a) (.string b)).run prog W=.ok () W:=by unfold eqGuard;split<;>rfl
  simp only [execOp,e1,e2,Sem.run_bind,hg,Result.andThen_ok,binOp,Op.stringOp,Sem.run_pure,jdq]
  simp [jdp]
theorem z1x (n:Nat) (f:Nat->Int) (g bx tp nr md:Int):jdp (zmj n f g bx tp nr md) ⟨#[]⟩=!(zf6 n f g bx tp nr md):=by
 unfold zmj zf6 jdp
 rcases Bool.eq_false_or_eq_true (wiB n 1 4) with c|c<;>simp only [c,Bool.false_and,Bool.true_and,if_true,Bool.true_eq_false,if_false,Bool.not_false]<;>try decide +kernel
 rcases Bool.eq_false_or_eq_true (zuu f n) with c|c<;>simp only [c,Bool.false_and,Bool.true_and,if_true,Bool.true_eq_false,if_false,Bool.not_false]<;>try decide +kernel
 rcases Bool.eq_false_or_eq_true (wiB g 1 1048576) with c|c<;>simp only [c,Bool.false_and,Bool.true_and,if_true,Bool.true_eq_false,if_false,Bool.not_false]<;>try decide +kernel
 rcases Bool.eq_false_or_eq_true (wiB bx 1 1048576) with c|c<;>simp only [c,Bool.false_and,Bool.true_and,if_true,Bool.true_eq_false,if_false,Bool.not_false]<;>try decide +kernel
 rcases Bool.eq_false_or_eq_true (wiB tp 1 65536) with c|c<;>simp only [c,Bool.false_and,Bool.true_and,if_true,Bool.true_eq_false,if_false,Bool.not_false]<;>try decide +kernel
 rcases Bool.eq_false_or_eq_true (wiB nr 1 (Int.bmod (2*bx) 18446744073709551616)) with c|c<;>simp only [c,Bool.false_and,Bool.true_and,if_true,Bool.true_eq_false,if_false,Bool.not_false]<;>try decide +kernel
 rcases Bool.eq_false_or_eq_true (wiB md 0 4) with c|c<;>simp only [c,Bool.false_and,Bool.true_and,if_true,Bool.true_eq_false,if_false,Bool.not_false]<;>try decide +kernel
theorem zi7 (b:Blk) (off n cap:Nat) (f:Nat->Int) (h:MB b off n f) (g bx tp nr md:Int) :
  Fun prog G0 83 #[cfV (.slice (some ⟨100,off,none⟩) n cap) g bx tp nr md] (hpL G0 [(100,b)]) (zab [(100,b)]) (.ret (.int .i64 (if zf6 n f g bx tp nr md=true then 0 else 110)) []):=by
 refine zaz (B:=200) G0F func83 rfl call83 (zax h.fx) ?_ (by simp) (by simp) (by simp) (by simp [ntmps83]) (by omega) ?_
 ·simp [zan,za0,zah,zal,zab,cfV]
 intro C hC hC0 hY
 have hr:=λρ=>Blk.fx_rn h.fx ρ
 have hne:=z1x n f g bx tp nr md
 cases hc:zf6 n f g bx tp nr md with
 | true =>
  rw [hc] at hne
  unfold cfV
  repeat' first|refine gwZ ?_|((first|refine gwR [110] ?_|refine gwD [110] ?_);intro Q hQ _;(repeat first|simp [hC,hY,hne]|refine zae (zxy b off n cap f h g bx tp nr md) G0F (B:=200) (zax h.fx) (λk=>k) (λk hk=>rfl) (by simp [ren,zay,zaj,zam,cfV]) (by simp) (by simp [hr]) (by simp [zab]) (by simp [zab];rfl) ?_);refine gwq hQ ?_)|refine gwC ?_ ?_<;>intro hb
  refine ⟨.inr rfl,by simp [results83],kpS G0F⟩
 | false =>
  rw [hc] at hne
  unfold cfV
  repeat' first|refine gwZ ?_|((first|refine gwR [110] ?_|refine gwD [110] ?_);intro Q hQ _;(repeat first|simp [hC,hY,hne]|refine zae (zxy b off n cap f h g bx tp nr md) G0F (B:=200) (zax h.fx) (λk=>k) (λk hk=>rfl) (by simp [ren,zay,zaj,zam,cfV]) (by simp) (by simp [hr]) (by simp [zab]) (by simp [zab];rfl) ?_);refine gwq hQ ?_)|refine gwC ?_ ?_<;>intro hb
  refine ⟨.inr rfl,by simp [results83],kpS G0F⟩
theorem zka (b:Blk) (hb:b.fx) (g bx tp nr md:Int) :
  Fun prog G0 83 #[cfV (.slice none 0 0) g bx tp nr md] (hpL G0 [(100,b)]) (zab [(100,b)]) (.ret (.int .i64 110) []):=by
 refine zaz (B:=200) G0F func83 rfl call83 (zax hb) ?_ (by simp) (by simp) (by simp) (by simp [ntmps83]) (by omega) ?_
 ·simp [zan,za0,zah,zal,zab,cfV]
 intro C hC hC0 hY
 have hr:=λρ=>Blk.fx_rn hb ρ
 have hne:jdp ⟨#[98,111,100,105,101,115]⟩ ⟨#[]⟩=true:=by decide +kernel
 unfold cfV
 repeat' first|refine gwZ ?_|((first|refine gwR [110] ?_|refine gwD [110] ?_);intro Q hQ _;(repeat first|simp [hC,hY,hne]|refine zae (z1w b hb g bx tp nr md) G0F (B:=200) (zax hb) (λk=>k) (λk hk=>rfl) (by simp [ren,zay,zaj,zam,cfV]) (by simp) (by simp [hr]) (by simp [zab]) (by simp [zab];rfl) ?_);refine gwq hQ ?_)|refine gwC ?_ ?_<;>intro hb
 refine ⟨.inr rfl,by simp [results83],kpS G0F⟩
end Go.Gy
namespace Go.Gy
open Go Go.RowKit
structure TI (N:List (Nat×Nat)) (V:Nat->Value) (X:List (Nat×Nat)) (Bk:Nat->Blk) (ts0:Nat->Value) (hp0:Hp) (listed:Array Bool) (ts:Nat->Value) (hp:Hp):Prop where
 t0:∀ t,t∉N.map Prod.snd->ts t=ts0 t
 tm:∀ p∈N,listed[p.1]? = some true->ts p.2=V p.1
 h0:∀ k,k∉X.map Prod.snd->hp k=hp0 k
 bx:∀ q∈X,listed[q.1]? = some true->hp q.2=some (Bk q.1)
theorem zri {listed:Array Bool} {i j:Nat} (h:(listed.setIfInBounds i true)[j]? = some true):j=i\/listed[j]? = some true:=by
 rw [Array.getElem?_setIfInBounds] at h
 split at h
 ·rename_i e;exact .inl e.symm
 ·exact .inr h
theorem zrj {N:List (Nat×Nat)} (h:(N.map Prod.snd).Nodup) {p q:Nat×Nat} (hp:p∈N) (hq:q∈N) (e:p.2=q.2):p=q:=by
 induction N with
 | nil=>cases hp
 | cons a l ih =>
  simp only [List.map_cons,List.nodup_cons] at h
  rcases List.mem_cons.1 hp with rfl|hp1<;>rcases List.mem_cons.1 hq with rfl|hq1
  ·rfl
  ·exact absurd (List.mem_map.2 ⟨q,hq1,e.symm⟩) h.1
  ·exact absurd (List.mem_map.2 ⟨p,hp1,e⟩) h.1
  ·exact ih h.2 hp1 hq1
theorem zk0 {N:List (Nat×Nat)} (h:(N.map Prod.fst).Nodup) {p q:Nat×Nat} (hp:p∈N) (hq:q∈N) (e:p.1=q.1):p=q:=by
 induction N with
 | nil=>cases hp
 | cons a l ih =>
  simp only [List.map_cons,List.nodup_cons] at h
  rcases List.mem_cons.1 hp with rfl|hp1<;>rcases List.mem_cons.1 hq with rfl|hq1
  ·rfl
  ·exact absurd (List.mem_map.2 ⟨q,hq1,e.symm⟩) h.1
  ·exact absurd (List.mem_map.2 ⟨p,hp1,e⟩) h.1
  ·exact ih h.2 hp1 hq1
section
variable {N X:List (Nat×Nat)} {V:Nat->Value} {Bk:Nat->Blk} {ts0 ts:Nat->Value} {hp0 hp:Hp} {listed:Array Bool}
theorem TI.start (hl:∀ j:Nat,listed[j]?≠some true):TI N V X Bk ts0 hp0 listed ts0 hp0:=⟨λ_ _=>rfl,λp _ h=>absurd h (hl _),λ_ _=>rfl,λq _ h=>absurd h (hl _)⟩
theorem TI.tmp (hN1:(N.map Prod.fst).Nodup) (hN2:(N.map Prod.snd).Nodup) (h:TI N V X Bk ts0 hp0 listed ts hp) {i t:Nat} {v:Value} (hm:(i,t)∈N) (hv:V i=v) (hx:i∉X.map Prod.fst):TI N V X Bk ts0 hp0 (listed.setIfInBounds i true) (upd ts t v) hp:=by
 refine ⟨λu hu=>?_,λp hp1 hl=>?_,h.h0,λq hq hl=>?_⟩
 ·rw [zaa _ _ (λe=>hu (List.mem_map.2 ⟨_,hm,e.symm⟩))]
  exact h.t0 u hu
 ·by_cases e:p.2=t
  ·have:=zrj hN2 hp1 hm e
   subst this
   rw [<-hv]
   exact za4 _ _ _
  ·rw [zaa _ _ e]
   rcases zri hl with e1|h1
   ·exact absurd (congrArg Prod.snd (zk0 hN1 hp1 hm e1)) e
   ·exact h.tm p hp1 h1
 ·rcases zri hl with e1|h1
  ·exact absurd (List.mem_map.2 ⟨q,hq,e1⟩) hx
  ·exact h.bx q hq h1
theorem TI.new (hN1:(N.map Prod.fst).Nodup) (hN2:(N.map Prod.snd).Nodup) (hX1:(X.map Prod.fst).Nodup) (hX2:(X.map Prod.snd).Nodup) (h:TI N V X Bk ts0 hp0 listed ts hp) {i t k:Nat} {v:Value} {b:Blk} (hm:(i,t)∈N) (hv:V i=v) (hx:(i,k)∈X) (hb:Bk i=b):TI N V X Bk ts0 hp0 (listed.setIfInBounds i true) (upd ts t v) (upd hp k (some b)):=by
 refine ⟨λu hu=>?_,λp hp1 hl=>?_,λu hu=>?_,λq hq hl=>?_⟩
 ·rw [zaa _ _ (λe=>hu (List.mem_map.2 ⟨_,hm,e.symm⟩))]
  exact h.t0 u hu
 ·by_cases e:p.2=t
  ·have:=zrj hN2 hp1 hm e
   subst this
   rw [<-hv]
   exact za4 _ _ _
  ·rw [zaa _ _ e]
   rcases zri hl with e1|h1
   ·exact absurd (congrArg Prod.snd (zk0 hN1 hp1 hm e1)) e
   ·exact h.tm p hp1 h1
 ·rw [zaa _ _ (λe=>hu (List.mem_map.2 ⟨_,hx,e.symm⟩))]
  exact h.h0 u hu
 ·by_cases e:q.2=k
  ·have:=zrj hX2 hq hx e
   subst this
   rw [<-hb]
   exact za4 _ _ _
  ·rw [zaa _ _ e]
   rcases zri hl with e1|h1
   ·exact absurd (congrArg Prod.snd (zk0 hX1 hq hx e1)) e
   ·exact h.bx q hq h1
theorem TI.chg {V':Nat->Value} {Bk':Nat->Blk} (h:TI N V X Bk ts0 hp0 listed ts hp) (hv:∀ p∈N,listed[p.1]? = some true->V p.1=V' p.1) (hb:∀ q∈X,listed[q.1]? = some true->Bk q.1=Bk' q.1):TI N V' X Bk' ts0 hp0 listed ts hp :=
 ⟨h.t0,λp hp1 hl=>(h.tm p hp1 hl).trans (hv p hp1 hl),h.h0,λq hq hl=>(h.bx q hq hl).trans (by rw [hb q hq hl])⟩
end
section
variable {P:Program} {C:Ctx} {n:Nat} {d:List Deferred} {ro:Option Nat} {K:Exit->GS->Prop}
theorem z9m {ops:Array Oper} {base fuel yc:Nat} {listed:Array Bool} {ts:Nat->Value} {hp:Hp} (F:(Nat->Value)->Hp->Prop) (h:F ts hp) (H:∀ ts0 hp0,F ts0 hp0->GA P C n d ro ops base fuel listed ts0 hp0 yc K):GA P C n d ro ops base fuel listed ts hp yc K:=H _ _ h
end
theorem ztd {md:Region.Mode} {ops:Array Oper} {listed:Array Bool} (hs:listed.size=ops.size) (hlt:(ops.toList.zipIdx.all λp=>p.1.after.all λe=>!Region.binds md e||decide (e.on<p.2))=true) (h:Region.ready md ops listed=[]):∀ i,i<ops.size->listed[i]? = some true:=by
 intro i
 induction i using Nat.strongRecOn with
 | _ i ih =>
  intro hi
  have e1:listed[i]? = some listed[i]:=Array.getElem?_eq_getElem (by omega)
  cases hb:listed[i] with
  | true=>rw [e1,hb]
  | false =>
   exfalso
   have:i∈Region.ready md ops listed:=(mem_ready hs).2 ⟨by rw [e1,hb],λo ho e he hbe=>by
    have hm:(o,i)∈ops.toList.zipIdx:=by
     rw [List.mem_zipIdx_iff_getElem?]
     simpa using ho
    have:=List.all_eq_true.1 hlt _ hm
    have:=Array.all_eq_true_iff_forall_mem.1 this e he
    rw [hbe] at this
    have h3:e.on<i:=by simpa using this
    exact ih _ h3 (by omega)⟩
   rw [h] at this
   cases this
structure TJ (N X D:List (Nat×Nat)) (V:Nat->Value) (Bk:Nat->Blk) (ts0:Nat->Value) (hp0:Hp) (listed:Array Bool) (ts:Nat->Value) (hp:Hp):Prop where
 t0:∀ t,t∉N.map Prod.snd->ts t=ts0 t
 tm:∀ p∈N,listed[p.1]? = some true->ts p.2=V p.1
 h0:∀ k,(∀ q∈X,q.2=k->listed[q.1]?≠some true)->hp k=hp0 k
 bx:∀ q∈X,listed[q.1]? = some true->(∀ q'∈X,q'.2=q.2->q.1<q'.1->listed[q'.1]?≠some true)->hp q.2=some (Bk q.1)
 cl:∀ p∈D,listed[p.1]? = some true->listed[p.2]? = some true
theorem zdq {listed:Array Bool} {i j:Nat} (hi:listed[i]? = some false):(listed.setIfInBounds i true)[j]? = some true↔j=i\/listed[j]? = some true:=by
 rw [Array.getElem?_setIfInBounds]
 have:=(Array.getElem?_eq_some_iff.1 hi).1
 split
 ·rename_i e
  subst e
  simp [this]
 ·rename_i e
  exact ⟨.inr,λh=>h.resolve_left λx=>e x.symm⟩
section
variable {N X D:List (Nat×Nat)} {V:Nat->Value} {Bk:Nat->Blk} {ts0 ts:Nat->Value} {hp0 hp:Hp} {listed:Array Bool}
theorem TJ.start (hl:∀ j:Nat,listed[j]?≠some true):TJ N X D V Bk ts0 hp0 listed ts0 hp0:=⟨λ_ _=>rfl,λp _ h=>absurd h (hl _),λ_ _=>rfl,λq _ h=>absurd h (hl _),λp _ h=>absurd h (hl _)⟩
theorem TJ.ext (h:TJ N X D V Bk ts0 hp0 listed ts hp) {k:Nat} (hk:k∉X.map Prod.snd):hp k=hp0 k:=h.h0 k λq hq e=>absurd (List.mem_map.2 ⟨q,hq,e⟩) hk
theorem TJ.put (hN1:(N.map Prod.fst).Nodup) (hN2:(N.map Prod.snd).Nodup) (h:TJ N X D V Bk ts0 hp0 listed ts hp) {i t:Nat} {v:Value} (hi:listed[i]? = some false) (hm:(i,t)∈N) (hv:V i=v):(∀ u,u∉N.map Prod.snd->upd ts t v u=ts0 u)/\∀ p∈N,(listed.setIfInBounds i true)[p.1]? = some true->upd ts t v p.2=V p.1:=by
 refine ⟨λu hu=>?_,λp hp1 hl=>?_⟩
 ·rw [zaa _ _ (λe=>hu (List.mem_map.2 ⟨_,hm,e.symm⟩))]
  exact h.t0 u hu
 ·by_cases e:p.2=t
  ·have:=zrj hN2 hp1 hm e
   subst this
   rw [<-hv]
   exact za4 _ _ _
  ·rw [zaa _ _ e]
   rcases (zdq hi).1 hl with e1|h1
   ·exact absurd (congrArg Prod.snd (zk0 hN1 hp1 hm e1)) e
   ·exact h.tm p hp1 h1
theorem TJ.cls (h:TJ N X D V Bk ts0 hp0 listed ts hp) {i:Nat} (hi:listed[i]? = some false) (hd:∀ p∈D,p.1=i->listed[p.2]? = some true):∀ p∈D,(listed.setIfInBounds i true)[p.1]? = some true->(listed.setIfInBounds i true)[p.2]? = some true:=λp hp1 hl =>
 (zdq hi).2 (.inr (((zdq hi).1 hl).elim (hd p hp1) (h.cl p hp1)))
theorem TJ.tmp (hN1:(N.map Prod.fst).Nodup) (hN2:(N.map Prod.snd).Nodup) (h:TJ N X D V Bk ts0 hp0 listed ts hp) {i t:Nat} {v:Value} (hi:listed[i]? = some false) (hd:∀ p∈D,p.1=i->listed[p.2]? = some true) (hm:(i,t)∈N) (hv:V i=v) (hx:i∉X.map Prod.fst):TJ N X D V Bk ts0 hp0 (listed.setIfInBounds i true) (upd ts t v) hp:=by
 obtain ⟨a,b⟩:=h.put hN1 hN2 hi hm hv
 refine ⟨a,b,λk hk=>h.h0 k λq hq e hl=>hk q hq e ((zdq hi).2 (.inr hl)),λq hq hl hl2=>?_,h.cls hi hd⟩
 rcases (zdq hi).1 hl with e1|h1
 ·exact absurd (List.mem_map.2 ⟨q,hq,e1⟩) hx
 ·exact h.bx q hq h1 λq' hq' e hlt hl'=>hl2 q' hq' e hlt ((zdq hi).2 (.inr hl'))
theorem TJ.none (h:TJ N X D V Bk ts0 hp0 listed ts hp) {i:Nat} (hi:listed[i]? = some false) (hd:∀ p∈D,p.1=i->listed[p.2]? = some true) (hn:i∉N.map Prod.fst) (hx:i∉X.map Prod.fst):TJ N X D V Bk ts0 hp0 (listed.setIfInBounds i true) ts hp:=by
 refine ⟨h.t0,λp hp1 hl=>?_,λk hk=>h.h0 k λq hq e hl=>hk q hq e ((zdq hi).2 (.inr hl)),λq hq hl hl2=>?_,h.cls hi hd⟩
 ·rcases (zdq hi).1 hl with e1|h1
  ·exact absurd (List.mem_map.2 ⟨p,hp1,e1⟩) hn
  ·exact h.tm p hp1 h1
 ·rcases (zdq hi).1 hl with e1|h1
  ·exact absurd (List.mem_map.2 ⟨q,hq,e1⟩) hx
  ·exact h.bx q hq h1 λq' hq' e hlt hl'=>hl2 q' hq' e hlt ((zdq hi).2 (.inr hl'))
theorem TJ.blk (hX1:(X.map Prod.fst).Nodup) (h:TJ N X D V Bk ts0 hp0 listed ts hp) {i k:Nat} {b:Blk} (hi:listed[i]? = some false) (hx:(i,k)∈X) (hb:Bk i=b) (ho:∀ q∈X,q.2=k->i<q.1->(q.1,i)∈D) :
  (∀ u,(∀ q∈X,q.2=u->(listed.setIfInBounds i true)[q.1]?≠some true)->upd hp k (some b) u=hp0 u)/\∀ q∈X,(listed.setIfInBounds i true)[q.1]? = some true->(∀ q'∈X,q'.2=q.2->q.1<q'.1->(listed.setIfInBounds i true)[q'.1]?≠some true)->upd hp k (some b) q.2=some (Bk q.1):=by
 refine ⟨λu hu=>?_,λq hq hl hl2=>?_⟩
 ·rw [zaa _ _ (λe=>hu _ hx e.symm ((zdq hi).2 (.inl rfl)))]
  exact h.h0 u λq hq e hl=>hu q hq e ((zdq hi).2 (.inr hl))
 ·by_cases e:q.2=k
  ·have e2:q.1=i:=by
    rcases (zdq hi).1 hl with e1|h1
    ·exact e1
    ·rcases Nat.lt_trichotomy q.1 i with c|c|c
     ·exact absurd ((zdq hi).2 (.inl rfl)) (hl2 _ hx e.symm c)
     ·exact c
     ·have:=h.cl _ (ho q hq e c) h1
      rw [hi] at this
      cases this
   have:=zk0 hX1 hq hx e2
   subst this
   rw [<-hb]
   exact za4 _ _ _
  ·rw [zaa _ _ e]
   rcases (zdq hi).1 hl with e1|h1
   ·exact absurd (congrArg Prod.snd (zk0 hX1 hq hx e1)) e
   ·exact h.bx q hq h1 λq' hq' e hlt hl'=>hl2 q' hq' e hlt ((zdq hi).2 (.inr hl'))
theorem TJ.bxi (h:TJ N X D V Bk ts0 hp0 listed ts hp) {i w k:Nat} (hi:listed[i]? = some false) (hw:(w,k)∈X) (hl:listed[w]? = some true) (hn:∀ q∈X,q.2=k->w<q.1->q.1=i\/(q.1,i)∈D):hp k=some (Bk w) :=
 h.bx _ hw hl λq hq e hlt hl'=>by
  rcases hn q hq e hlt with h1|h1
  ·rw [h1,hi] at hl';cases hl'
  ·have:=h.cl _ h1 hl'
   rw [hi] at this;cases this
theorem TJ.new (hN1:(N.map Prod.fst).Nodup) (hN2:(N.map Prod.snd).Nodup) (hX1:(X.map Prod.fst).Nodup) (h:TJ N X D V Bk ts0 hp0 listed ts hp) {i t k:Nat} {v:Value} {b:Blk} (hi:listed[i]? = some false) (hd:∀ p∈D,p.1=i->listed[p.2]? = some true) (hm:(i,t)∈N) (hv:V i=v) (hx:(i,k)∈X) (hb:Bk i=b) (ho:∀ q∈X,q.2=k->i<q.1->(q.1,i)∈D):TJ N X D V Bk ts0 hp0 (listed.setIfInBounds i true) (upd ts t v) (upd hp k (some b)):=by
 obtain ⟨a1,a2⟩:=h.put hN1 hN2 hi hm hv
 obtain ⟨b1,b2⟩:=h.blk hX1 hi hx hb ho
 exact ⟨a1,a2,b1,b2,h.cls hi hd⟩
theorem TJ.st (hX1:(X.map Prod.fst).Nodup) (h:TJ N X D V Bk ts0 hp0 listed ts hp) {i k:Nat} {b:Blk} (hi:listed[i]? = some false) (hd:∀ p∈D,p.1=i->listed[p.2]? = some true) (hn:i∉N.map Prod.fst) (hx:(i,k)∈X) (hb:Bk i=b) (ho:∀ q∈X,q.2=k->i<q.1->(q.1,i)∈D):TJ N X D V Bk ts0 hp0 (listed.setIfInBounds i true) ts (upd hp k (some b)):=by
 obtain ⟨b1,b2⟩:=h.blk hX1 hi hx hb ho
 refine ⟨h.t0,λp hp1 hl=>?_,b1,b2,h.cls hi hd⟩
 rcases (zdq hi).1 hl with e1|h1
 ·exact absurd (List.mem_map.2 ⟨p,hp1,e1⟩) hn
 ·exact h.tm p hp1 h1
theorem TJ.chg {V':Nat->Value} {Bk':Nat->Blk} {i:Nat} (h:TJ N X D V Bk ts0 hp0 listed ts hp) (hi:listed[i]? = some false) (hv:∀ j,j≠i->(j,i)∉D->V j=V' j) (hb:∀ j,j≠i->(j,i)∉D->Bk j=Bk' j):TJ N X D V' Bk' ts0 hp0 listed ts hp:=by
 have ne:∀ j,listed[j]? = some true->j≠i:=λj hj e=>by rw [e,hi] at hj;cases hj
 have nd:∀ j,listed[j]? = some true->(j,i)∉D:=λj hj hd=>by have:=h.cl _ hd hj;rw [hi] at this;cases this
 exact ⟨h.t0,λp hp1 hl=>(h.tm p hp1 hl).trans (hv _ (ne _ hl) (nd _ hl)),h.h0,λq hq hl hl2=>(h.bx q hq hl hl2).trans (by rw [hb _ (ne _ hl) (nd _ hl)]),h.cl⟩
end
structure LTwo (G:Hp) (L:List (Nat×Blk)) (ks:Nat) (b b2:Blk):Prop where
 ok:LOk L 200
 fx:∀ p∈L,p.2.fx
 ka:(100,b)∈L
 kb:(ks,b2)∈L
 k8:ks=100\/ks=108
section
variable {G:Hp} {L:List (Nat×Blk)} {ks:Nat} {b b2:Blk}
theorem LTwo.mem (h:LTwo G L ks b b2) (p:Nat×Blk) (hp:p∈L):hpL G L p.1=some p.2:=LOk.at h.ok.one p hp
theorem LTwo.a (h:LTwo G L ks b b2):hpL G L 100=some b:=h.mem _ h.ka
theorem LTwo.s (h:LTwo G L ks b b2):hpL G L ks=some b2:=h.mem _ h.kb
theorem LTwo.k1 (h:LTwo G L ks b b2):100<=ks:=(h.ok.big _ h.kb).1
theorem LTwo.k2 (h:LTwo G L ks b b2):ks<200:=(h.ok.big _ h.kb).2
theorem LTwo.ne (h:LTwo G L ks b b2) (k:Nat) (hk:200<=k):(ks=k)=False:=by
 have:=h.k2
 simp only [eq_iff_iff,iff_false]
 omega
theorem LTwo.low (h:LTwo G L ks b b2) (k:Nat) (hk:k<100):hpL G L k=G k:=h.ok.low k hk
theorem LTwo.ia (h:LTwo G L ks b b2):100∈zab L:=zad.2 ⟨_,h.ka,rfl⟩
theorem LTwo.ib (h:LTwo G L ks b b2):ks∈zab L:=zad.2 ⟨_,h.kb,rfl⟩
theorem LTwo.two {b b2:Blk} (h:b.fx) (h2:b2.fx):LTwo G [(100,b),(108,b2)] 108 b b2:=by
 refine ⟨⟨by simp,by simp [zab],?_⟩,?_,by simp,by simp,.inr rfl⟩
 ·simp only [List.mem_cons,List.not_mem_nil,or_false,forall_eq_or_imp,forall_eq]
  exact ⟨Blk.fx_ids h _,Blk.fx_ids h2 _⟩
 ·simp only [List.mem_cons,List.not_mem_nil,or_false,forall_eq_or_imp,forall_eq]
  exact ⟨h,h2⟩
theorem LTwo.one {b:Blk} (h:b.fx):LTwo G [(100,b)] 100 b b:=by
 refine ⟨⟨by simp,by simp [zab],?_⟩,?_,by simp,by simp,.inl rfl⟩
 ·simp only [List.mem_cons,List.not_mem_nil,or_false,forall_eq]
  exact Blk.fx_ids h _
 ·simp only [List.mem_cons,List.not_mem_nil,or_false,forall_eq]
  exact h
end
theorem zxw {C:Ctx} {G:Hp} {s:GS} {m L:List (Nat×Blk)} (l:List (Nat×Value)) (B:Nat) (hG:C.G=G) (hGF:zbg G) (hL:LOk L 200) (hfx:∀ p∈L,p.2.fx) (h0:C.hp0=hpL G L) (hB:200<=B) (hl:∀ p∈l,s.ts p.1=p.2/\zan (dom (hpL G (m++L))) p.2)
  (hm:∀ p∈m,s.hp p.1=some p.2/\p.2.ids (dom (hpL G (m++L)))/\200<=p.1/\p.1<B) (hk:∀ p∈L,s.hp p.1=some p.2):Weak C s ⟨tsL l,hpL G (m++L),B,s.yc⟩:=by
 refine zbi l B hG hGF h0 (by omega) hl (λp hp=>?_) (λp hp=>?_)
 ·rcases List.mem_append.1 hp with h|h
  ·have:=hm p h
   exact ⟨this.1,this.2.1,by omega,this.2.2.2⟩
  ·have:=hL.big p h
   exact ⟨hk p h,Blk.fx_ids (hfx p h) _,this.1,by omega⟩
 ·have hb:=hL.big p hp
  refine ⟨hb.1,?_⟩
  rw [hk p hp]
  have key:∀ (m:List (Nat×Blk)),(∀ q∈m,200<=q.1)->hpL G (m++L) p.1=some p.2:=by
   intro m
   induction m with
   | nil=>intro _;exact LOk.at hL.one p hp
   | cons q m ih =>
    intro hq
    obtain ⟨k,c⟩:=q
    rw [List.cons_append,zag]
    have:=hq (k,c) (by simp)
    simp only at this
    rw [if_neg (by omega)]
    exact ih λq h=>hq q (List.mem_cons_of_mem _ h)
  exact key m λq hq=>(hm q hq).2.2.1
theorem zby {P:Program} {G:Hp} {L:List (Nat×Blk)} {f:FuncId} {args:Array Value} {v:Value} {hp:Hp} {nk:Nat} {K:Eff->Prop} (h:Fun P G f args (hpL G L) (zab L) (.ret v [])) (hL:LOk L 200) (hm:∀ p∈L,hp p.1=some p.2) (hK:K ((Res.ret v []).eff (zab L))):zhz P G f args hp nk K:=by
 refine zb7 h (λk hk=>?_) hL.low trivial hK
 obtain ⟨p,hp1,rfl⟩:=zad.1 hk
 rw [LOk.at hL.one p hp1,hm p hp1]
theorem zln {G:Hp} {m L:List (Nat×Blk)} {k:Nat} (h:k∈zab L):dom (hpL G (m++L)) k:=by
 induction m with
 | nil =>
  obtain ⟨p,hp,rfl⟩:=zad.1 h
  rw [List.nil_append]
  unfold dom
  induction L with
  | nil=>cases hp
  | cons q L ih =>
   obtain ⟨k,c⟩:=q
   rw [zag]
   by_cases e:p.1=k
   ·rw [if_pos e];simp
   ·rw [if_neg e]
    refine ih ?_ ?_
    ·rcases List.mem_cons.1 hp with e1|h1
     ·exact absurd (congrArg Prod.fst e1) e
     ·exact h1
    ·rcases List.mem_cons.1 hp with e1|h1
     ·exact absurd (congrArg Prod.fst e1) e
     ·exact zad.2 ⟨p,h1,rfl⟩
 | cons q m ih =>
  obtain ⟨j,c⟩:=q
  unfold dom
  rw [List.cons_append,zag]
  split
  ·simp
  ·exact ih
end Go.Gy
namespace Go.Gy
open Go Go.RowKit Go.Proofs Go.Proofs.Tryz
def zvg (n n2:Nat) (okc rt:Bool):Bool:=decide (n=n2)&&(okc&&rt)
theorem zh3 (L:List (Nat×Blk)) (ks:Nat) (bm bs:Blk) (hT:LTwo G0 L ks bm bs) (off n cap off2 n2 cap2:Nat) (fm fs:Nat->Int) (hm:MB bm off n fm) (hSb:SB bs off2 n2 fs) (g bx tp nr md st:Int) (hs:i64 st) :
  Fun prog G0 94 #[cfV (.slice (some ⟨100,off,none⟩) n cap) g bx tp nr md,.agg #[.int .i64 st,.slice (some ⟨ks,off2,none⟩) n2 cap2]] (hpL G0 L) (zab L) (.ret (.bool (zvg n n2 (zf6 n fm g bx tp nr md) (zco st fs n2))) []):=by
 refine zaz (B:=200) G0F func94 rfl call94 hT.ok ?_ (by simp) (by simp) (by simp) (by simp [ntmps94]) (by omega) ?_
 ·simp [zan,za0,zah,zal,hT.ia,hT.ib,cfV]
 intro C hC hC0 hY
 have hA:=hT.a
 have hS:=hT.s
 have hne:=hT.ne
 have hLow:=hT.low
 have hks:=hT.k1
 have hks2:=hT.k2
 have hrm:=λρ=>Blk.fx_rn hm.fx ρ
 have hrs:=λρ=>Blk.fx_rn hSb.fx ρ
 have hck:=zi7 bm off n cap fm hm g bx tp nr md
 have hri:=z6z bs off2 n2 cap2 fs hSb st hs
 unfold zvg
 unfold cfV at hck |-
 by_cases hn:n=n2
 ·have hn':(n:Int)=(n2:Int):=by omega
  have hnb:((n:Int)==(n2:Int))=true:=by simpa using hn'
  rw [decide_eq_true hn]
  cases hc:zf6 n fm g bx tp nr md with
  | false =>
   rw [hc] at hck
   repeat' first|refine gwZ ?_|((first|refine gwR [83,118] ?_|refine gwD [83,118] ?_);intro Q hQ _;(repeat first|simp [hC,hY,hA,hS,hne,hn',hnb]|refine zae hck G0F (B:=200) (zax hm.fx) (λk=>k) (λk hk=>rfl) (by simp [ren,zay,zaj,zam,cfV]) (by simp) (by simp [hrm,hA]) (by simp [zab]) (by simp [zab];rfl) ?_);refine gwq hQ ?_)|refine gwC ?_ ?_<;>intro hb
   refine ⟨.inr rfl,by simp [results94],kpT G0F⟩
  | true =>
   rw [hc] at hck
   repeat' first|refine gwZ ?_|((first|refine gwR [83,118] ?_|refine gwD [83,118] ?_);intro Q hQ _;(repeat first|simp [hC,hY,hA,hS,hne,hn',hnb]|refine zae hck G0F (B:=200) (zax hm.fx) (λk=>k) (λk hk=>rfl) (by simp [ren,zay,zaj,zam,cfV]) (by simp) (by simp [hrm,hA]) (by simp [zab]) (by simp [zab];rfl) ?_|refine zae hri G0F (B:=200) (zax hSb.fx) (λk=>if k=100 then ks else k) (λk hk=>if_neg (by omega)) (by simp [ren,zay,zaj,zam]) (by simp) (by simp [hrs,hS,hne,hks]) (by simp [zab]) (by simp [zab];rfl) ?_);refine gwq hQ ?_)|refine gwC ?_ ?_<;>intro hb
   refine ⟨.inr rfl,by simp [results94],kpT G0F⟩
 ·have hn':¬(n:Int)=(n2:Int):=by omega
  have hnb:((n:Int)==(n2:Int))=false:=by simpa using hn'
  rw [decide_eq_false hn]
  repeat' first|refine gwZ ?_|(refine gwX ?_;intro Q hQ _;simp [hC,hY,hA,hS,hne,hn',hnb];refine gwq hQ ?_)|refine gwC ?_ ?_<;>intro hb
  refine ⟨.inr rfl,by simp [results94],kpT G0F⟩
end Go.Gy
namespace Go.Gy
open Go Go.RowKit Go.Proofs Go.Proofs.Tryz
end Go.Gy
namespace Go.Gy
open Go Go.RowKit
theorem zmi {C:Ctx} {G:Hp} {s:GS} {m L:List (Nat×Blk)} (ρ:Nat->Nat) (l:List (Nat×Value)) (B:Nat) (hG:C.G=G) (hGF:zbg G) (hL:LOk L 200) (hfx:∀ p∈L,p.2.fx) (h0:C.hp0=hpL G L) (hB:200<=B)
  (hl:∀ p∈l,s.ts p.1=ren ρ p.2/\s.ts p.1≠zcj/\zan (dom (hpL G (m++L))) p.2)
  (hm:∀ p∈m,s.hp (ρ p.1)=some (p.2.rn ρ)/\p.2.ids (dom (hpL G (m++L)))/\200<=p.1/\p.1<B/\200<=ρ p.1)
  (hi:∀ p∈m,∀ q∈m,ρ p.1=ρ q.1->p.1=q.1) (hid:∀ k,k<200->ρ k=k) (hk:∀ p∈L,s.hp p.1=some p.2):WeakR C ρ s ⟨tsL l,hpL G (m++L),B,s.yc⟩:=by
 refine zxx ρ l B hG hGF h0 (by omega) hl (λp hp=>?_) (λp hp q hq e=>?_) (λk hk=>hid k (by omega)) (λp hp=>?_)
 ·rcases List.mem_append.1 hp with h|h
  ·have:=hm p h
   exact ⟨this.1,this.2.1,by omega,this.2.2.2.1,by omega⟩
  ·have hb:=hL.big p h
   rw [hid p.1 hb.2,Blk.fx_rn (hfx p h) ρ]
   exact ⟨hk p h,Blk.fx_ids (hfx p h) _,hb.1,by omega,hb.1⟩
 ·rcases List.mem_append.1 hp with h|h<;>rcases List.mem_append.1 hq with h'|h'
  ·exact hi p h q h' e
  ·have:=(hm p h).2.2.2.2
   have hb:=hL.big q h'
   rw [hid q.1 hb.2] at e
   omega
  ·have:=(hm q h').2.2.2.2
   have hb:=hL.big p h
   rw [hid p.1 hb.2] at e
   omega
  ·rw [hid p.1 (hL.big p h).2,hid q.1 (hL.big q h').2] at e
   exact e
 ·have hb:=hL.big p hp
  exact ⟨hb.1,zln (zad.2 ⟨p,hp,rfl⟩),hid p.1 hb.2⟩
end Go.Gy
namespace Go.Gy
open Go Go.RowKit Go.Proofs Go.Proofs.Tryz
theorem zc0 {n:Nat} {f:Nat->Int} {g bx tp nr md:Int} (h:zf6 n f g bx tp nr md=true) {i:Nat} (hi:i<n):1<=f i/\f i<=1024:=by
 unfold zf6 at h
 simp only [Bool.and_eq_true] at h
 have h2:=h.2.1
 unfold zuu at h2
 rw [List.all_eq_true] at h2
 have:=h2 i (by simpa using hi)
 unfold wiB at this
 simpa using this
theorem zu3 {n:Nat} {f:Nat->Int} {g bx tp nr md:Int} (h:zf6 n f g bx tp nr md=true):1<=g/\g<=1048576:=by
 unfold zf6 at h
 simp only [Bool.and_eq_true] at h
 have:=h.2.2.1
 unfold wiB at this
 simpa using this
theorem ze2 {n n2:Nat} {okc rt:Bool}:zvg n n2 okc rt=true↔n=n2/\okc=true/\rt=true:=by
 unfold zvg
 simp
theorem ztq {a m:Int} (h:inW m a):0<=a*a/\a*a<=m*m:=by
 obtain ⟨h0,h1,h2⟩:=h
 by_cases c:0<=a
 ·exact ⟨Int.mul_nonneg c c,Int.mul_le_mul h2 h2 c h0⟩
 ·rw [<-Int.neg_mul_neg]
  exact ⟨Int.mul_nonneg (by omega) (by omega),Int.mul_le_mul (by omega) (by omega) (by omega) h0⟩
theorem zel {b:Blk} {off n:Nat} {f:Nat->Int} (h:SB b off n f) (i:Nat) (hi:i<n) (o:Nat) (e:o=off+i*6):zc2 prog 72 b o=some (.agg #[.int .i64 (f (6*i)),.int .i64 (f (6*i+1)),.int .i64 (f (6*i+2)),.int .i64 (f (6*i+3)),.int .i64 (f (6*i+4)),.int .i64 (f (6*i+5))]):=by rw [e];exact h.body hi
theorem zem {b:Blk} {off n:Nat} {f:Nat->Int} (h:MB b off n f) (i:Nat) (hi:i<n) (o:Nat) (e:o=off+i):zc2 prog 3 b o=some (.int .i64 (f i)):=by rw [e];exact h.at hi
def ezB (cq:Array Value):Blk:=⟨cq,.raw 24 (0,0)⟩
theorem z2o {cq:Array Value} {ρ:Nat->Nat}:(ezB cq).rn ρ=ezB cq:=rfl
theorem zlo {cq:Array Value} {D:Nat->Prop}:(ezB cq).ids D:=trivial
theorem z46 {cq:Array Value} {g:Int} (h1:cq[1]? = some (.int .i64 g)):zc2 prog 3 ⟨cq,.raw 24 (0,0)⟩ 1=some (.int .i64 g):=by
 unfold zc2
 simp [h1,zau,za9,zgt]
theorem eIn {asd:List Nat} {f g:Hp} {k:Nat} (h:k∈asd):zbw asd f g k=f k:=if_pos h
theorem eNi {asd:List Nat} {f g:Hp} {k:Nat} (h:k∉asd):zbw asd f g k=g k:=if_neg h
theorem jag {G:Hp}:∀ {L:List (Nat×Blk)} {k:Nat},k∉zab L->hpL G L k=G k
 | [],_,_=>rfl
 | (q,c)::L,k,h=>by
  simp only [zab,List.map_cons,List.mem_cons,not_or] at h
  rw [zag,if_neg h.1]
  exact jag h.2
def znw (fm fs:Nat->Int) (i:Nat):Int:=fm i*dtV (fs (6*i+3)) (fs (6*i+4)) (fs (6*i+5)) (fs (6*i+3)) (fs (6*i+4)) (fs (6*i+5))
def z5v (fm fs:Nat->Int) (n:Nat):Int:=zdi (znw fm fs) n*524288
def jic (n n2:Nat) (okc rt:Bool):Int:=if zvg n n2 okc rt=true then 0 else 2
def jid (n n2:Nat) (okc rt:Bool) (fm fs:Nat->Int):Int:=if zvg n n2 okc rt=true then z5v fm fs n2 else 0
theorem jaf {a b c:Int} (h0:inW 65536 a) (h1:inW 65536 b) (h2:inW 65536 c):dtV a b c a b c=a*a+b*b+c*c/\0<=dtV a b c a b c/\dtV a b c a b c<=12884901888:=by
 have e:dtV a b c a b c=a*a+b*b+c*c:=by
  unfold dtV
  rw [if_pos]
  unfold inW at h0 h1 h2
  unfold fnI
  omega
 have s0:=ztq h0
 have s1:=ztq h1
 have s2:=ztq h2
 rw [e]
 refine ⟨rfl,by omega,by omega⟩
theorem zph {n:Nat} {fm fs:Nat->Int} {st g bx tp nr md:Int} (hc:zf6 n fm g bx tp nr md=true) (hr:zco st fs n=true) {i:Nat} (hi:i<n):0<=znw fm fs i/\znw fm fs i<=13194139533312:=by
 have h1:=zc0 hc hi
 obtain ⟨_,h2,h3,h4⟩:=zh8 hr hi
 obtain ⟨_,d0,d1⟩:=jaf h2 h3 h4
 unfold znw
 exact ⟨Int.mul_nonneg (by omega) d0,Int.mul_le_mul h1.2 d1 d0 (by omega)⟩
def jlr (nk i:Nat) (x:Nat->Int) (sl:Value) (ns:List (Nat×Blk)):Prop:=(i=0/\sl=.slice none 0 0/\ns=[])\/∃ (c:Nat) (g:Nat->Int),0<i/\i<=c/\(∀ j,j<4*i->g j=wF x j)/\sl=.slice (some ⟨nk,0,none⟩) i c/\ns=[(nk,zhs c g)]
def zgv (ks off n cap off2 n2 cap2:Nat) (g bx tp nr md st:Int):List (Nat×Blk):=[(200,cfB (.slice (some ⟨100,off,none⟩) n cap) g bx tp nr md),(208,zej st ks off2 n2 cap2),(216,wb 0)]
def z25 (L:List (Nat×Blk)) (ks off n cap off2 n2 cap2:Nat) (g bx tp nr md st:Int) (i:Nat) (sl:Value) (ns:List (Nat×Blk)):GS :=
 ⟨tsL [(2,.pointer (some ⟨200,0,none⟩)),(3,.pointer (some ⟨208,0,none⟩)),(4,.pointer (some ⟨216,0,none⟩)),(5,.int .i64 0),(6,sl),(19,.slice (some ⟨ks,off2,none⟩) n2 cap2),(20,.int .i64 n2),(21,.int .i64 i)],
 hpL G0 ((zgv ks off n cap off2 n2 cap2 g bx tp nr md st++ns)++L),300,0⟩
def kiI (L:List (Nat×Blk)) (ks off n cap off2 n2 cap2:Nat) (g bx tp nr md st:Int) (x:Nat->Int) (m:Nat) (s:GS):Prop:=∃ i sl ns,i+m=n2/\jlr 224 i x sl ns/\s=z25 L ks off n cap off2 n2 cap2 g bx tp nr md st i sl ns
theorem jai (L:List (Nat×Blk)) (ks:Nat) (bm bs:Blk) (hT:LTwo G0 L ks bm bs) (off n cap off2 n2 cap2:Nat) (fm fs:Nat->Int) (hm:MB bm off n fm) (hSb:SB bs off2 n2 fs) (hcap:n<=cap) (hcap2:n2<=cap2) (g bx tp nr md st:Int) (hs:i64 st) :
  Fun prog G0 67 #[cfV (.slice (some ⟨100,off,none⟩) n cap) g bx tp nr md,.agg #[.int .i64 st,.slice (some ⟨ks,off2,none⟩) n2 cap2]] (hpL G0 L) (zab L) (.ret (.tuple #[wd (jid n n2 (zf6 n fm g bx tp nr md) (zco st fs n2) fm fs),.int .i64 (jic n n2 (zf6 n fm g bx tp nr md) (zco st fs n2))]) []):=by
 refine zaz (B:=200) G0F func67 rfl call67 hT.ok ?_ (zak (by simp)) (by simp) (by simp) (by simp [ntmps67]) (by omega) ?_
 ·simp [zan,za0,zah,zal,hT.ia,hT.ib,cfV]
 intro C hC hC0 hY
 have hA:=hT.a
 have hS:=hT.s
 have hne:=hT.ne
 have hLow:=hT.low
 have hks:=hT.k1
 have hks2:=hT.k2
 have hrm:=λρ=>Blk.fx_rn hm.fx ρ
 have hrs:=λρ=>Blk.fx_rn hSb.fx ρ
 have hfit:=zh3 L ks bm bs hT off n cap off2 n2 cap2 fm fs hm hSb g bx tp nr md st hs
 unfold jid jic
 cases hf:zvg n n2 (zf6 n fm g bx tp nr md) (zco st fs n2) with
 | false =>
  rw [hf] at hfit
  unfold cfV at hfit |-
  repeat' first|refine gwZ ?_|((first|refine gwR [94] ?_|refine gwD [94] ?_);intro Q hQ _;(repeat first|simp [hC,hY,hA,hS,hne,zar]|refine zby hfit hT.ok zg0 ?_);refine gwq hQ ?_)|refine gwC ?_ ?_<;>intro hb
  refine ⟨.inr rfl,by simp [results67,zar],kpT G0F⟩
 | true =>
  rw [hf] at hfit
  obtain ⟨hnn,hok,hrt⟩:=ze2.1 hf
  subst hnn
  have hn4:=(zjl hrt).2.1
  unfold cfV at hfit |-
  repeat' first|refine gwZ ?_|((first|refine gwR [94] ?_|refine gwD [94] ?_);intro Q hQ _;(repeat first|simp [hC,hY,hA,hS,hne,zar]|refine zby hfit hT.ok zg0 ?_);refine gwq hQ ?_)|refine gwC ?_ ?_<;>intro hb
  refine zyn (kiI L ks off n cap off2 n cap2 g bx tp nr md st (znw fm fs)) (m0:=n) (s0:=z25 L ks off n cap off2 n cap2 g bx tp nr md st 0 (.slice none 0 0) []) ?_ ⟨0,_,_,by omega,.inl ⟨rfl,rfl,rfl⟩,rfl⟩ ?_
  ·refine zxw _ 300 hC G0F hT.ok hT.fx hC0 (by omega) ?_ ?_ zg0
   ·simp [zgv,zan,za0,zah,zal,dom,hA,hS,hne]
   ·simp [zgv,cfB,zej,wb,zac,zah,zal,dom,hA,hS,hne,zar]
  rintro m _ ⟨i,sl,ns,him,hV,rfl⟩
  by_cases hm0:m=0
  ·obtain rfl:i=n:=by omega
   rcases hV with ⟨h0,_,_⟩|⟨c,gg,hi0,hic,hg,rfl,rfl⟩
   ·exact absurd h0 (by omega)
   have hgi:=λD=>Blk.fx_ids (zd8 c gg) D
   have hgr:=λρ=>Blk.fx_rn (zd8 c gg) ρ
   have hsum:=z1r c i gg (znw fm fs) hic (by omega) hg λj hj=>by have:=zph hok hrt hj;omega
   have hb:=zpy (f:=znw fm fs) (n:=i) (lo:=0) (hi:=13194139533312) λj hj=>zph hok hrt hj
   have hb1:zdi (znw fm fs) i<=4*13194139533312:=Int.le_trans hb.2 (Int.mul_le_mul_of_nonneg_right (by omega) (by omega))
   have hb0:0<=zdi (znw fm fs) i:=by omega
   have w1:=zdb (zmm hb0 (by omega))
   have w2:sz 524288=524288:=by decide
   have i2:i64 524288:=by decide
   have ek:z5v fm fs i=zdi (znw fm fs) i*524288:=rfl
   unfold zhs at hgi hgr hsum
   unfold z25 zgv cfB zej wb zhs
   repeat' first|refine gwZ ?_|((first|refine gwR [100] ?_|refine gwD [100] ?_);intro Q hQ _;(repeat first|simp [hC,hY,hA,hS,hne,w1,w2,i2,zar]|refine zae hsum G0F (B:=200) (zxt c gg) (λk=>if k=100 then 224 else k) (λk hk=>if_neg (by omega)) (by simp [ren,zay,zaj,zam]) (by simp) (by simp [hgr]) (by simp [zab]) (by simp [zab];rfl) ?_);refine gwq hQ ?_)|refine gwC ?_ ?_<;>intro hb
   refine ⟨.inr rfl,by simp [results67,ek],kpT G0F⟩
  ·have hin:i<n:=by omega
   have hi':(i:Int)<n:=by omega
   have hz:(0:Int)<=i:=by omega
   have hs':Int.bmod ((i:Int)+1) 18446744073709551616=((i+1:Nat):Int):=by rw [Go.Gy.bm (by omega) (by omega)];rfl
   have hl:=hSb.body hin
   have hml:=hm.at hin
   have hkb:=zph hok hrt hin
   have hkx:znw fm fs i=fm i*dtV (fs (6*i+3)) (fs (6*i+4)) (fs (6*i+5)) (fs (6*i+3)) (fs (6*i+4)) (fs (6*i+5)):=rfl
   have hkb1:Int.bmod (fm i*dtV (fs (6*i+3)) (fs (6*i+4)) (fs (6*i+5)) (fs (6*i+3)) (fs (6*i+4)) (fs (6*i+5))) 18446744073709551616=znw fm fs i:=by rw [<-hkx];exact Go.Gy.bm (by omega) (by omega)
   have hki:i64 (znw fm fs i):=⟨by omega,by omega⟩
   rcases hV with ⟨rfl,rfl,rfl⟩|⟨c,gg,hi0,hic,hg,rfl,rfl⟩
   ·simp only [Nat.mul_zero,Nat.zero_mul,Nat.add_zero,Nat.zero_add] at hl hml hkb1
    unfold z25 zgv cfB zej wb
    repeat' first|refine gwZ ?_|(refine gwX ?_;intro Q hQ _;simp [hC,hY,hA,hS,hne,hin,hi',hz,hs',hl,hml,zar];refine gwq hQ ?_)|refine gwC ?_ ?_<;>intro hb
    refine zdf ?_
    simp only [Array.toList]
    refine gwl 10 ?_;intro Q hQ;simp [hC,hY,hA,hS,hne,hin,hi',hz,hs',hl,hml,hkb1,hki,zar];apply hQ
    simp only [wT,wM,Nat.reduceAdd]
    refine zp8 .u64 (m:=4) (i:=0) (j:=508) (by':=32) (z:=.agg #[.int .u64 0,.int .u64 0,.int .u64 0,.int .u64 0]) (T2:=.ty 30) (G:=wF (znw fm fs)) (ev:=λu=>wi (znw fm fs 0) u) rfl (by simp) rfl underlying118 (zai sizeOf30) (by kernel_rfl) (by kernel_rfl) (by omega) (by simp [Value.cells]) (by simp [Value.cells]) (by omega) (by omega) (.inl ⟨rfl,by simp⟩) (by simp) (by simp [zjt]) (λu hu=>?_) (by omega) ?_
    ·unfold wF
     rw [show (4*0+u) / 4=0 by omega,show (4*0+u)%4=u by omega]
    ·rintro k' c' g' hk' hk100 hc' hg'
     obtain rfl:k'=516:=by
      rcases hk' with hk'|⟨c,hk'⟩
      ·exact hk'
      ·simp at hk'
     refine gwl 1 ?_;intro Q hQ;simp [hC,hY,zcq];apply hQ
     simp only [wT,wM,Nat.reduceAdd]
     refine zec ?_
     repeat' first|refine gwZ ?_|(refine gwX ?_;intro Q hQ _;simp [hC,hY,hs'];refine gwq hQ ?_)|refine gwC ?_ ?_<;>intro hb
     refine ⟨λk=>if k=224 then 516 else k,z25 L ks off n cap off2 n cap2 g bx tp nr md st (0+1) (.slice (some ⟨224,0,none⟩) (0+1) c') [(224,zhs c' g')],n - (0+1),?_,⟨0+1,_,_,by omega,.inr ⟨c',g',by omega,hc',hg',rfl,rfl⟩,rfl⟩,by omega⟩
     have hfi:=λD=>Blk.fx_ids (zd8 c' g') D
     have hfm:=λρ=>zqr (show Blk.fx ⟨fa (4*c') .u64 g',.ty 30⟩ from zd8 c' g') ρ
     unfold zhs at hfi
     refine zmi (s:=GS.mk _ _ _ 0) _ _ 300 hC G0F hT.ok hT.fx hC0 (by omega) ?_ ?_ ?_ ?_ zg0
     ·simp [zgv,zhs,dom,zcj,ren,zay,zaj,zam,zan,za0,zah,zal,hs',hA,hS,hne]
     ·simp [zgv,zhs,cfB,zej,wb,Blk.rn,zaj,zam,zac,zah,zal,dom,hfi,hfm,hA,hS,hne,zar]
     ·simp [zgv]
     ·intro k hk;simp<;>omega
   ·have hgi:=λD=>Blk.fx_ids (zd8 c gg) D
    unfold zhs at hgi
    unfold z25 zgv cfB zej wb zhs
    repeat' first|refine gwZ ?_|(refine gwX ?_;intro Q hQ _;simp [hC,hY,hA,hS,hne,hin,hi',hz,hs',hl,hml,zar];refine gwq hQ ?_)|refine gwC ?_ ?_<;>intro hb
    refine zdf ?_
    simp only [Array.toList]
    refine gwl 10 ?_;intro Q hQ;simp [hC,hY,hA,hS,hne,hin,hi',hz,hs',hl,hml,hkb1,hki,zar];apply hQ
    simp only [wT,wM,Nat.reduceAdd]
    refine zp8 .u64 (m:=4) (i:=i) (j:=508) (by':=32) (z:=.agg #[.int .u64 0,.int .u64 0,.int .u64 0,.int .u64 0]) (T2:=.ty 30) (G:=wF (znw fm fs)) (ev:=λu=>wi (znw fm fs i) u) rfl (by simp) rfl underlying118 (zai sizeOf30) (by kernel_rfl) (by kernel_rfl) (by omega) (by simp [Value.cells]) (by simp [Value.cells]) (by omega) (by omega) (.inr ⟨224,c,gg,by omega,by simp,by simp,hic,hg⟩) (by simp) (by simp [zjt]) (λu hu=>?_) (by omega) ?_
    ·unfold wF
     rw [show (4*i+u) / 4=i by omega,show (4*i+u)%4=u by omega]
    ·rintro k' c' g' hk' hk100 hc' hg'
     have hk':k'=516\/k'=224:=by
      rcases hk' with hk'|⟨c,hk'⟩
      ·exact .inl hk'
      ·simp at hk';exact .inr hk'.1.symm
     rcases hk' with rfl|rfl
     ·
      refine gwl 1 ?_;intro Q hQ;simp [hC,hY,zcq];apply hQ
      simp only [wT,wM,Nat.reduceAdd]
      refine zec ?_
      repeat' first|refine gwZ ?_|(refine gwX ?_;intro Q hQ _;simp [hC,hY,hs'];refine gwq hQ ?_)|refine gwC ?_ ?_<;>intro hb
      refine ⟨λk=>if k=224 then 516 else k,z25 L ks off n cap off2 n cap2 g bx tp nr md st (i+1) (.slice (some ⟨224,0,none⟩) (i+1) c') [(224,zhs c' g')],n - (i+1),?_,⟨i+1,_,_,by omega,.inr ⟨c',g',by omega,hc',hg',rfl,rfl⟩,rfl⟩,by omega⟩
      have hfi:=λD=>Blk.fx_ids (zd8 c' g') D
      have hfm:=λρ=>zqr (show Blk.fx ⟨fa (4*c') .u64 g',.ty 30⟩ from zd8 c' g') ρ
      unfold zhs at hfi
      refine zmi (s:=GS.mk _ _ _ 0) _ _ 300 hC G0F hT.ok hT.fx hC0 (by omega) ?_ ?_ ?_ ?_ zg0
      ·simp [zgv,zhs,dom,zcj,ren,zay,zaj,zam,zan,za0,zah,zal,hs',hA,hS,hne]
      ·simp [zgv,zhs,cfB,zej,wb,Blk.rn,zaj,zam,zac,zah,zal,dom,hfi,hfm,hA,hS,hne,zar]
      ·simp [zgv]
      ·intro k hk;simp<;>omega
     ·
      refine gwl 1 ?_;intro Q hQ;simp [hC,hY,zcq];apply hQ
      simp only [wT,wM,Nat.reduceAdd]
      refine zec ?_
      repeat' first|refine gwZ ?_|(refine gwX ?_;intro Q hQ _;simp [hC,hY,hs'];refine gwq hQ ?_)|refine gwC ?_ ?_<;>intro hb
      refine ⟨λk=>k,z25 L ks off n cap off2 n cap2 g bx tp nr md st (i+1) (.slice (some ⟨224,0,none⟩) (i+1) c') [(224,zhs c' g')],n - (i+1),?_,⟨i+1,_,_,by omega,.inr ⟨c',g',by omega,hc',hg',rfl,rfl⟩,rfl⟩,by omega⟩
      have hfi:=λD=>Blk.fx_ids (zd8 c' g') D
      have hfm:=λρ=>zqr (show Blk.fx ⟨fa (4*c') .u64 g',.ty 30⟩ from zd8 c' g') ρ
      unfold zhs at hfi
      refine zmi (s:=GS.mk _ _ _ 0) _ _ 300 hC G0F hT.ok hT.fx hC0 (by omega) ?_ ?_ ?_ ?_ zg0
      ·simp [zgv,zhs,dom,zcj,ren,zay,zaj,zam,zan,za0,zah,zal,hs',hA,hS,hne]
      ·simp [zgv,zhs,cfB,zej,wb,Blk.rn,zaj,zam,zac,zah,zal,dom,hfi,hfm,hA,hS,hne,zar]
      ·simp [zgv]
      ·intro k hk;simp<;>omega
end Go.Gy
