/-
  Lemmas of this claim, in their order (GyCB, GyCC, GyCD, GyCE, GyCF, GyEF, GyEP, GyEQ, GyER, GyNA, GyWI, GyCG, GyLJ, GyPA, GyFC, GyFB, GyFF, GyWO, GyPV, GyU2, GyU3, GyU4, GyU5, GyU6, GyU7).
  Conditions: those of each theorem.
-/
import Derived.Test.YtmnknnojkhkceaaDoorGz04
namespace Go.Gy
set_option linter.unusedSimpArgs false
set_option linter.unusedVariables false
open Go Go.RowKit Go.Proofs
def mT (sl:Value) (n:Nat) (g bx tp nr:Int):List (Nat × Nat × Value) := [(0,4,.map (some 224)),
  (1,5,.func (.func 61) #[] #[]),
  (2,6,.pointer (some ⟨200,0,none⟩)),
  (3,7,sl),
  (4,8,.int .i64 n),
  (5,9,.func (.func 62) #[] #[.pointer (some ⟨264,0,none⟩),.pointer (some ⟨265,0,none⟩)]),
  (7,10,.func (.func 64) #[] #[.pointer (some ⟨200,0,none⟩)]),
  (9,11,.func (.func 61) #[] #[]),
  (10,12,.pointer (some ⟨200,1,none⟩)),
  (11,13,.int .i64 g),
  (12,14,.func (.func 62) #[] #[.pointer (some ⟨320,0,none⟩),.pointer (some ⟨321,0,none⟩)]),
  (14,15,.func (.func 61) #[] #[]),
  (15,16,.pointer (some ⟨200,2,none⟩)),
  (16,17,.int .i64 bx),
  (17,18,.func (.func 62) #[] #[.pointer (some ⟨360,0,none⟩),.pointer (some ⟨361,0,none⟩)]),
  (19,19,.func (.func 61) #[] #[]),
  (20,20,.pointer (some ⟨200,3,none⟩)),
  (21,21,.int .i64 tp),
  (22,22,.func (.func 62) #[] #[.pointer (some ⟨400,0,none⟩),.pointer (some ⟨401,0,none⟩)]),
  (24,23,.func (.func 61) #[] #[]),
  (25,24,.pointer (some ⟨200,4,none⟩)),
  (26,25,.int .i64 nr),
  (27,26,.pointer (some ⟨200,2,none⟩)),
  (28,27,.int .i64 bx),
  (29,28,.int .i64 (Int.bmod (2 * bx) 18446744073709551616)),
  (30,29,.func (.func 62) #[] #[.pointer (some ⟨464,0,none⟩),.pointer (some ⟨465,0,none⟩)]),
  (32,30,.func (.func 67) #[] #[.pointer (some ⟨200,0,none⟩)]),
  (34,31,.map (some 224)),
  (35,2,.map (some 224))]
def mI:List (Nat × ByteArray × Value) := [(6,⟨#[98,111,100,105,101,115]⟩,.func (.func 62) #[] #[.pointer (some ⟨264,0,none⟩),.pointer (some ⟨265,0,none⟩)]),
  (8,⟨#[109,97,115,115]⟩,.func (.func 64) #[] #[.pointer (some ⟨200,0,none⟩)]),
  (13,⟨#[99,111,110,115,116,97,110,116]⟩,.func (.func 62) #[] #[.pointer (some ⟨320,0,none⟩),.pointer (some ⟨321,0,none⟩)]),
  (18,⟨#[98,111,120]⟩,.func (.func 62) #[] #[.pointer (some ⟨360,0,none⟩),.pointer (some ⟨361,0,none⟩)]),
  (23,⟨#[116,111,112]⟩,.func (.func 62) #[] #[.pointer (some ⟨400,0,none⟩),.pointer (some ⟨401,0,none⟩)]),
  (31,⟨#[110,101,97,114]⟩,.func (.func 62) #[] #[.pointer (some ⟨464,0,none⟩),.pointer (some ⟨465,0,none⟩)]),
  (33,⟨#[109,101,116,104,111,100]⟩,.func (.func 67) #[] #[.pointer (some ⟨200,0,none⟩)])]
def mX (n:Nat) (g bx tp nr:Int):List (Nat × Nat × Blk) := [(5,264,jb (n:Int)),(5,265,jb 4),
  (12,320,jb g),(12,321,jb 1048576),
  (17,360,jb bx),(17,361,jb 1048576),
  (22,400,jb tp),(22,401,jb 65536),
  (30,464,jb nr),(30,465,jb (Int.bmod (2 * bx) 18446744073709551616))]
structure MI (b:Blk) (sl:Value) (n:Nat) (g bx tp nr md:Int) (listed:Array Bool) (ts:Nat → Value) (hp:Hp):Prop where
 t1:ts 1 = .pointer (some ⟨200,0,none⟩)
 t3:ts 3 = .func (.func 61) #[] #[]
 tm:∀ p ∈ mT sl n g bx tp nr,listed[p.1]? = some true → ts p.2.1 = p.2.2
 low:∀ k,k < 100 → hp k = G0 k
 b:hp 100 = some b
 c:hp 200 = some (cfB sl g bx tp nr md)
 bx:∀ q ∈ mX n g bx tp nr,listed[q.1]? = some true → hp q.2.1 = some q.2.2
 mp:listed[0]? = some true → ∃ l,hp 224 = some (mpB l) ∧ (∀ p ∈ l,∃ q ∈ mI,p = q.2 ∧ listed[q.1]? = some true) ∧ ∀ q ∈ mI,listed[q.1]? = some true → findL q.2.1 l = some q.2.2
 i0:∀ q ∈ mI,listed[q.1]? = some true → listed[0]? = some true
theorem set_keep {listed:Array Bool} {i j:Nat} (h:listed[j]? = some true):(listed.setIfInBounds i true)[j]? = some true := by
 rw [Array.getElem?_setIfInBounds]
 split
 ·split
  ·rfl
  ·rename_i e hlt
   subst e
   exact absurd (Array.getElem?_eq_some_iff.1 h).1 hlt
 ·exact h
theorem set_get {listed:Array Bool} {i j:Nat} (h:(listed.setIfInBounds i true)[j]? = some true):j = i ∨ listed[j]? = some true := by
 rw [Array.getElem?_setIfInBounds] at h
 by_cases e:i = j
 ·exact .inl e.symm
 ·rw [if_neg e] at h; exact .inr h
theorem mT_tmp (sl:Value) (n:Nat) (g bx tp nr:Int):∀ p ∈ mT sl n g bx tp nr,∀ q ∈ mT sl n g bx tp nr,p.1 = q.1 ∨ p.2.1 = q.2.1 → p = q := by
 intro p hp q hq
 simp only [mT,List.mem_cons,List.not_mem_nil,or_false] at hp hq
 rcases hp with rfl | rfl | rfl | rfl | rfl | rfl | rfl | rfl | rfl | rfl | rfl | rfl | rfl | rfl | rfl | rfl | rfl | rfl | rfl | rfl | rfl | rfl | rfl | rfl | rfl | rfl | rfl | rfl | rfl <;> rcases hq with rfl | rfl | rfl | rfl | rfl | rfl | rfl | rfl | rfl | rfl | rfl | rfl | rfl | rfl | rfl | rfl | rfl | rfl | rfl | rfl | rfl | rfl | rfl | rfl | rfl | rfl | rfl | rfl | rfl <;> simp
theorem mT_13 (sl:Value) (n:Nat) (g bx tp nr:Int):∀ p ∈ mT sl n g bx tp nr,p.2.1 ≠ 1 ∧ p.2.1 ≠ 3 := by simp [mT]
theorem mT_mI (sl:Value) (n:Nat) (g bx tp nr:Int):∀ p ∈ mT sl n g bx tp nr,∀ q ∈ mI,p.1 ≠ q.1 := by simp [mT,mI]
theorem mI_key:∀ p ∈ mI,∀ q ∈ mI,p.1 = q.1 ∨ (p.2.1 == q.2.1) = false := by
 intro p hp q hq
 simp only [mI,List.mem_cons,List.not_mem_nil,or_false] at hp hq
 rcases hp with rfl | rfl | rfl | rfl | rfl | rfl | rfl <;> rcases hq with rfl | rfl | rfl | rfl | rfl | rfl | rfl <;> first | exact .inl rfl | (right; decide +kernel)
theorem mI_one:∀ p ∈ mI,∀ q ∈ mI,p.1 = q.1 → p = q := by
 intro p hp q hq
 simp only [mI,List.mem_cons,List.not_mem_nil,or_false] at hp hq
 rcases hp with rfl | rfl | rfl | rfl | rfl | rfl | rfl <;> rcases hq with rfl | rfl | rfl | rfl | rfl | rfl | rfl <;> simp
theorem mI_self:∀ p ∈ mI,(p.2.1 == p.2.1) = true := by
 intro p hp
 simp only [mI,List.mem_cons,List.not_mem_nil,or_false] at hp
 rcases hp with rfl | rfl | rfl | rfl | rfl | rfl | rfl <;> decide +kernel
section
variable {b:Blk} {sl:Value} {n:Nat} {g bx tp nr md:Int} {listed:Array Bool} {ts:Nat → Value} {hp:Hp}
theorem MI.tmp (h:MI b sl n g bx tp nr md listed ts hp) {i t:Nat} {v:Value} (hm:(i,t,v) ∈ mT sl n g bx tp nr) (hx:∀ q ∈ mX n g bx tp nr,q.1 ≠ i) (hi:i ≠ 0):MI b sl n g bx tp nr md (listed.setIfInBounds i true) (upd ts t v) hp := by
 have h13 := mT_13 sl n g bx tp nr _ hm
 refine ⟨by rw [upd_other _ _ (fun e => h13.1 e.symm)]; exact h.t1,by rw [upd_other _ _ (fun e => h13.2 e.symm)]; exact h.t3,fun p hp hl => ?_,h.low,h.b,h.c,fun q hq hl => ?_,fun hl => ?_,fun q hq hl => (set_get hl).elim (fun e1 => absurd e1.symm (mT_mI sl n g bx tp nr _ hm q hq)) fun h1 => set_keep (h.i0 q hq h1)⟩
 ·by_cases e:p.2.1 = t
  ·have := mT_tmp sl n g bx tp nr p hp _ hm (.inr e)
   subst this
   exact upd_same _ _ _
  ·rw [upd_other _ _ e]
   rcases set_get hl with e1 | h1
   ·exact absurd (congrArg (fun x => x.2.1) (mT_tmp sl n g bx tp nr p hp _ hm (.inl e1))) e
   ·exact h.tm p hp h1
 ·rcases set_get hl with e1 | h1
  ·exact absurd e1 (hx q hq)
  ·exact h.bx q hq h1
 ·rcases set_get hl with e1 | h1
  ·exact absurd e1.symm hi
  ·obtain ⟨l,l1,l2,l3⟩ := h.mp h1
   refine ⟨l,l1,fun p hp => ?_,fun q hq hl2 => ?_⟩
   ·obtain ⟨q,hq,e,h2⟩ := l2 p hp
    refine ⟨q,hq,e,?_⟩
    rw [Array.getElem?_setIfInBounds,if_neg (fun e => mT_mI sl n g bx tp nr _ hm q hq e)]
    exact h2
   ·rcases set_get hl2 with e1 | h2
    ·exact absurd e1.symm (mT_mI sl n g bx tp nr _ hm q hq)
    ·exact l3 q hq h2
theorem MI.mkm (h:MI b sl n g bx tp nr md listed ts hp) (h0:listed[0]? = some false):MI b sl n g bx tp nr md (listed.setIfInBounds 0 true) (upd ts 4 (.map (some 224))) (upd hp 224 (some (mpB []))) := by
 have hm:(0,4,Value.map (some 224)) ∈ mT sl n g bx tp nr := by simp [mT]
 refine ⟨by rw [upd_other _ _ (by omega)]; exact h.t1,by rw [upd_other _ _ (by omega)]; exact h.t3,fun p hp hl => ?_,fun k hk => by rw [upd_other _ _ (by omega)]; exact h.low k hk,by rw [upd_other _ _ (by omega)]; exact h.b,by rw [upd_other _ _ (by omega)]; exact h.c,fun q hq hl => ?_,fun _ => ⟨[],upd_same _ _ _,by simp,fun q hq hl => ?_⟩,fun q hq hl => by simp [Array.getElem?_setIfInBounds,(Array.getElem?_eq_some_iff.1 h0).1]⟩
 ·by_cases e:p.2.1 = 4
  ·have := mT_tmp sl n g bx tp nr p hp _ hm (.inr e)
   subst this
   exact upd_same _ _ _
  ·rw [upd_other _ _ e]
   rcases set_get hl with e1 | h1
   ·exact absurd (congrArg (fun x => x.2.1) (mT_tmp sl n g bx tp nr p hp _ hm (.inl e1))) e
   ·exact h.tm p hp h1
 ·have hq2:q.1 ≠ 0 ∧ q.2.1 ≠ 224 := (show ∀ q ∈ mX n g bx tp nr,q.1 ≠ 0 ∧ q.2.1 ≠ 224 by simp [mX]) q hq
  rw [upd_other _ _ hq2.2]
  rcases set_get hl with e1 | h1
  ·exact absurd e1 hq2.1
  ·exact h.bx q hq h1
 ·have hq2:q.1 ≠ 0 := (show ∀ q ∈ mI,q.1 ≠ 0 by simp [mI]) q hq
  rcases set_get hl with e1 | h1
  ·exact absurd e1 hq2
  ·rw [h.i0 q hq h1] at h0; cases h0
theorem MI.call (h:MI b sl n g bx tp nr md listed ts hp) {i t nk:Nat} {v:Value} {a m:Int} (hm:(i,t,v) ∈ mT sl n g bx tp nr) (hnk:225 ≤ nk) (hi:i ≠ 0) (hx:∀ q ∈ mX n g bx tp nr,(q.1 = i → (q.2.1 = nk ∧ q.2.2 = jb a) ∨ (q.2.1 = nk + 1 ∧ q.2.2 = jb m)) ∧ (q.1 ≠ i → q.2.1 ≠ nk ∧ q.2.1 ≠ nk + 1)) :
  MI b sl n g bx tp nr md (listed.setIfInBounds i true) (upd ts t v) (upd (upd hp nk (some (jb a))) (nk + 1) (some (jb m))) := by
 have h13 := mT_13 sl n g bx tp nr _ hm
 refine ⟨by rw [upd_other _ _ (fun e => h13.1 e.symm)]; exact h.t1,by rw [upd_other _ _ (fun e => h13.2 e.symm)]; exact h.t3,fun p hp hl => ?_,fun k hk => by rw [upd_other _ _ (by omega),upd_other _ _ (by omega)]; exact h.low k hk,by rw [upd_other _ _ (by omega),upd_other _ _ (by omega)]; exact h.b,by rw [upd_other _ _ (by omega),upd_other _ _ (by omega)]; exact h.c,fun q hq hl => ?_,fun hl => ?_,fun q hq hl => (set_get hl).elim (fun e1 => absurd e1.symm (mT_mI sl n g bx tp nr _ hm q hq)) fun h1 => set_keep (h.i0 q hq h1)⟩
 ·by_cases e:p.2.1 = t
  ·have := mT_tmp sl n g bx tp nr p hp _ hm (.inr e)
   subst this
   exact upd_same _ _ _
  ·rw [upd_other _ _ e]
   rcases set_get hl with e1 | h1
   ·exact absurd (congrArg (fun x => x.2.1) (mT_tmp sl n g bx tp nr p hp _ hm (.inl e1))) e
   ·exact h.tm p hp h1
 ·by_cases e:q.1 = i
  ·rcases (hx q hq).1 e with ⟨e1,e2⟩ | ⟨e1,e2⟩
   ·rw [e1,e2,upd_other _ _ (by omega),upd_same]
   ·rw [e1,e2,upd_same]
  ·obtain ⟨e1,e2⟩ := (hx q hq).2 e
   rw [upd_other _ _ e2,upd_other _ _ e1]
   rcases set_get hl with e3 | h1
   ·exact absurd e3 e
   ·exact h.bx q hq h1
 ·rcases set_get hl with e1 | h1
  ·exact absurd e1.symm hi
  ·obtain ⟨l,l1,l2,l3⟩ := h.mp h1
   refine ⟨l,by rw [upd_other _ _ (by omega),upd_other _ _ (by omega)]; exact l1,fun p hp => ?_,fun q hq hl2 => ?_⟩
   ·obtain ⟨q,hq,e,h2⟩ := l2 p hp
    refine ⟨q,hq,e,?_⟩
    rw [Array.getElem?_setIfInBounds,if_neg (fun e => mT_mI sl n g bx tp nr _ hm q hq e)]
    exact h2
   ·rcases set_get hl2 with e1 | h2
    ·exact absurd e1.symm (mT_mI sl n g bx tp nr _ hm q hq)
    ·exact l3 q hq h2
theorem findL_app {s:ByteArray} {v:Value} {k:ByteArray}:∀ (l:List (ByteArray × Value)),findL k (l ++ [(s,v)]) = match findL k l with | some u => some u | none => if (k == s) = true then some v else none
 | [] => rfl
 | p :: l => by
  simp only [List.cons_append,findL]
  split
  ·rfl
  ·exact findL_app l
theorem MI.fresh (h:MI b sl n g bx tp nr md listed ts hp) {i:Nat} {s:ByteArray} {v:Value} (hm:(i,s,v) ∈ mI) (hi:listed[i]? = some false) {l:List (ByteArray × Value)} (hl:∀ p ∈ l,∃ q ∈ mI,p = q.2 ∧ listed[q.1]? = some true):findL s l = none := by
 induction l with
 | nil => rfl
 | cons p l ih =>
  simp only [findL]
  obtain ⟨q,hq,e,h2⟩ := hl p (by simp)
  have:(s == p.1) = false := by
   rw [e]
   rcases mI_key _ hm q hq with e1 | e1
   ·have e1:i = q.1 := e1
    rw [← e1,hi] at h2
    cases h2
   ·exact e1
  rw [this]
  exact ih fun p hp => hl p (List.mem_cons_of_mem _ hp)
theorem MI.ins (h:MI b sl n g bx tp nr md listed ts hp) {i:Nat} {s:ByteArray} {v:Value} (hm:(i,s,v) ∈ mI) (hlt:i < listed.size) {l:List (ByteArray × Value)} (hl:∀ p ∈ l,∃ q ∈ mI,p = q.2 ∧ listed[q.1]? = some true) (hf:∀ q ∈ mI,listed[q.1]? = some true → findL q.2.1 l = some q.2.2) (hn:findL s l = none) (h00:listed[0]? = some true) :
  MI b sl n g bx tp nr md (listed.setIfInBounds i true) ts (upd hp 224 (some (mpB (l ++ [(s,v)])))) := by
 refine ⟨h.t1,h.t3,fun p hp hl => ?_,fun k hk => by rw [upd_other _ _ (by omega)]; exact h.low k hk,by rw [upd_other _ _ (by omega)]; exact h.b,by rw [upd_other _ _ (by omega)]; exact h.c,fun q hq hl => ?_,fun _ => ⟨_,upd_same _ _ _,fun p hp => ?_,fun q hq hl2 => ?_⟩,fun q hq hl => set_keep h00⟩
 ·rcases set_get hl with e1 | h1
  ·exact absurd e1 (mT_mI sl n g bx tp nr p hp _ hm)
  ·exact h.tm p hp h1
 ·have hq2:q.2.1 ≠ 224 := (show ∀ q ∈ mX n g bx tp nr,q.2.1 ≠ 224 by simp [mX]) q hq
  have hq3:∀ p ∈ mI,q.1 ≠ p.1 := (show ∀ q ∈ mX n g bx tp nr,∀ p ∈ mI,q.1 ≠ p.1 by simp [mX,mI]) q hq
  rw [upd_other _ _ hq2]
  rcases set_get hl with e1 | h1
  ·exact absurd e1 (hq3 _ hm)
  ·exact h.bx q hq h1
 ·rcases List.mem_append.1 hp with hp | hp
  ·obtain ⟨q,hq,e,h2⟩ := hl p hp
   refine ⟨q,hq,e,?_⟩
   exact set_keep h2
  ·simp only [List.mem_singleton] at hp
   subst hp
   refine ⟨_,hm,rfl,?_⟩
   simp [Array.getElem?_setIfInBounds,hlt]
 ·rw [findL_app]
  rcases set_get hl2 with e1 | h2
  ·have := mI_one q hq _ hm e1
   subst this
   simp only [hn]
   rw [mI_self _ hm]
   rfl
  ·rw [hf q hq h2]
end
def mV (nk:Nat):List (ByteArray × Value) := [(⟨#[98,111,100,105,101,115]⟩,.func (.func 62) #[] #[.pointer (some ⟨nk + 2,0,none⟩),.pointer (some ⟨nk + 3,0,none⟩)]),
  (⟨#[109,97,115,115]⟩,.func (.func 64) #[] #[.pointer (some ⟨nk + 1,0,none⟩)]),
  (⟨#[99,111,110,115,116,97,110,116]⟩,.func (.func 62) #[] #[.pointer (some ⟨nk + 4,0,none⟩),.pointer (some ⟨nk + 5,0,none⟩)]),
  (⟨#[98,111,120]⟩,.func (.func 62) #[] #[.pointer (some ⟨nk + 6,0,none⟩),.pointer (some ⟨nk + 7,0,none⟩)]),
  (⟨#[116,111,112]⟩,.func (.func 62) #[] #[.pointer (some ⟨nk + 8,0,none⟩),.pointer (some ⟨nk + 9,0,none⟩)]),
  (⟨#[110,101,97,114]⟩,.func (.func 62) #[] #[.pointer (some ⟨nk + 10,0,none⟩),.pointer (some ⟨nk + 11,0,none⟩)]),
  (⟨#[109,101,116,104,111,100]⟩,.func (.func 67) #[] #[.pointer (some ⟨nk + 1,0,none⟩)])]
def mNs (nk:Nat) (l:List (ByteArray × Value)) (sl:Value) (n:Nat) (g bx tp nr md:Int):List (Nat × Blk) := [(nk,mpB l),(nk + 1,cfB sl g bx tp nr md),(nk + 2,jb (n:Int)),(nk + 3,jb 4),(nk + 4,jb g),(nk + 5,jb 1048576),(nk + 6,jb bx),(nk + 7,jb 1048576),(nk + 8,jb tp),(nk + 9,jb 65536),(nk + 10,jb nr),(nk + 11,jb (Int.bmod (2 * bx) 18446744073709551616))]
def MustsR (nk:Nat) (sl:Value) (n:Nat) (g bx tp nr md:Int) (v:Value) (ns:List (Nat × Blk)):Prop := ∃ l,v = .map (some nk) ∧ ns = mNs nk l sl n g bx tp nr md ∧ (∀ p ∈ l,p ∈ mV nk) ∧ ∀ q ∈ mV nk,findL q.1 l = some q.2
theorem findL_map {s:ByteArray} {h:Value → Value}:∀ l:List (ByteArray × Value),findL s (l.map fun p => (p.1,h p.2)) = (findL s l).map h
 | [] => rfl
 | p :: l => by
  simp only [List.map_cons,findL]
  split
  ·rfl
  ·exact findL_map l
theorem mpB_rn (ρ:Nat → Nat) (l:List (ByteArray × Value)):(mpB l).rn ρ = mpB (l.map fun p => (p.1,renF ρ p.2)) := by
 unfold mpB Blk.rn mpC
 simp only [List.map_toArray,List.map_flatMap,List.flatMap_map,List.map_cons,List.map_nil]
 rfl
def mR (k:Nat):Nat := if k = 1000 then 224 else if k = 1001 then 200 else if k = 1002 then 264 else if k = 1003 then 265 else if k = 1004 then 320 else if k = 1005 then 321 else if k = 1006 then 360 else if k = 1007 then 361 else if k = 1008 then 400 else if k = 1009 then 401 else if k = 1010 then 464 else if k = 1011 then 465 else k
def mS (k:Nat):Nat := if k = 224 then 1000 else if k = 200 then 1001 else if k = 264 then 1002 else if k = 265 then 1003 else if k = 320 then 1004 else if k = 321 then 1005 else if k = 360 then 1006 else if k = 361 then 1007 else if k = 400 then 1008 else if k = 401 then 1009 else if k = 464 then 1010 else if k = 465 then 1011 else k
set_option maxRecDepth 8000 in
set_option maxHeartbeats 8000000 in
theorem musts_fun (b:Blk) (hb:b.fx) (off n cap:Nat) (g bx tp nr md:Int) :
  FunS Tryd.prog G0 49 #[cfV (.slice (some ⟨100,off,none⟩) n cap) g bx tp nr md] (hpL G0 [(100,b)]) (keys [(100,b)]) (MustsR 1000 (.slice (some ⟨100,off,none⟩) n cap) n g bx tp nr md) := by
 refine newS_ofL (B := 200) G0F Tryd.func49 rfl Tryd.call49 (oneL_ok hb) ?_ ?_ (by simp [Tryd.ntmps49]) (by omega) ?_
 ·simp [idsV,idsA,idsF,ids0,keys,cfV]
 ·rintro v ns ⟨l,rfl,rfl,hl,_⟩
  have hl2:∀ D:Nat → Prop,(∀ k,1000 ≤ k → k < 1012 → D k) → (mpB l).ids D := fun D hD => mpB_ids.2 fun p hp => by
   have := hl p hp
   simp only [mV,List.mem_cons,List.not_mem_nil,or_false] at this
   rcases this with rfl | rfl | rfl | rfl | rfl | rfl | rfl <;> simp [idsF,ids0,hD]
  refine ⟨by simp [idsV,idsA,idsF,ids0,extD,keys,mNs],?_,?_⟩
  ·intro p hp
   simp only [mNs,List.mem_cons,List.not_mem_nil,or_false] at hp
   have hD:∀ k,1000 ≤ k → k < 1012 → extD (fun k => k ∈ keys [(100,b)]) (mNs 1000 l (.slice (some ⟨100,off,none⟩) n cap) n g bx tp nr md) k := fun k hk1 hk2 => .inr (by
    simp only [mNs,keys,List.map_cons,List.map_nil,List.mem_cons,List.not_mem_nil,or_false]
    omega)
   rcases hp with rfl | rfl | rfl | rfl | rfl | rfl | rfl | rfl | rfl | rfl | rfl | rfl
   ·exact ⟨by omega,hl2 _ hD⟩
   ·exact ⟨by omega,by simp [cfB,ids_lit,idsF,ids0,extD,keys]⟩
   all_goals exact ⟨by omega,by simp [jb,ids_lit,idsF,ids0]⟩
  ·intro k b c h1 h2
   simp only [mNs,List.mem_cons,List.not_mem_nil,or_false,Prod.mk.injEq] at h1 h2
   rcases h1 with ⟨e1,rfl⟩ | ⟨e1,rfl⟩ | ⟨e1,rfl⟩ | ⟨e1,rfl⟩ | ⟨e1,rfl⟩ | ⟨e1,rfl⟩ | ⟨e1,rfl⟩ | ⟨e1,rfl⟩ | ⟨e1,rfl⟩ | ⟨e1,rfl⟩ | ⟨e1,rfl⟩ | ⟨e1,rfl⟩ <;> rcases h2 with ⟨e2,rfl⟩ | ⟨e2,rfl⟩ | ⟨e2,rfl⟩ | ⟨e2,rfl⟩ | ⟨e2,rfl⟩ | ⟨e2,rfl⟩ | ⟨e2,rfl⟩ | ⟨e2,rfl⟩ | ⟨e2,rfl⟩ | ⟨e2,rfl⟩ | ⟨e2,rfl⟩ | ⟨e2,rfl⟩ <;> first | rfl | omega
 intro C hC hC0 hY
 unfold cfV
 repeat' (first | refine gwA ?_ | ((first | refine gwR [] ?_ | refine gwD [] ?_); intro Q hQ hP; simp [hC,hY]; refine hQ _ _ _ _ (by kernel_rfl) ?_; clear hQ hP Q) | (refine gwC ?_ ?_ <;> (intro hb; first | (cases hb; done) | skip)))
 refine GW_any follows ?_
 simp only [Array.toList,List.length_cons,List.length_nil,Nat.reduceAdd]
 obtain ⟨sl,hsl⟩:∃ sl,Value.slice (some ⟨100,off,none⟩) n cap = sl := ⟨_,rfl⟩
 refine GA_ind (MI b sl n g bx tp nr md) (fun listed ts hp hs hr hI => ?_) (fun fuel listed ts hp i hs hi hdep h hk => ?_) _ _ _ _ (by simp) (by decide +kernel) ?_
 ·have hall := ready_nil hs (by kernel_rfl) hr
  have hall:∀ i,i < 36 → listed[i]? = some true := fun i hi => hall i (by simpa using hi)
  obtain ⟨l,l1,l2,l3⟩ := hI.mp (hall 0 (by omega))
  have h2 := hI.tm (35,2,.map (some 224)) (by simp [mT]) (hall 35 (by omega))
  have hinv:∀ q ∈ mI,renF mR (renF mS q.2.2) = q.2.2 := by simp [mI,renF,ren0,mR,mS]
  have hcan:∀ q ∈ mI,(q.2.1,renF mS q.2.2) ∈ mV 1000 := by simp [mI,mV,renF,ren0,mS]
  have hfind:∀ q ∈ mV 1000,∃ p ∈ mI,p.2.1 = q.1 ∧ renF mS p.2.2 = q.2 ∧ p.1 < 36 := by
   intro q hq
   simp only [mV,List.mem_cons,List.not_mem_nil,or_false] at hq
   rcases hq with rfl | rfl | rfl | rfl | rfl | rfl | rfl
   ·exact ⟨(6,⟨#[98,111,100,105,101,115]⟩,.func (.func 62) #[] #[.pointer (some ⟨264,0,none⟩),.pointer (some ⟨265,0,none⟩)]),by simp [mI],rfl,by simp [renF,ren0,mS],by omega⟩
   ·exact ⟨(8,⟨#[109,97,115,115]⟩,.func (.func 64) #[] #[.pointer (some ⟨200,0,none⟩)]),by simp [mI],rfl,by simp [renF,ren0,mS],by omega⟩
   ·exact ⟨(13,⟨#[99,111,110,115,116,97,110,116]⟩,.func (.func 62) #[] #[.pointer (some ⟨320,0,none⟩),.pointer (some ⟨321,0,none⟩)]),by simp [mI],rfl,by simp [renF,ren0,mS],by omega⟩
   ·exact ⟨(18,⟨#[98,111,120]⟩,.func (.func 62) #[] #[.pointer (some ⟨360,0,none⟩),.pointer (some ⟨361,0,none⟩)]),by simp [mI],rfl,by simp [renF,ren0,mS],by omega⟩
   ·exact ⟨(23,⟨#[116,111,112]⟩,.func (.func 62) #[] #[.pointer (some ⟨400,0,none⟩),.pointer (some ⟨401,0,none⟩)]),by simp [mI],rfl,by simp [renF,ren0,mS],by omega⟩
   ·exact ⟨(31,⟨#[110,101,97,114]⟩,.func (.func 62) #[] #[.pointer (some ⟨464,0,none⟩),.pointer (some ⟨465,0,none⟩)]),by simp [mI],rfl,by simp [renF,ren0,mS],by omega⟩
   ·exact ⟨(33,⟨#[109,101,116,104,111,100]⟩,.func (.func 67) #[] #[.pointer (some ⟨200,0,none⟩)]),by simp [mI],rfl,by simp [renF,ren0,mS],by omega⟩
  simp only [thenG_normal]
  refine GW_ret ?_
  refine ⟨.inr rfl,keep_of G0F (by simp [hI.b]) (fun k hk => (hI.low k hk).trans (hpL_low (by simp) hk).symm),_,_,mR,⟨l.map fun p => (p.1,renF mS p.2),rfl,rfl,fun p hp => ?_,fun q hq => ?_⟩,fun k hk => ?_,?_,?_,?_,?_⟩
  ·obtain ⟨p0,hp0,rfl⟩ := List.mem_map.1 hp
   obtain ⟨q,hq,rfl,_⟩ := l2 p0 hp0
   exact hcan q hq
  ·obtain ⟨p,hp,e1,e2,hlt⟩ := hfind q hq
   rw [findL_map,← e1,l3 p hp (hall _ hlt),← e2]
   rfl
  ·unfold mR
   iterate 12 rw [if_neg (by omega)]
  ·simp [mNs,mR]
  ·simp [mNs,mR]
  ·simp [Tryd.results49,h2,ren,renA,renF,ren0,mR]
   rfl
  ·subst hsl
   have hbx := hI.bx
   have hm:(mpB (l.map fun p => (p.1,renF mS p.2))).rn mR = mpB l := by
    rw [mpB_rn,List.map_map]
    congr 1
    conv => rhs; rw [← List.map_id l]
    refine List.map_congr_left fun p hp => ?_
    obtain ⟨q,hq,rfl,_⟩ := l2 p hp
    simp only [Function.comp_def,id]
    rw [hinv q hq]
   intro p hp
   simp only [mNs,List.mem_cons,List.not_mem_nil,or_false] at hp
   rcases hp with rfl | rfl | rfl | rfl | rfl | rfl | rfl | rfl | rfl | rfl | rfl | rfl
   ·show hp (mR 1000) = some ((mpB _).rn mR)
    rw [hm]
    exact l1
   ·show hp 200 = some ((cfB _ g bx tp nr md).rn mR)
    rw [hI.c]
    simp [cfB,Blk.rn,renF,ren0,mR]
   ·show hp 264 = some ((jb (n:Int)).rn mR)
    rw [jb_rn]
    exact hbx (5,264,jb (n:Int)) (by simp [mX]) (hall 5 (by omega))
   ·show hp 265 = some ((jb 4).rn mR)
    rw [jb_rn]
    exact hbx (5,265,jb 4) (by simp [mX]) (hall 5 (by omega))
   ·show hp 320 = some ((jb g).rn mR)
    rw [jb_rn]
    exact hbx (12,320,jb g) (by simp [mX]) (hall 12 (by omega))
   ·show hp 321 = some ((jb 1048576).rn mR)
    rw [jb_rn]
    exact hbx (12,321,jb 1048576) (by simp [mX]) (hall 12 (by omega))
   ·show hp 360 = some ((jb bx).rn mR)
    rw [jb_rn]
    exact hbx (17,360,jb bx) (by simp [mX]) (hall 17 (by omega))
   ·show hp 361 = some ((jb 1048576).rn mR)
    rw [jb_rn]
    exact hbx (17,361,jb 1048576) (by simp [mX]) (hall 17 (by omega))
   ·show hp 400 = some ((jb tp).rn mR)
    rw [jb_rn]
    exact hbx (22,400,jb tp) (by simp [mX]) (hall 22 (by omega))
   ·show hp 401 = some ((jb 65536).rn mR)
    rw [jb_rn]
    exact hbx (22,401,jb 65536) (by simp [mX]) (hall 22 (by omega))
   ·show hp 464 = some ((jb nr).rn mR)
    rw [jb_rn]
    exact hbx (30,464,jb nr) (by simp [mX]) (hall 30 (by omega))
   ·show hp 465 = some ((jb (Int.bmod (2 * bx) 18446744073709551616)).rn mR)
    rw [jb_rn]
    exact hbx (30,465,jb (Int.bmod (2 * bx) 18446744073709551616)) (by simp [mX]) (hall 30 (by omega))
 ·have hlt:i < 36 := by
   have := (Array.getElem?_eq_some_iff.1 hi).1
   rw [hs] at this
   simpa using this
  subst hsl
  obtain rfl | rfl | rfl | rfl | rfl | rfl | rfl | rfl | rfl | rfl | rfl | rfl | rfl | rfl | rfl | rfl | rfl | rfl | rfl | rfl | rfl | rfl | rfl | rfl | rfl | rfl | rfl | rfl | rfl | rfl | rfl | rfl | rfl | rfl | rfl | rfl:i = 0 ∨ i = 1 ∨ i = 2 ∨ i = 3 ∨ i = 4 ∨ i = 5 ∨ i = 6 ∨ i = 7 ∨ i = 8 ∨ i = 9 ∨ i = 10 ∨ i = 11 ∨ i = 12 ∨ i = 13 ∨ i = 14 ∨ i = 15 ∨ i = 16 ∨ i = 17 ∨ i = 18 ∨ i = 19 ∨ i = 20 ∨ i = 21 ∨ i = 22 ∨ i = 23 ∨ i = 24 ∨ i = 25 ∨ i = 26 ∨ i = 27 ∨ i = 28 ∨ i = 29 ∨ i = 30 ∨ i = 31 ∨ i = 32 ∨ i = 33 ∨ i = 34 ∨ i = 35 := by omega
  ·-- 0 map
   have f0 := h.t1
   have f1 := h.t3
   refine GO_walk [] rfl (by kernel_rfl) (by first | assumption | simp) ?_; intro q hq; simp [hC,hY,f0,f1]; refine hq _ _ _ _ ?_; clear hq q
   exact hk _ _ (h.mkm hi)
  ·-- 1 mv
   have f0 := h.t1
   have f1 := h.t3
   refine GO_walk [] rfl (by kernel_rfl) (by first | assumption | simp) ?_; intro q hq; simp [hC,hY,f0,f1]; refine hq _ _ _ _ ?_; clear hq q
   exact hk _ _ (h.tmp (i := 1) (t := 5) (by simp [mT]) (by simp [mX]) (by omega))
  ·-- 2 fa
   have f0 := h.t1
   have f1 := h.t3
   refine GO_walk [] rfl (by kernel_rfl) (by first | assumption | simp) ?_; intro q hq; simp [hC,hY,f0,f1]; refine hq _ _ _ _ ?_; clear hq q
   exact hk _ _ (h.tmp (i := 2) (t := 6) (by simp [mT]) (by simp [mX]) (by omega))
  ·-- 3 ld
   have hd:∀ j ∈ [2],listed[j]? = some true := by
    have hd0 := hdep _ rfl
    simp [Region.binds] at hd0
    simp [hd0]
   have f0 := h.t1
   have f1 := h.t3
   have f2 := h.tm (2,6,.pointer (some ⟨200,0,none⟩)) (by simp [mT]) (hd 2 (by simp))
   have fc := h.c
   unfold cfB at fc
   refine GO_walk [] rfl (by kernel_rfl) (by first | assumption | simp) ?_; intro q hq; simp [hC,hY,f0,f1,f2,fc]; refine hq _ _ _ _ ?_; clear hq q
   exact hk _ _ (h.tmp (i := 3) (t := 7) (by simp [mT]) (by simp [mX]) (by omega))
  ·-- 4 len
   have hd:∀ j ∈ [3],listed[j]? = some true := by
    have hd0 := hdep _ rfl
    simp [Region.binds] at hd0
    simp [hd0]
   have f0 := h.t1
   have f1 := h.t3
   have f2 := h.tm (3,7,.slice (some ⟨100,off,none⟩) n cap) (by simp [mT]) (hd 3 (by simp))
   refine GO_walk [] rfl (by kernel_rfl) (by first | assumption | simp) ?_; intro q hq; simp [hC,hY,f0,f1,f2]; refine hq _ _ _ _ ?_; clear hq q
   exact hk _ _ (h.tmp (i := 4) (t := 8) (by simp [mT]) (by simp [mX]) (by omega))
  ·-- 5 call
   have hd:∀ j ∈ [1,4],listed[j]? = some true := by
    have hd0 := hdep _ rfl
    simp [Region.binds] at hd0
    simp [hd0]
   have f0 := h.t1
   have f1 := h.t3
   have f2 := h.tm (1,5,.func (.func 61) #[] #[]) (by simp [mT]) (hd 1 (by simp))
   have f3 := h.tm (4,8,.int .i64 n) (by simp [mT]) (hd 4 (by simp))
   refine GO_callL (f := .tmp 5) (cap := #[]) hC (num_at 264 (by omega) (n:Int) 4) rfl hi rfl (by simp [Tryd.ntmps49]) rfl rfl (by simp [okT,f0,f1,f2,f3]) (by simp [gev,f0,f1,f2,f3]) (by simp) (by simp [okX,junk,f0,f1,f2,f3]) (by simp [gev,f0,f1,f2,f3]) (by simp) (fun q hq => (h.low q hq).symm ▸ (by simp)) ?_ ?_
   ·intro v ns hV k hk
    have := numR_key hV k hk
    omega
   rintro v ns ⟨rfl,rfl⟩
   exact hk _ _ (h.call (i := 5) (t := 9) (by simp [mT]) (by omega) (by omega) (by simp [mX]))
  ·-- 6 ins
   have hd:∀ j ∈ [0,5],listed[j]? = some true := by
    have hd0 := hdep _ rfl
    simp [Region.binds] at hd0
    simp [hd0]
   have f0 := h.t1
   have f1 := h.t3
   have f2 := h.tm (0,4,.map (some 224)) (by simp [mT]) (hd 0 (by simp))
   have f3 := h.tm (5,9,.func (.func 62) #[] #[.pointer (some ⟨264,0,none⟩),.pointer (some ⟨265,0,none⟩)]) (by simp [mT]) (hd 5 (by simp))
   obtain ⟨l,l1,l2,l3⟩ := h.mp (hd 0 (by simp))
   have hm:(6,⟨#[98,111,100,105,101,115]⟩,.func (.func 62) #[] #[.pointer (some ⟨264,0,none⟩),.pointer (some ⟨265,0,none⟩)]) ∈ mI := by simp [mI]
   have hn := h.fresh hm hi l2
   refine GO_walk [] rfl (by kernel_rfl) (by first | assumption | simp) ?_; intro q hq; simp [hC,hY,f0,f1,f2,f3,l1,hn]; refine hq _ _ _ _ ?_; clear hq q
   exact hk _ _ (h.ins hm (Array.getElem?_eq_some_iff.1 hi).1 l2 l3 hn (hd 0 (by simp)))
  ·-- 7 mk
   have f0 := h.t1
   have f1 := h.t3
   refine GO_walk [] rfl (by kernel_rfl) (by first | assumption | simp) ?_; intro q hq; simp [hC,hY,f0,f1]; refine hq _ _ _ _ ?_; clear hq q
   exact hk _ _ (h.tmp (i := 7) (t := 10) (by simp [mT]) (by simp [mX]) (by omega))
  ·-- 8 ins
   have hd:∀ j ∈ [0,7],listed[j]? = some true := by
    have hd0 := hdep _ rfl
    simp [Region.binds] at hd0
    simp [hd0]
   have f0 := h.t1
   have f1 := h.t3
   have f2 := h.tm (0,4,.map (some 224)) (by simp [mT]) (hd 0 (by simp))
   have f3 := h.tm (7,10,.func (.func 64) #[] #[.pointer (some ⟨200,0,none⟩)]) (by simp [mT]) (hd 7 (by simp))
   obtain ⟨l,l1,l2,l3⟩ := h.mp (hd 0 (by simp))
   have hm:(8,⟨#[109,97,115,115]⟩,.func (.func 64) #[] #[.pointer (some ⟨200,0,none⟩)]) ∈ mI := by simp [mI]
   have hn := h.fresh hm hi l2
   refine GO_walk [] rfl (by kernel_rfl) (by first | assumption | simp) ?_; intro q hq; simp [hC,hY,f0,f1,f2,f3,l1,hn]; refine hq _ _ _ _ ?_; clear hq q
   exact hk _ _ (h.ins hm (Array.getElem?_eq_some_iff.1 hi).1 l2 l3 hn (hd 0 (by simp)))
  ·-- 9 mv
   have f0 := h.t1
   have f1 := h.t3
   refine GO_walk [] rfl (by kernel_rfl) (by first | assumption | simp) ?_; intro q hq; simp [hC,hY,f0,f1]; refine hq _ _ _ _ ?_; clear hq q
   exact hk _ _ (h.tmp (i := 9) (t := 11) (by simp [mT]) (by simp [mX]) (by omega))
  ·-- 10 fa
   have f0 := h.t1
   have f1 := h.t3
   refine GO_walk [] rfl (by kernel_rfl) (by first | assumption | simp) ?_; intro q hq; simp [hC,hY,f0,f1]; refine hq _ _ _ _ ?_; clear hq q
   exact hk _ _ (h.tmp (i := 10) (t := 12) (by simp [mT]) (by simp [mX]) (by omega))
  ·-- 11 ld
   have hd:∀ j ∈ [10],listed[j]? = some true := by
    have hd0 := hdep _ rfl
    simp [Region.binds] at hd0
    simp [hd0]
   have f0 := h.t1
   have f1 := h.t3
   have f2 := h.tm (10,12,.pointer (some ⟨200,1,none⟩)) (by simp [mT]) (hd 10 (by simp))
   have fc := h.c
   unfold cfB at fc
   refine GO_walk [] rfl (by kernel_rfl) (by first | assumption | simp) ?_; intro q hq; simp [hC,hY,f0,f1,f2,fc]; refine hq _ _ _ _ ?_; clear hq q
   exact hk _ _ (h.tmp (i := 11) (t := 13) (by simp [mT]) (by simp [mX]) (by omega))
  ·-- 12 call
   have hd:∀ j ∈ [9,11],listed[j]? = some true := by
    have hd0 := hdep _ rfl
    simp [Region.binds] at hd0
    simp [hd0]
   have f0 := h.t1
   have f1 := h.t3
   have f2 := h.tm (9,11,.func (.func 61) #[] #[]) (by simp [mT]) (hd 9 (by simp))
   have f3 := h.tm (11,13,.int .i64 g) (by simp [mT]) (hd 11 (by simp))
   refine GO_callL (f := .tmp 11) (cap := #[]) hC (num_at 320 (by omega) g 1048576) rfl hi rfl (by simp [Tryd.ntmps49]) rfl rfl (by simp [okT,f0,f1,f2,f3]) (by simp [gev,f0,f1,f2,f3]) (by simp) (by simp [okX,junk,f0,f1,f2,f3]) (by simp [gev,f0,f1,f2,f3]) (by simp) (fun q hq => (h.low q hq).symm ▸ (by simp)) ?_ ?_
   ·intro v ns hV k hk
    have := numR_key hV k hk
    omega
   rintro v ns ⟨rfl,rfl⟩
   exact hk _ _ (h.call (i := 12) (t := 14) (by simp [mT]) (by omega) (by omega) (by simp [mX]))
  ·-- 13 ins
   have hd:∀ j ∈ [0,12],listed[j]? = some true := by
    have hd0 := hdep _ rfl
    simp [Region.binds] at hd0
    simp [hd0]
   have f0 := h.t1
   have f1 := h.t3
   have f2 := h.tm (0,4,.map (some 224)) (by simp [mT]) (hd 0 (by simp))
   have f3 := h.tm (12,14,.func (.func 62) #[] #[.pointer (some ⟨320,0,none⟩),.pointer (some ⟨321,0,none⟩)]) (by simp [mT]) (hd 12 (by simp))
   obtain ⟨l,l1,l2,l3⟩ := h.mp (hd 0 (by simp))
   have hm:(13,⟨#[99,111,110,115,116,97,110,116]⟩,.func (.func 62) #[] #[.pointer (some ⟨320,0,none⟩),.pointer (some ⟨321,0,none⟩)]) ∈ mI := by simp [mI]
   have hn := h.fresh hm hi l2
   refine GO_walk [] rfl (by kernel_rfl) (by first | assumption | simp) ?_; intro q hq; simp [hC,hY,f0,f1,f2,f3,l1,hn]; refine hq _ _ _ _ ?_; clear hq q
   exact hk _ _ (h.ins hm (Array.getElem?_eq_some_iff.1 hi).1 l2 l3 hn (hd 0 (by simp)))
  ·-- 14 mv
   have f0 := h.t1
   have f1 := h.t3
   refine GO_walk [] rfl (by kernel_rfl) (by first | assumption | simp) ?_; intro q hq; simp [hC,hY,f0,f1]; refine hq _ _ _ _ ?_; clear hq q
   exact hk _ _ (h.tmp (i := 14) (t := 15) (by simp [mT]) (by simp [mX]) (by omega))
  ·-- 15 fa
   have f0 := h.t1
   have f1 := h.t3
   refine GO_walk [] rfl (by kernel_rfl) (by first | assumption | simp) ?_; intro q hq; simp [hC,hY,f0,f1]; refine hq _ _ _ _ ?_; clear hq q
   exact hk _ _ (h.tmp (i := 15) (t := 16) (by simp [mT]) (by simp [mX]) (by omega))
  ·-- 16 ld
   have hd:∀ j ∈ [15],listed[j]? = some true := by
    have hd0 := hdep _ rfl
    simp [Region.binds] at hd0
    simp [hd0]
   have f0 := h.t1
   have f1 := h.t3
   have f2 := h.tm (15,16,.pointer (some ⟨200,2,none⟩)) (by simp [mT]) (hd 15 (by simp))
   have fc := h.c
   unfold cfB at fc
   refine GO_walk [] rfl (by kernel_rfl) (by first | assumption | simp) ?_; intro q hq; simp [hC,hY,f0,f1,f2,fc]; refine hq _ _ _ _ ?_; clear hq q
   exact hk _ _ (h.tmp (i := 16) (t := 17) (by simp [mT]) (by simp [mX]) (by omega))
  ·-- 17 call
   have hd:∀ j ∈ [14,16],listed[j]? = some true := by
    have hd0 := hdep _ rfl
    simp [Region.binds] at hd0
    simp [hd0]
   have f0 := h.t1
   have f1 := h.t3
   have f2 := h.tm (14,15,.func (.func 61) #[] #[]) (by simp [mT]) (hd 14 (by simp))
   have f3 := h.tm (16,17,.int .i64 bx) (by simp [mT]) (hd 16 (by simp))
   refine GO_callL (f := .tmp 15) (cap := #[]) hC (num_at 360 (by omega) bx 1048576) rfl hi rfl (by simp [Tryd.ntmps49]) rfl rfl (by simp [okT,f0,f1,f2,f3]) (by simp [gev,f0,f1,f2,f3]) (by simp) (by simp [okX,junk,f0,f1,f2,f3]) (by simp [gev,f0,f1,f2,f3]) (by simp) (fun q hq => (h.low q hq).symm ▸ (by simp)) ?_ ?_
   ·intro v ns hV k hk
    have := numR_key hV k hk
    omega
   rintro v ns ⟨rfl,rfl⟩
   exact hk _ _ (h.call (i := 17) (t := 18) (by simp [mT]) (by omega) (by omega) (by simp [mX]))
  ·-- 18 ins
   have hd:∀ j ∈ [0,17],listed[j]? = some true := by
    have hd0 := hdep _ rfl
    simp [Region.binds] at hd0
    simp [hd0]
   have f0 := h.t1
   have f1 := h.t3
   have f2 := h.tm (0,4,.map (some 224)) (by simp [mT]) (hd 0 (by simp))
   have f3 := h.tm (17,18,.func (.func 62) #[] #[.pointer (some ⟨360,0,none⟩),.pointer (some ⟨361,0,none⟩)]) (by simp [mT]) (hd 17 (by simp))
   obtain ⟨l,l1,l2,l3⟩ := h.mp (hd 0 (by simp))
   have hm:(18,⟨#[98,111,120]⟩,.func (.func 62) #[] #[.pointer (some ⟨360,0,none⟩),.pointer (some ⟨361,0,none⟩)]) ∈ mI := by simp [mI]
   have hn := h.fresh hm hi l2
   refine GO_walk [] rfl (by kernel_rfl) (by first | assumption | simp) ?_; intro q hq; simp [hC,hY,f0,f1,f2,f3,l1,hn]; refine hq _ _ _ _ ?_; clear hq q
   exact hk _ _ (h.ins hm (Array.getElem?_eq_some_iff.1 hi).1 l2 l3 hn (hd 0 (by simp)))
  ·-- 19 mv
   have f0 := h.t1
   have f1 := h.t3
   refine GO_walk [] rfl (by kernel_rfl) (by first | assumption | simp) ?_; intro q hq; simp [hC,hY,f0,f1]; refine hq _ _ _ _ ?_; clear hq q
   exact hk _ _ (h.tmp (i := 19) (t := 19) (by simp [mT]) (by simp [mX]) (by omega))
  ·-- 20 fa
   have f0 := h.t1
   have f1 := h.t3
   refine GO_walk [] rfl (by kernel_rfl) (by first | assumption | simp) ?_; intro q hq; simp [hC,hY,f0,f1]; refine hq _ _ _ _ ?_; clear hq q
   exact hk _ _ (h.tmp (i := 20) (t := 20) (by simp [mT]) (by simp [mX]) (by omega))
  ·-- 21 ld
   have hd:∀ j ∈ [20],listed[j]? = some true := by
    have hd0 := hdep _ rfl
    simp [Region.binds] at hd0
    simp [hd0]
   have f0 := h.t1
   have f1 := h.t3
   have f2 := h.tm (20,20,.pointer (some ⟨200,3,none⟩)) (by simp [mT]) (hd 20 (by simp))
   have fc := h.c
   unfold cfB at fc
   refine GO_walk [] rfl (by kernel_rfl) (by first | assumption | simp) ?_; intro q hq; simp [hC,hY,f0,f1,f2,fc]; refine hq _ _ _ _ ?_; clear hq q
   exact hk _ _ (h.tmp (i := 21) (t := 21) (by simp [mT]) (by simp [mX]) (by omega))
  ·-- 22 call
   have hd:∀ j ∈ [19,21],listed[j]? = some true := by
    have hd0 := hdep _ rfl
    simp [Region.binds] at hd0
    simp [hd0]
   have f0 := h.t1
   have f1 := h.t3
   have f2 := h.tm (19,19,.func (.func 61) #[] #[]) (by simp [mT]) (hd 19 (by simp))
   have f3 := h.tm (21,21,.int .i64 tp) (by simp [mT]) (hd 21 (by simp))
   refine GO_callL (f := .tmp 19) (cap := #[]) hC (num_at 400 (by omega) tp 65536) rfl hi rfl (by simp [Tryd.ntmps49]) rfl rfl (by simp [okT,f0,f1,f2,f3]) (by simp [gev,f0,f1,f2,f3]) (by simp) (by simp [okX,junk,f0,f1,f2,f3]) (by simp [gev,f0,f1,f2,f3]) (by simp) (fun q hq => (h.low q hq).symm ▸ (by simp)) ?_ ?_
   ·intro v ns hV k hk
    have := numR_key hV k hk
    omega
   rintro v ns ⟨rfl,rfl⟩
   exact hk _ _ (h.call (i := 22) (t := 22) (by simp [mT]) (by omega) (by omega) (by simp [mX]))
  ·-- 23 ins
   have hd:∀ j ∈ [0,22],listed[j]? = some true := by
    have hd0 := hdep _ rfl
    simp [Region.binds] at hd0
    simp [hd0]
   have f0 := h.t1
   have f1 := h.t3
   have f2 := h.tm (0,4,.map (some 224)) (by simp [mT]) (hd 0 (by simp))
   have f3 := h.tm (22,22,.func (.func 62) #[] #[.pointer (some ⟨400,0,none⟩),.pointer (some ⟨401,0,none⟩)]) (by simp [mT]) (hd 22 (by simp))
   obtain ⟨l,l1,l2,l3⟩ := h.mp (hd 0 (by simp))
   have hm:(23,⟨#[116,111,112]⟩,.func (.func 62) #[] #[.pointer (some ⟨400,0,none⟩),.pointer (some ⟨401,0,none⟩)]) ∈ mI := by simp [mI]
   have hn := h.fresh hm hi l2
   refine GO_walk [] rfl (by kernel_rfl) (by first | assumption | simp) ?_; intro q hq; simp [hC,hY,f0,f1,f2,f3,l1,hn]; refine hq _ _ _ _ ?_; clear hq q
   exact hk _ _ (h.ins hm (Array.getElem?_eq_some_iff.1 hi).1 l2 l3 hn (hd 0 (by simp)))
  ·-- 24 mv
   have f0 := h.t1
   have f1 := h.t3
   refine GO_walk [] rfl (by kernel_rfl) (by first | assumption | simp) ?_; intro q hq; simp [hC,hY,f0,f1]; refine hq _ _ _ _ ?_; clear hq q
   exact hk _ _ (h.tmp (i := 24) (t := 23) (by simp [mT]) (by simp [mX]) (by omega))
  ·-- 25 fa
   have f0 := h.t1
   have f1 := h.t3
   refine GO_walk [] rfl (by kernel_rfl) (by first | assumption | simp) ?_; intro q hq; simp [hC,hY,f0,f1]; refine hq _ _ _ _ ?_; clear hq q
   exact hk _ _ (h.tmp (i := 25) (t := 24) (by simp [mT]) (by simp [mX]) (by omega))
  ·-- 26 ld
   have hd:∀ j ∈ [25],listed[j]? = some true := by
    have hd0 := hdep _ rfl
    simp [Region.binds] at hd0
    simp [hd0]
   have f0 := h.t1
   have f1 := h.t3
   have f2 := h.tm (25,24,.pointer (some ⟨200,4,none⟩)) (by simp [mT]) (hd 25 (by simp))
   have fc := h.c
   unfold cfB at fc
   refine GO_walk [] rfl (by kernel_rfl) (by first | assumption | simp) ?_; intro q hq; simp [hC,hY,f0,f1,f2,fc]; refine hq _ _ _ _ ?_; clear hq q
   exact hk _ _ (h.tmp (i := 26) (t := 25) (by simp [mT]) (by simp [mX]) (by omega))
  ·-- 27 fa
   have f0 := h.t1
   have f1 := h.t3
   refine GO_walk [] rfl (by kernel_rfl) (by first | assumption | simp) ?_; intro q hq; simp [hC,hY,f0,f1]; refine hq _ _ _ _ ?_; clear hq q
   exact hk _ _ (h.tmp (i := 27) (t := 26) (by simp [mT]) (by simp [mX]) (by omega))
  ·-- 28 ld
   have hd:∀ j ∈ [27],listed[j]? = some true := by
    have hd0 := hdep _ rfl
    simp [Region.binds] at hd0
    simp [hd0]
   have f0 := h.t1
   have f1 := h.t3
   have f2 := h.tm (27,26,.pointer (some ⟨200,2,none⟩)) (by simp [mT]) (hd 27 (by simp))
   have fc := h.c
   unfold cfB at fc
   refine GO_walk [] rfl (by kernel_rfl) (by first | assumption | simp) ?_; intro q hq; simp [hC,hY,f0,f1,f2,fc]; refine hq _ _ _ _ ?_; clear hq q
   exact hk _ _ (h.tmp (i := 28) (t := 27) (by simp [mT]) (by simp [mX]) (by omega))
  ·-- 29 mul
   have hd:∀ j ∈ [28],listed[j]? = some true := by
    have hd0 := hdep _ rfl
    simp [Region.binds] at hd0
    simp [hd0]
   have f0 := h.t1
   have f1 := h.t3
   have f2 := h.tm (28,27,.int .i64 bx) (by simp [mT]) (hd 28 (by simp))
   refine GO_walk [] rfl (by kernel_rfl) (by first | assumption | simp) ?_; intro q hq; simp [hC,hY,f0,f1,f2]; refine hq _ _ _ _ ?_; clear hq q
   exact hk _ _ (h.tmp (i := 29) (t := 28) (by simp [mT]) (by simp [mX]) (by omega))
  ·-- 30 call
   have hd:∀ j ∈ [24,26,29],listed[j]? = some true := by
    have hd0 := hdep _ rfl
    simp [Region.binds] at hd0
    simp [hd0]
   have f0 := h.t1
   have f1 := h.t3
   have f2 := h.tm (24,23,.func (.func 61) #[] #[]) (by simp [mT]) (hd 24 (by simp))
   have f3 := h.tm (26,25,.int .i64 nr) (by simp [mT]) (hd 26 (by simp))
   have f4 := h.tm (29,28,.int .i64 (Int.bmod (2 * bx) 18446744073709551616)) (by simp [mT]) (hd 29 (by simp))
   refine GO_callL (f := .tmp 23) (cap := #[]) hC (num_at 464 (by omega) nr (Int.bmod (2 * bx) 18446744073709551616)) rfl hi rfl (by simp [Tryd.ntmps49]) rfl rfl (by simp [okT,f0,f1,f2,f3,f4]) (by simp [gev,f0,f1,f2,f3,f4]) (by simp) (by simp [okX,junk,f0,f1,f2,f3,f4]) (by simp [gev,f0,f1,f2,f3,f4]) (by simp) (fun q hq => (h.low q hq).symm ▸ (by simp)) ?_ ?_
   ·intro v ns hV k hk
    have := numR_key hV k hk
    omega
   rintro v ns ⟨rfl,rfl⟩
   exact hk _ _ (h.call (i := 30) (t := 29) (by simp [mT]) (by omega) (by omega) (by simp [mX]))
  ·-- 31 ins
   have hd:∀ j ∈ [0,30],listed[j]? = some true := by
    have hd0 := hdep _ rfl
    simp [Region.binds] at hd0
    simp [hd0]
   have f0 := h.t1
   have f1 := h.t3
   have f2 := h.tm (0,4,.map (some 224)) (by simp [mT]) (hd 0 (by simp))
   have f3 := h.tm (30,29,.func (.func 62) #[] #[.pointer (some ⟨464,0,none⟩),.pointer (some ⟨465,0,none⟩)]) (by simp [mT]) (hd 30 (by simp))
   obtain ⟨l,l1,l2,l3⟩ := h.mp (hd 0 (by simp))
   have hm:(31,⟨#[110,101,97,114]⟩,.func (.func 62) #[] #[.pointer (some ⟨464,0,none⟩),.pointer (some ⟨465,0,none⟩)]) ∈ mI := by simp [mI]
   have hn := h.fresh hm hi l2
   refine GO_walk [] rfl (by kernel_rfl) (by first | assumption | simp) ?_; intro q hq; simp [hC,hY,f0,f1,f2,f3,l1,hn]; refine hq _ _ _ _ ?_; clear hq q
   exact hk _ _ (h.ins hm (Array.getElem?_eq_some_iff.1 hi).1 l2 l3 hn (hd 0 (by simp)))
  ·-- 32 mk
   have f0 := h.t1
   have f1 := h.t3
   refine GO_walk [] rfl (by kernel_rfl) (by first | assumption | simp) ?_; intro q hq; simp [hC,hY,f0,f1]; refine hq _ _ _ _ ?_; clear hq q
   exact hk _ _ (h.tmp (i := 32) (t := 30) (by simp [mT]) (by simp [mX]) (by omega))
  ·-- 33 ins
   have hd:∀ j ∈ [0,32],listed[j]? = some true := by
    have hd0 := hdep _ rfl
    simp [Region.binds] at hd0
    simp [hd0]
   have f0 := h.t1
   have f1 := h.t3
   have f2 := h.tm (0,4,.map (some 224)) (by simp [mT]) (hd 0 (by simp))
   have f3 := h.tm (32,30,.func (.func 67) #[] #[.pointer (some ⟨200,0,none⟩)]) (by simp [mT]) (hd 32 (by simp))
   obtain ⟨l,l1,l2,l3⟩ := h.mp (hd 0 (by simp))
   have hm:(33,⟨#[109,101,116,104,111,100]⟩,.func (.func 67) #[] #[.pointer (some ⟨200,0,none⟩)]) ∈ mI := by simp [mI]
   have hn := h.fresh hm hi l2
   refine GO_walk [] rfl (by kernel_rfl) (by first | assumption | simp) ?_; intro q hq; simp [hC,hY,f0,f1,f2,f3,l1,hn]; refine hq _ _ _ _ ?_; clear hq q
   exact hk _ _ (h.ins hm (Array.getElem?_eq_some_iff.1 hi).1 l2 l3 hn (hd 0 (by simp)))
  ·-- 34 mv
   have hd:∀ j ∈ [0],listed[j]? = some true := by
    have hd0 := hdep _ rfl
    simp [Region.binds] at hd0
    simp [hd0]
   have f0 := h.t1
   have f1 := h.t3
   have f2 := h.tm (0,4,.map (some 224)) (by simp [mT]) (hd 0 (by simp))
   refine GO_walk [] rfl (by kernel_rfl) (by first | assumption | simp) ?_; intro q hq; simp [hC,hY,f0,f1,f2]; refine hq _ _ _ _ ?_; clear hq q
   exact hk _ _ (h.tmp (i := 34) (t := 31) (by simp [mT]) (by simp [mX]) (by omega))
  ·-- 35 asg
   have hd:∀ j ∈ [34],listed[j]? = some true := by
    have hd0 := hdep _ rfl
    simp [Region.binds] at hd0
    simp [hd0]
   have f0 := h.t1
   have f1 := h.t3
   have f2 := h.tm (34,31,.map (some 224)) (by simp [mT]) (hd 34 (by simp))
   refine GO_walk [] rfl (by kernel_rfl) (by first | assumption | simp) ?_; intro q hq; simp [hC,hY,f0,f1,f2]; refine hq _ _ _ _ ?_; clear hq q
   exact hk _ _ (h.tmp (i := 35) (t := 2) (by simp [mT]) (by simp [mX]) (by omega))
 ·have hno:∀ j,(Array.replicate 36 false)[j]? ≠ some true := fun j => by
   rw [Array.getElem?_replicate]
   split <;> simp
  exact ⟨by simp,by simp,fun p hp hl => absurd hl (hno _),fun k hk => by rw [upd_other _ _ (by omega)]; exact hpL_low (by simp) hk,by simp,by simp [cfB,hsl],fun q hq hl => absurd hl (hno _),fun hl => absurd hl (hno _),fun q hq hl => absurd hl (hno _)⟩
def whyS (n:Nat) (f:Nat → Int) (g bx tp nr md:Int):ByteArray :=
 if wiB n 1 4 = false then ⟨#[98,111,100,105,101,115]⟩ else if allM f n = false then ⟨#[109,97,115,115]⟩ else if wiB g 1 1048576 = false then ⟨#[99,111,110,115,116,97,110,116]⟩ else if wiB bx 1 1048576 = false then ⟨#[98,111,120]⟩ else
  if wiB tp 1 65536 = false then ⟨#[116,111,112]⟩ else if wiB nr 1 (Int.bmod (2 * bx) 18446744073709551616) = false then ⟨#[110,101,97,114]⟩ else if wiB md 0 4 = false then ⟨#[109,101,116,104,111,100]⟩ else ⟨#[]⟩
def mQ (nk k:Nat):Nat := if 1000 ≤ k then (if k < 1012 then k - 1000 + nk else k) else k
theorem mustsR_key {nk n:Nat} {sl:Value} {g bx tp nr md:Int} {v:Value} {ns:List (Nat × Blk)} (h:MustsR nk sl n g bx tp nr md v ns):∀ k ∈ keys ns,nk ≤ k ∧ k < nk + 12 := by
 obtain ⟨l,rfl,rfl,_⟩ := h
 intro k hk
 simp [keys,mNs] at hk
 omega
theorem mQ_at (nk j:Nat) (hj:j < 12):mQ nk (1000 + j) = nk + j := by
 unfold mQ
 rw [if_pos (by omega),if_pos (by omega)]
 omega
theorem mQ_low (nk k:Nat) (hk:k < 1000):mQ nk k = k := by
 unfold mQ
 rw [if_neg (by omega)]
theorem musts_rr {nk n off cap:Nat} {g bx tp nr md:Int} {v:Value} {ns:List (Nat × Blk)} (h:RR (mQ nk) (MustsR 1000 (.slice (some ⟨100,off,none⟩) n cap) n g bx tp nr md) v ns):MustsR nk (.slice (some ⟨100,off,none⟩) n cap) n g bx tp nr md v ns := by
 obtain ⟨v0,ns0,⟨l,rfl,rfl,hl,hf⟩,rfl,rfl⟩ := h
 have e := mQ_at nk
 have e0 := e 0 (by omega)
 have e1 := e 1 (by omega)
 have e2 := e 2 (by omega)
 have e3 := e 3 (by omega)
 have e4 := e 4 (by omega)
 have e5 := e 5 (by omega)
 have e6 := e 6 (by omega)
 have e7 := e 7 (by omega)
 have e8 := e 8 (by omega)
 have e9 := e 9 (by omega)
 have e10 := e 10 (by omega)
 have e11 := e 11 (by omega)
 simp only [Nat.reduceAdd,Nat.add_zero] at e0 e1 e2 e3 e4 e5 e6 e7 e8 e9 e10 e11
 have h100 := mQ_low nk 100 (by omega)
 have hmv:∀ q ∈ mV 1000,(q.1,renF (mQ nk) q.2) ∈ mV nk := by
  simp [mV,renF,ren0,e1,e2,e3,e4,e5,e6,e7,e8,e9,e10,e11]
 have hvm:∀ q ∈ mV nk,∃ p ∈ mV 1000,p.1 = q.1 ∧ renF (mQ nk) p.2 = q.2 := by
  simp [mV,renF,ren0,e1,e2,e3,e4,e5,e6,e7,e8,e9,e10,e11]
 refine ⟨l.map fun p => (p.1,renF (mQ nk) p.2),by simp [ren,renA,renF,ren0,e0],?_,fun p hp => ?_,fun q hq => ?_⟩
 ·have hc:(cfB (.slice (some ⟨100,off,none⟩) n cap) g bx tp nr md).rn (mQ nk) = cfB (.slice (some ⟨100,off,none⟩) n cap) g bx tp nr md := by simp [cfB,Blk.rn,renF,ren0,h100]
  simp only [rnL,mNs,List.map_cons,List.map_nil,mpB_rn,jb_rn,hc,Nat.reduceAdd,e0,e1,e2,e3,e4,e5,e6,e7,e8,e9,e10,e11]
 ·obtain ⟨p0,hp0,rfl⟩ := List.mem_map.1 hp
  exact hmv _ (hl _ hp0)
 ·obtain ⟨p,hp,h1,h2⟩ := hvm q hq
  rw [findL_map,← h1,hf p hp,← h2]
  rfl
theorem musts_at (nk:Nat) (hnk:200 ≤ nk) (b:Blk) (hb:b.fx) (off n cap:Nat) (g bx tp nr md:Int) :
  FunS Tryd.prog G0 49 #[cfV (.slice (some ⟨100,off,none⟩) n cap) g bx tp nr md] (hpL G0 [(100,b)]) [100] (RR (mQ nk) (MustsR 1000 (.slice (some ⟨100,off,none⟩) n cap) n g bx tp nr md)) := by
 have hr := fun ρ => Blk.fx_rn hb ρ
 have h100 := mQ_low nk 100 (by omega)
 refine (musts_fun b hb off n cap g bx tp nr md).mvL G0F (oneL_ok hb) (mQ nk) (fun k hk => mQ_low nk k (by omega)) (by simp [cfV,ren,renA,renF,ren0,h100]) (by simp [keys,h100]) rfl (oneL_ok hb).low (by simp [h100,hr]) (by simp [keys]) (fun v ns hV k hk => ?_) (fun v ns hV k hk l hl e => ?_)
 ·have h1 := mustsR_key hV k hk
  obtain ⟨j,hj,rfl⟩:∃ j,j < 12 ∧ k = 1000 + j := ⟨k - 1000,by omega,by omega⟩
  rw [mQ_at nk j hj]
  simp
  omega
 ·have h1 := mustsR_key hV k hk
  have h2 := mustsR_key hV l hl
  obtain ⟨j,hj,rfl⟩:∃ j,j < 12 ∧ k = 1000 + j := ⟨k - 1000,by omega,by omega⟩
  obtain ⟨i,hi,rfl⟩:∃ j,j < 12 ∧ l = 1000 + j := ⟨l - 1000,by omega,by omega⟩
  rw [mQ_at nk j hj,mQ_at nk i hi] at e
  omega
set_option maxRecDepth 8000 in
set_option maxHeartbeats 16000000 in
theorem why_fun (b:Blk) (off n cap:Nat) (f:Nat → Int) (h:MB b off n f) (g bx tp nr md:Int) :
  Fun Tryd.prog G0 35 #[cfV (.slice (some ⟨100,off,none⟩) n cap) g bx tp nr md] (hpL G0 [(100,b)]) (keys [(100,b)]) (.ret (.string (whyS n f g bx tp nr md)) []) := by
 refine fun_ofL (B := 200) G0F Tryd.func35 rfl Tryd.call35 (oneL_ok h.fx) ?_ (by simp) (by simp) (by simp) (by simp [Tryd.ntmps35]) (by omega) ?_
 ·simp [idsV,idsA,idsF,ids0,keys,cfV]
 intro C hC hC0 hY
 have hr := fun ρ => Blk.fx_rn h.fx ρ
 unfold cfV
 repeat' (first | refine gwA ?_ | ((first | refine gwR [] ?_ | refine gwD [] ?_); intro Q hQ hP; simp [hC,hY]; refine hQ _ _ _ _ (by kernel_rfl) ?_; clear hQ hP Q) | (refine gwC ?_ ?_ <;> (intro hb; first | (cases hb; done) | skip)))
 refine GW_list ?_
 simp only [Array.toList]
 refine GL_walk 1 [] rfl (by simp) (by kernel_rfl) ?_; intro q hq; simp [hC,hY]; refine hq _ _ _ _ ?_; clear hq q
 simp only [wT,List.length_cons,List.length_nil,Nat.reduceAdd]
 refine GL_callW 8 (f := .func 49) (cap := #[]) hC (musts_at 224 (by omega) b h.fx off n cap g bx tp nr md) rfl (by simp) rfl rfl (by simp [okT]) (by simp [gev]) (by simp) (by simp [okX,junk]) (by simp [gev,cfV]) (by simp) (by (intro k hk; first | rfl | (simp (disch := omega) only [addB,List.mem_cons,List.not_mem_nil,or_false,upd_other,hpL_cons,hpL_nil,if_neg,updL] <;> done))) (fun v ns hV k hk => by have := mustsR_key (musts_rr hV) k hk; omega) ?_
 intro v ns hV
 obtain ⟨l,rfl,rfl,_,hf⟩ := musts_rr hV
 refine GL_walk 1 [] rfl (by simp) (by kernel_rfl) ?_; intro q hq; simp [hC,hY,putT,updL,mNs]; refine hq _ _ _ _ ?_; clear hq q
 simp only [wT,List.length_cons,List.length_nil,Nat.reduceAdd]
 refine GL_nil ?_
 have f0:findL ⟨#[98,111,100,105,101,115]⟩ l = some (.func (.func 62) #[] #[.pointer (some ⟨226,0,none⟩),.pointer (some ⟨227,0,none⟩)]) := hf (⟨#[98,111,100,105,101,115]⟩,_) (by simp [mV])
 have f1:findL ⟨#[109,97,115,115]⟩ l = some (.func (.func 64) #[] #[.pointer (some ⟨225,0,none⟩)]) := hf (⟨#[109,97,115,115]⟩,_) (by simp [mV])
 have f2:findL ⟨#[99,111,110,115,116,97,110,116]⟩ l = some (.func (.func 62) #[] #[.pointer (some ⟨228,0,none⟩),.pointer (some ⟨229,0,none⟩)]) := hf (⟨#[99,111,110,115,116,97,110,116]⟩,_) (by simp [mV])
 have f3:findL ⟨#[98,111,120]⟩ l = some (.func (.func 62) #[] #[.pointer (some ⟨230,0,none⟩),.pointer (some ⟨231,0,none⟩)]) := hf (⟨#[98,111,120]⟩,_) (by simp [mV])
 have f4:findL ⟨#[116,111,112]⟩ l = some (.func (.func 62) #[] #[.pointer (some ⟨232,0,none⟩),.pointer (some ⟨233,0,none⟩)]) := hf (⟨#[116,111,112]⟩,_) (by simp [mV])
 have f5:findL ⟨#[110,101,97,114]⟩ l = some (.func (.func 62) #[] #[.pointer (some ⟨234,0,none⟩),.pointer (some ⟨235,0,none⟩)]) := hf (⟨#[110,101,97,114]⟩,_) (by simp [mV])
 have f6:findL ⟨#[109,101,116,104,111,100]⟩ l = some (.func (.func 67) #[] #[.pointer (some ⟨225,0,none⟩)]) := hf (⟨#[109,101,116,104,111,100]⟩,_) (by simp [mV])
 cases c0:wiB n 1 4 with
 | false =>
  have e:whyS n f g bx tp nr md = ⟨#[98,111,100,105,101,115]⟩ := by unfold whyS; simp only [c0,Bool.true_eq_false,if_true,if_false,reduceCtorEq]
  rw [e]
  repeat' (first | refine GWL_start ?_ | refine GWL_step ?_ | refine gwA ?_ | ((first | refine gwR [62,64,67] ?_ | refine gwD [62,64,67] ?_); intro Q hQ hP; simp [hC,hY,f0,c0,cnB]; (repeat ((first | (refine heapK_mv (cn1_fun n 4) G0F (B := 200) ⟨by simp,by simp [keys],by simp [jb,ids_lit,idsF,ids0]⟩ (fun k => if k = 100 then 226 else if k = 108 then 227 else k) (fun k hk => (if_neg (by omega)).trans (if_neg (by omega))) ?_ (by simp) (by simp [jb_rn]) (by simp [keys]) (by simp [keys]; rfl) ?_; focus (simp [ren,renA,renF,ren0]; done))); try simp [hC,hY,f0,c0,cnB])); refine hQ _ _ _ _ (by kernel_rfl) ?_; clear hQ hP Q) | (refine gwC ?_ ?_ <;> (intro hb; first | (cases hb; done) | skip)))
  refine ⟨.inr rfl,by simp [Tryd.results35],kpS G0F⟩
 | true =>
  cases c1:allM f n with
  | false =>
   have e:whyS n f g bx tp nr md = ⟨#[109,97,115,115]⟩ := by unfold whyS; simp only [c0,c1,Bool.true_eq_false,if_true,if_false,reduceCtorEq]
   rw [e]
   repeat' (first | refine GWL_start ?_ | refine GWL_step ?_ | refine gwA ?_ | ((first | refine gwR [62,64,67] ?_ | refine gwD [62,64,67] ?_); intro Q hQ hP; simp [hC,hY,f0,f1,c0,c1,cnB]; (repeat ((first | (refine heapK_mv (cn1_fun n 4) G0F (B := 200) ⟨by simp,by simp [keys],by simp [jb,ids_lit,idsF,ids0]⟩ (fun k => if k = 100 then 226 else if k = 108 then 227 else k) (fun k hk => (if_neg (by omega)).trans (if_neg (by omega))) ?_ (by simp) (by simp [jb_rn]) (by simp [keys]) (by simp [keys]; rfl) ?_; focus (simp [ren,renA,renF,ren0]; done)) | (refine heapK_mv (cm2_fun b off n cap f h g bx tp nr md) G0F (B := 200) (cmL_ok h.fx off n cap g bx tp nr md) (fun k => if k = 108 then 225 else k) (fun k hk => if_neg (by omega)) ?_ (by simp) (by simp [cmL,hr]; simp [cfB,Blk.rn,renF,ren0]) (by simp [keys,cmL]) (by simp [keys,cmL]; rfl) ?_; focus (simp [ren,renA,renF,ren0]; done))); try simp [hC,hY,f0,f1,c0,c1,cnB])); refine hQ _ _ _ _ (by kernel_rfl) ?_; clear hQ hP Q) | (refine gwC ?_ ?_ <;> (intro hb; first | (cases hb; done) | skip)))
   refine ⟨.inr rfl,by simp [Tryd.results35],kpS G0F⟩
  | true =>
   cases c2:wiB g 1 1048576 with
   | false =>
    have e:whyS n f g bx tp nr md = ⟨#[99,111,110,115,116,97,110,116]⟩ := by unfold whyS; simp only [c0,c1,c2,Bool.true_eq_false,if_true,if_false,reduceCtorEq]
    rw [e]
    repeat' (first | refine GWL_start ?_ | refine GWL_step ?_ | refine gwA ?_ | ((first | refine gwR [62,64,67] ?_ | refine gwD [62,64,67] ?_); intro Q hQ hP; simp [hC,hY,f0,f1,f2,c0,c1,c2,cnB]; (repeat ((first | (refine heapK_mv (cn1_fun n 4) G0F (B := 200) ⟨by simp,by simp [keys],by simp [jb,ids_lit,idsF,ids0]⟩ (fun k => if k = 100 then 226 else if k = 108 then 227 else k) (fun k hk => (if_neg (by omega)).trans (if_neg (by omega))) ?_ (by simp) (by simp [jb_rn]) (by simp [keys]) (by simp [keys]; rfl) ?_; focus (simp [ren,renA,renF,ren0]; done)) | (refine heapK_mv (cm2_fun b off n cap f h g bx tp nr md) G0F (B := 200) (cmL_ok h.fx off n cap g bx tp nr md) (fun k => if k = 108 then 225 else k) (fun k hk => if_neg (by omega)) ?_ (by simp) (by simp [cmL,hr]; simp [cfB,Blk.rn,renF,ren0]) (by simp [keys,cmL]) (by simp [keys,cmL]; rfl) ?_; focus (simp [ren,renA,renF,ren0]; done)) | (refine heapK_mv (cn1_fun g 1048576) G0F (B := 200) ⟨by simp,by simp [keys],by simp [jb,ids_lit,idsF,ids0]⟩ (fun k => if k = 100 then 228 else if k = 108 then 229 else k) (fun k hk => (if_neg (by omega)).trans (if_neg (by omega))) ?_ (by simp) (by simp [jb_rn]) (by simp [keys]) (by simp [keys]; rfl) ?_; focus (simp [ren,renA,renF,ren0]; done))); try simp [hC,hY,f0,f1,f2,c0,c1,c2,cnB])); refine hQ _ _ _ _ (by kernel_rfl) ?_; clear hQ hP Q) | (refine gwC ?_ ?_ <;> (intro hb; first | (cases hb; done) | skip)))
    refine ⟨.inr rfl,by simp [Tryd.results35],kpS G0F⟩
   | true =>
    cases c3:wiB bx 1 1048576 with
    | false =>
     have e:whyS n f g bx tp nr md = ⟨#[98,111,120]⟩ := by unfold whyS; simp only [c0,c1,c2,c3,Bool.true_eq_false,if_true,if_false,reduceCtorEq]
     rw [e]
     repeat' (first | refine GWL_start ?_ | refine GWL_step ?_ | refine gwA ?_ | ((first | refine gwR [62,64,67] ?_ | refine gwD [62,64,67] ?_); intro Q hQ hP; simp [hC,hY,f0,f1,f2,f3,c0,c1,c2,c3,cnB]; (repeat ((first | (refine heapK_mv (cn1_fun n 4) G0F (B := 200) ⟨by simp,by simp [keys],by simp [jb,ids_lit,idsF,ids0]⟩ (fun k => if k = 100 then 226 else if k = 108 then 227 else k) (fun k hk => (if_neg (by omega)).trans (if_neg (by omega))) ?_ (by simp) (by simp [jb_rn]) (by simp [keys]) (by simp [keys]; rfl) ?_; focus (simp [ren,renA,renF,ren0]; done)) | (refine heapK_mv (cm2_fun b off n cap f h g bx tp nr md) G0F (B := 200) (cmL_ok h.fx off n cap g bx tp nr md) (fun k => if k = 108 then 225 else k) (fun k hk => if_neg (by omega)) ?_ (by simp) (by simp [cmL,hr]; simp [cfB,Blk.rn,renF,ren0]) (by simp [keys,cmL]) (by simp [keys,cmL]; rfl) ?_; focus (simp [ren,renA,renF,ren0]; done)) | (refine heapK_mv (cn1_fun g 1048576) G0F (B := 200) ⟨by simp,by simp [keys],by simp [jb,ids_lit,idsF,ids0]⟩ (fun k => if k = 100 then 228 else if k = 108 then 229 else k) (fun k hk => (if_neg (by omega)).trans (if_neg (by omega))) ?_ (by simp) (by simp [jb_rn]) (by simp [keys]) (by simp [keys]; rfl) ?_; focus (simp [ren,renA,renF,ren0]; done)) | (refine heapK_mv (cn1_fun bx 1048576) G0F (B := 200) ⟨by simp,by simp [keys],by simp [jb,ids_lit,idsF,ids0]⟩ (fun k => if k = 100 then 230 else if k = 108 then 231 else k) (fun k hk => (if_neg (by omega)).trans (if_neg (by omega))) ?_ (by simp) (by simp [jb_rn]) (by simp [keys]) (by simp [keys]; rfl) ?_; focus (simp [ren,renA,renF,ren0]; done))); try simp [hC,hY,f0,f1,f2,f3,c0,c1,c2,c3,cnB])); refine hQ _ _ _ _ (by kernel_rfl) ?_; clear hQ hP Q) | (refine gwC ?_ ?_ <;> (intro hb; first | (cases hb; done) | skip)))
     refine ⟨.inr rfl,by simp [Tryd.results35],kpS G0F⟩
    | true =>
     cases c4:wiB tp 1 65536 with
     | false =>
      have e:whyS n f g bx tp nr md = ⟨#[116,111,112]⟩ := by unfold whyS; simp only [c0,c1,c2,c3,c4,Bool.true_eq_false,if_true,if_false,reduceCtorEq]
      rw [e]
      repeat' (first | refine GWL_start ?_ | refine GWL_step ?_ | refine gwA ?_ | ((first | refine gwR [62,64,67] ?_ | refine gwD [62,64,67] ?_); intro Q hQ hP; simp [hC,hY,f0,f1,f2,f3,f4,c0,c1,c2,c3,c4,cnB]; (repeat ((first | (refine heapK_mv (cn1_fun n 4) G0F (B := 200) ⟨by simp,by simp [keys],by simp [jb,ids_lit,idsF,ids0]⟩ (fun k => if k = 100 then 226 else if k = 108 then 227 else k) (fun k hk => (if_neg (by omega)).trans (if_neg (by omega))) ?_ (by simp) (by simp [jb_rn]) (by simp [keys]) (by simp [keys]; rfl) ?_; focus (simp [ren,renA,renF,ren0]; done)) | (refine heapK_mv (cm2_fun b off n cap f h g bx tp nr md) G0F (B := 200) (cmL_ok h.fx off n cap g bx tp nr md) (fun k => if k = 108 then 225 else k) (fun k hk => if_neg (by omega)) ?_ (by simp) (by simp [cmL,hr]; simp [cfB,Blk.rn,renF,ren0]) (by simp [keys,cmL]) (by simp [keys,cmL]; rfl) ?_; focus (simp [ren,renA,renF,ren0]; done)) | (refine heapK_mv (cn1_fun g 1048576) G0F (B := 200) ⟨by simp,by simp [keys],by simp [jb,ids_lit,idsF,ids0]⟩ (fun k => if k = 100 then 228 else if k = 108 then 229 else k) (fun k hk => (if_neg (by omega)).trans (if_neg (by omega))) ?_ (by simp) (by simp [jb_rn]) (by simp [keys]) (by simp [keys]; rfl) ?_; focus (simp [ren,renA,renF,ren0]; done)) | (refine heapK_mv (cn1_fun bx 1048576) G0F (B := 200) ⟨by simp,by simp [keys],by simp [jb,ids_lit,idsF,ids0]⟩ (fun k => if k = 100 then 230 else if k = 108 then 231 else k) (fun k hk => (if_neg (by omega)).trans (if_neg (by omega))) ?_ (by simp) (by simp [jb_rn]) (by simp [keys]) (by simp [keys]; rfl) ?_; focus (simp [ren,renA,renF,ren0]; done)) | (refine heapK_mv (cn1_fun tp 65536) G0F (B := 200) ⟨by simp,by simp [keys],by simp [jb,ids_lit,idsF,ids0]⟩ (fun k => if k = 100 then 232 else if k = 108 then 233 else k) (fun k hk => (if_neg (by omega)).trans (if_neg (by omega))) ?_ (by simp) (by simp [jb_rn]) (by simp [keys]) (by simp [keys]; rfl) ?_; focus (simp [ren,renA,renF,ren0]; done))); try simp [hC,hY,f0,f1,f2,f3,f4,c0,c1,c2,c3,c4,cnB])); refine hQ _ _ _ _ (by kernel_rfl) ?_; clear hQ hP Q) | (refine gwC ?_ ?_ <;> (intro hb; first | (cases hb; done) | skip)))
      refine ⟨.inr rfl,by simp [Tryd.results35],kpS G0F⟩
     | true =>
      cases c5:wiB nr 1 (Int.bmod (2 * bx) 18446744073709551616) with
      | false =>
       have e:whyS n f g bx tp nr md = ⟨#[110,101,97,114]⟩ := by unfold whyS; simp only [c0,c1,c2,c3,c4,c5,Bool.true_eq_false,if_true,if_false,reduceCtorEq]
       rw [e]
       repeat' (first | refine GWL_start ?_ | refine GWL_step ?_ | refine gwA ?_ | ((first | refine gwR [62,64,67] ?_ | refine gwD [62,64,67] ?_); intro Q hQ hP; simp [hC,hY,f0,f1,f2,f3,f4,f5,c0,c1,c2,c3,c4,c5,cnB]; (repeat ((first | (refine heapK_mv (cn1_fun n 4) G0F (B := 200) ⟨by simp,by simp [keys],by simp [jb,ids_lit,idsF,ids0]⟩ (fun k => if k = 100 then 226 else if k = 108 then 227 else k) (fun k hk => (if_neg (by omega)).trans (if_neg (by omega))) ?_ (by simp) (by simp [jb_rn]) (by simp [keys]) (by simp [keys]; rfl) ?_; focus (simp [ren,renA,renF,ren0]; done)) | (refine heapK_mv (cm2_fun b off n cap f h g bx tp nr md) G0F (B := 200) (cmL_ok h.fx off n cap g bx tp nr md) (fun k => if k = 108 then 225 else k) (fun k hk => if_neg (by omega)) ?_ (by simp) (by simp [cmL,hr]; simp [cfB,Blk.rn,renF,ren0]) (by simp [keys,cmL]) (by simp [keys,cmL]; rfl) ?_; focus (simp [ren,renA,renF,ren0]; done)) | (refine heapK_mv (cn1_fun g 1048576) G0F (B := 200) ⟨by simp,by simp [keys],by simp [jb,ids_lit,idsF,ids0]⟩ (fun k => if k = 100 then 228 else if k = 108 then 229 else k) (fun k hk => (if_neg (by omega)).trans (if_neg (by omega))) ?_ (by simp) (by simp [jb_rn]) (by simp [keys]) (by simp [keys]; rfl) ?_; focus (simp [ren,renA,renF,ren0]; done)) | (refine heapK_mv (cn1_fun bx 1048576) G0F (B := 200) ⟨by simp,by simp [keys],by simp [jb,ids_lit,idsF,ids0]⟩ (fun k => if k = 100 then 230 else if k = 108 then 231 else k) (fun k hk => (if_neg (by omega)).trans (if_neg (by omega))) ?_ (by simp) (by simp [jb_rn]) (by simp [keys]) (by simp [keys]; rfl) ?_; focus (simp [ren,renA,renF,ren0]; done)) | (refine heapK_mv (cn1_fun tp 65536) G0F (B := 200) ⟨by simp,by simp [keys],by simp [jb,ids_lit,idsF,ids0]⟩ (fun k => if k = 100 then 232 else if k = 108 then 233 else k) (fun k hk => (if_neg (by omega)).trans (if_neg (by omega))) ?_ (by simp) (by simp [jb_rn]) (by simp [keys]) (by simp [keys]; rfl) ?_; focus (simp [ren,renA,renF,ren0]; done)) | (refine heapK_mv (cn1_fun nr (Int.bmod (2 * bx) 18446744073709551616)) G0F (B := 200) ⟨by simp,by simp [keys],by simp [jb,ids_lit,idsF,ids0]⟩ (fun k => if k = 100 then 234 else if k = 108 then 235 else k) (fun k hk => (if_neg (by omega)).trans (if_neg (by omega))) ?_ (by simp) (by simp [jb_rn]) (by simp [keys]) (by simp [keys]; rfl) ?_; focus (simp [ren,renA,renF,ren0]; done))); try simp [hC,hY,f0,f1,f2,f3,f4,f5,c0,c1,c2,c3,c4,c5,cnB])); refine hQ _ _ _ _ (by kernel_rfl) ?_; clear hQ hP Q) | (refine gwC ?_ ?_ <;> (intro hb; first | (cases hb; done) | skip)))
       refine ⟨.inr rfl,by simp [Tryd.results35],kpS G0F⟩
      | true =>
       cases c6:wiB md 0 4 with
       | false =>
        have e:whyS n f g bx tp nr md = ⟨#[109,101,116,104,111,100]⟩ := by unfold whyS; simp only [c0,c1,c2,c3,c4,c5,c6,Bool.true_eq_false,if_true,if_false,reduceCtorEq]
        rw [e]
        repeat' (first | refine GWL_start ?_ | refine GWL_step ?_ | refine gwA ?_ | ((first | refine gwR [62,64,67] ?_ | refine gwD [62,64,67] ?_); intro Q hQ hP; simp [hC,hY,f0,f1,f2,f3,f4,f5,f6,c0,c1,c2,c3,c4,c5,c6,cnB]; (repeat ((first | (refine heapK_mv (cn1_fun n 4) G0F (B := 200) ⟨by simp,by simp [keys],by simp [jb,ids_lit,idsF,ids0]⟩ (fun k => if k = 100 then 226 else if k = 108 then 227 else k) (fun k hk => (if_neg (by omega)).trans (if_neg (by omega))) ?_ (by simp) (by simp [jb_rn]) (by simp [keys]) (by simp [keys]; rfl) ?_; focus (simp [ren,renA,renF,ren0]; done)) | (refine heapK_mv (cm2_fun b off n cap f h g bx tp nr md) G0F (B := 200) (cmL_ok h.fx off n cap g bx tp nr md) (fun k => if k = 108 then 225 else k) (fun k hk => if_neg (by omega)) ?_ (by simp) (by simp [cmL,hr]; simp [cfB,Blk.rn,renF,ren0]) (by simp [keys,cmL]) (by simp [keys,cmL]; rfl) ?_; focus (simp [ren,renA,renF,ren0]; done)) | (refine heapK_mv (cn1_fun g 1048576) G0F (B := 200) ⟨by simp,by simp [keys],by simp [jb,ids_lit,idsF,ids0]⟩ (fun k => if k = 100 then 228 else if k = 108 then 229 else k) (fun k hk => (if_neg (by omega)).trans (if_neg (by omega))) ?_ (by simp) (by simp [jb_rn]) (by simp [keys]) (by simp [keys]; rfl) ?_; focus (simp [ren,renA,renF,ren0]; done)) | (refine heapK_mv (cn1_fun bx 1048576) G0F (B := 200) ⟨by simp,by simp [keys],by simp [jb,ids_lit,idsF,ids0]⟩ (fun k => if k = 100 then 230 else if k = 108 then 231 else k) (fun k hk => (if_neg (by omega)).trans (if_neg (by omega))) ?_ (by simp) (by simp [jb_rn]) (by simp [keys]) (by simp [keys]; rfl) ?_; focus (simp [ren,renA,renF,ren0]; done)) | (refine heapK_mv (cn1_fun tp 65536) G0F (B := 200) ⟨by simp,by simp [keys],by simp [jb,ids_lit,idsF,ids0]⟩ (fun k => if k = 100 then 232 else if k = 108 then 233 else k) (fun k hk => (if_neg (by omega)).trans (if_neg (by omega))) ?_ (by simp) (by simp [jb_rn]) (by simp [keys]) (by simp [keys]; rfl) ?_; focus (simp [ren,renA,renF,ren0]; done)) | (refine heapK_mv (cn1_fun nr (Int.bmod (2 * bx) 18446744073709551616)) G0F (B := 200) ⟨by simp,by simp [keys],by simp [jb,ids_lit,idsF,ids0]⟩ (fun k => if k = 100 then 234 else if k = 108 then 235 else k) (fun k hk => (if_neg (by omega)).trans (if_neg (by omega))) ?_ (by simp) (by simp [jb_rn]) (by simp [keys]) (by simp [keys]; rfl) ?_; focus (simp [ren,renA,renF,ren0]; done)) | (refine heapK_mv (cm3_fun b off n cap h.fx g bx tp nr md) G0F (B := 200) (cmL_ok h.fx off n cap g bx tp nr md) (fun k => if k = 108 then 225 else k) (fun k hk => if_neg (by omega)) ?_ (by simp) (by simp [cmL,hr]; simp [cfB,Blk.rn,renF,ren0]) (by simp [keys,cmL]) (by simp [keys,cmL]; rfl) ?_; focus (simp [ren,renA,renF,ren0]; done))); try simp [hC,hY,f0,f1,f2,f3,f4,f5,f6,c0,c1,c2,c3,c4,c5,c6,cnB])); refine hQ _ _ _ _ (by kernel_rfl) ?_; clear hQ hP Q) | (refine gwC ?_ ?_ <;> (intro hb; first | (cases hb; done) | skip)))
        refine ⟨.inr rfl,by simp [Tryd.results35],kpS G0F⟩
       | true =>
        have e:whyS n f g bx tp nr md = ⟨#[]⟩ := by unfold whyS; simp only [c0,c1,c2,c3,c4,c5,c6,Bool.true_eq_false,if_true,if_false,reduceCtorEq]
        rw [e]
        repeat' (first | refine GWL_start ?_ | refine GWL_step ?_ | refine gwA ?_ | ((first | refine gwR [62,64,67] ?_ | refine gwD [62,64,67] ?_); intro Q hQ hP; simp [hC,hY,f0,f1,f2,f3,f4,f5,f6,c0,c1,c2,c3,c4,c5,c6,cnB]; (repeat ((first | (refine heapK_mv (cn1_fun n 4) G0F (B := 200) ⟨by simp,by simp [keys],by simp [jb,ids_lit,idsF,ids0]⟩ (fun k => if k = 100 then 226 else if k = 108 then 227 else k) (fun k hk => (if_neg (by omega)).trans (if_neg (by omega))) ?_ (by simp) (by simp [jb_rn]) (by simp [keys]) (by simp [keys]; rfl) ?_; focus (simp [ren,renA,renF,ren0]; done)) | (refine heapK_mv (cm2_fun b off n cap f h g bx tp nr md) G0F (B := 200) (cmL_ok h.fx off n cap g bx tp nr md) (fun k => if k = 108 then 225 else k) (fun k hk => if_neg (by omega)) ?_ (by simp) (by simp [cmL,hr]; simp [cfB,Blk.rn,renF,ren0]) (by simp [keys,cmL]) (by simp [keys,cmL]; rfl) ?_; focus (simp [ren,renA,renF,ren0]; done)) | (refine heapK_mv (cn1_fun g 1048576) G0F (B := 200) ⟨by simp,by simp [keys],by simp [jb,ids_lit,idsF,ids0]⟩ (fun k => if k = 100 then 228 else if k = 108 then 229 else k) (fun k hk => (if_neg (by omega)).trans (if_neg (by omega))) ?_ (by simp) (by simp [jb_rn]) (by simp [keys]) (by simp [keys]; rfl) ?_; focus (simp [ren,renA,renF,ren0]; done)) | (refine heapK_mv (cn1_fun bx 1048576) G0F (B := 200) ⟨by simp,by simp [keys],by simp [jb,ids_lit,idsF,ids0]⟩ (fun k => if k = 100 then 230 else if k = 108 then 231 else k) (fun k hk => (if_neg (by omega)).trans (if_neg (by omega))) ?_ (by simp) (by simp [jb_rn]) (by simp [keys]) (by simp [keys]; rfl) ?_; focus (simp [ren,renA,renF,ren0]; done)) | (refine heapK_mv (cn1_fun tp 65536) G0F (B := 200) ⟨by simp,by simp [keys],by simp [jb,ids_lit,idsF,ids0]⟩ (fun k => if k = 100 then 232 else if k = 108 then 233 else k) (fun k hk => (if_neg (by omega)).trans (if_neg (by omega))) ?_ (by simp) (by simp [jb_rn]) (by simp [keys]) (by simp [keys]; rfl) ?_; focus (simp [ren,renA,renF,ren0]; done)) | (refine heapK_mv (cn1_fun nr (Int.bmod (2 * bx) 18446744073709551616)) G0F (B := 200) ⟨by simp,by simp [keys],by simp [jb,ids_lit,idsF,ids0]⟩ (fun k => if k = 100 then 234 else if k = 108 then 235 else k) (fun k hk => (if_neg (by omega)).trans (if_neg (by omega))) ?_ (by simp) (by simp [jb_rn]) (by simp [keys]) (by simp [keys]; rfl) ?_; focus (simp [ren,renA,renF,ren0]; done)) | (refine heapK_mv (cm3_fun b off n cap h.fx g bx tp nr md) G0F (B := 200) (cmL_ok h.fx off n cap g bx tp nr md) (fun k => if k = 108 then 225 else k) (fun k hk => if_neg (by omega)) ?_ (by simp) (by simp [cmL,hr]; simp [cfB,Blk.rn,renF,ren0]) (by simp [keys,cmL]) (by simp [keys,cmL]; rfl) ?_; focus (simp [ren,renA,renF,ren0]; done))); try simp [hC,hY,f0,f1,f2,f3,f4,f5,f6,c0,c1,c2,c3,c4,c5,c6,cnB])); refine hQ _ _ _ _ (by kernel_rfl) ?_; clear hQ hP Q) | (refine gwC ?_ ?_ <;> (intro hb; first | (cases hb; done) | skip)))
        refine ⟨.inr rfl,by simp [Tryd.results35],kpS G0F⟩
def cfOk (n:Nat) (f:Nat → Int) (g bx tp nr md:Int):Bool := wiB n 1 4 && (allM f n && (wiB g 1 1048576 && (wiB bx 1 1048576 && (wiB tp 1 65536 && (wiB nr 1 (Int.bmod (2 * bx) 18446744073709551616) && (wiB md 0 4))))))
set_option maxRecDepth 8000 in
set_option maxHeartbeats 8000000 in
theorem musts0_fun (b:Blk) (hb:b.fx) (g bx tp nr md:Int) :
  FunS Tryd.prog G0 49 #[cfV (.slice none 0 0) g bx tp nr md] (hpL G0 [(100,b)]) (keys [(100,b)]) (MustsR 1000 (.slice none 0 0) 0 g bx tp nr md) := by
 refine newS_ofL (B := 200) G0F Tryd.func49 rfl Tryd.call49 (oneL_ok hb) ?_ ?_ (by simp [Tryd.ntmps49]) (by omega) ?_
 ·simp [idsV,idsA,idsF,ids0,keys,cfV]
 ·rintro v ns ⟨l,rfl,rfl,hl,_⟩
  have hl2:∀ D:Nat → Prop,(∀ k,1000 ≤ k → k < 1012 → D k) → (mpB l).ids D := fun D hD => mpB_ids.2 fun p hp => by
   have := hl p hp
   simp only [mV,List.mem_cons,List.not_mem_nil,or_false] at this
   rcases this with rfl | rfl | rfl | rfl | rfl | rfl | rfl <;> simp [idsF,ids0,hD]
  refine ⟨by simp [idsV,idsA,idsF,ids0,extD,keys,mNs],?_,?_⟩
  ·intro p hp
   simp only [mNs,List.mem_cons,List.not_mem_nil,or_false] at hp
   have hD:∀ k,1000 ≤ k → k < 1012 → extD (fun k => k ∈ keys [(100,b)]) (mNs 1000 l (.slice none 0 0) 0 g bx tp nr md) k := fun k hk1 hk2 => .inr (by
    simp only [mNs,keys,List.map_cons,List.map_nil,List.mem_cons,List.not_mem_nil,or_false]
    omega)
   rcases hp with rfl | rfl | rfl | rfl | rfl | rfl | rfl | rfl | rfl | rfl | rfl | rfl
   ·exact ⟨by omega,hl2 _ hD⟩
   ·exact ⟨by omega,by simp [cfB,ids_lit,idsF,ids0,extD,keys]⟩
   all_goals exact ⟨by omega,by simp [jb,ids_lit,idsF,ids0]⟩
  ·intro k b c h1 h2
   simp only [mNs,List.mem_cons,List.not_mem_nil,or_false,Prod.mk.injEq] at h1 h2
   rcases h1 with ⟨e1,rfl⟩ | ⟨e1,rfl⟩ | ⟨e1,rfl⟩ | ⟨e1,rfl⟩ | ⟨e1,rfl⟩ | ⟨e1,rfl⟩ | ⟨e1,rfl⟩ | ⟨e1,rfl⟩ | ⟨e1,rfl⟩ | ⟨e1,rfl⟩ | ⟨e1,rfl⟩ | ⟨e1,rfl⟩ <;> rcases h2 with ⟨e2,rfl⟩ | ⟨e2,rfl⟩ | ⟨e2,rfl⟩ | ⟨e2,rfl⟩ | ⟨e2,rfl⟩ | ⟨e2,rfl⟩ | ⟨e2,rfl⟩ | ⟨e2,rfl⟩ | ⟨e2,rfl⟩ | ⟨e2,rfl⟩ | ⟨e2,rfl⟩ | ⟨e2,rfl⟩ <;> first | rfl | omega
 intro C hC hC0 hY
 unfold cfV
 repeat' (first | refine gwA ?_ | ((first | refine gwR [] ?_ | refine gwD [] ?_); intro Q hQ hP; simp [hC,hY]; refine hQ _ _ _ _ (by kernel_rfl) ?_; clear hQ hP Q) | (refine gwC ?_ ?_ <;> (intro hb; first | (cases hb; done) | skip)))
 refine GW_any follows ?_
 simp only [Array.toList,List.length_cons,List.length_nil,Nat.reduceAdd]
 obtain ⟨sl,hsl⟩:∃ sl,Value.slice none 0 0 = sl := ⟨_,rfl⟩
 refine GA_ind (MI b sl 0 g bx tp nr md) (fun listed ts hp hs hr hI => ?_) (fun fuel listed ts hp i hs hi hdep h hk => ?_) _ _ _ _ (by simp) (by decide +kernel) ?_
 ·have hall := ready_nil hs (by kernel_rfl) hr
  have hall:∀ i,i < 36 → listed[i]? = some true := fun i hi => hall i (by simpa using hi)
  obtain ⟨l,l1,l2,l3⟩ := hI.mp (hall 0 (by omega))
  have h2 := hI.tm (35,2,.map (some 224)) (by simp [mT]) (hall 35 (by omega))
  have hinv:∀ q ∈ mI,renF mR (renF mS q.2.2) = q.2.2 := by simp [mI,renF,ren0,mR,mS]
  have hcan:∀ q ∈ mI,(q.2.1,renF mS q.2.2) ∈ mV 1000 := by simp [mI,mV,renF,ren0,mS]
  have hfind:∀ q ∈ mV 1000,∃ p ∈ mI,p.2.1 = q.1 ∧ renF mS p.2.2 = q.2 ∧ p.1 < 36 := by
   intro q hq
   simp only [mV,List.mem_cons,List.not_mem_nil,or_false] at hq
   rcases hq with rfl | rfl | rfl | rfl | rfl | rfl | rfl
   ·exact ⟨(6,⟨#[98,111,100,105,101,115]⟩,.func (.func 62) #[] #[.pointer (some ⟨264,0,none⟩),.pointer (some ⟨265,0,none⟩)]),by simp [mI],rfl,by simp [renF,ren0,mS],by omega⟩
   ·exact ⟨(8,⟨#[109,97,115,115]⟩,.func (.func 64) #[] #[.pointer (some ⟨200,0,none⟩)]),by simp [mI],rfl,by simp [renF,ren0,mS],by omega⟩
   ·exact ⟨(13,⟨#[99,111,110,115,116,97,110,116]⟩,.func (.func 62) #[] #[.pointer (some ⟨320,0,none⟩),.pointer (some ⟨321,0,none⟩)]),by simp [mI],rfl,by simp [renF,ren0,mS],by omega⟩
   ·exact ⟨(18,⟨#[98,111,120]⟩,.func (.func 62) #[] #[.pointer (some ⟨360,0,none⟩),.pointer (some ⟨361,0,none⟩)]),by simp [mI],rfl,by simp [renF,ren0,mS],by omega⟩
   ·exact ⟨(23,⟨#[116,111,112]⟩,.func (.func 62) #[] #[.pointer (some ⟨400,0,none⟩),.pointer (some ⟨401,0,none⟩)]),by simp [mI],rfl,by simp [renF,ren0,mS],by omega⟩
   ·exact ⟨(31,⟨#[110,101,97,114]⟩,.func (.func 62) #[] #[.pointer (some ⟨464,0,none⟩),.pointer (some ⟨465,0,none⟩)]),by simp [mI],rfl,by simp [renF,ren0,mS],by omega⟩
   ·exact ⟨(33,⟨#[109,101,116,104,111,100]⟩,.func (.func 67) #[] #[.pointer (some ⟨200,0,none⟩)]),by simp [mI],rfl,by simp [renF,ren0,mS],by omega⟩
  simp only [thenG_normal]
  refine GW_ret ?_
  refine ⟨.inr rfl,keep_of G0F (by simp [hI.b]) (fun k hk => (hI.low k hk).trans (hpL_low (by simp) hk).symm),_,_,mR,⟨l.map fun p => (p.1,renF mS p.2),rfl,rfl,fun p hp => ?_,fun q hq => ?_⟩,fun k hk => ?_,?_,?_,?_,?_⟩
  ·obtain ⟨p0,hp0,rfl⟩ := List.mem_map.1 hp
   obtain ⟨q,hq,rfl,_⟩ := l2 p0 hp0
   exact hcan q hq
  ·obtain ⟨p,hp,e1,e2,hlt⟩ := hfind q hq
   rw [findL_map,← e1,l3 p hp (hall _ hlt),← e2]
   rfl
  ·unfold mR
   iterate 12 rw [if_neg (by omega)]
  ·simp [mNs,mR]
  ·simp [mNs,mR]
  ·simp [Tryd.results49,h2,ren,renA,renF,ren0,mR]
   rfl
  ·subst hsl
   have hbx := hI.bx
   have hm:(mpB (l.map fun p => (p.1,renF mS p.2))).rn mR = mpB l := by
    rw [mpB_rn,List.map_map]
    congr 1
    conv => rhs; rw [← List.map_id l]
    refine List.map_congr_left fun p hp => ?_
    obtain ⟨q,hq,rfl,_⟩ := l2 p hp
    simp only [Function.comp_def,id]
    rw [hinv q hq]
   intro p hp
   simp only [mNs,List.mem_cons,List.not_mem_nil,or_false] at hp
   rcases hp with rfl | rfl | rfl | rfl | rfl | rfl | rfl | rfl | rfl | rfl | rfl | rfl
   ·show hp (mR 1000) = some ((mpB _).rn mR)
    rw [hm]
    exact l1
   ·show hp 200 = some ((cfB _ g bx tp nr md).rn mR)
    rw [hI.c]
    simp [cfB,Blk.rn,renF,ren0,mR]
   ·show hp 264 = some ((jb ((0:Nat):Int)).rn mR)
    rw [jb_rn]
    exact hbx (5,264,jb ((0:Nat):Int)) (by simp [mX]) (hall 5 (by omega))
   ·show hp 265 = some ((jb 4).rn mR)
    rw [jb_rn]
    exact hbx (5,265,jb 4) (by simp [mX]) (hall 5 (by omega))
   ·show hp 320 = some ((jb g).rn mR)
    rw [jb_rn]
    exact hbx (12,320,jb g) (by simp [mX]) (hall 12 (by omega))
   ·show hp 321 = some ((jb 1048576).rn mR)
    rw [jb_rn]
    exact hbx (12,321,jb 1048576) (by simp [mX]) (hall 12 (by omega))
   ·show hp 360 = some ((jb bx).rn mR)
    rw [jb_rn]
    exact hbx (17,360,jb bx) (by simp [mX]) (hall 17 (by omega))
   ·show hp 361 = some ((jb 1048576).rn mR)
    rw [jb_rn]
    exact hbx (17,361,jb 1048576) (by simp [mX]) (hall 17 (by omega))
   ·show hp 400 = some ((jb tp).rn mR)
    rw [jb_rn]
    exact hbx (22,400,jb tp) (by simp [mX]) (hall 22 (by omega))
   ·show hp 401 = some ((jb 65536).rn mR)
    rw [jb_rn]
    exact hbx (22,401,jb 65536) (by simp [mX]) (hall 22 (by omega))
   ·show hp 464 = some ((jb nr).rn mR)
    rw [jb_rn]
    exact hbx (30,464,jb nr) (by simp [mX]) (hall 30 (by omega))
   ·show hp 465 = some ((jb (Int.bmod (2 * bx) 18446744073709551616)).rn mR)
    rw [jb_rn]
    exact hbx (30,465,jb (Int.bmod (2 * bx) 18446744073709551616)) (by simp [mX]) (hall 30 (by omega))
 ·have hlt:i < 36 := by
   have := (Array.getElem?_eq_some_iff.1 hi).1
   rw [hs] at this
   simpa using this
  subst hsl
  obtain rfl | rfl | rfl | rfl | rfl | rfl | rfl | rfl | rfl | rfl | rfl | rfl | rfl | rfl | rfl | rfl | rfl | rfl | rfl | rfl | rfl | rfl | rfl | rfl | rfl | rfl | rfl | rfl | rfl | rfl | rfl | rfl | rfl | rfl | rfl | rfl:i = 0 ∨ i = 1 ∨ i = 2 ∨ i = 3 ∨ i = 4 ∨ i = 5 ∨ i = 6 ∨ i = 7 ∨ i = 8 ∨ i = 9 ∨ i = 10 ∨ i = 11 ∨ i = 12 ∨ i = 13 ∨ i = 14 ∨ i = 15 ∨ i = 16 ∨ i = 17 ∨ i = 18 ∨ i = 19 ∨ i = 20 ∨ i = 21 ∨ i = 22 ∨ i = 23 ∨ i = 24 ∨ i = 25 ∨ i = 26 ∨ i = 27 ∨ i = 28 ∨ i = 29 ∨ i = 30 ∨ i = 31 ∨ i = 32 ∨ i = 33 ∨ i = 34 ∨ i = 35 := by omega
  ·-- 0 map
   have f0 := h.t1
   have f1 := h.t3
   refine GO_walk [] rfl (by kernel_rfl) (by first | assumption | simp) ?_; intro q hq; simp [hC,hY,f0,f1]; refine hq _ _ _ _ ?_; clear hq q
   exact hk _ _ (h.mkm hi)
  ·-- 1 mv
   have f0 := h.t1
   have f1 := h.t3
   refine GO_walk [] rfl (by kernel_rfl) (by first | assumption | simp) ?_; intro q hq; simp [hC,hY,f0,f1]; refine hq _ _ _ _ ?_; clear hq q
   exact hk _ _ (h.tmp (i := 1) (t := 5) (by simp [mT]) (by simp [mX]) (by omega))
  ·-- 2 fa
   have f0 := h.t1
   have f1 := h.t3
   refine GO_walk [] rfl (by kernel_rfl) (by first | assumption | simp) ?_; intro q hq; simp [hC,hY,f0,f1]; refine hq _ _ _ _ ?_; clear hq q
   exact hk _ _ (h.tmp (i := 2) (t := 6) (by simp [mT]) (by simp [mX]) (by omega))
  ·-- 3 ld
   have hd:∀ j ∈ [2],listed[j]? = some true := by
    have hd0 := hdep _ rfl
    simp [Region.binds] at hd0
    simp [hd0]
   have f0 := h.t1
   have f1 := h.t3
   have f2 := h.tm (2,6,.pointer (some ⟨200,0,none⟩)) (by simp [mT]) (hd 2 (by simp))
   have fc := h.c
   unfold cfB at fc
   refine GO_walk [] rfl (by kernel_rfl) (by first | assumption | simp) ?_; intro q hq; simp [hC,hY,f0,f1,f2,fc]; refine hq _ _ _ _ ?_; clear hq q
   exact hk _ _ (h.tmp (i := 3) (t := 7) (by simp [mT]) (by simp [mX]) (by omega))
  ·-- 4 len
   have hd:∀ j ∈ [3],listed[j]? = some true := by
    have hd0 := hdep _ rfl
    simp [Region.binds] at hd0
    simp [hd0]
   have f0 := h.t1
   have f1 := h.t3
   have f2 := h.tm (3,7,.slice none 0 0) (by simp [mT]) (hd 3 (by simp))
   refine GO_walk [] rfl (by kernel_rfl) (by first | assumption | simp) ?_; intro q hq; simp [hC,hY,f0,f1,f2]; refine hq _ _ _ _ ?_; clear hq q
   exact hk _ _ (h.tmp (i := 4) (t := 8) (by simp [mT]) (by simp [mX]) (by omega))
  ·-- 5 call
   have hd:∀ j ∈ [1,4],listed[j]? = some true := by
    have hd0 := hdep _ rfl
    simp [Region.binds] at hd0
    simp [hd0]
   have f0 := h.t1
   have f1 := h.t3
   have f2 := h.tm (1,5,.func (.func 61) #[] #[]) (by simp [mT]) (hd 1 (by simp))
   have f3 := h.tm (4,8,.int .i64 ((0:Nat):Int)) (by simp [mT]) (hd 4 (by simp))
   refine GO_callL (f := .tmp 5) (cap := #[]) hC (num_at 264 (by omega) ((0:Nat):Int) 4) rfl hi rfl (by simp [Tryd.ntmps49]) rfl rfl (by simp [okT,f0,f1,f2,f3]) (by simp [gev,f0,f1,f2,f3]) (by simp) (by simp [okX,junk,f0,f1,f2,f3]) (by simp [gev,f0,f1,f2,f3]) (by simp) (fun q hq => (h.low q hq).symm ▸ (by simp)) ?_ ?_
   ·intro v ns hV k hk
    have := numR_key hV k hk
    omega
   rintro v ns ⟨rfl,rfl⟩
   exact hk _ _ (h.call (i := 5) (t := 9) (by simp [mT]) (by omega) (by omega) (by simp [mX]))
  ·-- 6 ins
   have hd:∀ j ∈ [0,5],listed[j]? = some true := by
    have hd0 := hdep _ rfl
    simp [Region.binds] at hd0
    simp [hd0]
   have f0 := h.t1
   have f1 := h.t3
   have f2 := h.tm (0,4,.map (some 224)) (by simp [mT]) (hd 0 (by simp))
   have f3 := h.tm (5,9,.func (.func 62) #[] #[.pointer (some ⟨264,0,none⟩),.pointer (some ⟨265,0,none⟩)]) (by simp [mT]) (hd 5 (by simp))
   obtain ⟨l,l1,l2,l3⟩ := h.mp (hd 0 (by simp))
   have hm:(6,⟨#[98,111,100,105,101,115]⟩,.func (.func 62) #[] #[.pointer (some ⟨264,0,none⟩),.pointer (some ⟨265,0,none⟩)]) ∈ mI := by simp [mI]
   have hn := h.fresh hm hi l2
   refine GO_walk [] rfl (by kernel_rfl) (by first | assumption | simp) ?_; intro q hq; simp [hC,hY,f0,f1,f2,f3,l1,hn]; refine hq _ _ _ _ ?_; clear hq q
   exact hk _ _ (h.ins hm (Array.getElem?_eq_some_iff.1 hi).1 l2 l3 hn (hd 0 (by simp)))
  ·-- 7 mk
   have f0 := h.t1
   have f1 := h.t3
   refine GO_walk [] rfl (by kernel_rfl) (by first | assumption | simp) ?_; intro q hq; simp [hC,hY,f0,f1]; refine hq _ _ _ _ ?_; clear hq q
   exact hk _ _ (h.tmp (i := 7) (t := 10) (by simp [mT]) (by simp [mX]) (by omega))
  ·-- 8 ins
   have hd:∀ j ∈ [0,7],listed[j]? = some true := by
    have hd0 := hdep _ rfl
    simp [Region.binds] at hd0
    simp [hd0]
   have f0 := h.t1
   have f1 := h.t3
   have f2 := h.tm (0,4,.map (some 224)) (by simp [mT]) (hd 0 (by simp))
   have f3 := h.tm (7,10,.func (.func 64) #[] #[.pointer (some ⟨200,0,none⟩)]) (by simp [mT]) (hd 7 (by simp))
   obtain ⟨l,l1,l2,l3⟩ := h.mp (hd 0 (by simp))
   have hm:(8,⟨#[109,97,115,115]⟩,.func (.func 64) #[] #[.pointer (some ⟨200,0,none⟩)]) ∈ mI := by simp [mI]
   have hn := h.fresh hm hi l2
   refine GO_walk [] rfl (by kernel_rfl) (by first | assumption | simp) ?_; intro q hq; simp [hC,hY,f0,f1,f2,f3,l1,hn]; refine hq _ _ _ _ ?_; clear hq q
   exact hk _ _ (h.ins hm (Array.getElem?_eq_some_iff.1 hi).1 l2 l3 hn (hd 0 (by simp)))
  ·-- 9 mv
   have f0 := h.t1
   have f1 := h.t3
   refine GO_walk [] rfl (by kernel_rfl) (by first | assumption | simp) ?_; intro q hq; simp [hC,hY,f0,f1]; refine hq _ _ _ _ ?_; clear hq q
   exact hk _ _ (h.tmp (i := 9) (t := 11) (by simp [mT]) (by simp [mX]) (by omega))
  ·-- 10 fa
   have f0 := h.t1
   have f1 := h.t3
   refine GO_walk [] rfl (by kernel_rfl) (by first | assumption | simp) ?_; intro q hq; simp [hC,hY,f0,f1]; refine hq _ _ _ _ ?_; clear hq q
   exact hk _ _ (h.tmp (i := 10) (t := 12) (by simp [mT]) (by simp [mX]) (by omega))
  ·-- 11 ld
   have hd:∀ j ∈ [10],listed[j]? = some true := by
    have hd0 := hdep _ rfl
    simp [Region.binds] at hd0
    simp [hd0]
   have f0 := h.t1
   have f1 := h.t3
   have f2 := h.tm (10,12,.pointer (some ⟨200,1,none⟩)) (by simp [mT]) (hd 10 (by simp))
   have fc := h.c
   unfold cfB at fc
   refine GO_walk [] rfl (by kernel_rfl) (by first | assumption | simp) ?_; intro q hq; simp [hC,hY,f0,f1,f2,fc]; refine hq _ _ _ _ ?_; clear hq q
   exact hk _ _ (h.tmp (i := 11) (t := 13) (by simp [mT]) (by simp [mX]) (by omega))
  ·-- 12 call
   have hd:∀ j ∈ [9,11],listed[j]? = some true := by
    have hd0 := hdep _ rfl
    simp [Region.binds] at hd0
    simp [hd0]
   have f0 := h.t1
   have f1 := h.t3
   have f2 := h.tm (9,11,.func (.func 61) #[] #[]) (by simp [mT]) (hd 9 (by simp))
   have f3 := h.tm (11,13,.int .i64 g) (by simp [mT]) (hd 11 (by simp))
   refine GO_callL (f := .tmp 11) (cap := #[]) hC (num_at 320 (by omega) g 1048576) rfl hi rfl (by simp [Tryd.ntmps49]) rfl rfl (by simp [okT,f0,f1,f2,f3]) (by simp [gev,f0,f1,f2,f3]) (by simp) (by simp [okX,junk,f0,f1,f2,f3]) (by simp [gev,f0,f1,f2,f3]) (by simp) (fun q hq => (h.low q hq).symm ▸ (by simp)) ?_ ?_
   ·intro v ns hV k hk
    have := numR_key hV k hk
    omega
   rintro v ns ⟨rfl,rfl⟩
   exact hk _ _ (h.call (i := 12) (t := 14) (by simp [mT]) (by omega) (by omega) (by simp [mX]))
  ·-- 13 ins
   have hd:∀ j ∈ [0,12],listed[j]? = some true := by
    have hd0 := hdep _ rfl
    simp [Region.binds] at hd0
    simp [hd0]
   have f0 := h.t1
   have f1 := h.t3
   have f2 := h.tm (0,4,.map (some 224)) (by simp [mT]) (hd 0 (by simp))
   have f3 := h.tm (12,14,.func (.func 62) #[] #[.pointer (some ⟨320,0,none⟩),.pointer (some ⟨321,0,none⟩)]) (by simp [mT]) (hd 12 (by simp))
   obtain ⟨l,l1,l2,l3⟩ := h.mp (hd 0 (by simp))
   have hm:(13,⟨#[99,111,110,115,116,97,110,116]⟩,.func (.func 62) #[] #[.pointer (some ⟨320,0,none⟩),.pointer (some ⟨321,0,none⟩)]) ∈ mI := by simp [mI]
   have hn := h.fresh hm hi l2
   refine GO_walk [] rfl (by kernel_rfl) (by first | assumption | simp) ?_; intro q hq; simp [hC,hY,f0,f1,f2,f3,l1,hn]; refine hq _ _ _ _ ?_; clear hq q
   exact hk _ _ (h.ins hm (Array.getElem?_eq_some_iff.1 hi).1 l2 l3 hn (hd 0 (by simp)))
  ·-- 14 mv
   have f0 := h.t1
   have f1 := h.t3
   refine GO_walk [] rfl (by kernel_rfl) (by first | assumption | simp) ?_; intro q hq; simp [hC,hY,f0,f1]; refine hq _ _ _ _ ?_; clear hq q
   exact hk _ _ (h.tmp (i := 14) (t := 15) (by simp [mT]) (by simp [mX]) (by omega))
  ·-- 15 fa
   have f0 := h.t1
   have f1 := h.t3
   refine GO_walk [] rfl (by kernel_rfl) (by first | assumption | simp) ?_; intro q hq; simp [hC,hY,f0,f1]; refine hq _ _ _ _ ?_; clear hq q
   exact hk _ _ (h.tmp (i := 15) (t := 16) (by simp [mT]) (by simp [mX]) (by omega))
  ·-- 16 ld
   have hd:∀ j ∈ [15],listed[j]? = some true := by
    have hd0 := hdep _ rfl
    simp [Region.binds] at hd0
    simp [hd0]
   have f0 := h.t1
   have f1 := h.t3
   have f2 := h.tm (15,16,.pointer (some ⟨200,2,none⟩)) (by simp [mT]) (hd 15 (by simp))
   have fc := h.c
   unfold cfB at fc
   refine GO_walk [] rfl (by kernel_rfl) (by first | assumption | simp) ?_; intro q hq; simp [hC,hY,f0,f1,f2,fc]; refine hq _ _ _ _ ?_; clear hq q
   exact hk _ _ (h.tmp (i := 16) (t := 17) (by simp [mT]) (by simp [mX]) (by omega))
  ·-- 17 call
   have hd:∀ j ∈ [14,16],listed[j]? = some true := by
    have hd0 := hdep _ rfl
    simp [Region.binds] at hd0
    simp [hd0]
   have f0 := h.t1
   have f1 := h.t3
   have f2 := h.tm (14,15,.func (.func 61) #[] #[]) (by simp [mT]) (hd 14 (by simp))
   have f3 := h.tm (16,17,.int .i64 bx) (by simp [mT]) (hd 16 (by simp))
   refine GO_callL (f := .tmp 15) (cap := #[]) hC (num_at 360 (by omega) bx 1048576) rfl hi rfl (by simp [Tryd.ntmps49]) rfl rfl (by simp [okT,f0,f1,f2,f3]) (by simp [gev,f0,f1,f2,f3]) (by simp) (by simp [okX,junk,f0,f1,f2,f3]) (by simp [gev,f0,f1,f2,f3]) (by simp) (fun q hq => (h.low q hq).symm ▸ (by simp)) ?_ ?_
   ·intro v ns hV k hk
    have := numR_key hV k hk
    omega
   rintro v ns ⟨rfl,rfl⟩
   exact hk _ _ (h.call (i := 17) (t := 18) (by simp [mT]) (by omega) (by omega) (by simp [mX]))
  ·-- 18 ins
   have hd:∀ j ∈ [0,17],listed[j]? = some true := by
    have hd0 := hdep _ rfl
    simp [Region.binds] at hd0
    simp [hd0]
   have f0 := h.t1
   have f1 := h.t3
   have f2 := h.tm (0,4,.map (some 224)) (by simp [mT]) (hd 0 (by simp))
   have f3 := h.tm (17,18,.func (.func 62) #[] #[.pointer (some ⟨360,0,none⟩),.pointer (some ⟨361,0,none⟩)]) (by simp [mT]) (hd 17 (by simp))
   obtain ⟨l,l1,l2,l3⟩ := h.mp (hd 0 (by simp))
   have hm:(18,⟨#[98,111,120]⟩,.func (.func 62) #[] #[.pointer (some ⟨360,0,none⟩),.pointer (some ⟨361,0,none⟩)]) ∈ mI := by simp [mI]
   have hn := h.fresh hm hi l2
   refine GO_walk [] rfl (by kernel_rfl) (by first | assumption | simp) ?_; intro q hq; simp [hC,hY,f0,f1,f2,f3,l1,hn]; refine hq _ _ _ _ ?_; clear hq q
   exact hk _ _ (h.ins hm (Array.getElem?_eq_some_iff.1 hi).1 l2 l3 hn (hd 0 (by simp)))
  ·-- 19 mv
   have f0 := h.t1
   have f1 := h.t3
   refine GO_walk [] rfl (by kernel_rfl) (by first | assumption | simp) ?_; intro q hq; simp [hC,hY,f0,f1]; refine hq _ _ _ _ ?_; clear hq q
   exact hk _ _ (h.tmp (i := 19) (t := 19) (by simp [mT]) (by simp [mX]) (by omega))
  ·-- 20 fa
   have f0 := h.t1
   have f1 := h.t3
   refine GO_walk [] rfl (by kernel_rfl) (by first | assumption | simp) ?_; intro q hq; simp [hC,hY,f0,f1]; refine hq _ _ _ _ ?_; clear hq q
   exact hk _ _ (h.tmp (i := 20) (t := 20) (by simp [mT]) (by simp [mX]) (by omega))
  ·-- 21 ld
   have hd:∀ j ∈ [20],listed[j]? = some true := by
    have hd0 := hdep _ rfl
    simp [Region.binds] at hd0
    simp [hd0]
   have f0 := h.t1
   have f1 := h.t3
   have f2 := h.tm (20,20,.pointer (some ⟨200,3,none⟩)) (by simp [mT]) (hd 20 (by simp))
   have fc := h.c
   unfold cfB at fc
   refine GO_walk [] rfl (by kernel_rfl) (by first | assumption | simp) ?_; intro q hq; simp [hC,hY,f0,f1,f2,fc]; refine hq _ _ _ _ ?_; clear hq q
   exact hk _ _ (h.tmp (i := 21) (t := 21) (by simp [mT]) (by simp [mX]) (by omega))
  ·-- 22 call
   have hd:∀ j ∈ [19,21],listed[j]? = some true := by
    have hd0 := hdep _ rfl
    simp [Region.binds] at hd0
    simp [hd0]
   have f0 := h.t1
   have f1 := h.t3
   have f2 := h.tm (19,19,.func (.func 61) #[] #[]) (by simp [mT]) (hd 19 (by simp))
   have f3 := h.tm (21,21,.int .i64 tp) (by simp [mT]) (hd 21 (by simp))
   refine GO_callL (f := .tmp 19) (cap := #[]) hC (num_at 400 (by omega) tp 65536) rfl hi rfl (by simp [Tryd.ntmps49]) rfl rfl (by simp [okT,f0,f1,f2,f3]) (by simp [gev,f0,f1,f2,f3]) (by simp) (by simp [okX,junk,f0,f1,f2,f3]) (by simp [gev,f0,f1,f2,f3]) (by simp) (fun q hq => (h.low q hq).symm ▸ (by simp)) ?_ ?_
   ·intro v ns hV k hk
    have := numR_key hV k hk
    omega
   rintro v ns ⟨rfl,rfl⟩
   exact hk _ _ (h.call (i := 22) (t := 22) (by simp [mT]) (by omega) (by omega) (by simp [mX]))
  ·-- 23 ins
   have hd:∀ j ∈ [0,22],listed[j]? = some true := by
    have hd0 := hdep _ rfl
    simp [Region.binds] at hd0
    simp [hd0]
   have f0 := h.t1
   have f1 := h.t3
   have f2 := h.tm (0,4,.map (some 224)) (by simp [mT]) (hd 0 (by simp))
   have f3 := h.tm (22,22,.func (.func 62) #[] #[.pointer (some ⟨400,0,none⟩),.pointer (some ⟨401,0,none⟩)]) (by simp [mT]) (hd 22 (by simp))
   obtain ⟨l,l1,l2,l3⟩ := h.mp (hd 0 (by simp))
   have hm:(23,⟨#[116,111,112]⟩,.func (.func 62) #[] #[.pointer (some ⟨400,0,none⟩),.pointer (some ⟨401,0,none⟩)]) ∈ mI := by simp [mI]
   have hn := h.fresh hm hi l2
   refine GO_walk [] rfl (by kernel_rfl) (by first | assumption | simp) ?_; intro q hq; simp [hC,hY,f0,f1,f2,f3,l1,hn]; refine hq _ _ _ _ ?_; clear hq q
   exact hk _ _ (h.ins hm (Array.getElem?_eq_some_iff.1 hi).1 l2 l3 hn (hd 0 (by simp)))
  ·-- 24 mv
   have f0 := h.t1
   have f1 := h.t3
   refine GO_walk [] rfl (by kernel_rfl) (by first | assumption | simp) ?_; intro q hq; simp [hC,hY,f0,f1]; refine hq _ _ _ _ ?_; clear hq q
   exact hk _ _ (h.tmp (i := 24) (t := 23) (by simp [mT]) (by simp [mX]) (by omega))
  ·-- 25 fa
   have f0 := h.t1
   have f1 := h.t3
   refine GO_walk [] rfl (by kernel_rfl) (by first | assumption | simp) ?_; intro q hq; simp [hC,hY,f0,f1]; refine hq _ _ _ _ ?_; clear hq q
   exact hk _ _ (h.tmp (i := 25) (t := 24) (by simp [mT]) (by simp [mX]) (by omega))
  ·-- 26 ld
   have hd:∀ j ∈ [25],listed[j]? = some true := by
    have hd0 := hdep _ rfl
    simp [Region.binds] at hd0
    simp [hd0]
   have f0 := h.t1
   have f1 := h.t3
   have f2 := h.tm (25,24,.pointer (some ⟨200,4,none⟩)) (by simp [mT]) (hd 25 (by simp))
   have fc := h.c
   unfold cfB at fc
   refine GO_walk [] rfl (by kernel_rfl) (by first | assumption | simp) ?_; intro q hq; simp [hC,hY,f0,f1,f2,fc]; refine hq _ _ _ _ ?_; clear hq q
   exact hk _ _ (h.tmp (i := 26) (t := 25) (by simp [mT]) (by simp [mX]) (by omega))
  ·-- 27 fa
   have f0 := h.t1
   have f1 := h.t3
   refine GO_walk [] rfl (by kernel_rfl) (by first | assumption | simp) ?_; intro q hq; simp [hC,hY,f0,f1]; refine hq _ _ _ _ ?_; clear hq q
   exact hk _ _ (h.tmp (i := 27) (t := 26) (by simp [mT]) (by simp [mX]) (by omega))
  ·-- 28 ld
   have hd:∀ j ∈ [27],listed[j]? = some true := by
    have hd0 := hdep _ rfl
    simp [Region.binds] at hd0
    simp [hd0]
   have f0 := h.t1
   have f1 := h.t3
   have f2 := h.tm (27,26,.pointer (some ⟨200,2,none⟩)) (by simp [mT]) (hd 27 (by simp))
   have fc := h.c
   unfold cfB at fc
   refine GO_walk [] rfl (by kernel_rfl) (by first | assumption | simp) ?_; intro q hq; simp [hC,hY,f0,f1,f2,fc]; refine hq _ _ _ _ ?_; clear hq q
   exact hk _ _ (h.tmp (i := 28) (t := 27) (by simp [mT]) (by simp [mX]) (by omega))
  ·-- 29 mul
   have hd:∀ j ∈ [28],listed[j]? = some true := by
    have hd0 := hdep _ rfl
    simp [Region.binds] at hd0
    simp [hd0]
   have f0 := h.t1
   have f1 := h.t3
   have f2 := h.tm (28,27,.int .i64 bx) (by simp [mT]) (hd 28 (by simp))
   refine GO_walk [] rfl (by kernel_rfl) (by first | assumption | simp) ?_; intro q hq; simp [hC,hY,f0,f1,f2]; refine hq _ _ _ _ ?_; clear hq q
   exact hk _ _ (h.tmp (i := 29) (t := 28) (by simp [mT]) (by simp [mX]) (by omega))
  ·-- 30 call
   have hd:∀ j ∈ [24,26,29],listed[j]? = some true := by
    have hd0 := hdep _ rfl
    simp [Region.binds] at hd0
    simp [hd0]
   have f0 := h.t1
   have f1 := h.t3
   have f2 := h.tm (24,23,.func (.func 61) #[] #[]) (by simp [mT]) (hd 24 (by simp))
   have f3 := h.tm (26,25,.int .i64 nr) (by simp [mT]) (hd 26 (by simp))
   have f4 := h.tm (29,28,.int .i64 (Int.bmod (2 * bx) 18446744073709551616)) (by simp [mT]) (hd 29 (by simp))
   refine GO_callL (f := .tmp 23) (cap := #[]) hC (num_at 464 (by omega) nr (Int.bmod (2 * bx) 18446744073709551616)) rfl hi rfl (by simp [Tryd.ntmps49]) rfl rfl (by simp [okT,f0,f1,f2,f3,f4]) (by simp [gev,f0,f1,f2,f3,f4]) (by simp) (by simp [okX,junk,f0,f1,f2,f3,f4]) (by simp [gev,f0,f1,f2,f3,f4]) (by simp) (fun q hq => (h.low q hq).symm ▸ (by simp)) ?_ ?_
   ·intro v ns hV k hk
    have := numR_key hV k hk
    omega
   rintro v ns ⟨rfl,rfl⟩
   exact hk _ _ (h.call (i := 30) (t := 29) (by simp [mT]) (by omega) (by omega) (by simp [mX]))
  ·-- 31 ins
   have hd:∀ j ∈ [0,30],listed[j]? = some true := by
    have hd0 := hdep _ rfl
    simp [Region.binds] at hd0
    simp [hd0]
   have f0 := h.t1
   have f1 := h.t3
   have f2 := h.tm (0,4,.map (some 224)) (by simp [mT]) (hd 0 (by simp))
   have f3 := h.tm (30,29,.func (.func 62) #[] #[.pointer (some ⟨464,0,none⟩),.pointer (some ⟨465,0,none⟩)]) (by simp [mT]) (hd 30 (by simp))
   obtain ⟨l,l1,l2,l3⟩ := h.mp (hd 0 (by simp))
   have hm:(31,⟨#[110,101,97,114]⟩,.func (.func 62) #[] #[.pointer (some ⟨464,0,none⟩),.pointer (some ⟨465,0,none⟩)]) ∈ mI := by simp [mI]
   have hn := h.fresh hm hi l2
   refine GO_walk [] rfl (by kernel_rfl) (by first | assumption | simp) ?_; intro q hq; simp [hC,hY,f0,f1,f2,f3,l1,hn]; refine hq _ _ _ _ ?_; clear hq q
   exact hk _ _ (h.ins hm (Array.getElem?_eq_some_iff.1 hi).1 l2 l3 hn (hd 0 (by simp)))
  ·-- 32 mk
   have f0 := h.t1
   have f1 := h.t3
   refine GO_walk [] rfl (by kernel_rfl) (by first | assumption | simp) ?_; intro q hq; simp [hC,hY,f0,f1]; refine hq _ _ _ _ ?_; clear hq q
   exact hk _ _ (h.tmp (i := 32) (t := 30) (by simp [mT]) (by simp [mX]) (by omega))
  ·-- 33 ins
   have hd:∀ j ∈ [0,32],listed[j]? = some true := by
    have hd0 := hdep _ rfl
    simp [Region.binds] at hd0
    simp [hd0]
   have f0 := h.t1
   have f1 := h.t3
   have f2 := h.tm (0,4,.map (some 224)) (by simp [mT]) (hd 0 (by simp))
   have f3 := h.tm (32,30,.func (.func 67) #[] #[.pointer (some ⟨200,0,none⟩)]) (by simp [mT]) (hd 32 (by simp))
   obtain ⟨l,l1,l2,l3⟩ := h.mp (hd 0 (by simp))
   have hm:(33,⟨#[109,101,116,104,111,100]⟩,.func (.func 67) #[] #[.pointer (some ⟨200,0,none⟩)]) ∈ mI := by simp [mI]
   have hn := h.fresh hm hi l2
   refine GO_walk [] rfl (by kernel_rfl) (by first | assumption | simp) ?_; intro q hq; simp [hC,hY,f0,f1,f2,f3,l1,hn]; refine hq _ _ _ _ ?_; clear hq q
   exact hk _ _ (h.ins hm (Array.getElem?_eq_some_iff.1 hi).1 l2 l3 hn (hd 0 (by simp)))
  ·-- 34 mv
   have hd:∀ j ∈ [0],listed[j]? = some true := by
    have hd0 := hdep _ rfl
    simp [Region.binds] at hd0
    simp [hd0]
   have f0 := h.t1
   have f1 := h.t3
   have f2 := h.tm (0,4,.map (some 224)) (by simp [mT]) (hd 0 (by simp))
   refine GO_walk [] rfl (by kernel_rfl) (by first | assumption | simp) ?_; intro q hq; simp [hC,hY,f0,f1,f2]; refine hq _ _ _ _ ?_; clear hq q
   exact hk _ _ (h.tmp (i := 34) (t := 31) (by simp [mT]) (by simp [mX]) (by omega))
  ·-- 35 asg
   have hd:∀ j ∈ [34],listed[j]? = some true := by
    have hd0 := hdep _ rfl
    simp [Region.binds] at hd0
    simp [hd0]
   have f0 := h.t1
   have f1 := h.t3
   have f2 := h.tm (34,31,.map (some 224)) (by simp [mT]) (hd 34 (by simp))
   refine GO_walk [] rfl (by kernel_rfl) (by first | assumption | simp) ?_; intro q hq; simp [hC,hY,f0,f1,f2]; refine hq _ _ _ _ ?_; clear hq q
   exact hk _ _ (h.tmp (i := 35) (t := 2) (by simp [mT]) (by simp [mX]) (by omega))
 ·have hno:∀ j,(Array.replicate 36 false)[j]? ≠ some true := fun j => by
   rw [Array.getElem?_replicate]
   split <;> simp
  exact ⟨by simp,by simp,fun p hp hl => absurd hl (hno _),fun k hk => by rw [upd_other _ _ (by omega)]; exact hpL_low (by simp) hk,by simp,by simp [cfB,hsl],fun q hq hl => absurd hl (hno _),fun hl => absurd hl (hno _),fun q hq hl => absurd hl (hno _)⟩
theorem musts0_rr {nk:Nat} {g bx tp nr md:Int} {v:Value} {ns:List (Nat × Blk)} (h:RR (mQ nk) (MustsR 1000 (.slice none 0 0) 0 g bx tp nr md) v ns):MustsR nk (.slice none 0 0) 0 g bx tp nr md v ns := by
 obtain ⟨v0,ns0,⟨l,rfl,rfl,hl,hf⟩,rfl,rfl⟩ := h
 have e := mQ_at nk
 have e0 := e 0 (by omega)
 have e1 := e 1 (by omega)
 have e2 := e 2 (by omega)
 have e3 := e 3 (by omega)
 have e4 := e 4 (by omega)
 have e5 := e 5 (by omega)
 have e6 := e 6 (by omega)
 have e7 := e 7 (by omega)
 have e8 := e 8 (by omega)
 have e9 := e 9 (by omega)
 have e10 := e 10 (by omega)
 have e11 := e 11 (by omega)
 simp only [Nat.reduceAdd,Nat.add_zero] at e0 e1 e2 e3 e4 e5 e6 e7 e8 e9 e10 e11
 have h100 := mQ_low nk 100 (by omega)
 have hmv:∀ q ∈ mV 1000,(q.1,renF (mQ nk) q.2) ∈ mV nk := by
  simp [mV,renF,ren0,e1,e2,e3,e4,e5,e6,e7,e8,e9,e10,e11]
 have hvm:∀ q ∈ mV nk,∃ p ∈ mV 1000,p.1 = q.1 ∧ renF (mQ nk) p.2 = q.2 := by
  simp [mV,renF,ren0,e1,e2,e3,e4,e5,e6,e7,e8,e9,e10,e11]
 refine ⟨l.map fun p => (p.1,renF (mQ nk) p.2),by simp [ren,renA,renF,ren0,e0],?_,fun p hp => ?_,fun q hq => ?_⟩
 ·have hc:(cfB (.slice none 0 0) g bx tp nr md).rn (mQ nk) = cfB (.slice none 0 0) g bx tp nr md := by simp [cfB,Blk.rn,renF,ren0,h100]
  simp only [rnL,mNs,List.map_cons,List.map_nil,mpB_rn,jb_rn,hc,Nat.reduceAdd,e0,e1,e2,e3,e4,e5,e6,e7,e8,e9,e10,e11]
 ·obtain ⟨p0,hp0,rfl⟩ := List.mem_map.1 hp
  exact hmv _ (hl _ hp0)
 ·obtain ⟨p,hp,h1,h2⟩ := hvm q hq
  rw [findL_map,← h1,hf p hp,← h2]
  rfl
theorem musts0_at (nk:Nat) (hnk:200 ≤ nk) (b:Blk) (hb:b.fx) (g bx tp nr md:Int) :
  FunS Tryd.prog G0 49 #[cfV (.slice none 0 0) g bx tp nr md] (hpL G0 [(100,b)]) [100] (RR (mQ nk) (MustsR 1000 (.slice none 0 0) 0 g bx tp nr md)) := by
 have hr := fun ρ => Blk.fx_rn hb ρ
 have h100 := mQ_low nk 100 (by omega)
 refine (musts0_fun b hb g bx tp nr md).mvL G0F (oneL_ok hb) (mQ nk) (fun k hk => mQ_low nk k (by omega)) (by simp [cfV,ren,renA,renF,ren0,h100]) (by simp [keys,h100]) rfl (oneL_ok hb).low (by simp [h100,hr]) (by simp [keys]) (fun v ns hV k hk => ?_) (fun v ns hV k hk l hl e => ?_)
 ·have h1 := mustsR_key hV k hk
  obtain ⟨j,hj,rfl⟩:∃ j,j < 12 ∧ k = 1000 + j := ⟨k - 1000,by omega,by omega⟩
  rw [mQ_at nk j hj]
  simp
  omega
 ·have h1 := mustsR_key hV k hk
  have h2 := mustsR_key hV l hl
  obtain ⟨j,hj,rfl⟩:∃ j,j < 12 ∧ k = 1000 + j := ⟨k - 1000,by omega,by omega⟩
  obtain ⟨i,hi,rfl⟩:∃ j,j < 12 ∧ l = 1000 + j := ⟨l - 1000,by omega,by omega⟩
  rw [mQ_at nk j hj,mQ_at nk i hi] at e
  omega
set_option maxRecDepth 8000 in
set_option maxHeartbeats 16000000 in
theorem why0_fun (b:Blk) (hb:b.fx) (g bx tp nr md:Int) :
  Fun Tryd.prog G0 35 #[cfV (.slice none 0 0) g bx tp nr md] (hpL G0 [(100,b)]) (keys [(100,b)]) (.ret (.string (⟨#[98,111,100,105,101,115]⟩)) []) := by
 refine fun_ofL (B := 200) G0F Tryd.func35 rfl Tryd.call35 (oneL_ok hb) ?_ (by simp) (by simp) (by simp) (by simp [Tryd.ntmps35]) (by omega) ?_
 ·simp [idsV,idsA,idsF,ids0,keys,cfV]
 intro C hC hC0 hY
 have hr := fun ρ => Blk.fx_rn hb ρ
 unfold cfV
 repeat' (first | refine gwA ?_ | ((first | refine gwR [] ?_ | refine gwD [] ?_); intro Q hQ hP; simp [hC,hY]; refine hQ _ _ _ _ (by kernel_rfl) ?_; clear hQ hP Q) | (refine gwC ?_ ?_ <;> (intro hb; first | (cases hb; done) | skip)))
 refine GW_list ?_
 simp only [Array.toList]
 refine GL_walk 1 [] rfl (by simp) (by kernel_rfl) ?_; intro q hq; simp [hC,hY]; refine hq _ _ _ _ ?_; clear hq q
 simp only [wT,List.length_cons,List.length_nil,Nat.reduceAdd]
 refine GL_callW 8 (f := .func 49) (cap := #[]) hC (musts0_at 224 (by omega) b hb g bx tp nr md) rfl (by simp) rfl rfl (by simp [okT]) (by simp [gev]) (by simp) (by simp [okX,junk]) (by simp [gev,cfV]) (by simp) (by (intro k hk; first | rfl | (simp (disch := omega) only [addB,List.mem_cons,List.not_mem_nil,or_false,upd_other,hpL_cons,hpL_nil,if_neg,updL] <;> done))) (fun v ns hV k hk => by have := mustsR_key (musts0_rr hV) k hk; omega) ?_
 intro v ns hV
 obtain ⟨l,rfl,rfl,_,hf⟩ := musts0_rr hV
 refine GL_walk 1 [] rfl (by simp) (by kernel_rfl) ?_; intro q hq; simp [hC,hY,putT,updL,mNs]; refine hq _ _ _ _ ?_; clear hq q
 simp only [wT,List.length_cons,List.length_nil,Nat.reduceAdd]
 refine GL_nil ?_
 have f0:findL ⟨#[98,111,100,105,101,115]⟩ l = some (.func (.func 62) #[] #[.pointer (some ⟨226,0,none⟩),.pointer (some ⟨227,0,none⟩)]) := hf (⟨#[98,111,100,105,101,115]⟩,_) (by simp [mV])
 have c0:wiB 0 1 4 = false := by decide +kernel
 repeat' (first | refine GWL_start ?_ | refine GWL_step ?_ | refine gwA ?_ | ((first | refine gwR [62,64,67] ?_ | refine gwD [62,64,67] ?_); intro Q hQ hP; simp [hC,hY,f0,c0,cnB]; (repeat ((first | (refine heapK_mv (cn1_fun 0 4) G0F (B := 200) ⟨by simp,by simp [keys],by simp [jb,ids_lit,idsF,ids0]⟩ (fun k => if k = 100 then 226 else if k = 108 then 227 else k) (fun k hk => (if_neg (by omega)).trans (if_neg (by omega))) ?_ (by simp) (by simp [jb_rn]) (by simp [keys]) (by simp [keys]; rfl) ?_; focus (simp [ren,renA,renF,ren0]; done))); try simp [hC,hY,f0,c0,cnB])); refine hQ _ _ _ _ (by kernel_rfl) ?_; clear hQ hP Q) | (refine gwC ?_ ?_ <;> (intro hb; first | (cases hb; done) | skip)))
 refine ⟨.inr rfl,by simp [Tryd.results35],kpS G0F⟩
def isStr:Value → Bool
 | .string _ => true
 | _ => false
def strV:Value → ByteArray
 | .string s => s
 | _ => ⟨#[]⟩
def sneB (a b:ByteArray):Bool := !(a.toList == b.toList)
@[simp] theorem isStr_s (s:ByteArray):isStr (.string s) = true := rfl
@[simp] theorem strV_s (s:ByteArray):strV (.string s) = s := rfl
theorem isStr_of {v:Value} (h:isStr v = true):v = .string (strV v) := by
 unfold isStr at h
 split at h
 ·rfl
 ·cases h
@[simp] theorem bin2_str (P:Program) (op:BinOp) (T:TypeId) (a b:ByteArray):bin2 P op T (.string a) (.string b) = none := by cases op <;> rfl
@[simp] theorem binX_strne {dst:Option Tmp} {x y:Operand} {T:TypeId} {ps:String} {af:Array Edge} {g:Option (Nat × Bool)} {ts:Nat → Value} {hp:Hp} {C:Eff → Prop} (h:isStr (gev ts x) = true) (h2:isStr (gev ts y) = true) (hx:okX ts hp x) (hy:okX ts hp y) :
  binX Tryd.prog none ⟨dst,.binOp .neq 9 x y 9,T,ps,af,g⟩ ts hp C ↔ C (val (.bool (sneB (strV (gev ts x)) (strV (gev ts y)))) []) := by
 have e1 := isStr_of h
 have e2 := isStr_of h2
 refine pureV_iff (K := fun v => C (val v [])) ?_ rfl fun W => ?_
 ·intro z hz
  simp [Op.operands] at hz
  rcases hz with rfl | rfl
  ·exact ⟨hx,by rw [e1]; rfl⟩
  ·exact ⟨hy,by rw [e2]; rfl⟩
 ·generalize strV (gev ts x) = a at e1 ⊢
  generalize strV (gev ts y) = b at e2 ⊢
  have hg:(eqGuard .neq 9 x y (.string a) (.string b)).run Tryd.prog W = .ok () W := by unfold eqGuard; split <;> rfl
  simp only [execOp,e1,e2,Sem.run_bind,hg,Result.andThen_ok,binOp,Op.stringOp,Sem.run_pure,strV_s]
  simp [sneB]
theorem whyS_ne2 (n:Nat) (f:Nat → Int) (g bx tp nr md:Int):sneB (whyS n f g bx tp nr md) ⟨#[]⟩ = !(cfOk n f g bx tp nr md) := by
 unfold whyS cfOk sneB
 rcases Bool.eq_false_or_eq_true (wiB n 1 4) with c | c <;> simp only [c,Bool.false_and,Bool.true_and,if_true,Bool.true_eq_false,if_false,Bool.not_false] <;> try decide +kernel
 rcases Bool.eq_false_or_eq_true (allM f n) with c | c <;> simp only [c,Bool.false_and,Bool.true_and,if_true,Bool.true_eq_false,if_false,Bool.not_false] <;> try decide +kernel
 rcases Bool.eq_false_or_eq_true (wiB g 1 1048576) with c | c <;> simp only [c,Bool.false_and,Bool.true_and,if_true,Bool.true_eq_false,if_false,Bool.not_false] <;> try decide +kernel
 rcases Bool.eq_false_or_eq_true (wiB bx 1 1048576) with c | c <;> simp only [c,Bool.false_and,Bool.true_and,if_true,Bool.true_eq_false,if_false,Bool.not_false] <;> try decide +kernel
 rcases Bool.eq_false_or_eq_true (wiB tp 1 65536) with c | c <;> simp only [c,Bool.false_and,Bool.true_and,if_true,Bool.true_eq_false,if_false,Bool.not_false] <;> try decide +kernel
 rcases Bool.eq_false_or_eq_true (wiB nr 1 (Int.bmod (2 * bx) 18446744073709551616)) with c | c <;> simp only [c,Bool.false_and,Bool.true_and,if_true,Bool.true_eq_false,if_false,Bool.not_false] <;> try decide +kernel
 rcases Bool.eq_false_or_eq_true (wiB md 0 4) with c | c <;> simp only [c,Bool.false_and,Bool.true_and,if_true,Bool.true_eq_false,if_false,Bool.not_false] <;> try decide +kernel
theorem check_fun (b:Blk) (off n cap:Nat) (f:Nat → Int) (h:MB b off n f) (g bx tp nr md:Int) :
  Fun Tryd.prog G0 24 #[cfV (.slice (some ⟨100,off,none⟩) n cap) g bx tp nr md] (hpL G0 [(100,b)]) (keys [(100,b)]) (.ret (.int .i64 (if cfOk n f g bx tp nr md = true then 0 else 110)) []) := by
 refine fun_ofL (B := 200) G0F Tryd.func24 rfl Tryd.call24 (oneL_ok h.fx) ?_ (by simp) (by simp) (by simp) (by simp [Tryd.ntmps24]) (by omega) ?_
 ·simp [idsV,idsA,idsF,ids0,keys,cfV]
 intro C hC hC0 hY
 have hr := fun ρ => Blk.fx_rn h.fx ρ
 have hne := whyS_ne2 n f g bx tp nr md
 cases hc:cfOk n f g bx tp nr md with
 | true =>
  rw [hc] at hne
  unfold cfV
  repeat' (first | refine gwA ?_ | ((first | refine gwR [35] ?_ | refine gwD [35] ?_); intro Q hQ hP; simp [hC,hY,hne]; (repeat ((first | (refine heapK_mv (why_fun b off n cap f h g bx tp nr md) G0F (B := 200) (oneL_ok h.fx) (fun k => k) (fun k hk => rfl) (by simp [ren,renA,renF,ren0,cfV]) (by simp) (by simp [hr]) (by simp [keys]) (by simp [keys]; rfl) ?_)); try simp [hC,hY,hne])); refine hQ _ _ _ _ (by kernel_rfl) ?_; clear hQ hP Q) | (refine gwC ?_ ?_ <;> (intro hb; first | (cases hb; done) | skip)))
  refine ⟨.inr rfl,by simp [Tryd.results24],kpS G0F⟩
 | false =>
  rw [hc] at hne
  unfold cfV
  repeat' (first | refine gwA ?_ | ((first | refine gwR [35] ?_ | refine gwD [35] ?_); intro Q hQ hP; simp [hC,hY,hne]; (repeat ((first | (refine heapK_mv (why_fun b off n cap f h g bx tp nr md) G0F (B := 200) (oneL_ok h.fx) (fun k => k) (fun k hk => rfl) (by simp [ren,renA,renF,ren0,cfV]) (by simp) (by simp [hr]) (by simp [keys]) (by simp [keys]; rfl) ?_)); try simp [hC,hY,hne])); refine hQ _ _ _ _ (by kernel_rfl) ?_; clear hQ hP Q) | (refine gwC ?_ ?_ <;> (intro hb; first | (cases hb; done) | skip)))
  refine ⟨.inr rfl,by simp [Tryd.results24],kpS G0F⟩
theorem check0_fun (b:Blk) (hb:b.fx) (g bx tp nr md:Int) :
  Fun Tryd.prog G0 24 #[cfV (.slice none 0 0) g bx tp nr md] (hpL G0 [(100,b)]) (keys [(100,b)]) (.ret (.int .i64 110) []) := by
 refine fun_ofL (B := 200) G0F Tryd.func24 rfl Tryd.call24 (oneL_ok hb) ?_ (by simp) (by simp) (by simp) (by simp [Tryd.ntmps24]) (by omega) ?_
 ·simp [idsV,idsA,idsF,ids0,keys,cfV]
 intro C hC hC0 hY
 have hr := fun ρ => Blk.fx_rn hb ρ
 have hne:sneB ⟨#[98,111,100,105,101,115]⟩ ⟨#[]⟩ = true := by decide +kernel
 unfold cfV
 repeat' (first | refine gwA ?_ | ((first | refine gwR [35] ?_ | refine gwD [35] ?_); intro Q hQ hP; simp [hC,hY,hne]; (repeat ((first | (refine heapK_mv (why0_fun b hb g bx tp nr md) G0F (B := 200) (oneL_ok hb) (fun k => k) (fun k hk => rfl) (by simp [ren,renA,renF,ren0,cfV]) (by simp) (by simp [hr]) (by simp [keys]) (by simp [keys]; rfl) ?_)); try simp [hC,hY,hne])); refine hQ _ _ _ _ (by kernel_rfl) ?_; clear hQ hP Q) | (refine gwC ?_ ?_ <;> (intro hb; first | (cases hb; done) | skip)))
 refine ⟨.inr rfl,by simp [Tryd.results24],kpS G0F⟩
def fitB (n n2:Nat) (okc rt:Bool):Bool := decide (n = n2) && (okc && rt)
set_option maxRecDepth 8000 in
set_option maxHeartbeats 2000000 in
theorem kFits_L (L:List (Nat × Blk)) (ks:Nat) (bm bs:Blk) (hT:LTwo G0 L ks bm bs) (off n cap off2 n2 cap2:Nat) (fm fs:Nat → Int) (hm:MB bm off n fm) (hSb:SB bs off2 n2 fs) (g bx tp nr md st:Int) (hs:i64 st) :
  Fun Tryd.prog G0 14 #[cfV (.slice (some ⟨100,off,none⟩) n cap) g bx tp nr md,.agg #[.int .i64 st,.slice (some ⟨ks,off2,none⟩) n2 cap2]] (hpL G0 L) (keys L) (.ret (.bool (fitB n n2 (cfOk n fm g bx tp nr md) (rightB st fs n2))) []) := by
 refine fun_ofL (B := 200) G0F Tryd.func14 rfl Tryd.call14 hT.ok ?_ (by simp) (by simp) (by simp) (by simp [Tryd.ntmps14]) (by omega) ?_
 ·simp [idsV,idsA,idsF,ids0,hT.ia,hT.ib,cfV]
 intro C hC hC0 hY
 have hA := hT.a
 have hS := hT.s
 have hne := hT.ne
 have hLow := hT.low
 have hks := hT.k1
 have hks2 := hT.k2
 have hrm := fun ρ => Blk.fx_rn hm.fx ρ
 have hrs := fun ρ => Blk.fx_rn hSb.fx ρ
 have hck := check_fun bm off n cap fm hm g bx tp nr md
 have hri := rig_fun bs off2 n2 cap2 fs hSb st hs
 unfold fitB
 unfold cfV at hck ⊢
 by_cases hn:n = n2
 ·have hn':(n:Int) = (n2:Int) := by omega
  have hnb:((n:Int) == (n2:Int)) = true := by simpa using hn'
  rw [decide_eq_true hn]
  cases hc:cfOk n fm g bx tp nr md with
  | false =>
   rw [hc] at hck
   repeat' (first | refine gwA ?_ | ((first | refine gwR [24,18] ?_ | refine gwD [24,18] ?_); intro Q hQ hP; simp [hC,hY,hA,hS,hne,hn',hnb]; (repeat ((first | (refine heapK_mv hck G0F (B := 200) (oneL_ok hm.fx) (fun k => k) (fun k hk => rfl) (by simp [ren,renA,renF,ren0,cfV]) (by simp) (by simp [hrm,hA]) (by simp [keys]) (by simp [keys]; rfl) ?_)); try simp [hC,hY,hA,hS,hne,hn',hnb])); refine hQ _ _ _ _ (by kernel_rfl) ?_; clear hQ hP Q) | (refine gwC ?_ ?_ <;> (intro hb; first | (cases hb; done) | skip)))
   refine ⟨.inr rfl,by simp [Tryd.results14],kpT G0F⟩
  | true =>
   rw [hc] at hck
   repeat' (first | refine gwA ?_ | ((first | refine gwR [24,18] ?_ | refine gwD [24,18] ?_); intro Q hQ hP; simp [hC,hY,hA,hS,hne,hn',hnb]; (repeat ((first | (refine heapK_mv hck G0F (B := 200) (oneL_ok hm.fx) (fun k => k) (fun k hk => rfl) (by simp [ren,renA,renF,ren0,cfV]) (by simp) (by simp [hrm,hA]) (by simp [keys]) (by simp [keys]; rfl) ?_) | (refine heapK_mv hri G0F (B := 200) (oneL_ok hSb.fx) (fun k => if k = 100 then ks else k) (fun k hk => if_neg (by omega)) (by simp [ren,renA,renF,ren0]) (by simp) (by simp [hrs,hS,hne,hks]) (by simp [keys]) (by simp [keys]; rfl) ?_)); try simp [hC,hY,hA,hS,hne,hn',hnb])); refine hQ _ _ _ _ (by kernel_rfl) ?_; clear hQ hP Q) | (refine gwC ?_ ?_ <;> (intro hb; first | (cases hb; done) | skip)))
   refine ⟨.inr rfl,by simp [Tryd.results14],kpT G0F⟩
 ·have hn':¬ (n:Int) = (n2:Int) := by omega
  have hnb:((n:Int) == (n2:Int)) = false := by simpa using hn'
  rw [decide_eq_false hn]
  repeat' (first | refine gwA ?_ | ((first | refine gwR [] ?_ | refine gwD [] ?_); intro Q hQ hP; simp [hC,hY,hA,hS,hne,hn',hnb]; refine hQ _ _ _ _ (by kernel_rfl) ?_; clear hQ hP Q) | (refine gwC ?_ ?_ <;> (intro hb; first | (cases hb; done) | skip)))
  refine ⟨.inr rfl,by simp [Tryd.results14],kpT G0F⟩
def plo (N s:Int):Int := isq (N / s)
def phi (N s:Int):Int := if plo N s * plo N s * s = N then plo N s else plo N s + 1
theorem sqq_mono {a b:Int} (h0:0 ≤ a) (h:a ≤ b):a * a ≤ b * b := Int.mul_le_mul h h h0 (by omega)
theorem plo_spec {N s:Int} (hN:0 ≤ N) (hs:0 < s):0 ≤ plo N s ∧ plo N s * plo N s * s ≤ N ∧ N < (plo N s + 1) * (plo N s + 1) * s := by
 have hq:0 ≤ N / s := Int.ediv_nonneg hN (by omega)
 obtain ⟨r0,r1,r2⟩ := isq_spec (N / s) hq
 have h1 := Int.emod_add_mul_ediv N s
 have h2 := Int.emod_nonneg N (b := s) (by omega)
 have h3 := Int.emod_lt_of_pos N hs
 unfold plo
 generalize isq (N / s) = r at *
 generalize N / s = q at *
 refine ⟨r0,?_,?_⟩
 ·have:r * r * s ≤ q * s := Int.mul_le_mul_of_nonneg_right r1 (by omega)
  rw [Int.mul_comm q s] at this
  omega
 ·have h4:(q + 1) * s ≤ (r + 1) * (r + 1) * s := Int.mul_le_mul_of_nonneg_right (by omega) (by omega)
  rw [Int.add_mul,Int.mul_comm q s] at h4
  omega
theorem ph_iff {N s h:Int} (hN:0 ≤ N) (hs:0 < s) (hh:0 ≤ h):N ≤ h * h * s ↔ phi N s ≤ h := by
 obtain ⟨r0,r1,r2⟩ := plo_spec hN hs
 unfold phi
 constructor
 ·intro h1
  split
  ·rename_i e
   refine Classical.byContradiction fun c => ?_
   have h2 := sqq_mono (a := h + 1) (b := plo N s) (by omega) (by omega)
   have h3:h * h < plo N s * plo N s := by
    have:(h + 1) * (h + 1) = h * h + 2 * h + 1 := by rw [Int.add_mul,Int.mul_add]; omega
    omega
   have h4 := Int.mul_lt_mul_of_pos_right h3 hs
   omega
  ·rename_i e
   refine Classical.byContradiction fun c => ?_
   have h2 := sqq_mono (a := h) (b := plo N s) hh (by omega)
   have h3 := Int.mul_le_mul_of_nonneg_right h2 (show 0 ≤ s by omega)
   omega
 ·intro h1
  split at h1
  ·rename_i e
   have h2 := sqq_mono r0 h1
   have h3 := Int.mul_le_mul_of_nonneg_right h2 (show 0 ≤ s by omega)
   omega
  ·have h2 := sqq_mono (a := plo N s + 1) (b := h) (by omega) h1
   have h3 := Int.mul_le_mul_of_nonneg_right h2 (show 0 ≤ s by omega)
   omega
theorem phi_nn {N s:Int} (hN:0 ≤ N) (hs:0 < s):0 ≤ phi N s := by
 obtain ⟨r0,_,_⟩ := plo_spec hN hs
 unfold phi
 split <;> omega
structure EIn (g m w q:Int):Prop where
 g0:1 ≤ g
 g1:g ≤ 1048576
 m0:1 ≤ m
 m1:m ≤ 1024
 w0:1 ≤ w
 w1:w ≤ 1024
 q0:0 ≤ q
 q1:q ≤ 13194139533312
def enA (g m w:Int):Int := g * m * w * 1048576
def enLo (g m w q:Int):Int := plo (enA g m w * enA g m w) q
def enHi (g m w q:Int):Int := phi (enA g m w * enA g m w) q
theorem mulR {a b p q:Int} (h1:1 ≤ a) (h2:a ≤ p) (h3:1 ≤ b) (h4:b ≤ q):1 ≤ a * b ∧ a * b ≤ p * q := by
 constructor
 ·have := Int.mul_le_mul (a := 1) (b := 1) (c := a) (d := b) h1 h3 (by omega) (by omega)
  omega
 ·exact Int.mul_le_mul h2 h4 (by omega) (by omega)
theorem EIn.gm {g m w q:Int} (h:EIn g m w q):1 ≤ g * m ∧ g * m ≤ 1073741824 := mulR h.g0 h.g1 h.m0 h.m1
theorem EIn.gmw {g m w q:Int} (h:EIn g m w q):1 ≤ g * m * w ∧ g * m * w ≤ 1099511627776 := mulR h.gm.1 h.gm.2 h.w0 h.w1
theorem EIn.a {g m w q:Int} (h:EIn g m w q):1048576 ≤ enA g m w ∧ enA g m w ≤ 1152921504606846976 := by
 have := h.gmw
 unfold enA
 omega
theorem EIn.aa {g m w q:Int} (h:EIn g m w q):0 ≤ enA g m w * enA g m w ∧ enA g m w * enA g m w ≤ 1329227995784915872903807060280344576 := by
 have h1 := h.a
 exact ⟨Int.mul_nonneg (by omega) (by omega),Int.mul_le_mul h1.2 h1.2 (by omega) (by omega)⟩
theorem en_hi_eq (g m w q:Int):enHi g m w q = if enLo g m w q * enLo g m w q * q = enA g m w * enA g m w then enLo g m w q else enLo g m w q + 1 := rfl
theorem EIn.holds {g m w q:Int} (h:EIn g m w q) (hq:0 < q):enLo g m w q * enLo g m w q * q ≤ enA g m w * enA g m w ∧ enA g m w * enA g m w ≤ enHi g m w q * enHi g m w q * q ∧ (enLo g m w q = enHi g m w q ↔ enLo g m w q * enLo g m w q * q = enA g m w * enA g m w) := by
 refine ⟨(plo_spec h.aa.1 hq).2.1,(ph_iff h.aa.1 hq (phi_nn h.aa.1 hq)).2 (Int.le_refl _),?_⟩
 rw [en_hi_eq]
 split
 ·rename_i e
  exact ⟨fun _ => e,fun _ => rfl⟩
 ·rename_i e
  exact ⟨fun h => absurd h (by omega),fun h => absurd h e⟩
end Go.Gy
namespace Go.Gy
set_option linter.unusedSimpArgs false
set_option linter.unusedVariables false
open Go Go.RowKit Go.Proofs
theorem sub1_ret (x y:Int):Ret Tryd.prog G0 40 #[.int .i64 x,.int .i64 y] (.int .i64 (Int.bmod (x - y) 18446744073709551616)) := by
 refine ret_of G0F Tryd.func40 rfl Tryd.call40 (by simp) (by simp) (by simp [Tryd.ntmps40]) ?_
 intro C hC hC0 hY
 repeat' (first | refine gwA ?_ | ((first | refine gwR [] ?_ | refine gwD [] ?_); intro Q hQ hP; simp [hC,hY]; refine hQ _ _ _ _ (by kernel_rfl) ?_; clear hQ hP Q) | (refine gwC ?_ ?_ <;> (intro hb; first | (cases hb; done) | skip)))
 refine ⟨.inr trivial,?_⟩
 simp [Tryd.results40]
@[simp] theorem vsub1 (x y:Int) (K:Value → Prop):callK Tryd.prog G0 40 #[.int .i64 x,.int .i64 y] K ↔ K (.int .i64 (Int.bmod (x - y) 18446744073709551616)) := callK_iff G0W (by kernel_rfl) (sub1_ret x y)
def subI (a b:Int):Int := a - b
theorem fn_bs {a b:Int} (h1:fnI a) (h2:fnI b):Int.bmod (a - b) 18446744073709551616 = a - b := by
 obtain ⟨h1,h3⟩ := h1
 obtain ⟨h2,h4⟩ := h2
 exact bm (by omega) (by omega)
theorem sub_ret (a0 a1 a2 b0 b1 b2:Int):Ret Tryd.prog G0 28 #[.agg #[.int .i64 a0,.int .i64 a1,.int .i64 a2],.agg #[.int .i64 b0,.int .i64 b1,.int .i64 b2]]
  (.tuple #[.agg #[.int .i64 (eaV (eaE subI a0 a1 a2 b0 b1 b2) (subI a0 b0)),.int .i64 (eaV (eaE subI a0 a1 a2 b0 b1 b2) (subI a1 b1)),.int .i64 (eaV (eaE subI a0 a1 a2 b0 b1 b2) (subI a2 b2))],.int .i64 (eaE subI a0 a1 a2 b0 b1 b2)]) := by
 refine ret_of G0F Tryd.func28 rfl Tryd.call28 (by simp) (by simp) (by simp [Tryd.ntmps28]) ?_
 intro C hC hC0 hY
 have he := fun K => veach 40 subI (fun x y K hx hy => by rw [vsub1,fn_bs hx hy]; rfl) a0 a1 a2 b0 b1 b2 K
 repeat' (first | refine gwA ?_ | ((first | refine gwR [] ?_ | refine gwD [] ?_); intro Q hQ hP; simp [hC,hY,he]; refine hQ _ _ _ _ (by kernel_rfl) ?_; clear hQ hP Q) | (refine gwC ?_ ?_ <;> (intro hb; first | (cases hb; done) | skip)))
 refine ⟨.inr trivial,?_⟩
 simp [Tryd.results28]
theorem SB.vec {b:Blk} {off n:Nat} {f:Nat → Int} (h:SB b off n f) {i:Nat} (hi:i < n) {u:Nat} (hu:u + 3 ≤ 6):loadK Tryd.prog 36 b (off + i * 6 + u) = some (.agg #[.int .i64 (f (6 * i + u)),.int .i64 (f (6 * i + u + 1)),.int .i64 (f (6 * i + u + 2))]) := by
 have hbrd := Blk.fx_rd h.fx
 have := loadK_rd (P := Tryd.prog) (T := 36) (m := 3) (j := 6 * i + u) (tyAgg_of Tryd.isAgg36) (tySize_of Tryd.sizeOf36) (by omega) h.rd (by omega)
 rw [show off + i * 6 + u = off + (6 * i + u) by omega,this,fa_3]
 rfl
end Go.Gy
namespace Go.Gy
set_option linter.unusedSimpArgs false
set_option linter.unusedVariables false
open Go Go.RowKit
theorem weakRLL {C:Ctx} {G:Hp} {s:GS} {m L:List (Nat × Blk)} (ρ:Nat → Nat) (l:List (Nat × Value)) (B:Nat) (hG:C.G = G) (hGF:GFlat G) (hL:LOk L 200) (hfx:∀ p ∈ L,p.2.fx) (h0:C.hp0 = hpL G L) (hB:200 ≤ B)
  (hl:∀ p ∈ l,s.ts p.1 = ren ρ p.2 ∧ s.ts p.1 ≠ junk ∧ idsV (dom (hpL G (m ++ L))) p.2)
  (hm:∀ p ∈ m,s.hp (ρ p.1) = some (p.2.rn ρ) ∧ p.2.ids (dom (hpL G (m ++ L))) ∧ 200 ≤ p.1 ∧ p.1 < B ∧ 200 ≤ ρ p.1)
  (hi:∀ p ∈ m,∀ q ∈ m,ρ p.1 = ρ q.1 → p.1 = q.1) (hid:∀ k,k < 200 → ρ k = k) (hk:∀ p ∈ L,s.hp p.1 = some p.2):WeakR C ρ s ⟨tsL l,hpL G (m ++ L),B,s.yc⟩ := by
 refine weakRL ρ l B hG hGF h0 (by omega) hl (fun p hp => ?_) (fun p hp q hq e => ?_) (fun k hk => hid k (by omega)) (fun p hp => ?_)
 ·rcases List.mem_append.1 hp with h | h
  ·have := hm p h
   exact ⟨this.1,this.2.1,by omega,this.2.2.2.1,by omega⟩
  ·have hb := hL.big p h
   rw [hid p.1 hb.2,Blk.fx_rn (hfx p h) ρ]
   exact ⟨hk p h,Blk.fx_ids (hfx p h) _,hb.1,by omega,hb.1⟩
 ·rcases List.mem_append.1 hp with h | h <;> rcases List.mem_append.1 hq with h' | h'
  ·exact hi p h q h' e
  ·have := (hm p h).2.2.2.2
   have hb := hL.big q h'
   rw [hid q.1 hb.2] at e
   omega
  ·have := (hm q h').2.2.2.2
   have hb := hL.big p h
   rw [hid p.1 hb.2] at e
   omega
  ·rw [hid p.1 (hL.big p h).2,hid q.1 (hL.big q h').2] at e
   exact e
 ·have hb := hL.big p hp
  exact ⟨hb.1,dom_app (mem_keys.2 ⟨p,hp,rfl⟩),hid p.1 hb.2⟩
end Go.Gy
namespace Go.Gy
set_option linter.unusedSimpArgs false
set_option linter.unusedVariables false
open Go Go.RowKit Go.Proofs
theorem cfOk_mass {n:Nat} {f:Nat → Int} {g bx tp nr md:Int} (h:cfOk n f g bx tp nr md = true) {i:Nat} (hi:i < n):1 ≤ f i ∧ f i ≤ 1024 := by
 unfold cfOk at h
 simp only [Bool.and_eq_true] at h
 have h2 := h.2.1
 unfold allM at h2
 rw [List.all_eq_true] at h2
 have := h2 i (by simpa using hi)
 unfold wiB at this
 simpa using this
theorem cfOk_g {n:Nat} {f:Nat → Int} {g bx tp nr md:Int} (h:cfOk n f g bx tp nr md = true):1 ≤ g ∧ g ≤ 1048576 := by
 unfold cfOk at h
 simp only [Bool.and_eq_true] at h
 have := h.2.2.1
 unfold wiB at this
 simpa using this
theorem fitB_iff {n n2:Nat} {okc rt:Bool}:fitB n n2 okc rt = true ↔ n = n2 ∧ okc = true ∧ rt = true := by
 unfold fitB
 simp
theorem sq_in {a m:Int} (h:inW m a):0 ≤ a * a ∧ a * a ≤ m * m := by
 obtain ⟨h0,h1,h2⟩ := h
 by_cases c:0 ≤ a
 ·exact ⟨Int.mul_nonneg c c,Int.mul_le_mul h2 h2 c h0⟩
 ·rw [← Int.neg_mul_neg]
  exact ⟨Int.mul_nonneg (by omega) (by omega),Int.mul_le_mul (by omega) (by omega) (by omega) h0⟩
theorem eBodyAt {b:Blk} {off n:Nat} {f:Nat → Int} (h:SB b off n f) (i:Nat) (hi:i < n) (o:Nat) (e:o = off + i * 6):loadK Tryd.prog 38 b o = some (.agg #[.int .i64 (f (6 * i)),.int .i64 (f (6 * i + 1)),.int .i64 (f (6 * i + 2)),.int .i64 (f (6 * i + 3)),.int .i64 (f (6 * i + 4)),.int .i64 (f (6 * i + 5))]) := by rw [e]; exact h.body hi
theorem eMassAt {b:Blk} {off n:Nat} {f:Nat → Int} (h:MB b off n f) (i:Nat) (hi:i < n) (o:Nat) (e:o = off + i):loadK Tryd.prog 3 b o = some (.int .i64 (f i)) := by rw [e]; exact h.at hi
def ezB (cq:Array Value):Blk := ⟨cq,.raw 24 (0,0)⟩
theorem ezB_rn {cq:Array Value} {ρ:Nat → Nat}:(ezB cq).rn ρ = ezB cq := rfl
theorem ezB_ids {cq:Array Value} {D:Nat → Prop}:(ezB cq).ids D := trivial
theorem ez_ld {cq:Array Value} {g:Int} (h1:cq[1]? = some (.int .i64 g)):loadK Tryd.prog 3 ⟨cq,.raw 24 (0,0)⟩ 1 = some (.int .i64 g) := by
 unfold loadK
 simp [h1,flatV,flatF,flat0]
theorem eIn {asd:List Nat} {f g:Hp} {k:Nat} (h:k ∈ asd):addB asd f g k = f k := if_pos h
theorem eNi {asd:List Nat} {f g:Hp} {k:Nat} (h:k ∉ asd):addB asd f g k = g k := if_neg h
theorem eOut {G:Hp}:∀ {L:List (Nat × Blk)} {k:Nat},k ∉ keys L → hpL G L k = G k
 | [],_,_ => rfl
 | (q,c) :: L,k,h => by
  simp only [keys,List.map_cons,List.mem_cons,not_or] at h
  rw [hpL_cons,if_neg h.1]
  exact eOut h.2
def d2F (f:Nat → Int) (i k:Nat):Int := (f (6 * i) - f (6 * k)) * (f (6 * i) - f (6 * k)) + (f (6 * i + 1) - f (6 * k + 1)) * (f (6 * i + 1) - f (6 * k + 1)) + (f (6 * i + 2) - f (6 * k + 2)) * (f (6 * i + 2) - f (6 * k + 2))
end Go.Gy
namespace Go.Gy
set_option linter.unusedSimpArgs false
set_option linter.unusedVariables false
open Go Go.RowKit Go.Proofs
def r2n (a nk k:Nat):Nat := if k = 100 then a else if k = 1000 then nk else k
theorem r2n_a {a nk:Nat}:r2n a nk 100 = a := rfl
theorem r2n_k {a nk:Nat}:r2n a nk 1000 = nk := rfl
theorem r2n_low {a nk:Nat} (k:Nat) (h:k < 100):r2n a nk k = k := by
 unfold r2n
 rw [if_neg (by omega),if_neg (by omega)]
theorem FunS.own2 {fn:FuncId} {args args':Array Value} {b:Blk} {R R':Value → List (Nat × Blk) → Prop} (h:FunS Tryd.prog G0 fn args (hpL G0 [(100,b)]) (keys [(100,b)]) R) (hb:b.fx) (a nk:Nat) (ha:100 ≤ a) (hk:100 ≤ nk) (hne:a ≠ nk) (hR:∀ v ns,R v ns → ∀ k ∈ keys ns,k = 1000) (ea:args.map (ren (r2n a nk)) = args') (eR:RR (r2n a nk) R = R') :
  FunS Tryd.prog G0 fn args' (hpL G0 [(a,b)]) [a] R' := by
 refine h.mvL G0F (oneL_ok hb) (r2n a nk) r2n_low ea (by simp [keys,r2n_a]) eR (fun k hk => ?_) ?_ (by simp [keys]) (fun v ns hV k hk => ?_) (fun v ns hV k hk l hl _ => by rw [hR v ns hV k hk,hR v ns hV l hl])
 ·rw [hpL_cons,if_neg (by omega)]
  rfl
 ·simp only [List.mem_singleton,forall_eq]
  rw [Blk.fx_rn hb,r2n_a]
  exact ⟨ha,by simp⟩
 ·rw [hR v ns hV k hk,r2n_k]
  simp
  exact ⟨by omega,fun e => hne e.symm⟩
theorem ownS_rr2 {nk:Nat} {ρ:Nat → Nat} (h:ρ 1000 = nk) (st:Int) (n:Nat) (f:Nat → Int):RR ρ (OwnS 1000 st n f) = OwnS nk st n f := by
 funext v ns
 apply propext
 constructor
 ·rintro ⟨v0,ns0,⟨c,M,g,h1,h2,h3,rfl,rfl⟩,rfl,rfl⟩
  exact ⟨c,M,g,h1,h2,h3,by simp [ren,renA,renF,ren0,h],by simp [rnL,fa_rn,h]⟩
 ·rintro ⟨c,M,g,h1,h2,h3,rfl,rfl⟩
  exact ⟨_,_,⟨c,M,g,h1,h2,h3,rfl,rfl⟩,by simp [ren,renA,renF,ren0,h],by simp [rnL,fa_rn,h]⟩
theorem ownS_key {nk:Nat} {st:Int} {n:Nat} {f:Nat → Int} {v:Value} {ns:List (Nat × Blk)} (h:OwnS nk st n f v ns):∀ k ∈ keys ns,k = nk := fun k hk => by
 obtain ⟨c,M,g,h1,h2,h3,rfl,rfl⟩ := h
 simpa [keys] using hk
theorem own10_nm (a nk:Nat) (ha:100 ≤ a) (hk:100 ≤ nk) (hne:a ≠ nk) (b:Blk) (off n cap:Nat) (f:Nat → Int) (h:SB b off n f) (hcap:n ≤ cap) (st:Int) :
  FunS Tryd.prog G0 11 #[.agg #[.int .i64 st,.slice (some ⟨a,off,none⟩) n cap]] (hpL G0 [(a,b)]) [a] (OwnS nk st n f) :=
 (own10_fun b off n cap f h hcap st).own2 h.fx a nk ha hk hne (fun v ns => ownS_key) (by simp [ren,renA,renF,ren0,r2n_a]) (ownS_rr2 r2n_k st n f)
def eqB (f g:Nat → Int) (i:Nat):Bool := f (6 * i) == g (6 * i) && (f (6 * i + 1) == g (6 * i + 1) && (f (6 * i + 2) == g (6 * i + 2) && (f (6 * i + 3) == g (6 * i + 3) && (f (6 * i + 4) == g (6 * i + 4) && f (6 * i + 5) == g (6 * i + 5)))))
def sameB (st st':Int) (n n':Nat) (f g:Nat → Int):Bool := st == st' && (n == n' && (List.range n).all (eqB f g))
theorem eqB_iff {f g:Nat → Int} {i:Nat}:eqB f g i = true ↔ ∀ u,u < 6 → f (6 * i + u) = g (6 * i + u) := by
 unfold eqB
 simp only [Bool.and_eq_true,beq_iff_eq]
 constructor
 ·rintro ⟨h0,h1,h2,h3,h4,h5⟩ u hu
  obtain rfl | rfl | rfl | rfl | rfl | rfl:u = 0 ∨ u = 1 ∨ u = 2 ∨ u = 3 ∨ u = 4 ∨ u = 5 := by omega
  ·exact h0
  ·exact h1
  ·exact h2
  ·exact h3
  ·exact h4
  ·exact h5
 ·intro h
  exact ⟨h 0 (by omega),h 1 (by omega),h 2 (by omega),h 3 (by omega),h 4 (by omega),h 5 (by omega)⟩
theorem allE_iff {f g:Nat → Int} {n:Nat}:(List.range n).all (eqB f g) = true ↔ ∀ j,j < 6 * n → f j = g j := by
 simp only [List.all_eq_true,List.mem_range,eqB_iff]
 constructor
 ·intro h j hj
  have := h (j / 6) (by omega) (j % 6) (by omega)
  rwa [show 6 * (j / 6) + j % 6 = j by omega] at this
 ·intro h i hi u hu
  exact h _ (by omega)
theorem sameB_iff {st st':Int} {n n':Nat} {f g:Nat → Int}:sameB st st' n n' f g = true ↔ st = st' ∧ n = n' ∧ ∀ j,j < 6 * n → f j = g j := by
 unfold sameB
 rw [Bool.and_eq_true,Bool.and_eq_true,allE_iff,beq_iff_eq,beq_iff_eq]
theorem six_ne:∀ a b c d e f:Bool,(a && (b && (c && (d && (e && f))))) = false → ((!a || (!b || !c)) || (!d || (!e || !f))) = true := by decide
def smL (b b':Blk):List (Nat × Blk) := [(100,b),(108,b')]
theorem smL_ok {b b':Blk} (hb:b.fx) (hb':b'.fx):LOk (smL b b') 200 := ⟨by simp [smL],by simp [smL,keys],by
 simp only [smL,List.mem_cons,List.not_mem_nil,or_false,forall_eq_or_imp,forall_eq]
 exact ⟨Blk.fx_ids hb _,Blk.fx_ids hb' _⟩⟩
def smSt (b b':Blk) (st st':Int) (off off' n n' cap cap' i:Nat):GS :=
 ⟨tsL [(2,.pointer (some ⟨200,0,none⟩)),(3,.pointer (some ⟨208,0,none⟩)),(5,.int .i64 i)],hpL G0 [(100,b),(108,b'),(200,⟨#[.int .i64 st,.slice (some ⟨100,off,none⟩) n cap],.ty 27⟩),(208,⟨#[.int .i64 st',.slice (some ⟨108,off',none⟩) n' cap'],.ty 27⟩)],400,0⟩
set_option maxRecDepth 8000 in
set_option maxHeartbeats 4000000 in
theorem same_fun (b b':Blk) (off off' n n' cap cap':Nat) (f g:Nat → Int) (h:SB b off n f) (h':SB b' off' n' g) (st st':Int) :
  Fun Tryd.prog G0 7 #[.agg #[.int .i64 st,.slice (some ⟨100,off,none⟩) n cap],.agg #[.int .i64 st',.slice (some ⟨108,off',none⟩) n' cap']] (hpL G0 (smL b b')) (keys (smL b b')) (.ret (.bool (sameB st st' n n' f g)) []) := by
 refine fun_ofL (B := 200) G0F Tryd.func7 rfl Tryd.call7 (smL_ok h.fx h'.fx) ?_ (by simp) (by simp) (by simp) (by simp [Tryd.ntmps7]) (by omega) ?_
 ·simp [idsV,idsA,idsF,ids0,keys,smL]
 intro C hC hC0 hY
 have hnn := h.nn
 have hid := fun D => Blk.fx_ids h.fx D
 have hid' := fun D => Blk.fx_ids h'.fx D
 unfold smL at hC0 ⊢
 by_cases cs:st = st'
 ·by_cases cn:n = n'
  ·subst cs cn
   obtain ⟨N,hN,hlt,hend⟩ := leadB (eqB f g) n
   have hval:sameB st st n n f g = decide (N = n) := by
    unfold sameB
    simp only [beq_self_eq_true,Bool.true_and]
    by_cases hNn:N = n
    ·subst hNn
     rw [decide_eq_true rfl]
     simpa using hlt
    ·rw [decide_eq_false hNn]
     cases hb:(List.range n).all (eqB f g) with
     | false => rfl
     | true =>
      have := List.all_eq_true.1 hb N (by simp; omega)
      rw [hend.resolve_left hNn] at this
      cases this
   rw [hval]
   repeat' (first | refine gwA ?_ | ((first | refine gwR [] ?_ | refine gwD [] ?_); intro Q hQ hP; simp [hC,hY]; refine hQ _ _ _ _ (by kernel_rfl) ?_; clear hQ hP Q) | (refine gwC ?_ ?_ <;> (intro hb; first | (cases hb; done) | skip)))
   refine GW_for N (smSt b b' st st off off' n n cap cap') ?_ ?_ ?_
   ·refine weakL _ 400 hC G0F (m0 := [(100,b),(108,b')]) hC0 (by omega) ?_ ?_ ?_
    ·simp [idsV,idsA,idsF,ids0,dom]
    ·simp [ids_lit,idsF,ids0,hid,hid',dom]
    ·simp
   ·intro i hi
    have hin:i < n := by omega
    have hi':(i:Int) < n := by omega
    have hz:(0:Int) ≤ i := by omega
    have hs:Int.bmod ((i:Int) + 1) 18446744073709551616 = ((i + 1:Nat):Int) := by rw [bm (by omega) (by omega)]; rfl
    have hld := h.body hin
    have hld' := h'.body hin
    have he := eqB_iff.1 (hlt i hi)
    have e0 := he 0 (by omega)
    have e1 := he 1 (by omega)
    have e2 := he 2 (by omega)
    have e3 := he 3 (by omega)
    have e4 := he 4 (by omega)
    have e5 := he 5 (by omega)
    simp only [Nat.add_zero] at e0
    unfold smSt
    repeat' (first | refine gwA ?_ | ((first | refine gwR [] ?_ | refine gwD [] ?_); intro Q hQ hP; simp [hC,hY,hi,hin,hi',hz,hs,hld,hld',e0,e1,e2,e3,e4,e5]; refine hQ _ _ _ _ (by kernel_rfl) ?_; clear hQ hP Q) | (refine gwC ?_ ?_ <;> (intro hb; first | (cases hb; done) | skip)))
    refine weakL _ 400 hC G0F (m0 := [(100,b),(108,b')]) hC0 (by omega) ?_ ?_ ?_
    ·simp [idsV,idsA,idsF,ids0,dom,hs]
    ·simp [ids_lit,idsF,ids0,hid,hid',dom]
    ·simp
   ·by_cases hNn:N = n
    ·rw [decide_eq_true hNn]
     subst hNn
     unfold smSt
     repeat' (first | refine gwA ?_ | ((first | refine gwR [] ?_ | refine gwD [] ?_); intro Q hQ hP; simp [hC,hY]; refine hQ _ _ _ _ (by kernel_rfl) ?_; clear hQ hP Q) | (refine gwC ?_ ?_ <;> (intro hb; first | (cases hb; done) | skip)))
     refine ⟨.inr rfl,by simp [Tryd.results7],kpS G0F⟩
    ·rw [decide_eq_false hNn]
     have hin:N < n := by omega
     have hi':(N:Int) < n := by omega
     have hz:(0:Int) ≤ N := by omega
     have hld := h.body hin
     have hld' := h'.body hin
     have hne := hend.resolve_left hNn
     unfold eqB at hne
     replace hne := six_ne _ _ _ _ _ _ hne
     unfold smSt
     repeat' (first | refine gwA ?_ | ((first | refine gwR [] ?_ | refine gwD [] ?_); intro Q hQ hP; simp [hC,hY,hin,hi',hz,hld,hld',hne]; refine hQ _ _ _ _ (by kernel_rfl) ?_; clear hQ hP Q) | (refine gwC ?_ ?_ <;> (intro hb; first | (cases hb; done) | skip)))
     refine ⟨.inr rfl,by simp [Tryd.results7],kpS G0F⟩
  ·have hval:sameB st st' n n' f g = false := by
    unfold sameB
    rw [show (n == n') = false by simpa using cn]
    simp
   rw [hval]
   subst cs
   have cn':((n:Int) == (n':Int)) = false := by simp; omega
   have cn2:(n == n') = false := by simpa using cn
   have cn3:((n:Int) != (n':Int)) = true := by unfold bne; rw [cn']; rfl
   repeat' (first | refine gwA ?_ | ((first | refine gwR [] ?_ | refine gwD [] ?_); intro Q hQ hP; simp [hC,hY,cn,cn',cn2,cn3]; refine hQ _ _ _ _ (by kernel_rfl) ?_; clear hQ hP Q) | (refine gwC ?_ ?_ <;> (intro hb; first | (cases hb; done) | skip)))
   refine ⟨.inr rfl,by simp [Tryd.results7],kpS G0F⟩
 ·have hval:sameB st st' n n' f g = false := by
   unfold sameB
   rw [show (st == st') = false by simpa using cs]
   simp
  rw [hval]
  have cs':(st == st') = false := by simpa using cs
  have cs2:(st != st') = true := by unfold bne; rw [cs']; rfl
  repeat' (first | refine gwA ?_ | ((first | refine gwR [] ?_ | refine gwD [] ?_); intro Q hQ hP; simp [hC,hY,cs,cs',cs2]; refine hQ _ _ _ _ (by kernel_rfl) ?_; clear hQ hP Q) | (refine gwC ?_ ?_ <;> (intro hb; first | (cases hb; done) | skip)))
  refine ⟨.inr rfl,by simp [Tryd.results7],kpS G0F⟩
theorem G0_no:G0 0 = none := by simp [G0,G0L]
theorem G0_sub {k:Nat} {b:Blk} (h:G0 k = some b):G1 k = some b := by
 have h0:¬ k = 0 := fun e => by rw [e,G0_no] at h; cases h
 unfold G1
 rw [hpL_cons,if_neg h0]
 exact h
theorem lmB_fx:lmB.fx := fun x hx => by
 simp only [lmB,List.mem_toArray,List.mem_cons,List.not_mem_nil,or_false] at hx
 rcases hx with h | h | h | h | h | h | h | h | h | h | h | h <;> (rw [h]; rfl)
theorem up_mv {m:List (Nat × Blk)} {B:Nat} (ok:LOk m B):MvG G0 G1 m m (fun k => k) := by
 refine ⟨G0F,G1F,⟨B,ok⟩,⟨B,ok⟩,fun k b h => ⟨G0_sub h,rfl⟩,fun p hp => ⟨p.2,LOk.at ok.one p hp,fun r => by rw [Blk.rn_id]⟩,fun k _ l _ e => e,fun k hk l b hl e => ?_⟩
 obtain ⟨p,hp,rfl⟩ := mem_keys.1 hk
 have := (ok.big p hp).1
 have := (G0F l b hl).1
 omega
theorem ren_idA {args:Array Value}:args.map (ren fun k => k) = args := by
 rw [show (ren fun k => k) = id from funext fun v => ren_id v]
 simp
theorem rnL_idL {ws:List (Nat × Blk)}:rnL (fun k => k) ws = ws := by
 unfold rnL
 rw [List.map_congr_left (g := id) fun p _ => by rw [Blk.rn_id]; rfl]
 simp
theorem RR_id {R:Value → List (Nat × Blk) → Prop}:RR (fun k => k) R = R := by
 funext v ns
 apply propext
 constructor
 ·rintro ⟨v0,ns0,h,rfl,rfl⟩
  rw [ren_id,rnL_idL]
  exact h
 ·intro h
  exact ⟨v,ns,h,(ren_id v).symm,rnL_idL.symm⟩
theorem Fun.up1 {f:FuncId} {args:Array Value} {m ws:List (Nat × Blk)} {v:Value} {B:Nat} (h:Fun Tryd.prog G0 f args (hpL G0 m) (keys m) (.ret v ws)) (ok:LOk m B):Fun Tryd.prog G1 f args (hpL G1 m) (keys m) (.ret v ws) := by
 have := h.mvG (up_mv ok) (fun k hk => (h.fits.2.1 k hk).1) ren_idA
 rwa [ren_id,rnL_idL] at this
theorem FunS.up1 {f:FuncId} {args:Array Value} {m:List (Nat × Blk)} {R:Value → List (Nat × Blk) → Prop} {B:Nat} (h:FunS Tryd.prog G0 f args (hpL G0 m) (keys m) R) (ok:LOk m B):FunS Tryd.prog G1 f args (hpL G1 m) (keys m) R := by
 refine h.mvG (up_mv ok) ren_idA RR_id (fun v ns hR k hk => ?_) (fun _ _ _ k _ l _ e => e)
 have h1 := (h.fits v ns hR).2.1 k hk
 rw [LOk.rst (m := m) G0F] at h1
 refine ⟨h1.1,fun hd => h1.2 ?_⟩
 unfold dom at hd
 cases hb:hpL G1 m k with
 | none => exact absurd hb hd
 | some b =>
  rcases hpL_mem hb with h2 | h2
  ·exact ok.sub k (mem_keys.2 ⟨_,h2,rfl⟩)
  ·have := (G1F k b h2).1
   omega
structure LKa (L:List (Nat × Blk)) (ka ks:Nat) (b b2:Blk):Prop where
 ok:LOk L 200
 fx:∀ p ∈ L,p.2.fx
 kb:(ks,b2) ∈ L
 k8:ks = 100 ∨ ks = 108
 a8:ka = 100 ∨ ka = 0
 am:ka = 100 → (100,b) ∈ L
 ag:ka = 0 → ks = 100 ∧ L = [(100,b2)] ∧ b = lmB
section
variable {L:List (Nat × Blk)} {ka ks:Nat} {b b2:Blk}
theorem LKa.mem (h:LKa L ka ks b b2) (p:Nat × Blk) (hp:p ∈ L):hpL G1 L p.1 = some p.2 := LOk.at h.ok.one p hp
theorem LKa.a (h:LKa L ka ks b b2):hpL G1 L ka = some b := by
 rcases h.a8 with e | e
 ·rw [e]; exact h.mem _ (h.am e)
 ·obtain ⟨_,rfl,rfl⟩ := h.ag e
  rw [e]
  simp [G1]
theorem LKa.s (h:LKa L ka ks b b2):hpL G1 L ks = some b2 := h.mem _ h.kb
theorem LKa.k1 (h:LKa L ka ks b b2):100 ≤ ks := (h.ok.big _ h.kb).1
theorem LKa.k2 (h:LKa L ka ks b b2):ks < 200 := (h.ok.big _ h.kb).2
theorem LKa.a2 (h:LKa L ka ks b b2):ka < 200 := by rcases h.a8 with e | e <;> omega
theorem LKa.ne (h:LKa L ka ks b b2) (k:Nat) (hk:200 ≤ k):(ks = k) = False := by
 have := h.k2
 simp only [eq_iff_iff,iff_false]
 omega
theorem LKa.na (h:LKa L ka ks b b2) (k:Nat) (hk:200 ≤ k):(ka = k) = False := by
 have := h.a2
 simp only [eq_iff_iff,iff_false]
 omega
theorem LKa.low (h:LKa L ka ks b b2) (k:Nat) (hk:k < 100):hpL G1 L k = G1 k := h.ok.low k hk
theorem LKa.ia (h:LKa L ka ks b b2):dom (hpL G1 L) ka := by unfold dom; rw [h.a]; simp
theorem LKa.ib (h:LKa L ka ks b b2):dom (hpL G1 L) ks := by unfold dom; rw [h.s]; simp
theorem LKa.kbk (h:LKa L ka ks b b2):ks ∈ keys L := mem_keys.2 ⟨_,h.kb,rfl⟩
theorem LKa.aQ (h:LKa L ka ks b b2):ka ∈ keys L ∨ (ka < 100 ∧ dom G1 ka) := by
 rcases h.a8 with e | e
 ·exact .inl (mem_keys.2 ⟨_,h.am e,e.symm⟩)
 ·refine .inr ⟨by omega,?_⟩
  unfold dom
  rw [e,G1_limits]
  simp
theorem LKa.two {x y:Blk} (hx:x.fx) (hy:y.fx):LKa [(100,x),(108,y)] 100 108 x y := by
 have h := LTwo.two (G := G0) hx hy
 exact ⟨h.ok,h.fx,h.kb,.inr rfl,.inl rfl,fun _ => by simp,fun e => by have:(100:Nat) = 0 := e; omega⟩
theorem LKa.of {L:List (Nat × Blk)} {ks:Nat} {b b2:Blk} (h:LTwo G1 L ks b b2):LKa L 100 ks b b2 := ⟨h.ok,h.fx,h.kb,h.k8,.inl rfl,fun _ => h.ka,fun e => by have:(100:Nat) = 0 := e; omega⟩
theorem LKa.lim {y:Blk} (hy:y.fx):LKa [(100,y)] 0 100 lmB y :=
 ⟨⟨by simp,by simp [keys],by simpa using Blk.fx_ids hy _⟩,by simpa using hy,by simp,.inl rfl,.inr rfl,fun e => by have:0 = (100:Nat) := e; omega,fun _ => ⟨rfl,rfl,rfl⟩⟩
theorem LKa.tw (h:LKa L 100 ks b b2):LTwo G0 L ks b b2 := ⟨h.ok,h.fx,h.am rfl,h.kb,h.k8⟩
end
def gmv (k:Nat):Nat := if k = 100 then 0 else if k = 108 then 100 else k
theorem lim_mv {y:Blk} (hy:y.fx):MvG G0 G1 [(100,lmB),(108,y)] [(100,y)] gmv := by
 have h := LTwo.two (G := G0) lmB_fx hy
 have h2 := LKa.lim hy
 refine ⟨G0F,G1F,⟨200,h.ok⟩,⟨200,h2.ok⟩,fun k b hk => ⟨G0_sub hk,?_⟩,?_,?_,?_⟩
 ·have := (G0F k b hk).1
  unfold gmv
  rw [if_neg (by omega),if_neg (by omega)]
 ·intro p hp
  simp only [List.mem_cons,List.not_mem_nil,or_false] at hp
  rcases hp with rfl | rfl
  ·exact ⟨lmB,h2.a,fun r => by rw [Blk.fx_rn lmB_fx]⟩
  ·exact ⟨y,h2.s,fun r => by rw [Blk.fx_rn hy]⟩
 ·intro k hk l hl e
  simp only [keys,List.map_cons,List.map_nil,List.mem_cons,List.not_mem_nil,or_false] at hk hl
  unfold gmv at e
  rcases hk with rfl | rfl <;> rcases hl with rfl | rfl <;> simp at e ⊢
 ·intro k hk l b hl e
  simp only [keys,List.map_cons,List.map_nil,List.mem_cons,List.not_mem_nil,or_false] at hk
  unfold gmv at e
  rcases hk with rfl | rfl
  ·rw [if_pos rfl] at e
   rw [← e,G0_no] at hl
   cases hl
  ·have := (G0F l b hl).1
   rw [if_neg (by omega),if_pos rfl] at e
   omega
theorem kFits_ka (L:List (Nat × Blk)) (ka ks:Nat) (bm bs:Blk) (hT:LKa L ka ks bm bs) (off n cap off2 n2 cap2:Nat) (fm fs:Nat → Int) (hm:MB bm off n fm) (hSb:SB bs off2 n2 fs) (g bx tp nr md st:Int) (hs:i64 st) :
  Fun Tryd.prog G1 14 #[cfV (.slice (some ⟨ka,off,none⟩) n cap) g bx tp nr md,.agg #[.int .i64 st,.slice (some ⟨ks,off2,none⟩) n2 cap2]] (hpL G1 L) (keys L) (.ret (.bool (fitB n n2 (cfOk n fm g bx tp nr md) (rightB st fs n2))) []) := by
 rcases hT.a8 with e | e
 ·subst e
  exact (kFits_L L ks bm bs hT.tw off n cap off2 n2 cap2 fm fs hm hSb g bx tp nr md st hs).up1 hT.ok
 ·obtain ⟨rfl,rfl,rfl⟩ := hT.ag e
  subst e
  have h := (kFits_L _ 108 lmB bs (LTwo.two lmB_fx hSb.fx) off n cap off2 n2 cap2 fm fs hm hSb g bx tp nr md st hs).mvG (lim_mv hSb.fx) (fun k hk => by cases hk) rfl
  simpa [cfV,ren,renA,renF,ren0,gmv,rnL] using h
@[simp] theorem vsubG (a0 a1 a2 b0 b1 b2:Int) (K:Value → Prop):callK Tryd.prog G1 28 #[.agg #[.int .i64 a0,.int .i64 a1,.int .i64 a2],.agg #[.int .i64 b0,.int .i64 b1,.int .i64 b2]] K ↔
  K (.tuple #[.agg #[.int .i64 (eaV (eaE subI a0 a1 a2 b0 b1 b2) (subI a0 b0)),.int .i64 (eaV (eaE subI a0 a1 a2 b0 b1 b2) (subI a1 b1)),.int .i64 (eaV (eaE subI a0 a1 a2 b0 b1 b2) (subI a2 b2))],.int .i64 (eaE subI a0 a1 a2 b0 b1 b2)]) := callK_iff G1W (by kernel_rfl) ((sub_ret a0 a1 a2 b0 b1 b2).up G1up)
theorem rn_ofD {m:List (Nat × Blk)} {B:Nat} (hm:LOd G1 m B) (ρ:Nat → Nat) (hlow:∀ k,k < 100 → ρ k = k) {hp:Hp} (hp0:∀ k,k < 100 → hp k = G1 k) (hat:∀ p ∈ m,100 ≤ ρ p.1 ∧ hp (ρ p.1) = some (p.2.rn ρ)) (hinj:∀ k ∈ keys m,∀ l ∈ keys m,ρ k = ρ l → k = l):Rn ρ (hpL G1 m) hp (keys m) := by
 refine ⟨fun k hk => ⟨hlow k hk,by rw [hp0 k hk,hm.low k hk]⟩,fun k hk _ => ?_,fun k hk _ => ?_,fun k hk l hl _ _ e => ?_⟩
 ·obtain ⟨p,hp,rfl⟩ := mem_keys.1 hk
  exact (hat p hp).1
 ·obtain ⟨p,hp,rfl⟩ := mem_keys.1 hk
  exact ⟨p.2,LOk.at hm.one p hp,(hat p hp).2⟩
 ·exact hinj k hk l hl e
theorem iterk_mvD {f:FuncId} {caps caps':Array Value} {m:List (Nat × Blk)} {B:Nat} {xs:List (Array Value)} {hp:Hp} {rs:List Nat} (h:IterK Tryd.prog G1 f caps (hpL G1 m) (keys m) xs) (hm:LOd G1 m B) (ρ:Nat → Nat) (hlow:∀ k,k < 100 → ρ k = k) (ea:caps.map (ren0 ρ) = caps') (er:(keys m).map ρ = rs)
  (hp0:∀ k,k < 100 → hp k = G1 k) (hat:∀ p ∈ m,100 ≤ ρ p.1 ∧ hp (ρ p.1) = some (p.2.rn ρ)) (hinj:∀ k ∈ keys m,∀ l ∈ keys m,ρ k = ρ l → k = l):IterK Tryd.prog G1 f caps' hp rs xs := by
 subst ea er
 exact h.rn ρ G1F hm.low (rn_ofD hm ρ hlow hp0 hat hinj)
def chkE (n d g m x r:Int):Int :=
 if -2097152 ≤ n ∧ n ≤ 2097152 ∧ 1 ≤ d ∧ d ≤ 2097152 ∧ 1 ≤ g ∧ g ≤ 1048576 ∧ 1 ≤ m ∧ m ≤ 1024 ∧ -2097152 ≤ x ∧ x ≤ 2097152 ∧ 0 ≤ r ∧ r ≤ 13194139533312 then (if r = 0 then 30 else if x * x ≤ r then 0 else 2) else 2
def ckHp (n d g m x r:Int):Hp := hpL G1 [(100,⟨#[.int .i64 n,.int .i64 d,.int .i64 g,.int .i64 m,.int .i64 x,.int .i64 r],.ty 3⟩)]
theorem ckHp_rst (n d g m x r:Int):rst (ckHp n d g m x r) [100] = ckHp n d g m x r := hpL_rst G1F (by simp)
theorem ckHp_closed (n d g m x r:Int) (D:Nat → Prop) (k:Nat) (c:Blk) (h:ckHp n d g m x r k = some c):c.ids D := by
 rcases hpL_mem h with h | h
 ·simp at h
  rcases h with ⟨_,rfl⟩
  simp
 ·exact G1_closed _ _ _ h
theorem ckHp_free (n d g m x r:Int) (k:Nat) (hk:200 ≤ k):ckHp n d g m x r k = none := by
 simp [ckHp,show ¬ k = 100 by omega,show 100 ≤ k by omega]
set_option maxHeartbeats 2000000 in
theorem check_ok (n d g m x r:Int) (h:chkE n d g m x r = 0):Fun Tryd.prog G1 44 #[.slice (some ⟨100,0,none⟩) 6 6] (ckHp n d g m x r) [100] (.ret (.tuple #[]) []) := by
 refine fun_of (B := 200) G1F (fun k hk => hpL_low (by simp) hk) Tryd.func44 rfl Tryd.call44 ?_ ?_ ⟨flatV_ids (by simp),by simp [keys],by simp,by simp⟩ (by simp [Tryd.ntmps44]) (by omega) ?_ ?_
 ·rw [ckHp_rst]; simp [ckHp,dom]
 ·rw [ckHp_rst]; exact ckHp_closed n d g m x r _
 ·rw [ckHp_rst]; exact ckHp_free n d g m x r
 ·intro C hC hC0 hY
  rw [ckHp_rst] at hC0 ⊢
  unfold chkE at h
  split at h
  rotate_left
  ·cases h
  rename_i hc
  obtain ⟨f0,f1,f2,f3,f4,f5,f6,f7,f8,f9,f10,f11⟩ := hc
  split at h
  ·cases h
  rename_i hr
  split at h
  rotate_left
  ·cases h
  rename_i hx
  have hr0:0 < r := by omega
  have hxx:x * x ≤ 2097152 * 2097152 := by
   by_cases h0:0 ≤ x
   ·exact Int.mul_le_mul (by omega) (by omega) h0 (by omega)
   ·rw [← Int.neg_mul_neg]; exact Int.mul_le_mul (by omega) (by omega) (by omega) (by omega)
  have hx0:0 ≤ x * x := by
   by_cases h0:0 ≤ x
   ·exact Int.mul_nonneg h0 h0
   ·rw [← Int.neg_mul_neg]; exact Int.mul_nonneg (by omega) (by omega)
  have hb2:Int.bmod (x * x) 18446744073709551616 = x * x := bm (by omega) (by omega)
  repeat' (first | refine GWL_start ?_ | refine GWL_step ?_ | refine gwA ?_ | ((first | refine gwR [1000042] ?_ | refine gwD [1000042] ?_); intro Q hQ hP; simp [hC,hY,ckHp,lmB,f0,f1,f2,f3,f4,f5,f6,f7,f8,f9,f10,f11,hr0,hx,hb2]; (repeat ((first | (refine callP_of (pmust_t _) ?_) | (refine callP_of (pmust_f _) ?_)); try simp [hC,hY,ckHp,lmB,f0,f1,f2,f3,f4,f5,f6,f7,f8,f9,f10,f11,hr0,hx,hb2])); (first | refine hQ _ _ _ _ (by kernel_rfl) ?_ | refine hP _ _ (by kernel_rfl) fun _ => ?_); clear hQ hP Q) | (refine gwC ?_ ?_ <;> (intro hb; first | (cases hb; done) | skip)))
  refine ⟨.inl rfl,by simp [Tryd.results44],fun k hk => ?_⟩
  have hk3:k < 200 := Classical.byContradiction fun h => hk (ckHp_free n d g m x r k (by omega))
  first | rfl | (simp (disch := omega) only [upd_far]; rfl)
set_option maxHeartbeats 4000000 in
theorem check_bad (n d g m x r:Int) (h:chkE n d g m x r ≠ 0):Fun Tryd.prog G1 44 #[.slice (some ⟨100,0,none⟩) 6 6] (ckHp n d g m x r) [100] (.pan (erV (chkE n d g m x r))) := by
 refine fun_of (B := 200) G1F (fun k hk => hpL_low (by simp) hk) Tryd.func44 rfl Tryd.call44 ?_ ?_ trivial (by simp [Tryd.ntmps44]) (by omega) ?_ ?_
 ·rw [ckHp_rst]; simp [ckHp,dom]
 ·rw [ckHp_rst]; exact ckHp_closed n d g m x r _
 ·rw [ckHp_rst]; exact ckHp_free n d g m x r
 ·intro C hC hC0 hY
  rw [ckHp_rst] at hC0 ⊢
  by_cases f0:-2097152 ≤ n
  rotate_left
  ·have hE:chkE n d g m x r = 2 := if_neg (by omega)
   rw [hE]
   repeat' (first | refine GWL_start ?_ | refine GWL_step ?_ | refine gwA ?_ | ((first | refine gwR [1000042] ?_ | refine gwD [1000042] ?_); intro Q hQ hP; simp [hC,hY,ckHp,lmB,f0]; (repeat ((first | (refine callP_of (pmust_t _) ?_) | (refine callP_of (pmust_f _) ?_)); try simp [hC,hY,ckHp,lmB,f0])); (first | refine hQ _ _ _ _ (by kernel_rfl) ?_ | refine hP _ _ (by kernel_rfl) fun _ => ?_); clear hQ hP Q) | (refine gwC ?_ ?_ <;> (intro hb; first | (cases hb; done) | skip)))
   refine ⟨rfl,fun k hk => ?_⟩
   have hk3:k < 200 := Classical.byContradiction fun h => hk (ckHp_free n d g m x r k (by omega))
   first | rfl | (simp (disch := omega) only [upd_far]; rfl)
  by_cases f1:n ≤ 2097152
  rotate_left
  ·have hE:chkE n d g m x r = 2 := if_neg (by omega)
   rw [hE]
   repeat' (first | refine GWL_start ?_ | refine GWL_step ?_ | refine gwA ?_ | ((first | refine gwR [1000042] ?_ | refine gwD [1000042] ?_); intro Q hQ hP; simp [hC,hY,ckHp,lmB,f0,f1]; (repeat ((first | (refine callP_of (pmust_t _) ?_) | (refine callP_of (pmust_f _) ?_)); try simp [hC,hY,ckHp,lmB,f0,f1])); (first | refine hQ _ _ _ _ (by kernel_rfl) ?_ | refine hP _ _ (by kernel_rfl) fun _ => ?_); clear hQ hP Q) | (refine gwC ?_ ?_ <;> (intro hb; first | (cases hb; done) | skip)))
   refine ⟨rfl,fun k hk => ?_⟩
   have hk3:k < 200 := Classical.byContradiction fun h => hk (ckHp_free n d g m x r k (by omega))
   first | rfl | (simp (disch := omega) only [upd_far]; rfl)
  by_cases f2:1 ≤ d
  rotate_left
  ·have hE:chkE n d g m x r = 2 := if_neg (by omega)
   rw [hE]
   repeat' (first | refine GWL_start ?_ | refine GWL_step ?_ | refine gwA ?_ | ((first | refine gwR [1000042] ?_ | refine gwD [1000042] ?_); intro Q hQ hP; simp [hC,hY,ckHp,lmB,f0,f1,f2]; (repeat ((first | (refine callP_of (pmust_t _) ?_) | (refine callP_of (pmust_f _) ?_)); try simp [hC,hY,ckHp,lmB,f0,f1,f2])); (first | refine hQ _ _ _ _ (by kernel_rfl) ?_ | refine hP _ _ (by kernel_rfl) fun _ => ?_); clear hQ hP Q) | (refine gwC ?_ ?_ <;> (intro hb; first | (cases hb; done) | skip)))
   refine ⟨rfl,fun k hk => ?_⟩
   have hk3:k < 200 := Classical.byContradiction fun h => hk (ckHp_free n d g m x r k (by omega))
   first | rfl | (simp (disch := omega) only [upd_far]; rfl)
  by_cases f3:d ≤ 2097152
  rotate_left
  ·have hE:chkE n d g m x r = 2 := if_neg (by omega)
   rw [hE]
   repeat' (first | refine GWL_start ?_ | refine GWL_step ?_ | refine gwA ?_ | ((first | refine gwR [1000042] ?_ | refine gwD [1000042] ?_); intro Q hQ hP; simp [hC,hY,ckHp,lmB,f0,f1,f2,f3]; (repeat ((first | (refine callP_of (pmust_t _) ?_) | (refine callP_of (pmust_f _) ?_)); try simp [hC,hY,ckHp,lmB,f0,f1,f2,f3])); (first | refine hQ _ _ _ _ (by kernel_rfl) ?_ | refine hP _ _ (by kernel_rfl) fun _ => ?_); clear hQ hP Q) | (refine gwC ?_ ?_ <;> (intro hb; first | (cases hb; done) | skip)))
   refine ⟨rfl,fun k hk => ?_⟩
   have hk3:k < 200 := Classical.byContradiction fun h => hk (ckHp_free n d g m x r k (by omega))
   first | rfl | (simp (disch := omega) only [upd_far]; rfl)
  by_cases f4:1 ≤ g
  rotate_left
  ·have hE:chkE n d g m x r = 2 := if_neg (by omega)
   rw [hE]
   repeat' (first | refine GWL_start ?_ | refine GWL_step ?_ | refine gwA ?_ | ((first | refine gwR [1000042] ?_ | refine gwD [1000042] ?_); intro Q hQ hP; simp [hC,hY,ckHp,lmB,f0,f1,f2,f3,f4]; (repeat ((first | (refine callP_of (pmust_t _) ?_) | (refine callP_of (pmust_f _) ?_)); try simp [hC,hY,ckHp,lmB,f0,f1,f2,f3,f4])); (first | refine hQ _ _ _ _ (by kernel_rfl) ?_ | refine hP _ _ (by kernel_rfl) fun _ => ?_); clear hQ hP Q) | (refine gwC ?_ ?_ <;> (intro hb; first | (cases hb; done) | skip)))
   refine ⟨rfl,fun k hk => ?_⟩
   have hk3:k < 200 := Classical.byContradiction fun h => hk (ckHp_free n d g m x r k (by omega))
   first | rfl | (simp (disch := omega) only [upd_far]; rfl)
  by_cases f5:g ≤ 1048576
  rotate_left
  ·have hE:chkE n d g m x r = 2 := if_neg (by omega)
   rw [hE]
   repeat' (first | refine GWL_start ?_ | refine GWL_step ?_ | refine gwA ?_ | ((first | refine gwR [1000042] ?_ | refine gwD [1000042] ?_); intro Q hQ hP; simp [hC,hY,ckHp,lmB,f0,f1,f2,f3,f4,f5]; (repeat ((first | (refine callP_of (pmust_t _) ?_) | (refine callP_of (pmust_f _) ?_)); try simp [hC,hY,ckHp,lmB,f0,f1,f2,f3,f4,f5])); (first | refine hQ _ _ _ _ (by kernel_rfl) ?_ | refine hP _ _ (by kernel_rfl) fun _ => ?_); clear hQ hP Q) | (refine gwC ?_ ?_ <;> (intro hb; first | (cases hb; done) | skip)))
   refine ⟨rfl,fun k hk => ?_⟩
   have hk3:k < 200 := Classical.byContradiction fun h => hk (ckHp_free n d g m x r k (by omega))
   first | rfl | (simp (disch := omega) only [upd_far]; rfl)
  by_cases f6:1 ≤ m
  rotate_left
  ·have hE:chkE n d g m x r = 2 := if_neg (by omega)
   rw [hE]
   repeat' (first | refine GWL_start ?_ | refine GWL_step ?_ | refine gwA ?_ | ((first | refine gwR [1000042] ?_ | refine gwD [1000042] ?_); intro Q hQ hP; simp [hC,hY,ckHp,lmB,f0,f1,f2,f3,f4,f5,f6]; (repeat ((first | (refine callP_of (pmust_t _) ?_) | (refine callP_of (pmust_f _) ?_)); try simp [hC,hY,ckHp,lmB,f0,f1,f2,f3,f4,f5,f6])); (first | refine hQ _ _ _ _ (by kernel_rfl) ?_ | refine hP _ _ (by kernel_rfl) fun _ => ?_); clear hQ hP Q) | (refine gwC ?_ ?_ <;> (intro hb; first | (cases hb; done) | skip)))
   refine ⟨rfl,fun k hk => ?_⟩
   have hk3:k < 200 := Classical.byContradiction fun h => hk (ckHp_free n d g m x r k (by omega))
   first | rfl | (simp (disch := omega) only [upd_far]; rfl)
  by_cases f7:m ≤ 1024
  rotate_left
  ·have hE:chkE n d g m x r = 2 := if_neg (by omega)
   rw [hE]
   repeat' (first | refine GWL_start ?_ | refine GWL_step ?_ | refine gwA ?_ | ((first | refine gwR [1000042] ?_ | refine gwD [1000042] ?_); intro Q hQ hP; simp [hC,hY,ckHp,lmB,f0,f1,f2,f3,f4,f5,f6,f7]; (repeat ((first | (refine callP_of (pmust_t _) ?_) | (refine callP_of (pmust_f _) ?_)); try simp [hC,hY,ckHp,lmB,f0,f1,f2,f3,f4,f5,f6,f7])); (first | refine hQ _ _ _ _ (by kernel_rfl) ?_ | refine hP _ _ (by kernel_rfl) fun _ => ?_); clear hQ hP Q) | (refine gwC ?_ ?_ <;> (intro hb; first | (cases hb; done) | skip)))
   refine ⟨rfl,fun k hk => ?_⟩
   have hk3:k < 200 := Classical.byContradiction fun h => hk (ckHp_free n d g m x r k (by omega))
   first | rfl | (simp (disch := omega) only [upd_far]; rfl)
  by_cases f8:-2097152 ≤ x
  rotate_left
  ·have hE:chkE n d g m x r = 2 := if_neg (by omega)
   rw [hE]
   repeat' (first | refine GWL_start ?_ | refine GWL_step ?_ | refine gwA ?_ | ((first | refine gwR [1000042] ?_ | refine gwD [1000042] ?_); intro Q hQ hP; simp [hC,hY,ckHp,lmB,f0,f1,f2,f3,f4,f5,f6,f7,f8]; (repeat ((first | (refine callP_of (pmust_t _) ?_) | (refine callP_of (pmust_f _) ?_)); try simp [hC,hY,ckHp,lmB,f0,f1,f2,f3,f4,f5,f6,f7,f8])); (first | refine hQ _ _ _ _ (by kernel_rfl) ?_ | refine hP _ _ (by kernel_rfl) fun _ => ?_); clear hQ hP Q) | (refine gwC ?_ ?_ <;> (intro hb; first | (cases hb; done) | skip)))
   refine ⟨rfl,fun k hk => ?_⟩
   have hk3:k < 200 := Classical.byContradiction fun h => hk (ckHp_free n d g m x r k (by omega))
   first | rfl | (simp (disch := omega) only [upd_far]; rfl)
  by_cases f9:x ≤ 2097152
  rotate_left
  ·have hE:chkE n d g m x r = 2 := if_neg (by omega)
   rw [hE]
   repeat' (first | refine GWL_start ?_ | refine GWL_step ?_ | refine gwA ?_ | ((first | refine gwR [1000042] ?_ | refine gwD [1000042] ?_); intro Q hQ hP; simp [hC,hY,ckHp,lmB,f0,f1,f2,f3,f4,f5,f6,f7,f8,f9]; (repeat ((first | (refine callP_of (pmust_t _) ?_) | (refine callP_of (pmust_f _) ?_)); try simp [hC,hY,ckHp,lmB,f0,f1,f2,f3,f4,f5,f6,f7,f8,f9])); (first | refine hQ _ _ _ _ (by kernel_rfl) ?_ | refine hP _ _ (by kernel_rfl) fun _ => ?_); clear hQ hP Q) | (refine gwC ?_ ?_ <;> (intro hb; first | (cases hb; done) | skip)))
   refine ⟨rfl,fun k hk => ?_⟩
   have hk3:k < 200 := Classical.byContradiction fun h => hk (ckHp_free n d g m x r k (by omega))
   first | rfl | (simp (disch := omega) only [upd_far]; rfl)
  by_cases f10:0 ≤ r
  rotate_left
  ·have hE:chkE n d g m x r = 2 := if_neg (by omega)
   rw [hE]
   repeat' (first | refine GWL_start ?_ | refine GWL_step ?_ | refine gwA ?_ | ((first | refine gwR [1000042] ?_ | refine gwD [1000042] ?_); intro Q hQ hP; simp [hC,hY,ckHp,lmB,f0,f1,f2,f3,f4,f5,f6,f7,f8,f9,f10]; (repeat ((first | (refine callP_of (pmust_t _) ?_) | (refine callP_of (pmust_f _) ?_)); try simp [hC,hY,ckHp,lmB,f0,f1,f2,f3,f4,f5,f6,f7,f8,f9,f10])); (first | refine hQ _ _ _ _ (by kernel_rfl) ?_ | refine hP _ _ (by kernel_rfl) fun _ => ?_); clear hQ hP Q) | (refine gwC ?_ ?_ <;> (intro hb; first | (cases hb; done) | skip)))
   refine ⟨rfl,fun k hk => ?_⟩
   have hk3:k < 200 := Classical.byContradiction fun h => hk (ckHp_free n d g m x r k (by omega))
   first | rfl | (simp (disch := omega) only [upd_far]; rfl)
  by_cases f11:r ≤ 13194139533312
  rotate_left
  ·have hE:chkE n d g m x r = 2 := if_neg (by omega)
   rw [hE]
   repeat' (first | refine GWL_start ?_ | refine GWL_step ?_ | refine gwA ?_ | ((first | refine gwR [1000042] ?_ | refine gwD [1000042] ?_); intro Q hQ hP; simp [hC,hY,ckHp,lmB,f0,f1,f2,f3,f4,f5,f6,f7,f8,f9,f10,f11]; (repeat ((first | (refine callP_of (pmust_t _) ?_) | (refine callP_of (pmust_f _) ?_)); try simp [hC,hY,ckHp,lmB,f0,f1,f2,f3,f4,f5,f6,f7,f8,f9,f10,f11])); (first | refine hQ _ _ _ _ (by kernel_rfl) ?_ | refine hP _ _ (by kernel_rfl) fun _ => ?_); clear hQ hP Q) | (refine gwC ?_ ?_ <;> (intro hb; first | (cases hb; done) | skip)))
   refine ⟨rfl,fun k hk => ?_⟩
   have hk3:k < 200 := Classical.byContradiction fun h => hk (ckHp_free n d g m x r k (by omega))
   first | rfl | (simp (disch := omega) only [upd_far]; rfl)
  have hall:chkE n d g m x r = (if r = 0 then 30 else if x * x ≤ r then 0 else 2) := if_pos ⟨f0,f1,f2,f3,f4,f5,f6,f7,f8,f9,f10,f11⟩
  rw [hall] at h ⊢
  by_cases hr:r = 0
  ·have hr0:¬ 0 < r := by omega
   rw [if_pos hr]
   repeat' (first | refine GWL_start ?_ | refine GWL_step ?_ | refine gwA ?_ | ((first | refine gwR [1000042] ?_ | refine gwD [1000042] ?_); intro Q hQ hP; simp [hC,hY,ckHp,lmB,f0,f1,f2,f3,f4,f5,f6,f7,f8,f9,f10,f11,hr0]; (repeat ((first | (refine callP_of (pmust_t _) ?_) | (refine callP_of (pmust_f _) ?_)); try simp [hC,hY,ckHp,lmB,f0,f1,f2,f3,f4,f5,f6,f7,f8,f9,f10,f11,hr0])); (first | refine hQ _ _ _ _ (by kernel_rfl) ?_ | refine hP _ _ (by kernel_rfl) fun _ => ?_); clear hQ hP Q) | (refine gwC ?_ ?_ <;> (intro hb; first | (cases hb; done) | skip)))
   refine ⟨rfl,fun k hk => ?_⟩
   have hk3:k < 200 := Classical.byContradiction fun h => hk (ckHp_free n d g m x r k (by omega))
   first | rfl | (simp (disch := omega) only [upd_far]; rfl)
  have hr0:0 < r := by omega
  rw [if_neg hr] at h ⊢
  by_cases hx:x * x ≤ r
  ·rw [if_pos hx] at h; exact absurd rfl h
  ·rw [if_neg hx]
   have hxx:x * x ≤ 2097152 * 2097152 := by
    by_cases h0:0 ≤ x
    ·exact Int.mul_le_mul (by omega) (by omega) h0 (by omega)
    ·rw [← Int.neg_mul_neg]; exact Int.mul_le_mul (by omega) (by omega) (by omega) (by omega)
   have hx0:0 ≤ x * x := by
    by_cases h0:0 ≤ x
    ·exact Int.mul_nonneg h0 h0
    ·rw [← Int.neg_mul_neg]; exact Int.mul_nonneg (by omega) (by omega)
   have hb2:Int.bmod (x * x) 18446744073709551616 = x * x := bm (by omega) (by omega)
   repeat' (first | refine GWL_start ?_ | refine GWL_step ?_ | refine gwA ?_ | ((first | refine gwR [1000042] ?_ | refine gwD [1000042] ?_); intro Q hQ hP; simp [hC,hY,ckHp,lmB,f0,f1,f2,f3,f4,f5,f6,f7,f8,f9,f10,f11,hr0,hx,hb2]; (repeat ((first | (refine callP_of (pmust_t _) ?_) | (refine callP_of (pmust_f _) ?_)); try simp [hC,hY,ckHp,lmB,f0,f1,f2,f3,f4,f5,f6,f7,f8,f9,f10,f11,hr0,hx,hb2])); (first | refine hQ _ _ _ _ (by kernel_rfl) ?_ | refine hP _ _ (by kernel_rfl) fun _ => ?_); clear hQ hP Q) | (refine gwC ?_ ?_ <;> (intro hb; first | (cases hb; done) | skip)))
   refine ⟨rfl,fun k hk => ?_⟩
   have hk3:k < 200 := Classical.byContradiction fun h => hk (ckHp_free n d g m x r k (by omega))
   first | rfl | (simp (disch := omega) only [upd_far]; rfl)

theorem psquare_ret (a:Int):Ret Tryd.prog G1 46 #[wd a] (wd (sz a * sz a)) := by
 refine ret_of G1F Tryd.func46 rfl Tryd.call46 (by simp) (by simp) (by simp [Tryd.ntmps46]) ?_
 intro C hC hC0 hY
 repeat' (first | refine gwA ?_ | ((first | refine gwR [] ?_ | refine gwD [] ?_); intro Q hQ hP; simp [hC,hY]; (first | refine hQ _ _ _ _ (by kernel_rfl) ?_ | refine hP _ _ (by kernel_rfl) fun _ => ?_); clear hQ hP Q) | (refine gwC ?_ ?_ <;> (intro hb; first | (cases hb; done) | skip)))
 refine ⟨.inr trivial,?_⟩
 simp [Tryd.results46]
@[simp] theorem psquare (a:Int) (K:Value → Prop):callK Tryd.prog G1 46 #[Value.agg #[.int .u64 (wi (a) 0),.int .u64 (wi (a) 1),.int .u64 (wi (a) 2),.int .u64 (wi (a) 3)]] K ↔ K (wd (sz a * sz a)) := callK_iff G1W (by kernel_rfl) (psquare_ret a)
set_option maxHeartbeats 1000000 in
theorem times5_fun (a0 a1 a2 a3 a4:Int) (hi:i64 a0 ∧ i64 a1 ∧ i64 a2 ∧ i64 a3 ∧ i64 a4) (hw:wr (a0) ∧ wr (a0 * a1) ∧ wr (a0 * a1 * a2) ∧ wr (a0 * a1 * a2 * a3) ∧ wr (a0 * a1 * a2 * a3 * a4)):Fun Tryd.prog G1 47 #[.slice (some ⟨100,0,none⟩) 5 5] (hpL G1 [(100,⟨#[.int .i64 a0,.int .i64 a1,.int .i64 a2,.int .i64 a3,.int .i64 a4],.ty 3⟩)]) [100] (.ret (wd (a0 * a1 * a2 * a3 * a4)) []) := by
 have hrst:rst (hpL G1 [(100,⟨#[.int .i64 a0,.int .i64 a1,.int .i64 a2,.int .i64 a3,.int .i64 a4],.ty 3⟩)]) [100] = hpL G1 [(100,⟨#[.int .i64 a0,.int .i64 a1,.int .i64 a2,.int .i64 a3,.int .i64 a4],.ty 3⟩)] := hpL_rst G1F (by simp)
 have hfree:∀ k,200 ≤ k → hpL G1 [(100,⟨#[.int .i64 a0,.int .i64 a1,.int .i64 a2,.int .i64 a3,.int .i64 a4],.ty 3⟩)] k = none := fun k hk => by simp [show ¬ k = 100 by omega,show 100 ≤ k by omega]
 refine fun_of (B := 200) G1F (fun k hk => hpL_low (by simp) hk) Tryd.func47 rfl Tryd.call47 ?_ ?_ ⟨flatV_ids (by simp),by simp [keys],by simp,by simp⟩ (by simp [Tryd.ntmps47]) (by omega) ?_ ?_
 ·rw [hrst]; simp [dom]
 ·rw [hrst]
  intro k c h
  rcases hpL_mem h with h | h
  ·simp at h
   rcases h with ⟨_,rfl⟩
   simp
  ·exact G1_closed _ _ _ h
 ·rw [hrst]; exact hfree
 ·intro C hC hC0 hY
  rw [hrst] at hC0 ⊢
  obtain ⟨i0,i1,i2,i3,i4⟩ := hi
  obtain ⟨w0,w1,w2,w3,w4⟩ := hw
  have s0 := wr_sz w0
  have s1 := wr_sz w1
  have s2 := wr_sz w2
  have s3 := wr_sz w3
  have s4 := wr_sz w4
  have t1 := wr_sz (i64_wr i1)
  have t2 := wr_sz (i64_wr i2)
  have t3 := wr_sz (i64_wr i3)
  have t4 := wr_sz (i64_wr i4)
  have j1 := i64_1
  have e1:sz 1 = 1 := by decide
  repeat' (first | refine GWL_start ?_ | refine GWL_step ?_ | refine gwA ?_ | ((first | refine gwR [] ?_ | refine gwD [] ?_); intro Q hQ hP; simp [hC,hY,j1,e1,Int.one_mul,i0,i1,i2,i3,i4,s0,s1,s2,s3,s4,t1,t2,t3,t4]; (first | refine hQ _ _ _ _ (by kernel_rfl) ?_ | refine hP _ _ (by kernel_rfl) fun _ => ?_); clear hQ hP Q) | (refine gwC ?_ ?_ <;> (intro hb; first | (cases hb; done) | skip)))
  refine ⟨.inr rfl,by simp [Tryd.results47],fun k hk => ?_⟩
  have hk3:k < 200 := Classical.byContradiction fun h => hk (hfree k (by omega))
  simp (disch := omega) only [upd_far]
  rfl
def vv (x0 x1 x2:Int):Value := .agg #[.int .i64 x0,.int .i64 x1,.int .i64 x2]
def vb (x0 x1 x2:Int):Blk := ⟨#[.int .i64 x0,.int .i64 x1,.int .i64 x2],.ty 36⟩
theorem parts_new (x0 x1 x2:Int) (k:Nat) (h100:100 ≤ k):Fun Tryd.prog G1 32 #[vv x0 x1 x2] G1 [] (.new (.func (.func 43) #[] #[.pointer (some ⟨k,0,none⟩)]) [(k,vb x0 x1 x2)]) := by
 have e0:rst G1 [] = G1 := rst_G G1F []
 refine new_of (B := 200) (fun j => if j = k then 200 else j) G1F (fun _ _ => rfl) Tryd.func32 rfl Tryd.call32 (by simp [vv,idsV,idsA,idsF,ids0]) (by rw [e0]; exact G1_closed _) ?_ (by simp [Tryd.ntmps32]) (by omega) (by rw [e0]; exact fun x hx => G1_big x (by omega)) (fun j hj => ?_) ?_ ?_ ?_ ?_
 ·refine ⟨by simp [idsV,idsA,idsF,ids0,extD,keys],by simp [keys]; omega,fun q b c h1 h2 => ?_⟩
  simp at h1 h2
  rw [h1.2,h2.2]
 ·rw [e0] at hj; have := G1_dom hj; rw [if_neg (by omega)]
 ·simp [e0,dom]
 ·simp
 ·simp [vb,ids_lit,idsF,ids0]
 ·intro C hC hC0 hY
  rw [e0]
  repeat' (first | apply gwS | simp only [wN,wM,Nat.reduceAdd,Nat.reduceMul] | ((first | refine gwR [] ?_ | refine gwD [] ?_); intro Q hQ hP; simp [hC,hY,vv]; (first | refine hQ _ _ _ _ (by kernel_rfl) ?_ | refine hP _ _ (by kernel_rfl) fun _ => ?_); clear hQ hP Q) | apply gwB | apply gwT | apply gwK | apply gwE | apply gwG | apply gwL | simp only [blockG_exit] | (refine gwC ?_ ?_ <;> (intro hb; first | (cases hb; done) | skip)))
  refine ⟨.inr trivial,?_⟩
  simp [Tryd.results32,ren,renA,renF,ren0,vb]
  intro j hj
  have := G1_dom hj
  intro h; omega
def partsXs (x0 x1 x2:Int):List (Array Value) := [#[.int .i64 0,.int .i64 x0],#[.int .i64 1,.int .i64 x1],#[.int .i64 2,.int .i64 x2]]
def pHp (x0 x1 x2:Int):Hp := hpL G1 [(100,vb x0 x1 x2)]
theorem parts_it (x0 x1 x2:Int):IterG Tryd.prog G1 43 #[.pointer (some ⟨100,0,none⟩)] (pHp x0 x1 x2) [100] (partsXs x0 x1 x2) := by
 have e0:rst (pHp x0 x1 x2) [100] = pHp x0 x1 x2 := hpL_rst G1F (by simp)
 refine iter_of (B := 200) (v := .tuple #[]) G1F (fun k hk => hpL_low (by simp) hk) Tryd.func43 rfl Tryd.call43 ?_ ?_ (by simp [Tryd.ntmps43]) (by omega) ?_ ?_
 ·rw [e0]; simp [idsV,idsA,idsF,ids0,dom,pHp]
 ·rw [e0]
  intro k c hk
  rcases hpL_mem hk with h | h
  ·simp at h
   rcases h with ⟨_,rfl⟩; simp [vb,ids_lit,idsF,ids0]
  ·exact Blk.flat_ids ((G1F k c h).2)
 ·rw [e0]
  intro x hx
  have h1:¬ x = 100 := by omega
  have h3:100 ≤ x := by omega
  simp [pHp,h1,h3]
 ·intro C l stop hC hC0 hY
  rw [e0] at hC0 ⊢
  by_cases h3:3 ≤ stop
  ·have q0:(0 != stop) = true := by simp; omega
   have q1:(1 != stop) = true := by simp; omega
   have q2:(2 != stop) = true := by simp; omega
   have l1:1 ≤ stop := by omega
   have l2:2 ≤ stop := by omega
   repeat' (first | apply gwS | refine GWL_start ?_ | refine GWL_step ?_ | simp only [wN,wM,Nat.reduceAdd,Nat.reduceMul] | ((first | refine gwR [] ?_ | refine gwD [] ?_); intro Q hQ hP; simp [hC,hY,pHp,vb,partsXs,q0,q1,q2,l1,l2,h3]; (first | refine hQ _ _ _ _ (by kernel_rfl) ?_ | refine hP _ _ (by kernel_rfl) fun _ => ?_); clear hQ hP Q) | apply gwB | apply gwT | apply gwK | apply gwE | apply gwG | apply gwL | simp only [blockG_exit] | (refine gwC ?_ ?_ <;> (intro hb; first | (cases hb; done) | skip)))
   refine ⟨by simp,by simp [Tryd.results43],?_⟩
   simp [partsXs]; omega
  ·have:stop = 0 ∨ stop = 1 ∨ stop = 2 := by omega
   rcases this with rfl | rfl | rfl
   all_goals
    repeat' (first | apply gwS | refine GWL_start ?_ | refine GWL_step ?_ | simp only [wN,wM,Nat.reduceAdd,Nat.reduceMul] | ((first | refine gwR [] ?_ | refine gwD [] ?_); intro Q hQ hP; simp [hC,hY,pHp,vb,partsXs]; (first | refine hQ _ _ _ _ (by kernel_rfl) ?_ | refine hP _ _ (by kernel_rfl) fun _ => ?_); clear hQ hP Q) | apply gwB | apply gwT | apply gwK | apply gwE | apply gwG | apply gwL | simp only [blockG_exit] | (refine gwC ?_ ?_ <;> (intro hb; first | (cases hb; done) | skip)))
   all_goals
    exact ⟨by simp,by simp [Tryd.results43],by simp [partsXs]⟩
theorem parts_itP (x0 x1 x2:Int):IterP Tryd.prog G1 43 #[.pointer (some ⟨100,0,none⟩)] (pHp x0 x1 x2) [100] (partsXs x0 x1 x2) := by
 have e0:rst (pHp x0 x1 x2) [100] = pHp x0 x1 x2 := hpL_rst G1F (by simp)
 refine iterp_of (B := 200) G1F (fun k hk => hpL_low (by simp) hk) Tryd.func43 rfl Tryd.call43 ?_ ?_ (by simp [Tryd.ntmps43]) (by omega) ?_ ?_
 ·rw [e0]; simp [idsV,idsA,idsF,ids0,dom,pHp]
 ·rw [e0]
  intro k c hk
  rcases hpL_mem hk with h | h
  ·simp at h
   rcases h with ⟨_,rfl⟩; simp [vb,ids_lit,idsF,ids0]
  ·exact Blk.flat_ids ((G1F k c h).2)
 ·rw [e0]
  intro x hx
  have h1:¬ x = 100 := by omega
  have h3:100 ≤ x := by omega
  simp [pHp,h1,h3]
 ·intro pv C l stop hC hC0 hl hY
  rw [e0] at hC0 ⊢
  have:stop = 0 ∨ stop = 1 ∨ stop = 2 := by simp [partsXs] at hl; omega
  rcases this with rfl | rfl | rfl
  all_goals
   repeat' (first | apply gwS | refine GWL_start ?_ | refine GWL_step ?_ | simp only [wN,wM,Nat.reduceAdd,Nat.reduceMul] | ((first | refine gwR [] ?_ | refine gwD [] ?_); intro Q hQ hP; simp [hC,hY,pHp,vb,partsXs]; (first | refine hQ _ _ _ _ (by kernel_rfl) ?_ | refine hP _ _ (by kernel_rfl) fun _ => ?_); clear hQ hP Q) | apply gwB | apply gwT | apply gwK | apply gwE | apply gwG | apply gwL | simp only [blockG_exit] | (refine gwC ?_ ?_ <;> (intro hb; first | (cases hb; done) | skip)))
def inX (x:Int):Prop := -2097152 ≤ x ∧ x ≤ 2097152
instance (x:Int):Decidable (inX x) := by unfold inX; infer_instance
theorem inB_sq {x:Int} (h:inX x):0 ≤ x * x ∧ x * x ≤ 4398046511104 := by
 obtain ⟨h1,h2⟩ := h
 by_cases h0:0 ≤ x
 ·have h:x * x ≤ 2097152 * 2097152 := Int.mul_le_mul (by omega) (by omega) h0 (by omega)
  exact ⟨Int.mul_nonneg h0 h0,by omega⟩
 ·rw [← Int.neg_mul_neg]
  have h:-x * -x ≤ 2097152 * 2097152 := Int.mul_le_mul (by omega) (by omega) (by omega) (by omega)
  exact ⟨Int.mul_nonneg (by omega) (by omega),by omega⟩
theorem IterX.cast {pn:Option Value} {P:Program} {G:Hp} {f:FuncId} {caps caps':Array Value} {hp:Hp} {rs rs':List Nat} {xs:List (Array Value)} (h:IterX pn P G f caps hp rs xs) (e1:caps = caps') (e2:rs = rs'):IterX pn P G f caps' hp rs' xs := by subst e1 e2; exact h
def smHp (x0 x1 x2:Int) (i:Nat):Hp := hpL G1 [(200,vb x0 x1 x2),(208,⟨#[.int .i64 (match i with | 0 => 0 | 1 => x0 * x0 | 2 => x0 * x0 + x1 * x1 | _ => x0 * x0 + x1 * x1 + x2 * x2)],.ty 3⟩)]
def smTs:Nat → Value := tsL [(1,.pointer (some ⟨200,0,none⟩)),(2,.pointer (some ⟨208,0,none⟩))]
theorem psum_ok (x0 x1 x2:Int) (h0:inX x0) (h1:inX x1) (h2:inX x2):RetP Tryd.prog G1 31 #[vv x0 x1 x2] (.ret (.int .i64 (x0 * x0 + x1 * x1 + x2 * x2))) := by
 refine retp_of G1F Tryd.func31 rfl Tryd.call31 (fun v h => by cases h; simp) (by simp [vv]) (by simp [Tryd.ntmps31]) ?_
 have z0 := inB_sq h0
 obtain ⟨l0,u0⟩ := h0
 have q0:Int.bmod (x0 * x0) 18446744073709551616 = x0 * x0 := bm (by omega) (by omega)
 have s0:Int.bmod (x0 * x0) 18446744073709551616 = x0 * x0 := bm (by omega) (by omega)
 have z1 := inB_sq h1
 obtain ⟨l1,u1⟩ := h1
 have q1:Int.bmod (x1 * x1) 18446744073709551616 = x1 * x1 := bm (by omega) (by omega)
 have s1:Int.bmod (x0 * x0 + x1 * x1) 18446744073709551616 = x0 * x0 + x1 * x1 := bm (by omega) (by omega)
 have z2 := inB_sq h2
 obtain ⟨l2,u2⟩ := h2
 have q2:Int.bmod (x2 * x2) 18446744073709551616 = x2 * x2 := bm (by omega) (by omega)
 have s2:Int.bmod (x0 * x0 + x1 * x1 + x2 * x2) 18446744073709551616 = x0 * x0 + x1 * x1 + x2 * x2 := bm (by omega) (by omega)
 intro C hC hC0 hY
 repeat' (first | refine gwA ?_ | ((first | refine gwR [] ?_ | refine gwD [] ?_); intro Q hQ hP; simp [hC,hY,vv]; (first | refine hQ _ _ _ _ (by kernel_rfl) ?_ | refine hP _ _ (by kernel_rfl) fun _ => ?_); clear hQ hP Q) | (refine gwC ?_ ?_ <;> (intro hb; first | (cases hb; done) | skip)))
 refine GW_region' [32] (by kernel_rfl) ?_; intro Q hQ hP; simp [hC,hY]
 refine heapK_of (parts_new x0 x1 x2 224 (by omega)) (by simp) (fun _ _ => rfl) (by simp [Res.at]) ?_
 simp
 refine hQ _ _ _ _ ?_; clear hQ hP Q
 repeat' (first | refine gwA ?_ | ((first | refine gwR [] ?_ | refine gwD [] ?_); intro Q hQ hP; simp [hC,hY]; (first | refine hQ _ _ _ _ (by kernel_rfl) ?_ | refine hP _ _ (by kernel_rfl) fun _ => ?_); clear hQ hP Q) | (refine gwC ?_ ?_ <;> (intro hb; first | (cases hb; done) | skip)))
 refine GW_range (f := 43) (rs := [224]) (xs := partsXs x0 x1 x2) (caps := #[.pointer (some ⟨224,0,none⟩)]) (by simp) ?_ (by simp [partsXs]) (by simp [Tryd.ntmps31]) smTs (smHp x0 x1 x2) 300 3 (by simp [partsXs]) ?_ ?_ ?_ ?_ ?_
 ·rw [hC]
  refine IterX.cast (IterX.rn (fun k => if k = 100 then 224 else k) G1F (fun k hk => hpL_low (by simp) hk) (rs := [100]) ?_ (parts_it x0 x1 x2)) (by simp [ren0]) (by simp)
  refine ⟨fun k hk => ?_,?_,?_,?_⟩
  ·have h1:¬ k = 100 := by omega
   have h3:¬ k = 200 := by omega
   have h4:¬ k = 208 := by omega
   have h8:¬ k = 224 := by omega
   simp [h1,h3,h4,h8,pHp]
  ·simp
  ·simp [pHp,vb,Blk.rn,renF,ren0]
  ·simp
 ·refine weakL _ 300 hC G1F (m0 := []) hC0 (by omega) ?_ ?_ ?_
  ·simp [idsV,idsA,idsF,ids0,dom]
  ·simp [ids_lit,idsF,ids0,vb]
  ·simp
 ·simp [smHp,dom]
 ·intro i hi t
  refine tsL_ids ?_ t
  simp [idsV,idsA,idsF,ids0,dom,smHp]
 ·intro i x hi hx C1 l hC1 hh1 hY1
  have hCC := hC
  have hC1':C1.G = G1 := hC1.trans hC
  replace hC := hC1'
  replace hY := hY1
  have:i = 0 ∨ i = 1 ∨ i = 2 := by omega
  rcases this with rfl | rfl | rfl
  all_goals
   simp [partsXs] at hx
   subst hx
   unfold smHp
  all_goals
   repeat' (first | refine gwA ?_ | ((first | refine gwR [] ?_ | refine gwD [] ?_); intro Q hQ hP; simp [hC,hY,roundTs,smTs]; (first | refine hQ _ _ _ _ (by kernel_rfl) ?_ | refine hP _ _ (by kernel_rfl) fun _ => ?_); clear hQ hP Q) | (refine gwC ?_ ?_ <;> (intro hb; first | (cases hb; done) | skip)))
  all_goals
   intro C2 hC2 hh2 hY2
   replace hC:C2.G = G1 := hC2.trans hCC
   replace hY := hY2
   repeat' (first | refine gwA ?_ | ((first | refine gwR [1000042] ?_ | refine gwD [1000042] ?_); intro Q hQ hP; simp [hC,hY,roundTs,smTs,lmB,l0,u0,q0,s0,l1,u1,q1,s1,l2,u2,q2,s2]; (repeat ((first | (refine callP_of (pmust_t _) ?_) | (refine callP_of (pmust_f _) ?_)); try simp [hC,hY,roundTs,smTs,lmB,l0,u0,q0,s0,l1,u1,q1,s1,l2,u2,q2,s2])); (first | refine hQ _ _ _ _ (by kernel_rfl) ?_ | refine hP _ _ (by kernel_rfl) fun _ => ?_); clear hQ hP Q) | (refine gwC ?_ ?_ <;> (intro hb; first | (cases hb; done) | skip)))
  all_goals
   refine weakL [] 300 hC1' G1F hh1 (by omega) ?_ ?_ ?_
   ·simp
   ·simp [ids_lit,idsF,ids0,vb]
   ·simp [vb]
 ·left
  refine ⟨rfl,?_⟩
  unfold smHp smTs
  repeat' (first | refine gwA ?_ | ((first | refine gwR [] ?_ | refine gwD [] ?_); intro Q hQ hP; simp [hC,hY]; (first | refine hQ _ _ _ _ (by kernel_rfl) ?_ | refine hP _ _ (by kernel_rfl) fun _ => ?_); clear hQ hP Q) | (refine gwC ?_ ?_ <;> (intro hb; first | (cases hb; done) | skip)))
  refine ⟨.inr trivial,?_⟩
  simp [Tryd.results31]
theorem slice_Rn {c:Array Value} {T:TypeId} (hc:∀ x ∈ c,flatF x = true) (b:Nat) (hb:100 ≤ b):Rn (fun k => if k = 100 then b else k) (hpL G1 [(100,⟨c,T⟩)]) (hpL G1 [(b,⟨c,T⟩)]) [100] := by
 refine ⟨fun k hk => ?_,?_,?_,?_⟩
 ·have h1:¬ k = 100 := by omega
  have h2:¬ k = b := by omega
  simp [h1,h2]
 ·simp [hb]
 ·simp [Blk.rn]
  exact (map_eq_self (fun x hx => flatF_ren (hc x hx))).symm
 ·simp
theorem Fun.sl {f:FuncId} {c:Array Value} {T:TypeId} {n:Nat} {v:Value} (h:Fun Tryd.prog G1 f #[.slice (some ⟨100,0,none⟩) n n] (hpL G1 [(100,⟨c,T⟩)]) [100] (.ret v [])) (hc:∀ x ∈ c,flatF x = true) (hv:flatV v = true) (b:Nat) (hb:100 ≤ b) :
  Fun Tryd.prog G1 f #[.slice (some ⟨b,0,none⟩) n n] (hpL G1 [(b,⟨c,T⟩)]) [b] (.ret v []) := by
 have h' := h.rn (fun k => if k = 100 then b else k) G1F (fun k hk => hpL_low (by simp) hk) (slice_Rn hc b hb)
 rw [flatV_ren hv] at h'
 simpa [ren,renA,renF,ren0,rnL] using h'
theorem Fun.slp {f:FuncId} {c:Array Value} {T:TypeId} {n:Nat} {v:Value} (h:Fun Tryd.prog G1 f #[.slice (some ⟨100,0,none⟩) n n] (hpL G1 [(100,⟨c,T⟩)]) [100] (.pan v)) (hc:∀ x ∈ c,flatF x = true) (b:Nat) (hb:100 ≤ b) :
  Fun Tryd.prog G1 f #[.slice (some ⟨b,0,none⟩) n n] (hpL G1 [(b,⟨c,T⟩)]) [b] (.pan v) := by
 have h' := h.rnp (fun k => if k = 100 then b else k) G1F (fun k hk => hpL_low (by simp) hk) (slice_Rn hc b hb)
 simpa [ren,renA,renF,ren0,rnL] using h'
theorem heapK_sl {f:FuncId} {c:Array Value} {T:TypeId} {n nk b:Nat} {v:Value} {hp:Hp} {K:Eff → Prop} (h:Fun Tryd.prog G1 f #[.slice (some ⟨100,0,none⟩) n n] (hpL G1 [(100,⟨c,T⟩)]) [100] (.ret v [])) (hc:∀ x ∈ c,flatF x = true) (hv:flatV v = true) (hb:100 ≤ b)
  (h1:hp b = some ⟨c,T⟩) (hK:K ((Res.ret v []).eff [b])):heapK Tryd.prog G1 f #[.slice (some ⟨b,0,none⟩) n n] hp nk K :=
 heapK_of (hp' := hpL G1 [(b,⟨c,T⟩)]) (h.sl hc hv b hb) (by simp [h1]) (fun k hk => hpL_low (by simp; omega) hk) trivial hK
theorem heapK_slp {f:FuncId} {c:Array Value} {T:TypeId} {n nk b:Nat} {v:Value} {hp:Hp} {K:Eff → Prop} (h:Fun Tryd.prog G1 f #[.slice (some ⟨100,0,none⟩) n n] (hpL G1 [(100,⟨c,T⟩)]) [100] (.pan v)) (hc:∀ x ∈ c,flatF x = true) (hb:100 ≤ b)
  (h1:hp b = some ⟨c,T⟩) (hK:K ((Res.pan v).eff [b])):heapK Tryd.prog G1 f #[.slice (some ⟨b,0,none⟩) n n] hp nk K :=
 heapK_of (hp' := hpL G1 [(b,⟨c,T⟩)]) (h.slp hc b hb) (by simp [h1]) (fun k hk => hpL_low (by simp; omega) hk) trivial hK
theorem absmul {a b p q:Int} (h1:-p ≤ a) (h2:a ≤ p) (h3:-q ≤ b) (h4:b ≤ q):-(p * q) ≤ a * b ∧ a * b ≤ p * q := by
 have e1:a.natAbs ≤ p.natAbs := by omega
 have e2:b.natAbs ≤ q.natAbs := by omega
 have e3 := Nat.mul_le_mul e1 e2
 rw [← Int.natAbs_mul,← Int.natAbs_mul] at e3
 have e4:0 ≤ p * q := Int.mul_nonneg (by omega) (by omega)
 omega
theorem sq_nonneg (a:Int):0 ≤ a * a := by
 by_cases h:0 ≤ a
 ·exact Int.mul_nonneg h h
 ·rw [← Int.neg_mul_neg]; exact Int.mul_nonneg (by omega) (by omega)
def pmag (n d g m x r:Int):Int := (isq (2 * n * g * m * x * (2 * n * g * m * x) / (d * d * r * r * r)) + 1) / 2
def pullV (n d g m x r:Int):Int := if n < 0 then (if x < 0 then pmag n d g m x r else -pmag n d g m x r) else (if x < 0 then -pmag n d g m x r else pmag n d g m x r)
structure PIn (n d g m x r:Int):Prop where
 n0:-2097152 ≤ n
 n1:n ≤ 2097152
 d0:1 ≤ d
 d1:d ≤ 2097152
 g0:1 ≤ g
 g1:g ≤ 1048576
 m0:1 ≤ m
 m1:m ≤ 1024
 x0:-2097152 ≤ x
 x1:x ≤ 2097152
 r0:1 ≤ r
 r1:r ≤ 13194139533312
 xr:x * x ≤ r
theorem chk_in {n d g m x r:Int}:chkE n d g m x r = 0 ↔ PIn n d g m x r := by
 unfold chkE
 constructor
 ·intro h
  split at h
  rotate_left
  ·cases h
  rename_i hc
  obtain ⟨f0,f1,f2,f3,f4,f5,f6,f7,f8,f9,f10,f11⟩ := hc
  split at h
  ·cases h
  rename_i hr
  split at h
  rotate_left
  ·cases h
  rename_i hx
  exact ⟨f0,f1,f2,f3,f4,f5,f6,f7,f8,f9,by omega,f11,hx⟩
 ·rintro ⟨f0,f1,f2,f3,f4,f5,f6,f7,f8,f9,f10,f11,f12⟩
  rw [if_pos ⟨f0,f1,f2,f3,f4,f5,f6,f7,f8,f9,by omega,f11⟩,if_neg (by omega),if_pos f12]
section
variable {n d g m x r:Int} (h:PIn n d g m x r)
include h
theorem PIn.p1:-4194304 ≤ 2 * n ∧ 2 * n ≤ 4194304 := ⟨by have := h.n0; omega,by have := h.n1; omega⟩
theorem PIn.p2:-4398046511104 ≤ 2 * n * g ∧ 2 * n * g ≤ 4398046511104 := by
 have := absmul h.p1.1 h.p1.2 (b := g) (q := 1048576) (by have := h.g0; omega) h.g1
 simpa using this
theorem PIn.p3:-4503599627370496 ≤ 2 * n * g * m ∧ 2 * n * g * m ≤ 4503599627370496 := by
 have := absmul h.p2.1 h.p2.2 (b := m) (q := 1024) (by have := h.m0; omega) h.m1
 simpa using this
theorem PIn.p4:-9444732965739290427392 ≤ 2 * n * g * m * x ∧ 2 * n * g * m * x ≤ 9444732965739290427392 := by
 have := absmul h.p3.1 h.p3.2 h.x0 h.x1
 simpa using this
theorem PIn.q1:1 ≤ d * d ∧ d * d ≤ 4398046511104 := by
 have h1 := absmul (p := 2097152) (q := 2097152) (by have := h.d0; omega) h.d1 (by have := h.d0; omega) h.d1
 have h2:1 * 1 ≤ d * d := Int.mul_le_mul h.d0 h.d0 (by omega) (by have := h.d0; omega)
 omega
theorem PIn.q2:r ≤ d * d * r ∧ d * d * r ≤ 4398046511104 * 13194139533312 := by
 refine ⟨?_,Int.mul_le_mul h.q1.2 h.r1 (by have := h.r0; omega) (by omega)⟩
 have h2:1 * r ≤ d * d * r := Int.mul_le_mul_of_nonneg_right h.q1.1 (by have := h.r0; omega)
 omega
theorem PIn.q3:r ≤ d * d * r * r ∧ d * d * r * r ≤ 4398046511104 * 13194139533312 * 13194139533312 := by
 have hr := h.r0
 have h1 := h.q2
 refine ⟨?_,Int.mul_le_mul h1.2 h.r1 (by omega) (by omega)⟩
 have h2:1 * r ≤ d * d * r * r := Int.mul_le_mul_of_nonneg_right (by omega) (by omega)
 omega
theorem PIn.q4:r ≤ d * d * r * r * r ∧ d * d * r * r * r ≤ 4398046511104 * 13194139533312 * 13194139533312 * 13194139533312 := by
 have hr := h.r0
 have h1 := h.q3
 refine ⟨?_,Int.mul_le_mul h1.2 h.r1 (by omega) (by omega)⟩
 have h2:1 * r ≤ d * d * r * r * r := Int.mul_le_mul_of_nonneg_right (by omega) (by omega)
 omega
theorem PIn.a_le:2 * n * g * m * x * (2 * n * g * m * x) ≤ 89202980794122492566142873090593446023921664 := by
 have := (absmul h.p4.1 h.p4.2 h.p4.1 h.p4.2).2
 simpa using this
theorem PIn.div_le:2 * n * g * m * x * (2 * n * g * m * x) / (d * d * r * r * r) ≤ 20282409603651670423947251286016 := by
 have hr := h.r0
 have hB := h.q4.1
 have h1:(2 * n * g * m) * (2 * n * g * m) ≤ 20282409603651670423947251286016 := by
  have := (absmul h.p3.1 h.p3.2 h.p3.1 h.p3.2).2
  simpa using this
 have e:2 * n * g * m * x * (2 * n * g * m * x) = (2 * n * g * m) * (2 * n * g * m) * (x * x) := by
  rw [Int.mul_assoc (2 * n * g * m) x,Int.mul_left_comm x,← Int.mul_assoc]
 have h2:(2 * n * g * m) * (2 * n * g * m) * (x * x) ≤ 20282409603651670423947251286016 * r := Int.mul_le_mul h1 h.xr (sq_nonneg x) (by omega)
 have h3:20282409603651670423947251286016 * r ≤ 20282409603651670423947251286016 * (d * d * r * r * r) := Int.mul_le_mul_of_nonneg_left hB (by omega)
 rw [e]
 refine Int.le_of_lt_add_one (Int.ediv_lt_of_lt_mul (by omega) ?_)
 rw [Int.add_mul]
 omega
theorem PIn.mag:0 ≤ pmag n d g m x r ∧ pmag n d g m x r ≤ 4503599627370496 := by
 have hB:0 < d * d * r * r * r := by have := h.q4.1; have := h.r0; omega
 have hA := sq_nonneg (2 * n * g * m * x)
 obtain ⟨h1,h2,h3⟩ := isq_spec (2 * n * g * m * x * (2 * n * g * m * x) / (d * d * r * r * r)) (Int.ediv_nonneg hA (by omega))
 have h4 := h.div_le
 have h5 := sq_bd 4503599627370497 h1 (by decide) (by omega)
 unfold pmag
 omega
end
set_option maxHeartbeats 1000000 in
theorem one_ok (n d g m x r:Int) (h:PIn n d g m x r):RetP Tryd.prog G1 33 #[.int .i64 n,.int .i64 d,.int .i64 g,.int .i64 m,.int .i64 x,.int .i64 r] (.ret (.int .i64 (pullV n d g m x r))) := by
 refine retp_of G1F Tryd.func33 rfl Tryd.call33 (fun v h => by cases h; simp) (by simp) (by simp [Tryd.ntmps33]) ?_
 intro C hC hC0 hY
 have hck := check_ok n d g m x r (chk_in.2 h)
 have p1 := h.p1
 have p2 := h.p2
 have p3 := h.p3
 have p4 := h.p4
 have q1 := h.q1
 have q2 := h.q2
 have q3 := h.q3
 have q4 := h.q4
 have r0 := h.r0
 have t1 := times5_fun 2 n g m x ⟨by decide,⟨by have := h.n0; omega,by have := h.n1; omega⟩,⟨by have := h.g0; omega,by have := h.g1; omega⟩,⟨by have := h.m0; omega,by have := h.m1; omega⟩,⟨by have := h.x0; omega,by have := h.x1; omega⟩⟩
  ⟨⟨by decide,by decide⟩,⟨by omega,by omega⟩,⟨by omega,by omega⟩,⟨by omega,by omega⟩,⟨by omega,by omega⟩⟩
 have t2 := times5_fun d d r r r ⟨⟨by have := h.d0; omega,by have := h.d1; omega⟩,⟨by have := h.d0; omega,by have := h.d1; omega⟩,⟨by omega,by have := h.r1; omega⟩,⟨by omega,by have := h.r1; omega⟩,⟨by omega,by have := h.r1; omega⟩⟩
  ⟨⟨by have := h.d0; omega,by have := h.d1; omega⟩,⟨by omega,by omega⟩,⟨by omega,by omega⟩,⟨by omega,by omega⟩,⟨by omega,by omega⟩⟩
 have wA:wr (2 * n * g * m * x) := ⟨by omega,by omega⟩
 have sA := wr_sz wA
 have hAle := h.a_le
 have hA0 := sq_nonneg (2 * n * g * m * x)
 have wA2:wr (2 * n * g * m * x * (2 * n * g * m * x)) := ⟨by omega,by omega⟩
 have wB:wr (d * d * r * r * r) := ⟨by omega,by omega⟩
 have hB0:0 < d * d * r * r * r := by omega
 have hm := h.mag
 have hmw:wr (pmag n d g m x r) := ⟨by omega,by omega⟩
 have sM := wr_sz hmw
 have iM:i64 (pmag n d g m x r) := ⟨by omega,by omega⟩
 have hmb:Int.bmod (-pmag n d g m x r) 18446744073709551616 = -pmag n d g m x r := bm (by omega) (by omega)
 have hpm:(isq (2 * n * g * m * x * (2 * n * g * m * x) / (d * d * r * r * r)) + 1) / 2 = pmag n d g m x r := rfl
 unfold pullV
 by_cases hn:n < 0 <;> by_cases hx:x < 0
 all_goals simp only [hn,hx,if_true,if_false]
 all_goals
  repeat' (first | refine gwA ?_ | ((first | refine gwR [44,47] ?_ | refine gwD [44,47] ?_); intro Q hQ hP; simp [hC,hY,sA,wA2,wB,hA0,hB0,hpm,sM,iM,hmb,hn,hx]; (repeat ((first | (refine heapK_sl hck (by simp) (by simp) (by omega) ?_ ?_; focus (simp; done)) | (refine heapK_sl t1 (by simp) (by simp) (by omega) ?_ ?_; focus (simp; done)) | (refine heapK_sl t2 (by simp) (by simp) (by omega) ?_ ?_; focus (simp; done))); try simp [hC,hY,sA,wA2,wB,hA0,hB0,hpm,sM,iM,hmb,hn,hx])); (first | refine hQ _ _ _ _ (by kernel_rfl) ?_ | refine hP _ _ (by kernel_rfl) fun _ => ?_); clear hQ hP Q) | (refine gwC ?_ ?_ <;> (intro hb; first | (cases hb; done) | skip)))
 all_goals
  refine ⟨.inr trivial,?_⟩
  simp [Tryd.results33]
theorem one_bad (n d g m x r:Int) (h:chkE n d g m x r ≠ 0):RetP Tryd.prog G1 33 #[.int .i64 n,.int .i64 d,.int .i64 g,.int .i64 m,.int .i64 x,.int .i64 r] (.pan (erV (chkE n d g m x r))) := by
 refine retp_of G1F Tryd.func33 rfl Tryd.call33 (fun v h => by cases h) (by simp) (by simp [Tryd.ntmps33]) ?_
 intro C hC hC0 hY
 have hck := check_bad n d g m x r h
 repeat' (first | refine gwA ?_ | ((first | refine gwR [44] ?_ | refine gwD [44] ?_); intro Q hQ hP; simp [hC,hY]; (repeat ((first | (refine heapK_slp hck (by simp) (by omega) (by simp) ?_)); try simp [hC,hY])); (first | refine hQ _ _ _ _ (by kernel_rfl) ?_ | refine hP _ _ (by kernel_rfl) fun _ => ?_); clear hQ hP Q) | (refine gwC ?_ ?_ <;> (intro hb; first | (cases hb; done) | skip)))
 rfl
def ib (n:Int):Blk := ⟨#[.int .i64 n],.ty 3⟩
end Go.Gy
