/-
  Lemmas of this claim, in their order (GyLB, GyLC, GyLD, GyLE, GyLG, GyLH, GyM, GyX1, GyX2, GyX3, GyX4, GyX5, GyX6, GyL2, GyX7, GyQ1, GyY1, GyY2, GyY3, GyY4, GyY5, GyY6, GyY7, GyZ1, GyZ2).
  Conditions: those of each theorem.
-/
import Derived.Test.YtmnknnojkhkceaaGreatDoorGz02
import Derived.Laws.Externs
import Derived.Laws.MathBits
set_option linter.unusedSimpArgs false
set_option linter.unusedVariables false
namespace Go.Gy
set_option linter.unusedSimpArgs false
open Go Go.RowKit
section
variable {P:Program} {C:Ctx} {n:Nat} {d:List Deferred} {ro:Option Nat} {s:GS} {K:Exit→GS→Prop}
theorem GL_bs0 {ops:Array Oper} {o:Oper} {post:List Oper} {base k:Nat} {ts:Nat→Value} {hp:Hp} {yc:Nat} {T e:TypeId} {m:Nat} (hg:o.guard=none) (hd:∀ dd,o.dst=some dd→dd<n)
  (ho:o.op=.buildSlice T 0 #[]) (hu:P.underlying T=some (.slice e)) (hm:tySize P e=some m)
  (h:GL P C n d ro ops base (k+1) post (putT ts o.dst (.slice (some ⟨base+8*k,0,none⟩) 0 0)) (upd hp (base+8*k) (some ⟨#[],.ty e⟩)) yc K):GL P C n d ro ops base k (o::post) ts hp yc K:=by
 intro r a W hi hf hb hG hR
 refine wpListIn_plain hg fun K' hK'=>?_
 have hnk:hp (base+8*k)=none:=hf _ (Nat.le_refl _)
 have hff:∀ x∈(#[]:Array Value),flatF x=true:=by simp
 have hnd:¬dom hp (base+8*k):=by unfold dom;simp [hnk]
 have hr':∀ q,dom hp q→upd r (base+8*k) W.heap.size q=r q:=fun q hq=>upd_other _ _ (fun e=>hnd (e▸hq))
 refine wp_of_upon (by rw [ho];intro c;simp) (R:=fun u W'=>u=.slice (some ⟨W.heap.size,0,none⟩) 0 0∧W'=W.alloc (.cells #[] e)) (Rp:=fun _ _=>False) ?_ (fun u W' h'=>?_) (fun pv W' h=>h.elim)
 ·unfold Upon
  simp only [execOp,ho,Instr.buildSlice,Sem.run_bind,run_underlying hu,Result.andThen_ok,run_sizeOf hm,Nat.zero_mul]
  simp [Instr.fill,newRow,newObj,Sem.run]
  rw [show Array.range 0=#[] from rfl,show ∀ f:Nat→Value,Array.map f #[]=#[] from fun f=>by simp]
 ·obtain ⟨rfl,rfl⟩:=h'
  have hv:(Value.slice (some ⟨W.heap.size,0,none⟩) 0 0)=ren (upd r (base+8*k) W.heap.size) (.slice (some ⟨base+8*k,0,none⟩) 0 0):=by simp [ren,renA,renF,ren0,upd]
  rw [hv]
  refine hK' _ _ (h (upd r (base+8*k) W.heap.size) _ _ (hi.after (e:=⟨.slice (some ⟨base+8*k,0,none⟩) 0 0,[],[],[(base+8*k,⟨#[],.ty e⟩)],none,false⟩) hd hr' (by simp [idsV,idsA,idsF,ids0,extD,keys]) ⟨rfl,rfl,rfl,(by show W.heap.size≤(W.heap.push _).size;simp),fun q hq _=>?_,fun p hp1=>?_,fun p hp1=>?_,by simp⟩ (by simp [keys]) (by simp [keys,hnk];omega)) (fun x hx'=>?_) hb hG hR)
  ·exact Below.heap_alloc _ _ _ hq
  ·simp only [List.nil_append,List.mem_singleton] at hp1
   subst hp1
   refine ⟨?_,Blk.flat_ids hff⟩
   rw [Blk.obj_flat hff]
   show (W.alloc _).heap[upd r (base+8*k) W.heap.size (base+8*k)]? = _
   rw [upd_same]
   exact heap_alloc_new W _
  ·simp only [List.mem_singleton] at hp1
   subst hp1
   show W.heap.size≤upd r (base+8*k) W.heap.size (base+8*k)
   rw [upd_same]
   exact Nat.le_refl _
  ·rw [upd_other _ _ (fun e=>by omega)]
   exact hf x (by omega)
def RowAtK (κ:IntKind) (m i:Nat) (G:Nat→Int) (e:TypeId) (hp:Hp) (sl:Value):Prop:=(i=0∧sl=.slice none 0 0)∨∃ (k c:Nat) (g:Nat→Int),100≤k∧sl=.slice (some ⟨k,0,none⟩) i c∧hp k=some ⟨fa (m*c) κ g,.ty e⟩∧i≤c∧∀ j,j<m*i→g j=G j
theorem GL_pushK (κ:IntKind) {ops:Array Oper} {o:Oper} {post:List Oper} {base k:Nat} {ts:Nat→Value} {hp:Hp} {yc:Nat} {tx ty:Tmp} {t e:TypeId} {m i j by':Nat} {z:Value} {T2:BTy} {G ev:Nat→Int} (hg:o.guard=none) (hd:∀ dd,o.dst=some dd→dd<n)
  (ho:o.op=.call { callee:=.builtin .append,args:=#[.tmp tx,.tmp ty],argTypes:=#[t,t] }) (ht:P.underlying t=some (.slice e)) (hs:tySize P e=some m) (hz:tyZero P e=some z) (hby:tyBytes P e=some by') (hb8:by'≤8*m)
  (hzz:∀ x∈z.cells,x=.int κ 0) (hzs:z.cells.size=m) (hm0:0<m) (hm1:m≤1024) (hx:RowAtK κ m i G e hp (ts tx)) (hy:ts ty=.slice (some ⟨j,0,none⟩) 1 1) (hb2:hp j=some ⟨fa m κ ev,T2⟩) (hev:∀ q,q<m→ev q=G (m*i+q)) (hi20:(i+1)*(8*m)≤140737488355328)
  (h:∀ k' c' g',(k'=base+8*k∨∃ c,ts tx=.slice (some ⟨k',0,none⟩) i c)→100≤k'→i+1≤c'→(∀ q,q<m*(i+1)→g' q=G q) →
   GL P C n d ro ops base (k+1) post (putT ts o.dst (.slice (some ⟨k',0,none⟩) (i+1) c')) (upd hp k' (some ⟨fa (m*c') κ g',.ty e⟩)) yc K) (hrd:T2.rd=true:=by first|rfl|assumption):GL P C n d ro ops base k (o::post) ts hp yc K:=by
 have hzf:∀ q,∀ x∈Builtin.zeroCells z.cells q,flatF x=true:=fun q x hx=>by rw [hzz x (zc_mem hx)];rfl
 by_cases hb100:¬100≤base
 ·intro r a W hi hf hb hG hR
  exact absurd hb hb100
 replace hb100:100≤base:=Classical.not_not.1 hb100
 have hle:m*(i+1)=m*i+m:=by rw [Nat.mul_add,Nat.mul_one]
 have hmi:m*i≤140737488355328:=Nat.le_trans (by rw [Nat.mul_comm];exact Nat.mul_le_mul (by omega) (by omega)) hi20
 have hi1:i+1≤140737488355328:=Nat.le_trans (Nat.le_mul_of_pos_right _ (by omega)) hi20
 have h8:(i+1)*by'≤140737488355328:=Nat.le_trans (Nat.mul_le_mul (Nat.le_refl _) hb8) hi20
 rcases hx with ⟨rfl,hx⟩|⟨k0,c,g,hk0,hx,hb,hic,hgG⟩
 ·refine GL_app0 (nw:=(fa m κ ev).toList) hg hd ho ht hs hz hby hx hy hb2 (fun q u hq=>by simpa using hq) fa_list_flat hzf (by omega) (by simp) (by unfold maxLen;omega) (by omega) (fun cap' hc'=>?_)
  rw [zeros_fa (k:=κ) hzz,app_new,hzs]
  have em:m+(cap' - 1)*m=m*cap':=by
   have:cap'=(cap' - 1)+1:=by omega
   rw [this,Nat.mul_add,Nat.mul_comm m];simp;omega
  rw [em]
  refine h _ cap' _ (.inl rfl) (by omega) (by omega) fun q hq=>?_
  unfold catN
  rw [if_pos (by omega)]
  have:=hev q (by omega)
  simpa using this
 ·refine GL_app hg hd (appX_mk (c:=(fa (m*c) κ g).toList) (c2:=(fa m κ ev).toList) (k:=k0) (j:=j) (m:=1) (m':=1) (sl:=i) (cap:=c) (e:=e) (T2:=T2) (sz:=m) (by':=by') (z:=z) ho ht hs hz hby hx hk0 (by simpa using hb) fa_list_flat hy (by simpa using hb2) fa_list_flat fa_list_one hzf (by simp) (by rw [fa_toList_len,Nat.mul_comm];exact Nat.le_refl _) hic (by unfold maxLen;omega) h8 (fun hr=>?_) (fun hr cap' hc'=>?_))
  ·have hcm:m*(i+1)≤m*c:=Nat.mul_le_mul (Nat.le_refl _) hr
   rw [Nat.mul_comm i m,app_room (by omega)]
   refine h k0 c _ (.inr ⟨c,hx⟩) hk0 hr fun q hq=>?_
   unfold putN
   by_cases hq1:q<m*i
   ·rw [if_neg (by omega)];exact hgG q hq1
   ·rw [if_pos (by omega),hev _ (by omega)];congr 1;omega
  ·have hcm:m*i≤m*c:=Nat.mul_le_mul (Nat.le_refl _) hic
   rw [Nat.mul_comm i m,zeros_fa (k:=κ) hzz,hzs,app_grow (by omega)]
   have em:m*i+m+(cap' - (i+1))*m=m*cap':=by
    obtain ⟨x,rfl⟩:∃ x,cap'=i+1+x:=⟨cap' - (i+1),by omega⟩
    rw [show i+1+x - (i+1)=x by omega,Nat.mul_add,Nat.mul_add,Nat.mul_one,Nat.mul_comm x m]
   rw [em]
   refine h _ cap' _ (.inl rfl) (by omega) hc' fun q hq=>?_
   unfold catN
   by_cases hq1:q<m*i
   ·rw [if_pos hq1];exact hgG q hq1
   ·rw [if_neg hq1,if_pos (by omega),hev _ (by omega)];congr 1;omega
theorem FunS.mvL {G:Hp} {f:FuncId} {args args':Array Value} {m:List (Nat×Blk)} {B:Nat} {R R':Value→List (Nat×Blk)→Prop} {hp':Hp} {rs':List Nat} (h:FunS P G f args (hpL G m) (keys m) R) (hGF:GFlat G) (hm:LOk m B) (ρ:Nat→Nat) (hlow:∀ k,k<100→ρ k=k)
  (ea:args.map (ren ρ)=args') (er:(keys m).map ρ=rs') (eR:RR ρ R=R') (hp0:∀ k,k<100→hp' k=G k) (hat:∀ p∈m,100≤ρ p.1∧hp' (ρ p.1)=some (p.2.rn ρ)) (hinj:∀ k∈keys m,∀ l∈keys m,ρ k=ρ l→k=l)
  (hnew:∀ v ns,R v ns→∀ k∈keys ns,100≤ρ k∧ρ k∉rs') (hnj:∀ v ns,R v ns→∀ k∈keys ns,∀ l∈keys ns,ρ k=ρ l→k=l):FunS P G f args' hp' rs' R':=by
 subst ea er eR
 refine h.rn ρ hGF hm.low (rn_ofL hm ρ hlow hp0 hat hinj) (fun v ns hR k hk=>?_) hnj
 obtain ⟨h1,h2⟩:=hnew v ns hR k hk
 refine ⟨h1,fun hd=>hd ?_⟩
 unfold rst
 rw [if_neg]
 rintro (h3|h3)
 ·omega
 ·exact h2 h3
theorem GL_callL {G:Hp} {ops:Array Oper} {o:Oper} {post:List Oper} {base k:Nat} {ts:Nat→Value} {hp hp':Hp} {yc:Nat} {c:Call} {f:Operand} {g:FuncId} {cap:Array Value} {rs:List Nat} {args:Array Value} {R:Value→List (Nat×Blk)→Prop} (hCG:C.G=G) (hr:FunS P G g args hp' rs R) (hg:o.guard=none) (hd:∀ dd,o.dst=some dd→dd<n)
  (ho:o.op=.call c) (hc:c.callee=.value f) (hf:okT ts f) (hgf:gev ts f=.func (.func g) #[] cap) (hcp:cap.all plain0=true) (ha:∀ x∈c.args.toList,okX ts hp x) (hargs:c.args.map (gev ts)++cap=args)
  (h1:∀ q∈rs,hp' q=hp q) (h2:∀ q,q<100→hp' q=hp q) (hat:∀ v ns,R v ns→∀ q∈keys ns,base+8*k≤q∧q<base+8*k+8)
  (h:∀ v ns,R v ns→GL P C n d ro ops base (k+1) post (putT ts o.dst v) (updL hp ns) yc K):GL P C n d ro ops base k (o::post) ts hp yc K:=by
 subst hCG
 exact GL_callS hg hd ho hc hf hgf hcp ha hargs hr h1 h2 hat h
end
section
variable {P:Program} {C:Ctx} {n:Nat} {d:List Deferred} {ro:Option Nat} {s:GS} {K:Exit→GS→Prop}
structure AFree (ops:Array Oper) (base:Nat) (listed:Array Bool) (hp:Hp):Prop where
 at':∀ i,listed[i]? = some false→∀ x,base+8*i≤x→x<base+8*i+8→hp x=none
 up:∀ x,base+8*ops.size≤x→hp x=none
def GA (P:Program) (C:Ctx) (n:Nat) (d:List Deferred) (ro:Option Nat) (ops:Array Oper) (base:Nat) (fuel:Nat) (listed:Array Bool) (ts:Nat→Value) (hp:Hp) (yc:Nat) (K:Exit→GS→Prop):Prop :=
 ∀ r a W,RI C n d r ts hp yc a W→AFree ops base listed hp→100≤base→GFlat C.G→(∀ y,C.Y=some y→Rounds P C.G C.E y)→wpAnyIn (Fw P ro) 0 P .any ops (fun e a' W'=>∃ s' r',K e s'∧GI P C n d r' s' a' W') fuel listed a W
def GO (P:Program) (C:Ctx) (n:Nat) (d:List Deferred) (ro:Option Nat) (ops:Array Oper) (base:Nat) (fuel:Nat) (listed:Array Bool) (i:Nat) (ts:Nat→Value) (hp:Hp) (yc:Nat) (K:Exit→GS→Prop):Prop :=
 ∀ r a W,RI C n d r ts hp yc a W→AFree ops base listed hp→100≤base→GFlat C.G→(∀ y,C.Y=some y→Rounds P C.G C.E y)→wpOpIn (Fw P ro) 0 P ops (fun e a' W'=>∃ s' r',K e s'∧GI P C n d r' s' a' W') i (wpAnyIn (Fw P ro) 0 P .any ops (fun e a' W'=>∃ s' r',K e s'∧GI P C n d r' s' a' W') fuel (listed.setIfInBounds i true)) a W
theorem GW_any {id:Nat} {l:List Oper} (hm:P.follows .mixedOrders=true) (h:GA P C n d ro l.toArray s.B l.length (Array.replicate l.length false) s.ts s.hp s.yc K):GW P C n d ro (.region id l.toArray true) s K:=fun r a W hi =>
 wpIn_region_any hm (by
  have:=h r a _ hi.ri.drew ⟨fun i _ x hx _=>hi.free x (by omega),fun x hx=>hi.free x (by omega)⟩ hi.low hi.flat hi.rounds
  simpa using this)
theorem GA_nil {ops:Array Oper} {base fuel:Nat} {listed:Array Bool} {ts:Nat→Value} {hp:Hp} {yc:Nat} (hr:Region.ready .any ops listed=[]) (h:K .normal ⟨ts,hp,base+8*ops.size,yc⟩):GA P C n d ro ops base fuel listed ts hp yc K:=fun r a W hi hf hb hG hR=>by
 have hq:∃ s' r',K .normal s'∧GI P C n d r' s' a W:=⟨⟨ts,hp,_,yc⟩,r,h,hi,hf.up,by show 100≤base+8*ops.size;omega,hG,hR⟩
 cases fuel with
 | zero=>exact ⟨hr,hq⟩
 | succ k=>exact ⟨fun _=>hq,fun i hi=>by rw [hr] at hi;cases hi⟩
theorem GA_step {ops:Array Oper} {base fuel:Nat} {listed:Array Bool} {ts:Nat→Value} {hp:Hp} {yc:Nat} (l:List Nat) (hr:Region.ready .any ops listed=l) (hl:l.isEmpty=false) (h:∀ i∈l,GO P C n d ro ops base fuel listed i ts hp yc K):GA P C n d ro ops base (fuel+1) listed ts hp yc K:=fun r a W hi hf hb hG hR=>by
 refine ⟨fun h0=>?_,fun i hm=>h i (by rw [←hr];exact hm) r a W hi hf hb hG hR⟩
 rw [hr] at h0;rw [h0] at hl;cases hl
theorem AFree.after {ops:Array Oper} {base:Nat} {listed:Array Bool} {hp hp':Hp} (h:AFree ops base listed hp) {i:Nat} (hi:i<ops.size) (e:∀ x,hp x=none→¬(base+8*i≤x∧x<base+8*i+8)→hp' x=none):AFree ops base (listed.setIfInBounds i true) hp':=by
 refine ⟨fun j hj x h1 h2=>?_,fun x hx=>e x (h.up x hx) (by omega)⟩
 rw [Array.getElem?_setIfInBounds] at hj
 split at hj
 ·split at hj<;>cases hj
 ·exact e x (h.at' j hj x h1 h2) (by omega)
theorem GO_walk {l0:List Oper} {o:Oper} {post:List Oper} {base i fuel:Nat} {listed:Array Bool} {ts:Nat→Value} {hp:Hp} {yc:Nat} (pn:List FuncId) (hl:l0.drop i=o::post) (hdst:(dstOk n [o]&&unOk P [o])=true) (hi:listed[i]? = some false)
  (h:∀ q:(Nat→Value)→Hp→Tr→Nat→Prop,(∀ ts hp tr yc,GA P C n d ro l0.toArray base fuel (listed.setIfInBounds i true) ts hp yc K→q ts hp tr yc) →
   lexS P C.G ⟨C.Y,pn,false⟩ base ⟨q,fun _ _=>False⟩ ((l0.take i).map (·.dst)).reverse i [o] ts hp [] yc true false):GO P C n d ro l0.toArray base fuel listed i ts hp yc K:=by
 intro r a W hRI hf hb hG hR
 simp only [Bool.and_eq_true] at hdst
 have hok:=And.intro (dstOk_spec hdst.1 (List.mem_singleton.2 rfl)) (unOk_spec hdst.2 o (List.mem_singleton.2 rfl))
 have hi0:l0[i]? = some o:=by
  have:=congrArg (fun l=>l[0]?) hl
  simpa [List.getElem?_drop] using this
 have hlt:i<l0.length:=(List.getElem?_eq_some_iff.1 hi0).1
 have hh:=h (fun ts hp _ yc=>GA P C n d ro l0.toArray base fuel (listed.setIfInBounds i true) ts hp yc K) (fun _ _ _ _ a=>a)
 have ek:(l0.take i).length=i:=by simp;omega
 have hx:lexX P C.G ⟨C.Y,pn,false⟩ l0.toArray base (fun ts hp _ yc=>GA P C n d ro l0.toArray base fuel (listed.setIfInBounds i true) ts hp yc K) (fun _ _=>False) i [o] ts hp [] yc true false:=by
  refine lexX_of_lexS' (Q:=⟨_,fun _ _=>False⟩) [o] _ i _ _ _ _ _ _ (fun j hj=>?_) (fun j hj=>?_) hh
  ·rw [List.getElem?_reverse (by simp;omega)]
   simp only [List.length_map,ek,List.getElem?_map,List.getElem?_toArray]
   rw [show i - 1 - (i - 1 - j)=j by omega,List.getElem?_take,if_pos hj]
   cases l0[j]?<;>rfl
  ·obtain rfl:j=0:=by simpa using hj
   simp [hi0]
 have hfree:∀ x,base+8*i≤x→x<base+8*i+8→hp x=none:=hf.at' i hi
 unfold wpOpIn
 rw [List.getElem?_toArray,hi0]
 simp only
 simp only [lexX] at hx
 cases hw:wantedG l0.toArray o ts with
 | none=>rw [hw] at hx;exact hx.elim
 | some b =>
  rw [hw] at hx
  rw [wantedG_eq hRI.rel hw]
  cases b with
  | true =>
   simp only at hx
   simp only [if_true]
   obtain ⟨e,h1,hs,hyd,h3⟩:=opX_sound hG hRI.glob hx
   refine meets hG hR o e ts hp yc r a W 0 _ _ hRI hok.1 h1 (fun x hx=>(hs.ws x hx).2) (fun x hx=>?_) (fun r' a' W' hpn hi'=>?_) (fun pv W' yc' hpn hi'=>?_)
   ·have:=hs.ns x hx;exact ⟨hfree x (by omega) (by omega),by omega⟩
   ·rw [hpn] at h3
    refine h3 r' a' W' hi' (hf.after (by simpa using hlt) fun x hx0 hx1=>?_) hb hG hR
    rw [updL_other (fun hm=>?_)]
    ·exact hx0
    ·have:x∈keys e.ws∨x∈keys e.ns:=by simpa [keys] using hm
     rcases this with h|h
     ·exact (hs.ws x h).2.1 hx0
     ·have:=hs.ns x h;omega
   ·rw [hpn] at h3
    exact h3.2.2.elim
  | false =>
   simp only at hx
   simp only [Bool.false_eq_true,if_false]
   exact ⟨meetsU (Y:=none) o ts r _ a W hRI.rel ⟨hx.1,hok.2⟩,hx.2 r _ W (hRI.put_undef hok.1.1) (hf.after (by simpa using hlt) fun x hx0 _=>hx0) hb hG hR⟩
theorem GO_callL {G:Hp} {ops:Array Oper} {o:Oper} {base i fuel:Nat} {listed:Array Bool} {ts:Nat→Value} {hp hp':Hp} {yc:Nat} {c:Call} {f:Operand} {g:FuncId} {cap:Array Value} {rs:List Nat} {args:Array Value} {R:Value→List (Nat×Blk)→Prop} (hCG:C.G=G) (hr:FunS P G g args hp' rs R) (hio:ops[i]? = some o) (hi:listed[i]? = some false) (hg:o.guard=none) (hd:∀ dd,o.dst=some dd→dd<n)
  (ho:o.op=.call c) (hc:c.callee=.value f) (hf:okT ts f) (hgf:gev ts f=.func (.func g) #[] cap) (hcp:cap.all plain0=true) (ha:∀ x∈c.args.toList,okX ts hp x) (hargs:c.args.map (gev ts)++cap=args)
  (h1:∀ q∈rs,hp' q=hp q) (h2:∀ q,q<100→hp' q=hp q) (hat:∀ v ns,R v ns→∀ q∈keys ns,base+8*i≤q∧q<base+8*i+8)
  (h:∀ v ns,R v ns→GA P C n d ro ops base fuel (listed.setIfInBounds i true) (putT ts o.dst v) (updL hp ns) yc K):GO P C n d ro ops base fuel listed i ts hp yc K:=by
 subst hCG
 intro r a W hRI hfr hb hG hR
 unfold wpOpIn
 rw [hio]
 simp only [Region.wanted,hg,if_true]
 refine step_callS hG hRI hd ho hc hf hgf hcp ha (by rw [hargs];exact hr.under fun q hq=>hq.elim (h2 q) (h1 q)) (fun v ns hRv q hq=>hfr.at' i hi q (hat v ns hRv q hq).1 (hat v ns hRv q hq).2) (fun v ns hRv r' a' W' hi'=>h v ns hRv r' a' W' hi' (hfr.after (Array.getElem?_eq_some_iff.1 hio).1 fun x hx hx1=>?_) hb hG hR)
 rw [updL_other (fun hm=>hx1 (hat v ns hRv x hm))]
 exact hx
end
@[simp] theorem flatV_map0:flatV (.map none)=true:=by simp [flatV,flatA,flatF,flat0]
theorem cnt_set:∀ (l:List Bool) (i:Nat),l[i]? = some false→(l.set i true).count false+1=l.count false
 | [],i,h=>by simp at h
 | a::l,0,h=>by simp at h;subst h;simp
 | a::l,i+1,h=>by
  have:=cnt_set l i (by simpa using h)
  simp only [List.set_cons_succ,List.count_cons]
  omega
theorem mem_ready {md:Region.Mode} {ops:Array Oper} {listed:Array Bool} (hs:listed.size=ops.size) {i:Nat}:i∈Region.ready md ops listed↔listed[i]? = some false∧∀ o,ops[i]? = some o→∀ e∈o.after,Region.binds md e=true→listed[e.on]? = some true:=by
 unfold Region.ready
 simp only [List.mem_filter,List.mem_range,Bool.and_eq_true,Bool.not_eq_true']
 constructor
 ·rintro ⟨h1,h2,h3⟩
  have e1:listed[i]? = some listed[i]:=Array.getElem?_eq_getElem (by omega)
  refine ⟨?_,fun o ho e he hb=>?_⟩
  ·simp only [Array.getD_eq_getD_getElem?,e1,Option.getD_some] at h2
   rw [e1,h2]
  ·rw [ho] at h3
   simp only [Option.map_some,Option.getD_some,Array.all_eq_true_iff_forall_mem] at h3
   have:=h3 e he
   rw [hb] at this
   simp only [Bool.not_true,Bool.false_or,Array.getD_eq_getD_getElem?] at this
   cases hl:listed[e.on]? with
   | none=>rw [hl] at this;simp at this
   | some b=>rw [hl] at this;simp at this;rw [this]
 ·rintro ⟨h1,h2⟩
  have hlt:i<ops.size:=by have:=(Array.getElem?_eq_some_iff.1 h1).1;omega
  refine ⟨hlt,by simp [Array.getD_eq_getD_getElem?,h1],?_⟩
  rw [Array.getElem?_eq_getElem hlt]
  simp only [Option.map_some,Option.getD_some,Array.all_eq_true_iff_forall_mem,Bool.or_eq_true,Bool.not_eq_true']
  intro e he
  cases hb:Region.binds md e with
  | false=>exact .inl rfl
  | true=>right;simp [Array.getD_eq_getD_getElem?,h2 _ (Array.getElem?_eq_getElem hlt) e he hb]
theorem ready_nil {md:Region.Mode} {ops:Array Oper} {listed:Array Bool} (hs:listed.size=ops.size) (hlt:(ops.toList.zipIdx.all fun p=>p.1.after.all fun e=>decide (e.on<p.2))=true) (h:Region.ready md ops listed=[]):∀ i,i<ops.size→listed[i]? = some true:=by
 intro i
 induction i using Nat.strongRecOn with
 | _ i ih =>
  intro hi
  have e1:listed[i]? = some listed[i]:=Array.getElem?_eq_getElem (by omega)
  cases hb:listed[i] with
  | true=>rw [e1,hb]
  | false =>
   exfalso
   have:i∈Region.ready md ops listed:=(mem_ready hs).2 ⟨by rw [e1,hb],fun o ho e he _=>by
    have hm:(o,i)∈ops.toList.zipIdx:=by
     rw [List.mem_zipIdx_iff_getElem?]
     simpa using ho
    have:=List.all_eq_true.1 hlt _ hm
    have:=Array.all_eq_true_iff_forall_mem.1 this e he
    have h3:e.on<i:=by simpa using this
    exact ih _ h3 (by omega)⟩
   rw [h] at this
   cases this
section
variable {P:Program} {C:Ctx} {n:Nat} {d:List Deferred} {ro:Option Nat} {K:Exit→GS→Prop}
theorem GL_callW {G:Hp} {ops:Array Oper} {o:Oper} {post:List Oper} {base k:Nat} (sh:Nat) {ts:Nat→Value} {hp hp':Hp} {yc:Nat} {c:Call} {f:Operand} {g:FuncId} {cap:Array Value} {rs:List Nat} {args:Array Value} {R:Value→List (Nat×Blk)→Prop} (hCG:C.G=G) (hr:FunS P G g args hp' rs R) (hg:o.guard=none) (hd:∀ dd,o.dst=some dd→dd<n)
  (ho:o.op=.call c) (hc:c.callee=.value f) (hf:okT ts f) (hgf:gev ts f=.func (.func g) #[] cap) (hcp:cap.all plain0=true) (ha:∀ x∈c.args.toList,okX ts hp x) (hargs:c.args.map (gev ts)++cap=args)
  (h1:∀ q∈rs,hp' q=hp q) (h2:∀ q,q<100→hp' q=hp q) (hat:∀ v ns,R v ns→∀ q∈keys ns,base+8*k≤q∧q<base+sh+8*k+8)
  (h:∀ v ns,R v ns→GL P C n d ro ops (base+sh) (k+1) post (putT ts o.dst v) (updL hp ns) yc K):GL P C n d ro ops base k (o::post) ts hp yc K:=by
 subst hCG
 intro r a W hi hfr hb hG hR
 refine wpListIn_plain hg fun K' hK'=>?_
 refine step_callS hG hi hd ho hc hf hgf hcp ha (by rw [hargs];exact hr.under fun q hq=>hq.elim (h2 q) (h1 q)) (fun v ns hRv q hq=>hfr q (hat v ns hRv q hq).1) (fun v ns hRv r' a' W' hi'=>hK' _ _ (h v ns hRv r' a' W' hi' (fun x hx=>?_) (by omega) hG hR))
 rw [updL_other (fun hm=>by have:=hat v ns hRv x hm;omega)]
 exact hfr x (by omega)
theorem GA_ind {ops:Array Oper} {base yc:Nat} (I:Array Bool→(Nat→Value)→Hp→Prop)
  (fin:∀ listed ts hp,listed.size=ops.size→Region.ready .any ops listed=[]→I listed ts hp→K .normal ⟨ts,hp,base+8*ops.size,yc⟩)
  (step:∀ fuel listed ts hp i,listed.size=ops.size→listed[i]? = some false→(∀ o,ops[i]? = some o→∀ e∈o.after,Region.binds .any e=true→listed[e.on]? = some true)→I listed ts hp →
   (∀ ts' hp',I (listed.setIfInBounds i true) ts' hp'→GA P C n d ro ops base fuel (listed.setIfInBounds i true) ts' hp' yc K)→GO P C n d ro ops base fuel listed i ts hp yc K) :
  ∀ (fuel:Nat) (listed:Array Bool) (ts:Nat→Value) (hp:Hp),listed.size=ops.size→listed.toList.count false≤fuel→I listed ts hp→GA P C n d ro ops base fuel listed ts hp yc K
 | 0,listed,ts,hp,hs,hc,hI=>by
  have hr:Region.ready .any ops listed=[]:=by
   cases h:Region.ready .any ops listed with
   | nil=>rfl
   | cons i l =>
    have hm:i∈Region.ready .any ops listed:=by rw [h];simp
    have h1:=((mem_ready hs).1 hm).1
    have h2:=cnt_set listed.toList i (by simpa using h1)
    omega
  exact GA_nil hr (fin _ _ _ hs hr hI)
 | fuel+1,listed,ts,hp,hs,hc,hI=>by
  cases h:Region.ready .any ops listed with
  | nil=>exact GA_nil h (fin _ _ _ hs h hI)
  | cons i l =>
   refine GA_step _ rfl (by rw [h];rfl) fun j hj=>?_
   obtain ⟨h1,h2⟩:=(mem_ready hs).1 hj
   refine step fuel listed ts hp j hs h1 h2 hI fun ts' hp' hI'=>?_
   have h3:=cnt_set listed.toList j (by simpa using h1)
   exact GA_ind I fin step fuel _ _ _ (by simpa using hs) (by simp only [Array.toList_setIfInBounds];omega) hI'
end
end Go.Gy
namespace Go.Gy
set_option linter.unusedSimpArgs false
set_option linter.unusedVariables false
open Go Go.RowKit
structure TI (N:List (Nat×Nat)) (V:Nat→Value) (X:List (Nat×Nat)) (Bk:Nat→Blk) (ts0:Nat→Value) (hp0:Hp) (listed:Array Bool) (ts:Nat→Value) (hp:Hp):Prop where
 t0:∀ t,t∉N.map Prod.snd→ts t=ts0 t
 tm:∀ p∈N,listed[p.1]? = some true→ts p.2=V p.1
 h0:∀ k,k∉X.map Prod.snd→hp k=hp0 k
 bx:∀ q∈X,listed[q.1]? = some true→hp q.2=some (Bk q.1)
theorem ti_set {listed:Array Bool} {i j:Nat} (h:(listed.setIfInBounds i true)[j]? = some true):j=i∨listed[j]? = some true:=by
 rw [Array.getElem?_setIfInBounds] at h
 split at h
 ·rename_i e;exact .inl e.symm
 ·exact .inr h
theorem ti_snd {N:List (Nat×Nat)} (h:(N.map Prod.snd).Nodup) {p q:Nat×Nat} (hp:p∈N) (hq:q∈N) (e:p.2=q.2):p=q:=by
 induction N with
 | nil=>cases hp
 | cons a l ih =>
  simp only [List.map_cons,List.nodup_cons] at h
  rcases List.mem_cons.1 hp with rfl|hp1<;>rcases List.mem_cons.1 hq with rfl|hq1
  ·rfl
  ·exact absurd (List.mem_map.2 ⟨q,hq1,e.symm⟩) h.1
  ·exact absurd (List.mem_map.2 ⟨p,hp1,e⟩) h.1
  ·exact ih h.2 hp1 hq1
theorem ti_fst {N:List (Nat×Nat)} (h:(N.map Prod.fst).Nodup) {p q:Nat×Nat} (hp:p∈N) (hq:q∈N) (e:p.1=q.1):p=q:=by
 induction N with
 | nil=>cases hp
 | cons a l ih =>
  simp only [List.map_cons,List.nodup_cons] at h
  rcases List.mem_cons.1 hp with rfl|hp1<;>rcases List.mem_cons.1 hq with rfl|hq1
  ·rfl
  ·exact absurd (List.mem_map.2 ⟨q,hq1,e.symm⟩) h.1
  ·exact absurd (List.mem_map.2 ⟨p,hp1,e⟩) h.1
  ·exact ih h.2 hp1 hq1
section
variable {N X:List (Nat×Nat)} {V:Nat→Value} {Bk:Nat→Blk} {ts0 ts:Nat→Value} {hp0 hp:Hp} {listed:Array Bool}
theorem TI.start (hl:∀ j:Nat,listed[j]?≠some true):TI N V X Bk ts0 hp0 listed ts0 hp0:=⟨fun _ _=>rfl,fun p _ h=>absurd h (hl _),fun _ _=>rfl,fun q _ h=>absurd h (hl _)⟩
theorem TI.tmp (hN1:(N.map Prod.fst).Nodup) (hN2:(N.map Prod.snd).Nodup) (h:TI N V X Bk ts0 hp0 listed ts hp) {i t:Nat} {v:Value} (hm:(i,t)∈N) (hv:V i=v) (hx:i∉X.map Prod.fst):TI N V X Bk ts0 hp0 (listed.setIfInBounds i true) (upd ts t v) hp:=by
 refine ⟨fun u hu=>?_,fun p hp1 hl=>?_,h.h0,fun q hq hl=>?_⟩
 ·rw [upd_other _ _ (fun e=>hu (List.mem_map.2 ⟨_,hm,e.symm⟩))]
  exact h.t0 u hu
 ·by_cases e:p.2=t
  ·have:=ti_snd hN2 hp1 hm e
   subst this
   rw [←hv]
   exact upd_same _ _ _
  ·rw [upd_other _ _ e]
   rcases ti_set hl with e1|h1
   ·exact absurd (congrArg Prod.snd (ti_fst hN1 hp1 hm e1)) e
   ·exact h.tm p hp1 h1
 ·rcases ti_set hl with e1|h1
  ·exact absurd (List.mem_map.2 ⟨q,hq,e1⟩) hx
  ·exact h.bx q hq h1
theorem TI.new (hN1:(N.map Prod.fst).Nodup) (hN2:(N.map Prod.snd).Nodup) (hX1:(X.map Prod.fst).Nodup) (hX2:(X.map Prod.snd).Nodup) (h:TI N V X Bk ts0 hp0 listed ts hp) {i t k:Nat} {v:Value} {b:Blk} (hm:(i,t)∈N) (hv:V i=v) (hx:(i,k)∈X) (hb:Bk i=b):TI N V X Bk ts0 hp0 (listed.setIfInBounds i true) (upd ts t v) (upd hp k (some b)):=by
 refine ⟨fun u hu=>?_,fun p hp1 hl=>?_,fun u hu=>?_,fun q hq hl=>?_⟩
 ·rw [upd_other _ _ (fun e=>hu (List.mem_map.2 ⟨_,hm,e.symm⟩))]
  exact h.t0 u hu
 ·by_cases e:p.2=t
  ·have:=ti_snd hN2 hp1 hm e
   subst this
   rw [←hv]
   exact upd_same _ _ _
  ·rw [upd_other _ _ e]
   rcases ti_set hl with e1|h1
   ·exact absurd (congrArg Prod.snd (ti_fst hN1 hp1 hm e1)) e
   ·exact h.tm p hp1 h1
 ·rw [upd_other _ _ (fun e=>hu (List.mem_map.2 ⟨_,hx,e.symm⟩))]
  exact h.h0 u hu
 ·by_cases e:q.2=k
  ·have:=ti_snd hX2 hq hx e
   subst this
   rw [←hb]
   exact upd_same _ _ _
  ·rw [upd_other _ _ e]
   rcases ti_set hl with e1|h1
   ·exact absurd (congrArg Prod.snd (ti_fst hX1 hq hx e1)) e
   ·exact h.bx q hq h1
theorem TI.chg {V':Nat→Value} {Bk':Nat→Blk} (h:TI N V X Bk ts0 hp0 listed ts hp) (hv:∀ p∈N,listed[p.1]? = some true→V p.1=V' p.1) (hb:∀ q∈X,listed[q.1]? = some true→Bk q.1=Bk' q.1):TI N V' X Bk' ts0 hp0 listed ts hp :=
 ⟨h.t0,fun p hp1 hl=>(h.tm p hp1 hl).trans (hv p hp1 hl),h.h0,fun q hq hl=>(h.bx q hq hl).trans (by rw [hb q hq hl])⟩
end
section
variable {P:Program} {C:Ctx} {n:Nat} {d:List Deferred} {ro:Option Nat} {K:Exit→GS→Prop}
theorem GA_gen {ops:Array Oper} {base fuel yc:Nat} {listed:Array Bool} {ts:Nat→Value} {hp:Hp} (F:(Nat→Value)→Hp→Prop) (h:F ts hp) (H:∀ ts0 hp0,F ts0 hp0→GA P C n d ro ops base fuel listed ts0 hp0 yc K):GA P C n d ro ops base fuel listed ts hp yc K:=H _ _ h
theorem GO_callG {G:Hp} {ops:Array Oper} {o:Oper} {base i fuel:Nat} {listed:Array Bool} {ts:Nat→Value} {hp hp':Hp} {yc:Nat} {c:Call} {f:Operand} {g:FuncId} {cap:Array Value} {rs:List Nat} {args:Array Value} {R:Value→List (Nat×Blk)→Prop} (hCG:C.G=G) (hr:FunS P G g args hp' rs R) (hio:ops[i]? = some o) (hi:listed[i]? = some false) (hg:wantedG ops o ts=some true) (hd:∀ dd,o.dst=some dd→dd<n)
  (ho:o.op=.call c) (hc:c.callee=.value f) (hf:okT ts f) (hgf:gev ts f=.func (.func g) #[] cap) (hcp:cap.all plain0=true) (ha:∀ x∈c.args.toList,okX ts hp x) (hargs:c.args.map (gev ts)++cap=args)
  (h1:∀ q∈rs,hp' q=hp q) (h2:∀ q,q<100→hp' q=hp q) (hat:∀ v ns,R v ns→∀ q∈keys ns,base+8*i≤q∧q<base+8*i+8)
  (h:∀ v ns,R v ns→GA P C n d ro ops base fuel (listed.setIfInBounds i true) (putT ts o.dst v) (updL hp ns) yc K):GO P C n d ro ops base fuel listed i ts hp yc K:=by
 subst hCG
 intro r a W hRI hfr hb hG hR
 unfold wpOpIn
 rw [hio]
 simp only
 rw [wantedG_eq hRI.rel hg]
 simp only [if_true]
 refine step_callS hG hRI hd ho hc hf hgf hcp ha (by rw [hargs];exact hr.under fun q hq=>hq.elim (h2 q) (h1 q)) (fun v ns hRv q hq=>hfr.at' i hi q (hat v ns hRv q hq).1 (hat v ns hRv q hq).2) (fun v ns hRv r' a' W' hi'=>h v ns hRv r' a' W' hi' (hfr.after (Array.getElem?_eq_some_iff.1 hio).1 fun x hx hx1=>?_) hb hG hR)
 rw [updL_other (fun hm=>hx1 (hat v ns hRv x hm))]
 exact hx
end
theorem ready_nilB {md:Region.Mode} {ops:Array Oper} {listed:Array Bool} (hs:listed.size=ops.size) (hlt:(ops.toList.zipIdx.all fun p=>p.1.after.all fun e=>!Region.binds md e||decide (e.on<p.2))=true) (h:Region.ready md ops listed=[]):∀ i,i<ops.size→listed[i]? = some true:=by
 intro i
 induction i using Nat.strongRecOn with
 | _ i ih =>
  intro hi
  have e1:listed[i]? = some listed[i]:=Array.getElem?_eq_getElem (by omega)
  cases hb:listed[i] with
  | true=>rw [e1,hb]
  | false =>
   exfalso
   have:i∈Region.ready md ops listed:=(mem_ready hs).2 ⟨by rw [e1,hb],fun o ho e he hbe=>by
    have hm:(o,i)∈ops.toList.zipIdx:=by
     rw [List.mem_zipIdx_iff_getElem?]
     simpa using ho
    have:=List.all_eq_true.1 hlt _ hm
    have:=Array.all_eq_true_iff_forall_mem.1 this e he
    rw [hbe] at this
    have h3:e.on<i:=by simpa using this
    exact ih _ h3 (by omega)⟩
   rw [h] at this
   cases this
structure TJ (N X D:List (Nat×Nat)) (V:Nat→Value) (Bk:Nat→Blk) (ts0:Nat→Value) (hp0:Hp) (listed:Array Bool) (ts:Nat→Value) (hp:Hp):Prop where
 t0:∀ t,t∉N.map Prod.snd→ts t=ts0 t
 tm:∀ p∈N,listed[p.1]? = some true→ts p.2=V p.1
 h0:∀ k,(∀ q∈X,q.2=k→listed[q.1]?≠some true)→hp k=hp0 k
 bx:∀ q∈X,listed[q.1]? = some true→(∀ q'∈X,q'.2=q.2→q.1<q'.1→listed[q'.1]?≠some true)→hp q.2=some (Bk q.1)
 cl:∀ p∈D,listed[p.1]? = some true→listed[p.2]? = some true
theorem tj_set {listed:Array Bool} {i j:Nat} (hi:listed[i]? = some false):(listed.setIfInBounds i true)[j]? = some true↔j=i∨listed[j]? = some true:=by
 rw [Array.getElem?_setIfInBounds]
 have:=(Array.getElem?_eq_some_iff.1 hi).1
 split
 ·rename_i e
  subst e
  simp [this]
 ·rename_i e
  exact ⟨.inr,fun h=>h.resolve_left fun x=>e x.symm⟩
section
variable {N X D:List (Nat×Nat)} {V:Nat→Value} {Bk:Nat→Blk} {ts0 ts:Nat→Value} {hp0 hp:Hp} {listed:Array Bool}
theorem TJ.start (hl:∀ j:Nat,listed[j]?≠some true):TJ N X D V Bk ts0 hp0 listed ts0 hp0:=⟨fun _ _=>rfl,fun p _ h=>absurd h (hl _),fun _ _=>rfl,fun q _ h=>absurd h (hl _),fun p _ h=>absurd h (hl _)⟩
theorem TJ.ext (h:TJ N X D V Bk ts0 hp0 listed ts hp) {k:Nat} (hk:k∉X.map Prod.snd):hp k=hp0 k:=h.h0 k fun q hq e=>absurd (List.mem_map.2 ⟨q,hq,e⟩) hk
theorem TJ.put (hN1:(N.map Prod.fst).Nodup) (hN2:(N.map Prod.snd).Nodup) (h:TJ N X D V Bk ts0 hp0 listed ts hp) {i t:Nat} {v:Value} (hi:listed[i]? = some false) (hm:(i,t)∈N) (hv:V i=v):(∀ u,u∉N.map Prod.snd→upd ts t v u=ts0 u)∧∀ p∈N,(listed.setIfInBounds i true)[p.1]? = some true→upd ts t v p.2=V p.1:=by
 refine ⟨fun u hu=>?_,fun p hp1 hl=>?_⟩
 ·rw [upd_other _ _ (fun e=>hu (List.mem_map.2 ⟨_,hm,e.symm⟩))]
  exact h.t0 u hu
 ·by_cases e:p.2=t
  ·have:=ti_snd hN2 hp1 hm e
   subst this
   rw [←hv]
   exact upd_same _ _ _
  ·rw [upd_other _ _ e]
   rcases (tj_set hi).1 hl with e1|h1
   ·exact absurd (congrArg Prod.snd (ti_fst hN1 hp1 hm e1)) e
   ·exact h.tm p hp1 h1
theorem TJ.cls (h:TJ N X D V Bk ts0 hp0 listed ts hp) {i:Nat} (hi:listed[i]? = some false) (hd:∀ p∈D,p.1=i→listed[p.2]? = some true):∀ p∈D,(listed.setIfInBounds i true)[p.1]? = some true→(listed.setIfInBounds i true)[p.2]? = some true:=fun p hp1 hl =>
 (tj_set hi).2 (.inr (((tj_set hi).1 hl).elim (hd p hp1) (h.cl p hp1)))
theorem TJ.tmp (hN1:(N.map Prod.fst).Nodup) (hN2:(N.map Prod.snd).Nodup) (h:TJ N X D V Bk ts0 hp0 listed ts hp) {i t:Nat} {v:Value} (hi:listed[i]? = some false) (hd:∀ p∈D,p.1=i→listed[p.2]? = some true) (hm:(i,t)∈N) (hv:V i=v) (hx:i∉X.map Prod.fst):TJ N X D V Bk ts0 hp0 (listed.setIfInBounds i true) (upd ts t v) hp:=by
 obtain ⟨a,b⟩:=h.put hN1 hN2 hi hm hv
 refine ⟨a,b,fun k hk=>h.h0 k fun q hq e hl=>hk q hq e ((tj_set hi).2 (.inr hl)),fun q hq hl hl2=>?_,h.cls hi hd⟩
 rcases (tj_set hi).1 hl with e1|h1
 ·exact absurd (List.mem_map.2 ⟨q,hq,e1⟩) hx
 ·exact h.bx q hq h1 fun q' hq' e hlt hl'=>hl2 q' hq' e hlt ((tj_set hi).2 (.inr hl'))
theorem TJ.blk (hX1:(X.map Prod.fst).Nodup) (h:TJ N X D V Bk ts0 hp0 listed ts hp) {i k:Nat} {b:Blk} (hi:listed[i]? = some false) (hx:(i,k)∈X) (hb:Bk i=b) (ho:∀ q∈X,q.2=k→i<q.1→(q.1,i)∈D) :
  (∀ u,(∀ q∈X,q.2=u→(listed.setIfInBounds i true)[q.1]?≠some true)→upd hp k (some b) u=hp0 u)∧∀ q∈X,(listed.setIfInBounds i true)[q.1]? = some true→(∀ q'∈X,q'.2=q.2→q.1<q'.1→(listed.setIfInBounds i true)[q'.1]?≠some true)→upd hp k (some b) q.2=some (Bk q.1):=by
 refine ⟨fun u hu=>?_,fun q hq hl hl2=>?_⟩
 ·rw [upd_other _ _ (fun e=>hu _ hx e.symm ((tj_set hi).2 (.inl rfl)))]
  exact h.h0 u fun q hq e hl=>hu q hq e ((tj_set hi).2 (.inr hl))
 ·by_cases e:q.2=k
  ·have e2:q.1=i:=by
    rcases (tj_set hi).1 hl with e1|h1
    ·exact e1
    ·rcases Nat.lt_trichotomy q.1 i with c|c|c
     ·exact absurd ((tj_set hi).2 (.inl rfl)) (hl2 _ hx e.symm c)
     ·exact c
     ·have:=h.cl _ (ho q hq e c) h1
      rw [hi] at this
      cases this
   have:=ti_fst hX1 hq hx e2
   subst this
   rw [←hb]
   exact upd_same _ _ _
  ·rw [upd_other _ _ e]
   rcases (tj_set hi).1 hl with e1|h1
   ·exact absurd (congrArg Prod.snd (ti_fst hX1 hq hx e1)) e
   ·exact h.bx q hq h1 fun q' hq' e hlt hl'=>hl2 q' hq' e hlt ((tj_set hi).2 (.inr hl'))
theorem TJ.bxi (h:TJ N X D V Bk ts0 hp0 listed ts hp) {i w k:Nat} (hi:listed[i]? = some false) (hw:(w,k)∈X) (hl:listed[w]? = some true) (hn:∀ q∈X,q.2=k→w<q.1→q.1=i∨(q.1,i)∈D):hp k=some (Bk w) :=
 h.bx _ hw hl fun q hq e hlt hl'=>by
  rcases hn q hq e hlt with h1|h1
  ·rw [h1,hi] at hl';cases hl'
  ·have:=h.cl _ h1 hl'
   rw [hi] at this;cases this
theorem TJ.new (hN1:(N.map Prod.fst).Nodup) (hN2:(N.map Prod.snd).Nodup) (hX1:(X.map Prod.fst).Nodup) (h:TJ N X D V Bk ts0 hp0 listed ts hp) {i t k:Nat} {v:Value} {b:Blk} (hi:listed[i]? = some false) (hd:∀ p∈D,p.1=i→listed[p.2]? = some true) (hm:(i,t)∈N) (hv:V i=v) (hx:(i,k)∈X) (hb:Bk i=b) (ho:∀ q∈X,q.2=k→i<q.1→(q.1,i)∈D):TJ N X D V Bk ts0 hp0 (listed.setIfInBounds i true) (upd ts t v) (upd hp k (some b)):=by
 obtain ⟨a1,a2⟩:=h.put hN1 hN2 hi hm hv
 obtain ⟨b1,b2⟩:=h.blk hX1 hi hx hb ho
 exact ⟨a1,a2,b1,b2,h.cls hi hd⟩
theorem TJ.st (hX1:(X.map Prod.fst).Nodup) (h:TJ N X D V Bk ts0 hp0 listed ts hp) {i k:Nat} {b:Blk} (hi:listed[i]? = some false) (hd:∀ p∈D,p.1=i→listed[p.2]? = some true) (hn:i∉N.map Prod.fst) (hx:(i,k)∈X) (hb:Bk i=b) (ho:∀ q∈X,q.2=k→i<q.1→(q.1,i)∈D):TJ N X D V Bk ts0 hp0 (listed.setIfInBounds i true) ts (upd hp k (some b)):=by
 obtain ⟨b1,b2⟩:=h.blk hX1 hi hx hb ho
 refine ⟨h.t0,fun p hp1 hl=>?_,b1,b2,h.cls hi hd⟩
 rcases (tj_set hi).1 hl with e1|h1
 ·exact absurd (List.mem_map.2 ⟨p,hp1,e1⟩) hn
 ·exact h.tm p hp1 h1
theorem TJ.chg {V':Nat→Value} {Bk':Nat→Blk} {i:Nat} (h:TJ N X D V Bk ts0 hp0 listed ts hp) (hi:listed[i]? = some false) (hv:∀ j,j≠i→(j,i)∉D→V j=V' j) (hb:∀ j,j≠i→(j,i)∉D→Bk j=Bk' j):TJ N X D V' Bk' ts0 hp0 listed ts hp:=by
 have ne:∀ j,listed[j]? = some true→j≠i:=fun j hj e=>by rw [e,hi] at hj;cases hj
 have nd:∀ j,listed[j]? = some true→(j,i)∉D:=fun j hj hd=>by have:=h.cl _ hd hj;rw [hi] at this;cases this
 exact ⟨h.t0,fun p hp1 hl=>(h.tm p hp1 hl).trans (hv _ (ne _ hl) (nd _ hl)),h.h0,fun q hq hl hl2=>(h.bx q hq hl hl2).trans (by rw [hb _ (ne _ hl) (nd _ hl)]),h.cl⟩
end
structure LTwo (G:Hp) (L:List (Nat×Blk)) (ks:Nat) (b b2:Blk):Prop where
 ok:LOk L 200
 fx:∀ p∈L,p.2.fx
 ka:(100,b)∈L
 kb:(ks,b2)∈L
 k8:ks=100∨ks=108
section
variable {G:Hp} {L:List (Nat×Blk)} {ks:Nat} {b b2:Blk}
theorem LTwo.mem (h:LTwo G L ks b b2) (p:Nat×Blk) (hp:p∈L):hpL G L p.1=some p.2:=LOk.at h.ok.one p hp
theorem LTwo.a (h:LTwo G L ks b b2):hpL G L 100=some b:=h.mem _ h.ka
theorem LTwo.s (h:LTwo G L ks b b2):hpL G L ks=some b2:=h.mem _ h.kb
theorem LTwo.k1 (h:LTwo G L ks b b2):100≤ks:=(h.ok.big _ h.kb).1
theorem LTwo.k2 (h:LTwo G L ks b b2):ks<200:=(h.ok.big _ h.kb).2
theorem LTwo.ne (h:LTwo G L ks b b2) (k:Nat) (hk:200≤k):(ks=k)=False:=by
 have:=h.k2
 simp only [eq_iff_iff,iff_false]
 omega
theorem LTwo.low (h:LTwo G L ks b b2) (k:Nat) (hk:k<100):hpL G L k=G k:=h.ok.low k hk
theorem LTwo.ia (h:LTwo G L ks b b2):100∈keys L:=mem_keys.2 ⟨_,h.ka,rfl⟩
theorem LTwo.ib (h:LTwo G L ks b b2):ks∈keys L:=mem_keys.2 ⟨_,h.kb,rfl⟩
theorem LTwo.fb (h:LTwo G L ks b b2):b2.fx:=h.fx _ h.kb
theorem LTwo.two {b b2:Blk} (h:b.fx) (h2:b2.fx):LTwo G [(100,b),(108,b2)] 108 b b2:=by
 refine ⟨⟨by simp,by simp [keys],?_⟩,?_,by simp,by simp,.inr rfl⟩
 ·simp only [List.mem_cons,List.not_mem_nil,or_false,forall_eq_or_imp,forall_eq]
  exact ⟨Blk.fx_ids h _,Blk.fx_ids h2 _⟩
 ·simp only [List.mem_cons,List.not_mem_nil,or_false,forall_eq_or_imp,forall_eq]
  exact ⟨h,h2⟩
theorem LTwo.one {b:Blk} (h:b.fx):LTwo G [(100,b)] 100 b b:=by
 refine ⟨⟨by simp,by simp [keys],?_⟩,?_,by simp,by simp,.inl rfl⟩
 ·simp only [List.mem_cons,List.not_mem_nil,or_false,forall_eq]
  exact Blk.fx_ids h _
 ·simp only [List.mem_cons,List.not_mem_nil,or_false,forall_eq]
  exact h
end
theorem weakLL {C:Ctx} {G:Hp} {s:GS} {m L:List (Nat×Blk)} (l:List (Nat×Value)) (B:Nat) (hG:C.G=G) (hGF:GFlat G) (hL:LOk L 200) (hfx:∀ p∈L,p.2.fx) (h0:C.hp0=hpL G L) (hB:200≤B) (hl:∀ p∈l,s.ts p.1=p.2∧idsV (dom (hpL G (m++L))) p.2)
  (hm:∀ p∈m,s.hp p.1=some p.2∧p.2.ids (dom (hpL G (m++L)))∧200≤p.1∧p.1<B) (hk:∀ p∈L,s.hp p.1=some p.2):Weak C s ⟨tsL l,hpL G (m++L),B,s.yc⟩:=by
 refine weakL l B hG hGF h0 (by omega) hl (fun p hp=>?_) (fun p hp=>?_)
 ·rcases List.mem_append.1 hp with h|h
  ·have:=hm p h
   exact ⟨this.1,this.2.1,by omega,this.2.2.2⟩
  ·have:=hL.big p h
   exact ⟨hk p h,Blk.fx_ids (hfx p h) _,this.1,by omega⟩
 ·have hb:=hL.big p hp
  refine ⟨hb.1,?_⟩
  rw [hk p hp]
  have key:∀ (m:List (Nat×Blk)),(∀ q∈m,200≤q.1)→hpL G (m++L) p.1=some p.2:=by
   intro m
   induction m with
   | nil=>intro _;exact LOk.at hL.one p hp
   | cons q m ih =>
    intro hq
    obtain ⟨k,c⟩:=q
    rw [List.cons_append,hpL_cons]
    have:=hq (k,c) (by simp)
    simp only at this
    rw [if_neg (by omega)]
    exact ih fun q h=>hq q (List.mem_cons_of_mem _ h)
  exact key m fun q hq=>(hm q hq).2.2.1
theorem heapK_L {P:Program} {G:Hp} {L:List (Nat×Blk)} {f:FuncId} {args:Array Value} {v:Value} {hp:Hp} {nk:Nat} {K:Eff→Prop} (h:Fun P G f args (hpL G L) (keys L) (.ret v [])) (hL:LOk L 200) (hm:∀ p∈L,hp p.1=some p.2) (hK:K ((Res.ret v []).eff (keys L))):heapK P G f args hp nk K:=by
 refine heapK_of h (fun k hk=>?_) hL.low trivial hK
 obtain ⟨p,hp1,rfl⟩:=mem_keys.1 hk
 rw [LOk.at hL.one p hp1,hm p hp1]
theorem dom_app {G:Hp} {m L:List (Nat×Blk)} {k:Nat} (h:k∈keys L):dom (hpL G (m++L)) k:=by
 induction m with
 | nil =>
  obtain ⟨p,hp,rfl⟩:=mem_keys.1 h
  rw [List.nil_append]
  unfold dom
  induction L with
  | nil=>cases hp
  | cons q L ih =>
   obtain ⟨k,c⟩:=q
   rw [hpL_cons]
   by_cases e:p.1=k
   ·rw [if_pos e];simp
   ·rw [if_neg e]
    refine ih ?_ ?_
    ·rcases List.mem_cons.1 hp with e1|h1
     ·exact absurd (congrArg Prod.fst e1) e
     ·exact h1
    ·rcases List.mem_cons.1 hp with e1|h1
     ·exact absurd (congrArg Prod.fst e1) e
     ·exact mem_keys.2 ⟨p,h1,rfl⟩
 | cons q m ih =>
  obtain ⟨j,c⟩:=q
  unfold dom
  rw [List.cons_append,hpL_cons]
  split
  ·simp
  ·exact ih
end Go.Gy
namespace Go.Gy
set_option linter.unusedSimpArgs false
set_option linter.unusedVariables false
open Go Go.RowKit Go.Proofs

theorem bm {x:Int} (h0:-9223372036854775808≤x) (h1:x<9223372036854775808):Int.bmod x 18446744073709551616=x:=by
 rw [Int.bmod_def];split<;>omega
def um (z:Int):Int:=if sz z<0 then -sz z else sz z
theorem sz_bd (z:Int):-57896044618658097711785492504343953926634992332820282019728792003956564819968≤sz z∧sz z<57896044618658097711785492504343953926634992332820282019728792003956564819968:=by
 unfold sz;rw [Int.bmod_def];constructor<;>split<;>omega
theorem um_bd (z:Int):0≤um z∧um z≤57896044618658097711785492504343953926634992332820282019728792003956564819968:=by
 have:=sz_bd z;unfold um;split<;>omega
theorem sz_mod (z:Int):sz z%115792089237316195423570985008687907853269984665640564039457584007913129639936=z%115792089237316195423570985008687907853269984665640564039457584007913129639936:=by
 unfold sz;rw [Int.bmod_def];split<;>omega
def mulO (a b:Int):Bool:=decide (¬(-57896044618658097711785492504343953926634992332820282019728792003956564819968≤sz a*sz b∧sz a*sz b<57896044618658097711785492504343953926634992332820282019728792003956564819968))
theorem words_zero (D:Int) (h:sz D=0):wi D 0=0∧wi D 1=0∧wi D 2=0∧wi D 3=0:=by
 have h1:=sz_mod D
 rw [h] at h1
 simp only [wi]
 refine ⟨?_,?_,?_,?_⟩<;>omega
theorem words_z (D:Int) (h:sz D=0):(!wi D 0==0||(!wi D 1==0||(!wi D 2==0||!wi D 3==0)))=false:=by
 obtain ⟨w0,w1,w2,w3⟩:=words_zero D h
 simp [w0,w1,w2,w3]
theorem words_ne (D:Int) (h:¬sz D=0):(!wi D 0==0||(!wi D 1==0||(!wi D 2==0||!wi D 3==0)))=true:=by
 have:=wne D 0
 simp at this
 rw [this]
 have e:sz 0=0:=by decide
 simp [e,h]
theorem prod_same (a b:Int) (h:(ng a==ng b)=true):sz a*sz b=um a*um b:=by
 rw [ng_sz,ng_sz] at h
 simp at h
 unfold um
 by_cases h1:sz a<0
 ·rw [if_pos h1,if_pos (h.1 h1),Int.neg_mul_neg]
 ·rw [if_neg h1,if_neg (fun h2=>h1 (h.2 h2))]
theorem prod_other (a b:Int) (h:(ng a==ng b)=false):sz a*sz b=-(um a*um b):=by
 rw [ng_sz,ng_sz] at h
 simp at h
 unfold um
 by_cases h1:sz a<0
 ·rw [if_pos h1,if_neg (fun h2=>h ⟨fun _=>h2,fun _=>h1⟩),Int.neg_mul,Int.neg_neg]
 ·have h2:sz b<0:=Classical.byContradiction fun h2=>h ⟨fun h3=>absurd h3 h1,fun h3=>absurd h3 h2⟩
  rw [if_neg h1,if_pos h2,Int.mul_neg,Int.neg_neg]
theorem sz_small (D:Int) (h0:0≤D) (h1:¬115792089237316195423570985008687907853269984665640564039457584007913129639936≤D):sz D=if 57896044618658097711785492504343953926634992332820282019728792003956564819968≤D then D - 115792089237316195423570985008687907853269984665640564039457584007913129639936 else D:=by
 unfold sz;rw [Int.bmod_def];split<;>split<;>omega
theorem sz_negl (D:Int) (h0:0≤D) (h1:¬115792089237316195423570985008687907853269984665640564039457584007913129639936≤D):sz (-D)=if 57896044618658097711785492504343953926634992332820282019728792003956564819968<D then 115792089237316195423570985008687907853269984665640564039457584007913129639936 - D else -D:=by
 unfold sz;rw [Int.bmod_def];split<;>split<;>omega

theorem wlow_ret (z:Int):Ret Tryz.prog G0 121 #[wd z] (.bool (ng z)):=by
 refine ret_of G0F Tryz.func121 rfl Tryz.call121 rfl (by simp) (by simp [Tryz.ntmps121]) ?_
 intro C hC _ hY
 repeat' (first|refine gwA ?_|(refine gwX ?_;intro Q hQ hP;simp [hC,hY];refine hQ _ _ _ _ (by kernel_rfl) ?_;clear hQ hP Q)|(refine gwC ?_ ?_<;>(intro hb;try (cases hb;done))))
 refine ⟨.inr trivial,?_⟩
 have:=wi_ge z 3
 have:=wi_lt z 3
 simp [Tryz.results121,ng]
 rw [Int.bmod_def]
 split<;>omega
@[simp] theorem wlow (z:Int) (K:Value→Prop):callK Tryz.prog G0 121 #[Value.agg #[.int .u64 (wi (z) 0),.int .u64 (wi (z) 1),.int .u64 (wi (z) 2),.int .u64 (wi (z) 3)]] K↔K (.bool (ng z)):=callK_iff G0W (by kernel_rfl) (wlow_ret z)

theorem add64_ret (x y c:Int) (hx:0≤x) (hy:0≤y) (h0:0≤c) (h1:c≤1):RetV Tryz.prog 124 #[.int .u64 x,.int .u64 y,.int .u64 c] (.tuple #[.int .u64 ((x+y+c)%18446744073709551616),.int .u64 ((x+y+c) / 18446744073709551616)]):=by
 refine ⟨by simp,by simp,fun w=>?_⟩
 rw [run_callFunc_extern Tryz.func124 (by kernel_rfl) (by kernel_rfl) (by kernel_rfl) (e:=add64Entry) (by kernel_rfl),run_add64 x y c hx hy h0 h1]
 simp only [Result.andThen]
@[simp] theorem add64 (x y c:Int) (hx:0≤x) (hy:0≤y) (h0:0≤c) (h1:c≤1) (K:Value→Prop):callK Tryz.prog G0 124 #[.int .u64 x,.int .u64 y,.int .u64 c] K↔K (.tuple #[.int .u64 ((x+y+c)%18446744073709551616),.int .u64 ((x+y+c) / 18446744073709551616)]):=callK_iffV (add64_ret x y c hx hy h0 h1)

def wb (z:Int):Blk:=⟨#[.int .u64 (wi z 0),.int .u64 (wi z 1),.int .u64 (wi z 2),.int .u64 (wi z 3)],.ty 86⟩
theorem words_new (a b:Int) (k:Nat) (h100:100≤k):Fun Tryz.prog G0 145 #[wd a,wd b] G0 [] (.new (.func (.func 155) #[] #[.pointer (some ⟨k,0,none⟩),.pointer (some ⟨k+1,0,none⟩)]) [(k,wb a),(k+1,wb b)]):=by
 have e0:rst G0 []=G0:=rst_G G0F []
 refine new_of (B:=200) (fun j=>if j=k then 200 else if j=k+1 then 208 else j) G0F (fun _ _=>rfl) Tryz.func145 rfl Tryz.call145 (by simp [idsV,idsA,idsF,ids0]) (by rw [e0];exact G0_closed _) ?_ (by simp [Tryz.ntmps145]) (by omega) (by rw [e0];exact fun x hx=>G0_big x (by omega)) (fun j hj=>?_) ?_ ?_ ?_ ?_
 ·refine ⟨by simp [idsV,idsA,idsF,ids0,extD,keys],by simp [keys];omega,fun q b c h1 h2=>?_⟩
  simp at h1 h2
  rcases h1 with ⟨e1,rfl⟩|⟨e1,rfl⟩<;>rcases h2 with ⟨e2,rfl⟩|⟨e2,rfl⟩<;>first|rfl|omega
 ·rw [e0] at hj;have:=G0_dom hj;rw [if_neg (by omega),if_neg (by omega)]
 ·simp [e0,dom]
 ·simp
 ·simp [wb,ids_lit,idsF,ids0]
 ·intro C hC hC0 hY
  rw [e0]
  repeat' (first|refine gwA ?_|(refine gwX ?_;intro Q hQ hP;simp [hC,hY];refine hQ _ _ _ _ (by kernel_rfl) ?_;clear hQ hP Q)|(refine gwC ?_ ?_<;>(intro hb;try (cases hb;done))))
  refine ⟨.inr trivial,?_⟩
  simp [Tryz.results145,ren,renA,renF,ren0,wb]
  intro j hj
  have:=G0_dom hj
  rw [if_neg (by omega),if_neg (by omega)]
def wordsXs (a b:Int):List (Array Value):=[#[.int .u64 (wi a 0),.int .u64 (wi b 0)],#[.int .u64 (wi a 1),.int .u64 (wi b 1)],#[.int .u64 (wi a 2),.int .u64 (wi b 2)],#[.int .u64 (wi a 3),.int .u64 (wi b 3)]]

def wHp (a b:Int):Hp:=hpL G0 [(100,wb a),(101,wb b)]
def wordsSt (a b:Int) (l i:Nat):GS :=
 ⟨tsL [(0,.func (.yield l) #[] #[]),(1,.pointer (some ⟨100,0,none⟩)),(2,.pointer (some ⟨101,0,none⟩)),(5,.int .i64 i)],wHp a b,300,i⟩
theorem words_it (a b:Int):IterG Tryz.prog G0 155 #[.pointer (some ⟨100,0,none⟩),.pointer (some ⟨101,0,none⟩)] (wHp a b) [100,101] (wordsXs a b):=by
 have e0:rst (wHp a b) [100,101]=wHp a b:=hpL_rst G0F (by simp)
 refine iter_of (B:=200) (v:=.tuple #[]) G0F (fun k hk=>hpL_low (by simp) hk) Tryz.func155 rfl Tryz.call155 ?_ ?_ (by simp [Tryz.ntmps155]) (by omega) ?_ ?_
 ·rw [e0];simp [idsV,idsA,idsF,ids0,dom,wHp]
 ·rw [e0]
  intro k c hk
  rcases hpL_mem hk with h|h
  ·simp at h
   rcases h with ⟨_,rfl⟩|⟨_,rfl⟩<;>simp [wb,ids_lit,idsF,ids0]
  ·exact Blk.flat_ids ((G0F k c h).2)
 ·rw [e0]
  intro x hx
  have h1:¬x=100:=by omega
  have h2:¬x=101:=by omega
  have h3:100≤x:=by omega
  simp [wHp,h1,h2,h3]
 ·intro C l stop hC hC0 hY
  rw [e0] at hC0 ⊢
  repeat' (first|refine gwA ?_|(refine gwX ?_;intro Q hQ hP;simp [hC,hY,wHp,wb];refine hQ _ _ _ _ (by kernel_rfl) ?_;clear hQ hP Q)|(refine gwC ?_ ?_<;>(intro hb;try (cases hb;done))))
  refine GW_for (min stop 4) (wordsSt a b l) ?_ ?_ ?_
  ·refine weakL _ 300 hC G0F (m0:=[(100,wb a),(101,wb b)]) hC0 (by omega) ?_ ?_ ?_
   ·simp [idsV,idsA,idsF,ids0,dom]
   ·simp [ids_lit,idsF,ids0,wb]
   ·simp [wb]
  ·intro i hi
   have hs:i<stop:=by omega
   have hq:(i != stop)=true:=by simp;omega
   have hle:i≤stop:=by omega
   have:i=0∨i=1∨i=2∨i=3:=by omega
   rcases this with rfl|rfl|rfl|rfl<;>unfold wordsSt wHp
   all_goals
    repeat' (first|refine gwA ?_|(refine gwX ?_;intro Q hQ hP;simp [hC,hY,wordsXs,hq,hle,wb];refine hQ _ _ _ _ (by kernel_rfl) ?_;clear hQ hP Q)|(refine gwC ?_ ?_<;>(intro hb;try (cases hb;done))))
   all_goals
    refine weakL _ 300 hC G0F (m0:=[(100,wb a),(101,wb b)]) hC0 (by omega) ?_ ?_ ?_
    ·simp [idsV,idsA,idsF,ids0,dom]
    ·simp [ids_lit,idsF,ids0,wb]
    ·simp [wb]
  ·by_cases h4:4≤stop
   ·rw [Nat.min_eq_right h4]
    unfold wordsSt wHp
    repeat' (first|refine gwA ?_|(refine gwX ?_;intro Q hQ hP;simp [hC,hY,wordsXs,wb];refine hQ _ _ _ _ (by kernel_rfl) ?_;clear hQ hP Q)|(refine gwC ?_ ?_<;>(intro hb;try (cases hb;done))))
    refine ⟨.inl trivial,?_⟩
    simp [Tryz.results155,wordsXs]
    omega
   ·rw [Nat.min_eq_left (by omega)]
    have:stop=0∨stop=1∨stop=2∨stop=3:=by omega
    rcases this with rfl|rfl|rfl|rfl<;>unfold wordsSt wHp
    all_goals
     repeat' (first|refine gwA ?_|(refine gwX ?_;intro Q hQ hP;simp [hC,hY,wordsXs,wb];refine hQ _ _ _ _ (by kernel_rfl) ?_;clear hQ hP Q)|(refine gwC ?_ ?_<;>(intro hb;try (cases hb;done))))
    all_goals
     refine ⟨.inr trivial,?_⟩
     simp [Tryz.results155,wordsXs]

theorem pow64 (i:Nat):(2:Int)^(64*i)=2^(32*(2*i)):=by congr 1;omega
theorem wadd (a b c:Int) (i:Nat):(wi a i+wi b i+car a b c (2*i))%18446744073709551616=wi (a+b+c) i:=by
 unfold wi car
 rw [pow64,ediv_split a b c _ (pow32_pos (2*i))]
 omega
theorem wcar (a b c:Int) (i:Nat):(wi a i+wi b i+car a b c (2*i)) / 18446744073709551616=car a b c (2*(i+1)):=by
 unfold wi car
 have e:(2:Int)^(32*(2*(i+1)))=2^(32*(2*i))*18446744073709551616:=by
  rw [show 32*(2*(i+1))=32*(2*i)+64 by omega,Int.pow_add];rfl
 rw [pow64,e,emod_mul a _ _ (pow32_pos (2*i)) (by omega),emod_mul b _ _ (pow32_pos (2*i)) (by omega)]
 generalize hM:(2:Int)^(32*(2*i))=M
 have hp:0<M:=hM▸pow32_pos (2*i)
 have e:a%M+M*(a / M%18446744073709551616)+(b%M+M*(b / M%18446744073709551616))+c=(a%M+b%M+c)+M*(a / M%18446744073709551616+b / M%18446744073709551616):=by rw [Int.mul_add];omega
 rw [e,←Int.ediv_ediv_of_nonneg (Int.le_of_lt hp),Int.add_mul_ediv_left _ _ (by omega)]
 congr 1
 omega

theorem IterG.cast {P:Program} {G:Hp} {f:FuncId} {caps caps':Array Value} {hp:Hp} {rs rs':List Nat} {xs:List (Array Value)} (h:IterG P G f caps hp rs xs) (e1:caps=caps') (e2:rs=rs'):IterG P G f caps' hp rs' xs:=by subst e1 e2;exact h

theorem tsL_ids {D:Nat→Prop} {l:List (Nat×Value)} (h:∀ p∈l,idsV D p.2) (t:Nat):idsV D (tsL l t):=by
 rcases tsL_mem (l:=l) (t:=t) with e|e
 ·rw [e];simp [junk,idsV,idsA,idsF,ids0]
 ·exact h _ e
def plHp (a b c:Int) (i:Nat):Hp:=hpL G0 [(200,wb a),(208,wb b),(216,⟨#[.int .u64 (car a b c (2*i))],.ty 84⟩),
 (224,⟨#[.int .u64 (if 0<i then wi (a+b+c) 0 else 0),.int .u64 (if 1<i then wi (a+b+c) 1 else 0),.int .u64 (if 2<i then wi (a+b+c) 2 else 0),.int .u64 (if 3<i then wi (a+b+c) 3 else 0)],.ty 86⟩),
 (232,⟨#[.int .i64 i],.ty 3⟩)]
def plTs:Nat→Value:=tsL [(3,.pointer (some ⟨200,0,none⟩)),(4,.pointer (some ⟨208,0,none⟩)),(5,.pointer (some ⟨216,0,none⟩)),(6,.pointer (some ⟨224,0,none⟩)),(7,.pointer (some ⟨232,0,none⟩))]
theorem wplus_ret (a b c:Int) (h0:0≤c) (h1:c≤1):Ret Tryz.prog G0 137 #[wd a,wd b,.int .u64 c] (wd (a+b+c)):=by
 refine ret_of G0F Tryz.func137 rfl Tryz.call137 (by simp) (by simp) (by simp [Tryz.ntmps137]) ?_
 intro C hC hC0 hY
 repeat' (first|refine gwA ?_|(refine gwX ?_;intro Q hQ hP;simp [hC,hY];refine hQ _ _ _ _ (by kernel_rfl) ?_;clear hQ hP Q)|(refine gwC ?_ ?_<;>(intro hb;try (cases hb;done))))
 refine GW_region' [145] (by kernel_rfl) ?_;intro Q hQ hP;simp [hC,hY]
 refine heapK_of (words_new a b 264 (by omega)) (by simp) (fun _ _=>rfl) (by simp [Res.at]) ?_
 simp
 refine hQ _ _ _ _ ?_;clear hQ hP Q
 repeat' (first|refine gwA ?_|(refine gwX ?_;intro Q hQ hP;simp [hC,hY];refine hQ _ _ _ _ (by kernel_rfl) ?_;clear hQ hP Q)|(refine gwC ?_ ?_<;>(intro hb;try (cases hb;done))))
 refine GW_range (f:=155) (rs:=[264,265]) (xs:=wordsXs a b) (caps:=#[.pointer (some ⟨264,0,none⟩),.pointer (some ⟨265,0,none⟩)]) (by simp) ?_ (by simp [wordsXs]) (by simp [Tryz.ntmps137]) plTs (plHp a b c) 300 4 (by simp [wordsXs]) ?_ ?_ ?_ ?_ ?_
 ·rw [hC]
  refine IterG.cast (IterX.rn (fun k=>if k=100 then 264 else if k=101 then 265 else k) G0F (fun k hk=>hpL_low (by simp) hk) (rs:=[100,101]) ?_ (words_it a b)) (by simp [ren0]) (by simp)
  refine ⟨fun k hk=>?_,?_,?_,?_⟩
  ·have h1:¬k=100:=by omega
   have h2:¬k=101:=by omega
   have h3:¬k=200:=by omega
   have h4:¬k=208:=by omega
   have h5:¬k=216:=by omega
   have h6:¬k=224:=by omega
   have h7:¬k=232:=by omega
   have h8:¬k=264:=by omega
   have h9:¬k=265:=by omega
   simp [h1,h2,h3,h4,h5,h6,h7,h8,h9,wHp]
  ·simp
  ·simp [wHp,wb,Blk.rn,renF,ren0]
  ·simp
 ·refine weakL _ 300 hC G0F (m0:=[]) hC0 (by omega) ?_ ?_ ?_
  ·simp [idsV,idsA,idsF,ids0,dom]
  ·simp [ids_lit,idsF,ids0,wb,car_zero]
  ·simp
 ·simp [plHp,dom]
 ·intro i hi t
  refine tsL_ids ?_ t
  simp [idsV,idsA,idsF,ids0,dom,plHp]
 ·intro i x hi hx C1 l hC1 hh1 hY1
  have hCC:=hC
  have hC1':C1.G=G0:=hC1.trans hC
  have c0:=fun k=>(car_bd a b c h0 h1 k).1
  have c1:=fun k=>(car_bd a b c h0 h1 k).2
  have A0:(wi a 0+wi b 0+car a b c 0)%18446744073709551616=wi (a+b+c) 0:=wadd a b c 0
  have A1:(wi a 1+wi b 1+car a b c 2)%18446744073709551616=wi (a+b+c) 1:=wadd a b c 1
  have A2:(wi a 2+wi b 2+car a b c 4)%18446744073709551616=wi (a+b+c) 2:=wadd a b c 2
  have A3:(wi a 3+wi b 3+car a b c 6)%18446744073709551616=wi (a+b+c) 3:=wadd a b c 3
  have B0:(wi a 0+wi b 0+car a b c 0) / 18446744073709551616=car a b c 2:=wcar a b c 0
  have B1:(wi a 1+wi b 1+car a b c 2) / 18446744073709551616=car a b c 4:=wcar a b c 1
  have B2:(wi a 2+wi b 2+car a b c 4) / 18446744073709551616=car a b c 6:=wcar a b c 2
  have B3:(wi a 3+wi b 3+car a b c 6) / 18446744073709551616=car a b c 8:=wcar a b c 3
  replace hC:=hC1'
  replace hY:=hY1
  have:i=0∨i=1∨i=2∨i=3:=by omega
  rcases this with rfl|rfl|rfl|rfl
  all_goals
   simp [wordsXs] at hx
   subst hx
   unfold plHp
  all_goals
   repeat' (first|refine gwA ?_|(refine gwX ?_;intro Q hQ hP;simp [hC,hY,roundTs,plTs];refine hQ _ _ _ _ (by kernel_rfl) ?_;clear hQ hP Q)|(refine gwC ?_ ?_<;>(intro hb;try (cases hb;done))))
  all_goals
   intro C2 hC2 hh2 hY2
   replace hC:C2.G=G0:=hC2.trans hCC
   replace hY:=hY2
   repeat' (first|refine gwA ?_|(refine gwX ?_;intro Q hQ hP;simp [hC,hY,roundTs,plTs,c0,c1,wi_ge,A0,A1,A2,A3,B0,B1,B2,B3];refine hQ _ _ _ _ (by kernel_rfl) ?_;clear hQ hP Q)|(refine gwC ?_ ?_<;>(intro hb;try (cases hb;done))))
  all_goals
   refine weakL [] 300 hC1' G0F hh1 (by omega) ?_ ?_ ?_
   ·simp
   ·simp [ids_lit,idsF,ids0,wb]
   ·simp [wb]
 ·left
  refine ⟨rfl,?_⟩
  unfold plHp plTs
  repeat' (first|refine gwA ?_|(refine gwX ?_;intro Q hQ hP;simp [hC,hY];refine hQ _ _ _ _ (by kernel_rfl) ?_;clear hQ hP Q)|(refine gwC ?_ ?_<;>(intro hb;try (cases hb;done))))
  refine ⟨.inr trivial,?_⟩
  simp [Tryz.results137]
@[simp] theorem wplus (a b c:Int) (h0:0≤c) (h1:c≤1) (K:Value→Prop):callK Tryz.prog G0 137 #[Value.agg #[.int .u64 (wi (a) 0),.int .u64 (wi (a) 1),.int .u64 (wi (a) 2),.int .u64 (wi (a) 3)],Value.agg #[.int .u64 (wi (b) 0),.int .u64 (wi (b) 1),.int .u64 (wi (b) 2),.int .u64 (wi (b) 3)],.int .u64 c] K↔K (wd (a+b+c)):=callK_iff G0W (by kernel_rfl) (wplus_ret a b c h0 h1)

theorem wadd_ret (a b:Int):Ret Tryz.prog G0 118 #[wd a,wd b] (.tuple #[wd (a+b),.bool (ng a==ng b&&ng (a+b) != ng a)]):=by
 refine ret_of G0F Tryz.func118 rfl Tryz.call118 (by simp) (by simp) (by simp [Tryz.ntmps118]) ?_
 intro C hC hC0 hY
 cases hq:(ng a==ng b)
 all_goals
  repeat' (first|refine gwA ?_|(refine gwX ?_;intro Q hQ hP;simp [hC,hY,hq];refine hQ _ _ _ _ (by kernel_rfl) ?_;clear hQ hP Q)|(refine gwC ?_ ?_<;>(intro hb;try (cases hb;done))))
  refine ⟨.inr trivial,?_⟩
  simp [Tryz.results118,hq]
@[simp] theorem wAdd (a b:Int) (K:Value→Prop):callK Tryz.prog G0 118 #[Value.agg #[.int .u64 (wi (a) 0),.int .u64 (wi (a) 1),.int .u64 (wi (a) 2),.int .u64 (wi (a) 3)],Value.agg #[.int .u64 (wi (b) 0),.int .u64 (wi (b) 1),.int .u64 (wi (b) 2),.int .u64 (wi (b) 3)]] K↔K (.tuple #[wd (a+b),.bool (ng a==ng b&&ng (a+b) != ng a)]):=callK_iff G0W (by kernel_rfl) (wadd_ret a b)
theorem wof_ret (n:Int) (h:i64 n):Ret Tryz.prog G0 92 #[.int .i64 n] (wd n):=by
 refine ret_of G0F Tryz.func92 rfl Tryz.call92 (by simp) (by simp) (by simp [Tryz.ntmps92]) ?_
 intro C hC hC0 hY
 repeat' (first|refine gwA ?_|(refine gwX ?_;intro Q hQ hP;simp [hC,hY];refine hQ _ _ _ _ (by kernel_rfl) ?_;clear hQ hP Q)|(refine gwC ?_ ?_<;>(intro hb;try (cases hb;done))))
 refine ⟨.inr trivial,?_⟩
 simp [Tryz.results92,wi]
 unfold i64 at h
 rw [Int.fdiv_eq_ediv_of_nonneg _ (by omega)]
 by_cases hn:n<0
 ·have e1:n / 9223372036854775808=-1:=by omega
  have e2:n / 18446744073709551616=-1:=by omega
  have e3:n / 340282366920938463463374607431768211456=-1:=by omega
  have e4:n / 6277101735386680763835789423207666416102355444464034512896=-1:=by omega
  rw [e1,e2,e3,e4];decide
 ·have e1:n / 9223372036854775808=0:=by omega
  have e2:n / 18446744073709551616=0:=by omega
  have e3:n / 340282366920938463463374607431768211456=0:=by omega
  have e4:n / 6277101735386680763835789423207666416102355444464034512896=0:=by omega
  rw [e1,e2,e3,e4];decide
@[simp] theorem wOf (n:Int) (h:i64 n) (K:Value→Prop):callK Tryz.prog G0 92 #[.int .i64 n] K↔K (wd n):=callK_iff G0W (by kernel_rfl) (wof_ret n h)
theorem xor_ones (x:Int) (h0:0≤x) (h1:x<18446744073709551616):bitI .xor .u64 IntKind.u64.max x=18446744073709551615 - x:=by
 have e:BitVec.ofInt 64 IntKind.u64.max=BitVec.allOnes 64:=by decide
 unfold bitI
 show IntKind.u64.wrap ((BitVec.ofInt 64 IntKind.u64.max ^^^ BitVec.ofInt 64 x:BitVec 64).toNat:Int)=_
 rw [wrap_u64,e,BitVec.allOnes_xor,BitVec.toNat_not]
 have:(BitVec.ofInt 64 x).toNat=x.toNat:=by
  rw [BitVec.toNat_ofInt]
  congr 1
  exact Int.emod_eq_of_lt h0 h1
 rw [this]
 omega
theorem wnotw (z:Int) (k:Nat):18446744073709551615 - wi z k=wi (-z - 1) k:=by
 unfold wi
 generalize hM:(2:Int)^(64*k)=M
 have hp:0<M:=by rw [←hM,pow64];exact pow32_pos _
 have e:(-z - 1) / M=-(z / M) - 1:=by
  have h1:=Int.emod_add_mul_ediv z M
  have h2:=Int.emod_nonneg z (b:=M) (by omega)
  have h3:=Int.emod_lt_of_pos z hp
  have:-z - 1=(M - 1 - z%M)+M*(-(z / M) - 1):=by rw [Int.mul_sub,Int.mul_neg];omega
  rw [this,Int.add_mul_ediv_left _ _ (by omega),Int.ediv_eq_zero_of_lt (by omega) (by omega)]
  omega
 rw [e]
 omega
theorem wnot_ret (z:Int):Ret Tryz.prog G0 144 #[wd z] (wd (-z - 1)):=by
 refine ret_of G0F Tryz.func144 rfl Tryz.call144 (by simp) (by simp) (by simp [Tryz.ntmps144]) ?_
 intro C hC hC0 hY
 repeat' (first|refine gwA ?_|(refine gwX ?_;intro Q hQ hP;simp [hC,hY];refine hQ _ _ _ _ (by kernel_rfl) ?_;clear hQ hP Q)|(refine gwC ?_ ?_<;>(intro hb;try (cases hb;done))))
 refine ⟨.inr trivial,?_⟩
 have e:(if IntKind.u64.signed=true then (-1:Int) else IntKind.u64.max)=IntKind.u64.max:=rfl
 have X:=fun k=>xor_ones (wi z k) (wi_ge z k) (wi_lt z k)
 simp [Tryz.results144,e,X,wnotw]
@[simp] theorem wNot (z:Int) (K:Value→Prop):callK Tryz.prog G0 144 #[Value.agg #[.int .u64 (wi (z) 0),.int .u64 (wi (z) 1),.int .u64 (wi (z) 2),.int .u64 (wi (z) 3)]] K↔K (wd (-z - 1)):=callK_iff G0W (by kernel_rfl) (wnot_ret z)
theorem wsub_ret (a b:Int):Ret Tryz.prog G0 136 #[wd a,wd b] (.tuple #[wd (a - b),.bool (ng a != ng b&&ng (a - b) != ng a)]):=by
 refine ret_of G0F Tryz.func136 rfl Tryz.call136 (by simp) (by simp) (by simp [Tryz.ntmps136]) ?_
 intro C hC hC0 hY
 have e:a+(-b - 1)+1=a - b:=by omega
 cases hq:(ng a != ng b)
 all_goals
  repeat' (first|refine gwA ?_|(refine gwX ?_;intro Q hQ hP;simp [hC,hY,hq,e];refine hQ _ _ _ _ (by kernel_rfl) ?_;clear hQ hP Q)|(refine gwC ?_ ?_<;>(intro hb;try (cases hb;done))))
  refine ⟨.inr trivial,?_⟩
  simp [Tryz.results136,hq,e]
@[simp] theorem wSub (a b:Int) (K:Value→Prop):callK Tryz.prog G0 136 #[Value.agg #[.int .u64 (wi (a) 0),.int .u64 (wi (a) 1),.int .u64 (wi (a) 2),.int .u64 (wi (a) 3)],Value.agg #[.int .u64 (wi (b) 0),.int .u64 (wi (b) 1),.int .u64 (wi (b) 2),.int .u64 (wi (b) 3)]] K↔K (.tuple #[wd (a - b),.bool (ng a != ng b&&ng (a - b) != ng a)]):=callK_iff G0W (by kernel_rfl) (wsub_ret a b)
theorem wint_ret (z:Int):Ret Tryz.prog G0 73 #[wd z] (.tuple #[.int .i64 (if i64 (sz z) then sz z else 0),.bool (decide (i64 (sz z)))]):=by
 refine ret_of G0F Tryz.func73 rfl Tryz.call73 (by simp) (by simp) (by simp [Tryz.ntmps73]) ?_
 intro C hC hC0 hY
 have h:=bmod_i64 (wi z 0)
 repeat' (first|refine gwA ?_|(refine gwX ?_;intro Q hQ hP;simp [hC,hY,h];refine hQ _ _ _ _ (by kernel_rfl) ?_;clear hQ hP Q)|(refine gwC ?_ ?_<;>(intro hb;try (cases hb;done))))
 all_goals
  refine ⟨.inr trivial,?_⟩
  try rw [wne] at hb
  try rw [weq] at hb
  simp at hb
  rw [eq_comm,int_is] at hb
  simp [Tryz.results73,hb]
 exact int_val z hb

theorem ng_zero:ng 0=false:=by decide
@[simp] theorem wSubz (a:Int) (K:Value→Prop):callK Tryz.prog G0 136 #[.agg #[.int .u64 0,.int .u64 0,.int .u64 0,.int .u64 0],Value.agg #[.int .u64 (wi (a) 0),.int .u64 (wi (a) 1),.int .u64 (wi (a) 2),.int .u64 (wi (a) 3)]] K↔K (.tuple #[wd (-a),.bool (ng a&&ng (-a))]):=by
 have:=wSub 0 a K
 have e:((false != ng a)&&ng (0 - a) != false)=(ng a&&ng (-a)):=by
  rw [Int.zero_sub];cases ng a<;>cases ng (-a)<;>rfl
 rw [ng_zero,e,Int.zero_sub] at this
 simpa using this
theorem wneg_ret (a:Int):Ret Tryz.prog G0 122 #[wd a] (.tuple #[wd (-a),.bool (ng a&&ng (-a))]):=by
 refine ret_of G0F Tryz.func122 rfl Tryz.call122 (by simp) (by simp) (by simp [Tryz.ntmps122]) ?_
 intro C hC hC0 hY
 repeat' (first|refine gwA ?_|(refine gwX ?_;intro Q hQ hP;simp [hC,hY];refine hQ _ _ _ _ (by kernel_rfl) ?_;clear hQ hP Q)|(refine gwC ?_ ?_<;>(intro hb;try (cases hb;done))))
 refine ⟨.inr trivial,?_⟩
 simp [Tryz.results122]
@[simp] theorem wNeg (a:Int) (K:Value→Prop):callK Tryz.prog G0 122 #[Value.agg #[.int .u64 (wi (a) 0),.int .u64 (wi (a) 1),.int .u64 (wi (a) 2),.int .u64 (wi (a) 3)]] K↔K (.tuple #[wd (-a),.bool (ng a&&ng (-a))]):=callK_iff G0W (by kernel_rfl) (wneg_ret a)

theorem nani_ret (x:Int):Ret Tryz.prog G0 156 #[.int .i64 x] (.bool false):=by
 refine ret_of G0F Tryz.func156 rfl Tryz.call156 rfl (by simp) (by simp [Tryz.ntmps156]) ?_
 intro C hC hC0 hY
 repeat' (first|refine gwA ?_|(refine gwX ?_;intro Q hQ hP;simp [hC,hY];refine hQ _ _ _ _ (by kernel_rfl) ?_;clear hQ hP Q)|(refine gwC ?_ ?_<;>(intro hb;try (cases hb;done))))
 refine ⟨.inr trivial,?_⟩
 simp [Tryz.results156]
@[simp] theorem nani (x:Int) (K:Value→Prop):callK Tryz.prog G0 156 #[.int .i64 x] K↔K (.bool false):=callK_iff G0W (by kernel_rfl) (nani_ret x)
theorem nanu_ret (x:Int):Ret Tryz.prog G0 157 #[.int .u64 x] (.bool false):=by
 refine ret_of G0F Tryz.func157 rfl Tryz.call157 rfl (by simp) (by simp [Tryz.ntmps157]) ?_
 intro C hC hC0 hY
 repeat' (first|refine gwA ?_|(refine gwX ?_;intro Q hQ hP;simp [hC,hY];refine hQ _ _ _ _ (by kernel_rfl) ?_;clear hQ hP Q)|(refine gwC ?_ ?_<;>(intro hb;try (cases hb;done))))
 refine ⟨.inr trivial,?_⟩
 simp [Tryz.results157]
@[simp] theorem nanu (x:Int) (K:Value→Prop):callK Tryz.prog G0 157 #[.int .u64 x] K↔K (.bool false):=callK_iff G0W (by kernel_rfl) (nanu_ret x)
theorem cmpi_ret (x y:Int):Ret Tryz.prog G0 146 #[.int .i64 x,.int .i64 y] (.int .i64 (cmpI x y)):=by
 refine ret_of G0F Tryz.func146 rfl Tryz.call146 rfl (by simp) (by simp [Tryz.ntmps146]) ?_
 intro C hC hC0 hY
 by_cases h1:x<y
 ·(repeat' (first|refine gwA ?_|(refine gwX ?_;intro Q hQ hP;simp [hC,hY,h1];refine hQ _ _ _ _ (by kernel_rfl) ?_;clear hQ hP Q)|(refine gwC ?_ ?_<;>(intro hb;try (cases hb;done)))))
  all_goals
   refine ⟨.inr trivial,?_⟩
   simp [Tryz.results146,cmpI,h1]
 ·by_cases h2:y<x
  ·have h3:¬x=y:=by omega
   (repeat' (first|refine gwA ?_|(refine gwX ?_;intro Q hQ hP;simp [hC,hY,h1,h2];refine hQ _ _ _ _ (by kernel_rfl) ?_;clear hQ hP Q)|(refine gwC ?_ ?_<;>(intro hb;try (cases hb;done)))))
   all_goals
    refine ⟨.inr trivial,?_⟩
    simp [Tryz.results146,cmpI,h1,h3]
  ·have h3:x=y:=by omega
   subst h3
   (repeat' (first|refine gwA ?_|(refine gwX ?_;intro Q hQ hP;simp [hC,hY,h1];refine hQ _ _ _ _ (by kernel_rfl) ?_;clear hQ hP Q)|(refine gwC ?_ ?_<;>(intro hb;try (cases hb;done)))))
   all_goals
    refine ⟨.inr trivial,?_⟩
    simp [Tryz.results146,cmpI]
@[simp] theorem cmpi (x y:Int) (K:Value→Prop):callK Tryz.prog G0 146 #[.int .i64 x,.int .i64 y] K↔K (.int .i64 (cmpI x y)):=callK_iff G0W (by kernel_rfl) (cmpi_ret x y)
theorem cmpu_ret (x y:Int):Ret Tryz.prog G0 147 #[.int .u64 x,.int .u64 y] (.int .i64 (cmpI x y)):=by
 refine ret_of G0F Tryz.func147 rfl Tryz.call147 rfl (by simp) (by simp [Tryz.ntmps147]) ?_
 intro C hC hC0 hY
 by_cases h1:x<y
 ·(repeat' (first|refine gwA ?_|(refine gwX ?_;intro Q hQ hP;simp [hC,hY,h1];refine hQ _ _ _ _ (by kernel_rfl) ?_;clear hQ hP Q)|(refine gwC ?_ ?_<;>(intro hb;try (cases hb;done)))))
  all_goals
   refine ⟨.inr trivial,?_⟩
   simp [Tryz.results147,cmpI,h1]
 ·by_cases h2:y<x
  ·have h3:¬x=y:=by omega
   (repeat' (first|refine gwA ?_|(refine gwX ?_;intro Q hQ hP;simp [hC,hY,h1,h2];refine hQ _ _ _ _ (by kernel_rfl) ?_;clear hQ hP Q)|(refine gwC ?_ ?_<;>(intro hb;try (cases hb;done)))))
   all_goals
    refine ⟨.inr trivial,?_⟩
    simp [Tryz.results147,cmpI,h1,h3]
  ·have h3:x=y:=by omega
   subst h3
   (repeat' (first|refine gwA ?_|(refine gwX ?_;intro Q hQ hP;simp [hC,hY,h1];refine hQ _ _ _ _ (by kernel_rfl) ?_;clear hQ hP Q)|(refine gwC ?_ ?_<;>(intro hb;try (cases hb;done)))))
   all_goals
    refine ⟨.inr trivial,?_⟩
    simp [Tryz.results147,cmpI]
@[simp] theorem cmpu (x y:Int) (K:Value→Prop):callK Tryz.prog G0 147 #[.int .u64 x,.int .u64 y] K↔K (.int .i64 (cmpI x y)):=callK_iff G0W (by kernel_rfl) (cmpu_ret x y)

def cmpN (a b:Int) (j:Nat):Int:=if j=0 then cmpI (Int.bmod (wi a 3) 18446744073709551616) (Int.bmod (wi b 3) 18446744073709551616) else cmpI (wi a (3 - j)) (wi b (3 - j))
def wcmpSt (a b:Int) (j:Nat):GS :=
 ⟨tsL [(2,.pointer (some ⟨200,0,none⟩)),(3,.pointer (some ⟨208,0,none⟩)),(5,.int .i64 (cmpN a b j)),(6,.int .i64 (2 - j))],hpL G0 [(200,wb a),(208,wb b)],300,0⟩
theorem cmpI_0 {x y:Int}:cmpI x y=0↔x=y:=by unfold cmpI;split<;>(try split)<;>omega
theorem bm3 (z:Int):Int.bmod (wi z 3) 18446744073709551616=wi z 3 - (if ng z then 18446744073709551616 else 0):=by
 have:=wi_ge z 3;have:=wi_lt z 3
 rw [Int.bmod_def];unfold ng;simp only [decide_eq_true_eq];split<;>split<;>omega
theorem sz_hi (z:Int):∃ r,sz z=Int.bmod (wi z 3) 18446744073709551616*6277101735386680763835789423207666416102355444464034512896+r∧r=wi z 0+18446744073709551616*wi z 1+340282366920938463463374607431768211456*wi z 2∧0≤r∧r<6277101735386680763835789423207666416102355444464034512896:=by
 refine ⟨_,?_,rfl,?_,?_⟩
 ·rw [sz_w,bm3];split<;>omega
 ·have:=wi_ge z 0;have:=wi_ge z 1;have:=wi_ge z 2;omega
 ·have:=wi_lt z 0;have:=wi_lt z 1;have:=wi_lt z 2;omega
theorem cmpI_eq {x y u v:Int} (h1:x<y↔u<v) (h2:x=y↔u=v):cmpI x y=cmpI u v:=by
 unfold cmpI;simp only [h1,h2]
theorem cmp_key (a b:Int) (k:Nat) (hk:k=(if cmpN a b 0=0 then if cmpN a b 1=0 then if cmpN a b 2=0 then 3 else 2 else 1 else 0)):cmpN a b k=cmpI (sz a) (sz b):=by
 obtain ⟨r,ea,er,r0,r1⟩:=sz_hi a
 obtain ⟨q,eb,eq,q0,q1⟩:=sz_hi b
 have z0:cmpN a b 0=0↔Int.bmod (wi a 3) 18446744073709551616=Int.bmod (wi b 3) 18446744073709551616:=by simp only [cmpN,if_true,cmpI_0]
 have z1:cmpN a b 1=0↔wi a 2=wi b 2:=by simp [cmpN,cmpI_0]
 have z2:cmpN a b 2=0↔wi a 1=wi b 1:=by simp [cmpN,cmpI_0]
 simp only [z0,z1,z2] at hk
 have:=wi_ge a 0;have:=wi_lt a 0;have:=wi_ge a 1;have:=wi_lt a 1;have:=wi_ge a 2;have:=wi_lt a 2
 have:=wi_ge b 0;have:=wi_lt b 0;have:=wi_ge b 1;have:=wi_lt b 1;have:=wi_ge b 2;have:=wi_lt b 2
 clear z0 z1 z2
 by_cases h0:Int.bmod (wi a 3) 18446744073709551616=Int.bmod (wi b 3) 18446744073709551616
 ·rw [if_pos h0] at hk
  rw [h0] at ea
  by_cases h1:wi a 2=wi b 2
  ·rw [if_pos h1] at hk
   by_cases h2:wi a 1=wi b 1
   ·rw [if_pos h2] at hk
    subst hk
    simp only [cmpN]
    exact cmpI_eq (by first|omega|(simp;omega)) (by first|omega|(simp;omega))
   ·rw [if_neg h2] at hk
    subst hk
    simp only [cmpN]
    exact cmpI_eq (by first|omega|(simp;omega)) (by first|omega|(simp;omega))
  ·rw [if_neg h1] at hk
   subst hk
   simp only [cmpN]
   exact cmpI_eq (by first|omega|(simp;omega)) (by first|omega|(simp;omega))
 ·rw [if_neg h0] at hk
  subst hk
  simp only [cmpN]
  exact cmpI_eq (by first|omega|(simp;omega)) (by first|omega|(simp;omega))
theorem wcmp_ret (a b:Int):Ret Tryz.prog G0 138 #[wd a,wd b] (.int .i64 (cmpI (sz a) (sz b))):=by
 refine ret_of G0F Tryz.func138 rfl Tryz.call138 (by simp) (by simp) (by simp [Tryz.ntmps138]) ?_
 intro C hC hC0 hY
 repeat' (first|refine gwA ?_|(refine gwX ?_;intro Q hQ hP;simp [hC,hY];refine hQ _ _ _ _ (by kernel_rfl) ?_;clear hQ hP Q)|(refine gwC ?_ ?_<;>(intro hb;try (cases hb;done))))
 have e3:∀ z,Int.bmod (wi z 3) 18446744073709551616=wi z 3 - (if ng z then 18446744073709551616 else 0):=fun z=>by
  have:=wi_ge z 3;have:=wi_lt z 3
  rw [Int.bmod_def];unfold ng;simp only [decide_eq_true_eq];split<;>split<;>omega
 refine GW_for (if cmpN a b 0=0 then if cmpN a b 1=0 then if cmpN a b 2=0 then 3 else 2 else 1 else 0) (wcmpSt a b) ?_ ?_ ?_
 ·refine weakL _ 300 hC G0F (m0:=[]) hC0 (by omega) ?_ ?_ ?_
  ·simp [idsV,idsA,idsF,ids0,dom,cmpN]
  ·simp [ids_lit,idsF,ids0,wb]
  ·simp
 ·intro i hi
  have:(i=0∧cmpN a b 0=0)∨(i=1∧cmpN a b 1=0)∨(i=2∧cmpN a b 2=0):=by (repeat' split at hi)<;>omega
  rcases this with ⟨rfl,h⟩|⟨rfl,h⟩|⟨rfl,h⟩<;>unfold wcmpSt
  all_goals
   repeat' (first|refine gwA ?_|(refine gwX ?_;intro Q hQ hP;simp [hC,hY,h,wb];refine hQ _ _ _ _ (by kernel_rfl) ?_;clear hQ hP Q)|(refine gwC ?_ ?_<;>(intro hb;try (cases hb;done))))
  all_goals
   refine weakL _ 300 hC G0F (m0:=[]) hC0 (by omega) ?_ ?_ ?_
   ·simp [idsV,idsA,idsF,ids0,dom,cmpN]
   ·simp [ids_lit,idsF,ids0,wb]
   ·simp
 ·have f1:=sz_w a
  have f2:=sz_w b
  have g1:=e3 a
  have g2:=e3 b
  have:=wi_ge a 0;have:=wi_lt a 0;have:=wi_ge a 1;have:=wi_lt a 1;have:=wi_ge a 2;have:=wi_lt a 2;have:=wi_ge a 3;have:=wi_lt a 3
  have:=wi_ge b 0;have:=wi_lt b 0;have:=wi_ge b 1;have:=wi_lt b 1;have:=wi_ge b 2;have:=wi_lt b 2;have:=wi_ge b 3;have:=wi_lt b 3
  have key:∀ k,k=(if cmpN a b 0=0 then if cmpN a b 1=0 then if cmpN a b 2=0 then 3 else 2 else 1 else 0)→cmpN a b k=cmpI (sz a) (sz b):=fun k hk=>by
   exact cmp_key a b k hk
  have hk:=key _ rfl
  generalize hN:(if cmpN a b 0=0 then if cmpN a b 1=0 then if cmpN a b 2=0 then 3 else 2 else 1 else 0)=N at *
  have hc:cmpN a b N≠0∨N=3:=by (repeat' split at hN)<;>subst hN<;>first|(left;assumption)|(right;rfl)
  by_cases hz:cmpN a b N=0
  ·have h3:N=3:=hc.resolve_left (fun h=>h hz)
   subst h3
   unfold wcmpSt
   repeat' (first|refine gwA ?_|(refine gwX ?_;intro Q hQ hP;simp [hC,hY,hz,wb];refine hQ _ _ _ _ (by kernel_rfl) ?_;clear hQ hP Q)|(refine gwC ?_ ?_<;>(intro hb;try (cases hb;done))))
   refine ⟨.inr trivial,?_⟩
   simp [Tryz.results138,←hk,hz]
  ·have hzb:(cmpN a b N==0)=false:=by simpa using hz
   unfold wcmpSt
   repeat' (first|refine gwA ?_|(refine gwX ?_;intro Q hQ hP;simp [hC,hY,hzb,wb];refine hQ _ _ _ _ (by kernel_rfl) ?_;clear hQ hP Q)|(refine gwC ?_ ?_<;>(intro hb;try (cases hb;done))))
   refine ⟨.inr trivial,?_⟩
   simp [Tryz.results138,hk]
@[simp] theorem wCmp (a b:Int) (K:Value→Prop):callK Tryz.prog G0 138 #[Value.agg #[.int .u64 (wi (a) 0),.int .u64 (wi (a) 1),.int .u64 (wi (a) 2),.int .u64 (wi (a) 3)],Value.agg #[.int .u64 (wi (b) 0),.int .u64 (wi (b) 1),.int .u64 (wi (b) 2),.int .u64 (wi (b) 3)]] K↔K (.int .i64 (cmpI (sz a) (sz b))):=callK_iff G0W (by kernel_rfl) (wcmp_ret a b)
@[simp] theorem wCmpz (a:Int) (K:Value→Prop):callK Tryz.prog G0 138 #[Value.agg #[.int .u64 (wi (a) 0),.int .u64 (wi (a) 1),.int .u64 (wi (a) 2),.int .u64 (wi (a) 3)],.agg #[.int .u64 0,.int .u64 0,.int .u64 0,.int .u64 0]] K↔K (.int .i64 (cmpI (sz a) 0)):=by
 have:=wCmp a 0 K
 have e:sz 0=0:=by decide
 rw [e] at this
 simpa using this
theorem wsign_ret (a:Int):Ret Tryz.prog G0 119 #[wd a] (.int .i64 (cmpI (sz a) 0)):=by
 refine ret_of G0F Tryz.func119 rfl Tryz.call119 (by simp) (by simp) (by simp [Tryz.ntmps119]) ?_
 intro C hC hC0 hY
 repeat' (first|refine gwA ?_|(refine gwX ?_;intro Q hQ hP;simp [hC,hY];refine hQ _ _ _ _ (by kernel_rfl) ?_;clear hQ hP Q)|(refine gwC ?_ ?_<;>(intro hb;try (cases hb;done))))
 refine ⟨.inr trivial,?_⟩
 simp [Tryz.results119]
@[simp] theorem wSign (a:Int) (K:Value→Prop):callK Tryz.prog G0 119 #[Value.agg #[.int .u64 (wi (a) 0),.int .u64 (wi (a) 1),.int .u64 (wi (a) 2),.int .u64 (wi (a) 3)]] K↔K (.int .i64 (cmpI (sz a) 0)):=callK_iff G0W (by kernel_rfl) (wsign_ret a)
end Go.Gy
namespace Go.Gy
open Go Go.RowKit
theorem pow64_pos (i:Nat):(0:Int)<2^(64*i):=Int.pow_pos (by decide)
theorem pow_succ64 (i:Nat):(2:Int)^(64*(i+1))=2^(64*i)*18446744073709551616:=by
 rw [Nat.mul_add,Int.pow_add];rfl
def wprow (A B:Int) (i:Nat):Int:=(A%2^(64*i))*B
def wpcar (A B:Int) (i k:Nat):Int:=(wprow A B i%2^(64*(i+k))+2^(64*i)*wi A i*(B%2^(64*k))) / 2^(64*(i+k))
def wpout (A B:Int) (i k j:Nat):Int:=if i≤j∧j<i+k then wi (wprow A B (i+1)) j else wi (wprow A B i) j
theorem wprow_succ (A B:Int) (i:Nat):wprow A B (i+1)=wprow A B i+2^(64*i)*wi A i*B:=by
 unfold wprow wi
 rw [pow_succ64,emod_mul A _ _ (pow64_pos i) (by omega),Int.add_mul]
theorem wpcar_zero (A B:Int) (i:Nat):wpcar A B i 0=0:=by
 unfold wpcar
 have h1:=Int.emod_lt_of_pos (wprow A B i) (pow64_pos (i+0))
 have h2:=Int.emod_nonneg (wprow A B i) (b:=2^(64*(i+0))) (by have:=pow64_pos (i+0);omega)
 simp only [Nat.mul_zero,Int.pow_zero,Int.emod_one,Int.mul_zero,Int.add_zero]
 exact Int.ediv_eq_zero_of_lt h2 h1
theorem wpcar_bd (A B:Int) (i k:Nat):0≤wpcar A B i k∧wpcar A B i k<18446744073709551616:=by
 unfold wpcar
 have hM:(2:Int)^(64*(i+k))=2^(64*i)*2^(64*k):=by rw [Nat.mul_add,Int.pow_add]
 have p1:=pow64_pos i
 have p2:=pow64_pos k
 have p3:=pow64_pos (i+k)
 generalize hz:wprow A B i=z
 have h1:=Int.emod_lt_of_pos z p3
 have h2:=Int.emod_nonneg z (b:=2^(64*(i+k))) (by omega)
 have h3:=Int.emod_lt_of_pos B p2
 have h4:=Int.emod_nonneg B (b:=2^(64*k)) (by omega)
 have h5:=wi_ge A i
 have h6:=wi_lt A i
 have h7:0≤2^(64*i)*wi A i*(B%2^(64*k)):=Int.mul_nonneg (Int.mul_nonneg (by omega) h5) h4
 have h8:2^(64*i)*wi A i*(B%2^(64*k))≤2^(64*i)*18446744073709551615*2^(64*k) :=
  Int.mul_le_mul (Int.mul_le_mul_of_nonneg_left (by omega) (by omega)) (by omega) h4 (Int.mul_nonneg (by omega) (by omega))
 have h9:(2:Int)^(64*i)*18446744073709551615*2^(64*k)=18446744073709551615*2^(64*(i+k)):=by
  rw [hM,Int.mul_comm (2^(64*i)) 18446744073709551615,Int.mul_assoc]
 refine ⟨Int.ediv_nonneg (by omega) (by omega),Int.ediv_lt_of_lt_mul p3 (by omega)⟩
theorem wpcar_succ (A B:Int) (i k:Nat):(wi (wprow A B i) (i+k)+wi A i*wi B k+wpcar A B i k) / 18446744073709551616=wpcar A B i (k+1):=by
 have hM:(2:Int)^(64*(i+k))=2^(64*i)*2^(64*k):=by rw [Nat.mul_add,Int.pow_add]
 have p2:=pow64_pos k
 have p3:=pow64_pos (i+k)
 unfold wpcar
 rw [show i+(k+1)=(i+k)+1 by omega,pow_succ64,pow_succ64,emod_mul _ _ _ p3 (by omega),emod_mul B _ _ p2 (by omega)]
 generalize hz:wprow A B i=z
 unfold wi
 generalize hD:(2:Int)^(64*(i+k))=M at *
 have e:z%M+M*(z / M%18446744073709551616)+2^(64*i)*(A / 2^(64*i)%18446744073709551616)*(B%2^(64*k)+2^(64*k)*(B / 2^(64*k)%18446744073709551616)) =
   (z%M+2^(64*i)*(A / 2^(64*i)%18446744073709551616)*(B%2^(64*k)))+M*(z / M%18446744073709551616+A / 2^(64*i)%18446744073709551616*(B / 2^(64*k)%18446744073709551616)):=by
  rw [hM]
  generalize (2:Int)^(64*i)=P
  generalize (2:Int)^(64*k)=Q
  generalize A / P%18446744073709551616=a
  generalize B / Q%18446744073709551616=b
  generalize B%Q=c
  generalize z%(P*Q)=u
  generalize z / (P*Q)%18446744073709551616=v
  have:P*a*(c+Q*b)=P*a*c+P*Q*(a*b):=by
   rw [Int.mul_add]
   congr 1
   rw [Int.mul_assoc P a,Int.mul_assoc P Q]
   congr 1
   rw [←Int.mul_assoc,←Int.mul_assoc,Int.mul_comm a Q]
  rw [this,Int.mul_add]
  omega
 rw [e,←Int.ediv_ediv_of_nonneg (Int.le_of_lt p3),Int.add_mul_ediv_left _ _ (by omega)]
 congr 1
 omega
theorem wpdig (A B:Int) (i k:Nat):(wi (wprow A B i) (i+k)+wi A i*wi B k+wpcar A B i k)%18446744073709551616=wi (wprow A B (i+1)) (i+k):=by
 have hM:(2:Int)^(64*(i+k))=2^(64*i)*2^(64*k):=by rw [Nat.mul_add,Int.pow_add]
 have p3:=pow64_pos (i+k)
 rw [wprow_succ]
 unfold wpcar
 generalize hz:wprow A B i=z
 unfold wi
 generalize hD:(2:Int)^(64*(i+k))=M at *
 have h1:=Int.emod_add_mul_ediv z M
 have h2:=Int.emod_add_mul_ediv B (2^(64*k))
 have h3:=Int.emod_add_mul_ediv (B / 2^(64*k)) 18446744073709551616
 have e:z+2^(64*i)*(A / 2^(64*i)%18446744073709551616)*B=(z%M+2^(64*i)*(A / 2^(64*i)%18446744073709551616)*(B%2^(64*k))) +
   M*(z / M+A / 2^(64*i)%18446744073709551616*(B / 2^(64*k)%18446744073709551616)+18446744073709551616*(A / 2^(64*i)%18446744073709551616*(B / 2^(64*k) / 18446744073709551616))):=by
  have hB:B=B%2^(64*k)+2^(64*k)*(B / 2^(64*k)%18446744073709551616+18446744073709551616*(B / 2^(64*k) / 18446744073709551616)):=by rw [h3];omega
  generalize B / 2^(64*k)%18446744073709551616=b at *
  generalize B / 2^(64*k) / 18446744073709551616=h at *
  generalize B%2^(64*k)=c at *
  rw [hM]
  rw [hM] at h1
  generalize (2:Int)^(64*i)=P at *
  generalize (2:Int)^(64*k)=Q at *
  generalize A / P%18446744073709551616=a
  rw [hB]
  have:P*a*(c+Q*(b+18446744073709551616*h))=P*a*c+P*Q*(a*b)+P*Q*(18446744073709551616*(a*h)):=by
   rw [Int.mul_add,Int.mul_add Q,Int.mul_add]
   have e1:P*a*(Q*b)=P*Q*(a*b):=by
    rw [Int.mul_assoc P a,Int.mul_assoc P Q];congr 1;rw [←Int.mul_assoc,←Int.mul_assoc,Int.mul_comm a Q]
   have e2:P*a*(Q*(18446744073709551616*h))=P*Q*(18446744073709551616*(a*h)):=by
    rw [Int.mul_assoc P a,Int.mul_assoc P Q];congr 1
    rw [Int.mul_left_comm a Q];congr 1
    rw [Int.mul_left_comm]
   rw [e1,e2];omega
  rw [this,Int.mul_add,Int.mul_add]
  omega
 rw [e,Int.add_mul_ediv_left _ _ (by omega)]
 omega
theorem wprow_lt (A B:Int) (i:Nat) (h0:0≤B) (h1:B<2^(64*4)):0≤wprow A B i∧wprow A B i<2^(64*(i+4)):=by
 have p1:=pow64_pos i
 have h2:=Int.emod_nonneg A (b:=2^(64*i)) (by omega)
 have h3:=Int.emod_lt_of_pos A p1
 unfold wprow
 refine ⟨Int.mul_nonneg h2 h0,?_⟩
 rw [Nat.mul_add,Int.pow_add]
 generalize (2:Int)^(64*i)=P at *
 generalize (2:Int)^(64*4)=Q at *
 have h4:A%P*B≤A%P*Q:=Int.mul_le_mul_of_nonneg_left (by omega) h2
 have h5:A%P*Q<P*Q:=Int.mul_lt_mul_of_pos_right h3 (by omega)
 omega
theorem wprow_top (A B:Int) (i:Nat) (h0:0≤B) (h1:B<2^(64*4)):wpcar A B i 4=wi (wprow A B (i+1)) (i+4):=by
 have hb:=wpcar_bd A B i 4
 have hz:=wprow_lt A B i h0 h1
 unfold wpcar at *
 rw [Int.emod_eq_of_lt hz.1 hz.2,Int.emod_eq_of_lt h0 h1,←wprow_succ] at *
 unfold wi
 omega
theorem wprow_hi (A B:Int) (i j:Nat) (h0:0≤B) (h1:B<2^(64*4)) (hj:i+4≤j):wi (wprow A B i) j=0:=by
 have hz:=wprow_lt A B i h0 h1
 have e:(2:Int)^(64*j)=2^(64*(i+4))*2^(64*(j - (i+4))):=by rw [←Int.pow_add];congr 1;omega
 have p:=pow64_pos (j - (i+4))
 unfold wi
 rw [Int.ediv_eq_zero_of_lt hz.1]
 ·rfl
 ·rw [e]
  have:(2:Int)^(64*(i+4))*1≤2^(64*(i+4))*2^(64*(j - (i+4))):=Int.mul_le_mul_of_nonneg_left (by omega) (by have:=pow64_pos (i+4);omega)
  omega
theorem wprow_low (A B:Int) (i j:Nat) (hj:j<i):wi (wprow A B (i+1)) j=wi (wprow A B i) j:=by
 rw [wprow_succ]
 unfold wi
 have e:(2:Int)^(64*i)=2^(64*j)*(18446744073709551616*2^(64*(i - j - 1))):=by
  rw [show (18446744073709551616:Int)=2^64 by rfl,←Int.pow_add,←Int.pow_add];congr 1;omega
 rw [e,Int.mul_assoc,Int.mul_assoc (2^(64*j)),Int.mul_assoc 18446744073709551616,Int.add_mul_ediv_left _ _ (by have:=pow64_pos j;omega)]
 omega
theorem wpout_step (A B:Int) (i k:Nat):∀ j,upd (wpout A B i k) (i+k) (wi (wprow A B (i+1)) (i+k)) j=wpout A B i (k+1) j:=fun j=>by
 unfold upd wpout
 by_cases e:j=i+k
 ·subst e;simp
 ·rw [if_neg e]
  by_cases h:i≤j∧j<i+k
  ·rw [if_pos h,if_pos (by omega)]
  ·rw [if_neg h,if_neg (by omega)]
theorem wpout_end (A B:Int) (i:Nat) (h0:0≤B) (h1:B<2^(64*4)):∀ j,upd (wpout A B i 4) (i+4) (wpcar A B i 4) j=wi (wprow A B (i+1)) j:=fun j=>by
 unfold upd wpout
 by_cases e:j=i+4
 ·subst e;rw [if_pos rfl,wprow_top A B i h0 h1]
 ·rw [if_neg e]
  by_cases h:i≤j∧j<i+4
  ·rw [if_pos h]
  ·rw [if_neg h]
   by_cases hj:j<i
   ·exact (wprow_low A B i j hj).symm
   ·rw [wprow_hi A B i j h0 h1 (by omega),wprow_hi A B (i+1) j h0 h1 (by omega)]
@[simp] theorem wpout_at (A B:Int) (i k:Nat):wpout A B i k (i+k)=wi (wprow A B i) (i+k):=by unfold wpout;rw [if_neg (by omega)]

theorem wstep (x y d c:Int) (hx:0≤x∧x<18446744073709551616) (hy:0≤y∧y<18446744073709551616) (hd:0≤d∧d<18446744073709551616) (hc:0≤c∧c<18446744073709551616) :
  ((x*y%18446744073709551616+d)%18446744073709551616+c)%18446744073709551616=(d+x*y+c)%18446744073709551616 ∧
  ((x*y / 18446744073709551616+(x*y%18446744073709551616+d) / 18446744073709551616)%18446744073709551616+((x*y%18446744073709551616+d)%18446744073709551616+c) / 18446744073709551616)%18446744073709551616=(d+x*y+c) / 18446744073709551616:=by
 have h1:0≤x*y:=Int.mul_nonneg hx.1 hy.1
 have h2:x*y≤18446744073709551615*18446744073709551615:=Int.mul_le_mul (by omega) (by omega) hy.1 (by omega)
 generalize x*y=p at *
 omega
end Go.Gy
namespace Go.Gy
set_option linter.unusedSimpArgs false
set_option linter.unusedVariables false
open Go Go.RowKit Go.Proofs
@[simp] theorem idsV_fa (D:Nat→Prop) (n:Nat) (k:IntKind) (f:Nat→Int):idsV D (.agg (fa n k f))↔True:=by
 refine ⟨fun _=>trivial,fun _ x hx=>?_⟩
 obtain ⟨m,rfl⟩:=fa_mem hx
 trivial
theorem and_low (z:Int) (h0:0≤z) (h1:z<18446744073709551616):bitI .and .u64 z 4294967295=z%4294967296:=by
 rw [←and_low32 z h0 h1];rfl
theorem mul64_ret (x y:Int) (hx0:0≤x) (hx:x<18446744073709551616) (hy0:0≤y) (hy:y<18446744073709551616):Ret Tryz.prog G0 123 #[.int .u64 x,.int .u64 y] (.tuple #[.int .u64 (x*y / 18446744073709551616),.int .u64 (x*y%18446744073709551616)]):=by
 refine ret_of G0F Tryz.func123 rfl Tryz.call123 (by simp) (by simp) (by simp [Tryz.ntmps123]) ?_
 intro C hC hC0 hY
 have f32:∀ z:Int,z.fdiv 4294967296=z / 4294967296:=fun z=>Int.fdiv_eq_ediv_of_nonneg z (by omega)
 have a1:=and_low x hx0 hx
 have a2:=and_low y hy0 hy
 have a3:∀ z:Int,bitI .and .u64 (z%18446744073709551616) 4294967295=z%18446744073709551616%4294967296:=fun z=>and_low _ (by omega) (by omega)
 repeat' (first|refine gwA ?_|(refine gwX ?_;intro Q hQ hP;simp [hC,hY,f32,a1,a2,a3];refine hQ _ _ _ _ (by kernel_rfl) ?_;clear hQ hP Q)|(refine gwC ?_ ?_<;>(intro hb;try (cases hb;done))))
 refine ⟨.inr trivial,?_⟩
 have:=mul64_arith x y hx0 hx hy0 hy
 simpa [Tryz.results123] using this
@[simp] theorem mul64 (x y:Int) (hx0:0≤x) (hx:x<18446744073709551616) (hy0:0≤y) (hy:y<18446744073709551616) (K:Value→Prop):callK Tryz.prog G0 123 #[.int .u64 x,.int .u64 y] K↔K (.tuple #[.int .u64 (x*y / 18446744073709551616),.int .u64 (x*y%18446744073709551616)]):=callK_iff G0W (by kernel_rfl) (mul64_ret x y hx0 hx hy0 hy)
theorem wi_mod (z y:Int) (k:Nat) (h:z%115792089237316195423570985008687907853269984665640564039457584007913129639936=y%115792089237316195423570985008687907853269984665640564039457584007913129639936) (hk:k<4):wi z k=wi y k:=by
 have:k=0∨k=1∨k=2∨k=3:=by omega
 rcases this with rfl|rfl|rfl|rfl<;>simp only [wi]<;>omega
theorem wum_p (z:Int) (h:ng z=true) (k:Nat) (hk:k<4):wi (-z) k=wi (um z) k:=wi_mod _ _ _ (by
 rw [ng_sz] at h;simp at h;have:=sz_mod z;unfold um;rw [if_pos h];omega) hk
theorem wum_m (z:Int) (h:ng z=false) (k:Nat) (hk:k<4):wi z k=wi (um z) k:=wi_mod _ _ _ (by
 rw [ng_sz] at h;simp at h;have:=sz_mod z;unfold um;rw [if_neg (by omega)];omega) hk
theorem wn_bd (A B:Int) (i k:Nat):0≤wi A i*wi B k∧0≤wi A i*wi B k%18446744073709551616∧0≤(wi A i*wi B k+wi (wprow A B i) (i+k))%18446744073709551616:=by
 have h1:=wi_ge A i;have h2:=wi_ge B k
 exact ⟨Int.mul_nonneg h1 h2,Int.emod_nonneg _ (by omega),Int.emod_nonneg _ (by omega)⟩
theorem wmodS (A B:Int) (i k:Nat):(wi A i*wi B k+wi (wprow A B i) (i+k)+wpcar A B i k)%18446744073709551616=wi (wprow A B (i+1)) (i+k):=by
 rw [←wpdig A B i k];congr 1;omega
theorem wdivS (A B:Int) (i k:Nat):(wi A i*wi B k / 18446744073709551616+(wi A i*wi B k%18446744073709551616+wi (wprow A B i) (i+k)) / 18446744073709551616+((wi A i*wi B k+wi (wprow A B i) (i+k))%18446744073709551616+wpcar A B i k) / 18446744073709551616)%18446744073709551616=wpcar A B i (k+1):=by
 have h:=(wstep (wi A i) (wi B k) (wi (wprow A B i) (i+k)) (wpcar A B i k) ⟨wi_ge _ _,wi_lt _ _⟩ ⟨wi_ge _ _,wi_lt _ _⟩ ⟨wi_ge _ _,wi_lt _ _⟩ (wpcar_bd A B i k)).2
 rw [←wpcar_succ,←h]
 simp
def mwSt (q:Nat) (mi:Bool) (A B:Int) (i:Nat):GS :=
 ⟨tsL [(2,.pointer (some ⟨200,0,none⟩)),(3,.pointer (some ⟨208,0,none⟩)),(4,.pointer (some ⟨216,0,none⟩)),(6,.bool mi),(7,.pointer (some ⟨q,0,none⟩)),(40,.agg (fa 4 .u64 (wi A))),(41,.int .i64 i)],
 hpL G0 [(200,⟨fa 4 .u64 (wi A),.ty 86⟩),(208,⟨fa 4 .u64 (wi B),.ty 86⟩),(216,⟨fa 4 .u64 fun _=>0,.ty 86⟩),(q,⟨fa 8 .u64 (wi (wprow A B i)),.ty 118⟩)],600,0⟩
def mwSt2 (q:Nat) (mi:Bool) (A B:Int) (i k:Nat):GS :=
 ⟨tsL [(2,.pointer (some ⟨200,0,none⟩)),(3,.pointer (some ⟨208,0,none⟩)),(4,.pointer (some ⟨216,0,none⟩)),(6,.bool mi),(7,.pointer (some ⟨q,0,none⟩)),(40,.agg (fa 4 .u64 (wi A))),(41,.int .i64 i),
   (8,.int .i64 i),(9,.int .u64 (wi A i)),(10,.int .u64 (wpcar A B i k)),(45,.agg (fa 4 .u64 (wi B))),(46,.int .i64 k)],
 hpL G0 [(200,⟨fa 4 .u64 (wi A),.ty 86⟩),(208,⟨fa 4 .u64 (wi B),.ty 86⟩),(216,⟨fa 4 .u64 fun _=>0,.ty 86⟩),(q,⟨fa 8 .u64 (wpout A B i k),.ty 118⟩)],600,0⟩
theorem or_zero {x y:Int} (hx0:0≤x) (hx:x<18446744073709551616) (hy0:0≤y) (hy:y<18446744073709551616):(bitI .or .u64 x y=0↔x=0∧y=0)∧0≤bitI .or .u64 x y∧bitI .or .u64 x y<18446744073709551616:=by
 have e:bitI .or .u64 x y=((BitVec.ofInt 64 x ||| BitVec.ofInt 64 y:BitVec 64).toNat:Int)%18446744073709551616:=by
  unfold bitI
  show IntKind.u64.wrap ((BitVec.ofInt 64 x ||| BitVec.ofInt 64 y:BitVec 64).toNat:Int)=_
  rw [wrap_u64]
 have hx':(BitVec.ofInt 64 x).toNat=x.toNat:=by
  rw [BitVec.toNat_ofInt];congr 1;exact Int.emod_eq_of_lt hx0 hx
 have hy':(BitVec.ofInt 64 y).toNat=y.toNat:=by
  rw [BitVec.toNat_ofInt];congr 1;exact Int.emod_eq_of_lt hy0 hy
 have hb:=(BitVec.ofInt 64 x ||| BitVec.ofInt 64 y).isLt
 rw [e]
 refine ⟨?_,Int.emod_nonneg _ (by omega),Int.emod_lt_of_pos _ (by omega)⟩
 rw [Int.emod_eq_of_lt (by omega) (by omega),BitVec.toNat_or,hx',hy']
 constructor
 ·intro h
  have h1:x.toNat ||| y.toNat=0:=by omega
  have:=Nat.or_eq_zero_iff.1 h1
  omega
 ·rintro ⟨rfl,rfl⟩;rfl
theorem wi_shift (D:Int) (j:Nat) (h:4≤j:=by omega):wi D j=wi (D / 115792089237316195423570985008687907853269984665640564039457584007913129639936) (j - 4):=by
 unfold wi
 have e:64*j=64*4+64*(j - 4):=by omega
 rw [e,Int.pow_add,←Int.ediv_ediv_of_nonneg (Int.le_of_lt (pow64_pos 4))]
 rfl
def ovD (D:Int):Bool:=decide (115792089237316195423570985008687907853269984665640564039457584007913129639936≤D)
def orW (D:Int):Int:=bitI .or .u64 (bitI .or .u64 (bitI .or .u64 (wi D 4) (wi D 5)) (wi D 6)) (wi D 7)
theorem or_ov (D:Int) (h0:0≤D) (h1:D<115792089237316195423570985008687907853269984665640564039457584007913129639936*115792089237316195423570985008687907853269984665640564039457584007913129639936) :
  (!orW D==0)=ovD D:=by
 unfold orW
 have o1:=or_zero (wi_ge D 4) (wi_lt D 4) (wi_ge D 5) (wi_lt D 5)
 have o2:=or_zero o1.2.1 o1.2.2 (wi_ge D 6) (wi_lt D 6)
 have o3:=or_zero o2.2.1 o2.2.2 (wi_ge D 7) (wi_lt D 7)
 rw [Bool.eq_iff_iff]
 simp only [Bool.not_eq_true',beq_eq_false_iff_ne,ne_eq,ovD,decide_eq_true_eq]
 rw [o3.1,o2.1,o1.1,wi_shift D 4,wi_shift D 5,wi_shift D 6,wi_shift D 7]
 have hE:0≤D / 115792089237316195423570985008687907853269984665640564039457584007913129639936∧D / 115792089237316195423570985008687907853269984665640564039457584007913129639936<115792089237316195423570985008687907853269984665640564039457584007913129639936:=⟨by omega,by omega⟩
 have hD:115792089237316195423570985008687907853269984665640564039457584007913129639936≤D↔D / 115792089237316195423570985008687907853269984665640564039457584007913129639936≠0:=by omega
 rw [hD]
 generalize D / 115792089237316195423570985008687907853269984665640564039457584007913129639936=E at *
 simp only [wi]
 omega
set_option maxHeartbeats 2000000 in
theorem wmul_ret (a b:Int):Ret Tryz.prog G0 94 #[wd a,wd b] (.tuple #[wd (sz a*sz b),.bool (mulO a b)]):=by
 refine ret_of G0F Tryz.func94 rfl Tryz.call94 (by simp) (by simp) (by simp [Tryz.ntmps94]) ?_
 intro C hC hC0 hY
 have hA:=um_bd a
 have hB:=um_bd b
 have hB0:0≤um b:=hB.1
 have hB1:um b<2^(64*4):=by have:=hB.2;omega
 obtain ⟨D,hD⟩:∃ D,um a*um b=D:=⟨_,rfl⟩
 have eD:wprow (um a) (um b) 4=D:=by rw [←hD];unfold wprow;rw [Int.emod_eq_of_lt (by omega) (by omega)]
 have hbd:0≤D∧D≤57896044618658097711785492504343953926634992332820282019728792003956564819968*57896044618658097711785492504343953926634992332820282019728792003956564819968:=by
  rw [←hD]
  exact ⟨Int.mul_nonneg hA.1 hB.1,Int.mul_le_mul hA.2 hB.2 hB.1 (by omega)⟩
 have hor:=or_ov D hbd.1 (by have:=hbd.2;omega)
 have hs1:=prod_same a b
 have hs2:=prod_other a b
 rw [hD] at hs1 hs2
 cases ha:ng a<;>cases hq:ng b
 all_goals
  repeat' (first|refine gwA ?_|(refine gwX ?_;intro Q hQ hP;simp [hC,hY,ha,hq];refine hQ _ _ _ _ (by kernel_rfl) ?_;clear hQ hP Q)|(refine gwC ?_ ?_<;>(intro hb;try (cases hb;done))))
 ·have hn:(ng a==ng b)=true:=by rw [ha,hq];rfl
  refine GW_for 4 (mwSt 312 false (um a) (um b)) ?_ ?_ ?_
  ·have e1:=wum_m a ha
   have e2:=wum_m b hq
   refine weakL _ 600 hC G0F (m0:=[]) hC0 (by omega) ?_ ?_ ?_
   ·simp [dom,fa_4,e1]
   ·simp [fa_ids,fa_4,fa_8,e1,e2,wprow,Int.emod_one,wi_zero]
   ·simp
  ·intro i hi
   have hi':(i:Int)<4:=by omega
   have hz:(0:Int)≤i:=by omega
   have hs:Int.bmod ((i:Int)+1) 18446744073709551616=((i+1:Nat):Int):=by rw [bm (by omega) (by omega)];rfl
   unfold mwSt
   repeat' (first|refine gwA ?_|(refine gwX ?_;intro Q hQ hP;simp [hC,hY,hi,hi',hz,hs,fa_get];refine hQ _ _ _ _ (by kernel_rfl) ?_;clear hQ hP Q)|(refine gwC ?_ ?_<;>(intro hb;try (cases hb;done))))
   refine GW_for 4 (mwSt2 312 false (um a) (um b) i) ?_ ?_ ?_
   ·refine weakL _ 600 hC G0F (m0:=[]) hC0 (by omega) ?_ ?_ ?_
    ·simp [dom,wpcar_zero]
    ·have e:fa 8 .u64 (wpout (um a) (um b) i 0)=fa 8 .u64 (wi (wprow (um a) (um b) i)):=fa_congr fun j _=>by unfold wpout;rw [if_neg (by omega)]
     simp [e,fa_ids]
    ·simp
   ·intro k hk
    have hk':(k:Int)<4:=by omega
    have hkz:(0:Int)≤k:=by omega
    have hs2:Int.bmod ((k:Int)+1) 18446744073709551616=((k+1:Nat):Int):=by rw [bm (by omega) (by omega)];rfl
    have hik:Int.bmod ((i:Int)+k) 18446744073709551616=((i+k:Nat):Int):=by rw [bm (by omega) (by omega)];rfl
    have hik2:i+k<8:=by omega
    have hik3:(i:Int)+k<8:=by omega
    have hik4:(0:Int)≤(i:Int)+k:=by omega
    have hik5:((i:Int)+k).toNat=i+k:=by omega
    have hik6:(i:Int)+k≤7:=by omega
    have hik7:i+k≤7:=by omega
    have hn:=wn_bd (um a) (um b) i k
    have hc:=wpcar_bd (um a) (um b) i k
    unfold mwSt2
    repeat' (first|refine gwA ?_|(refine gwX ?_;intro Q hQ hP;simp [hC,hY,hi,hi',hz,hk,hk',hkz,hik,hik2,hik3,hik4,hik5,hik6,hik7,hs2,fa_get,fa_set,wi_ge,wi_lt,hn.1,hn.2.1,hn.2.2,hc.1];refine hQ _ _ _ _ (by kernel_rfl) ?_;clear hQ hP Q)|(refine gwC ?_ ?_<;>(intro hb;try (cases hb;done))))
    refine weakL _ 600 hC G0F (m0:=[]) hC0 (by omega) ?_ ?_ ?_
    ·simp [dom,hs2,wdivS]
    ·have e:fa 8 .u64 (upd (wpout (um a) (um b) i k) (i+k) (wi (wprow (um a) (um b) (i+1)) (i+k)))=fa 8 .u64 (wpout (um a) (um b) i (k+1)):=fa_congr fun j _=>wpout_step (um a) (um b) i k j
     simp [fa_ids,wmodS,e]
    ·simp
   ·have hi8:Int.bmod ((i:Int)+4) 18446744073709551616=(i:Int)+4:=bm (by omega) (by omega)
    have hi9:(0:Int)≤(i:Int)+4:=by omega
    have hi10:((i:Int)+4).toNat=i+4:=by omega
    have hi11:(i:Int)+4<8:=by omega
    have hi12:(i:Int)≤3:=by omega
    have hi14:i≤3:=by omega
    have hi13:i+4<8:=by omega
    unfold mwSt2
    repeat' (first|refine gwA ?_|(refine gwX ?_;intro Q hQ hP;simp [hC,hY,hi,hi',hz,hs,hi8,hi9,hi10,hi11,hi12,hi13,hi14,fa_set];refine hQ _ _ _ _ (by kernel_rfl) ?_;clear hQ hP Q)|(refine gwC ?_ ?_<;>(intro hb;try (cases hb;done))))
    refine weakL _ 600 hC G0F (m0:=[]) hC0 (by omega) ?_ ?_ ?_
    ·simp [dom,hs]
    ·have e:fa 8 .u64 (upd (wpout (um a) (um b) i 4) (i+4) (wpcar (um a) (um b) i 4))=fa 8 .u64 (wi (wprow (um a) (um b) (i+1))):=fa_congr fun j _=>wpout_end (um a) (um b) i hB0 hB1 j
     simp [fa_ids,e]
    ·simp
  ·unfold mwSt
   rw [eD]
   by_cases hx:orW D=0
   ·have hov:ovD D=false:=by rw [←hor];simp [hx]
    unfold orW at hx
    repeat' (first|refine gwA ?_|(refine gwX ?_;intro Q hQ hP;simp [hC,hY,fa_8,fa_4,hx];refine hQ _ _ _ _ (by kernel_rfl) ?_;clear hQ hP Q)|(refine gwC ?_ ?_<;>(intro hb;try (cases hb;done))))
    refine ⟨.inr trivial,?_⟩
    rw [ovD] at hov
    simp [Tryz.results94,hs1 hn,mulO,hx]
    rw [Bool.eq_iff_iff]
    simp [ng_sz]
    have h3:=sz_small D hbd.1 (by simpa using hov)
    simp at hov
    omega
   ·have hov:ovD D=true:=by rw [←hor];simp [hx]
    unfold orW at hx
    have hx2:(bitI .or .u64 (bitI .or .u64 (bitI .or .u64 (wi D 4) (wi D 5)) (wi D 6)) (wi D 7)==0)=false:=by simpa using hx
    have hx3:(bitI .or .u64 (bitI .or .u64 (bitI .or .u64 (wi D 4) (wi D 5)) (wi D 6)) (wi D 7) != 0)=true:=by simpa using hx
    repeat' (first|refine gwA ?_|(refine gwX ?_;intro Q hQ hP;simp [hC,hY,fa_8,fa_4,hx,hx2,hx3];refine hQ _ _ _ _ (by kernel_rfl) ?_;clear hQ hP Q)|(refine gwC ?_ ?_<;>(intro hb;try (cases hb;done))))
    refine ⟨.inr trivial,?_⟩
    rw [ovD] at hov
    simp [Tryz.results94,hs1 hn,mulO,hx]
    simp at hov
    omega
 ·have hn:(ng a==ng b)=false:=by rw [ha,hq];rfl
  refine GW_for 4 (mwSt 360 true (um a) (um b)) ?_ ?_ ?_
  ·have e1:=wum_m a ha
   have e2:=wum_p b hq
   refine weakL _ 600 hC G0F (m0:=[]) hC0 (by omega) ?_ ?_ ?_
   ·simp [dom,fa_4,e1]
   ·simp [fa_ids,fa_4,fa_8,e1,e2,wprow,Int.emod_one,wi_zero]
   ·simp
  ·intro i hi
   have hi':(i:Int)<4:=by omega
   have hz:(0:Int)≤i:=by omega
   have hs:Int.bmod ((i:Int)+1) 18446744073709551616=((i+1:Nat):Int):=by rw [bm (by omega) (by omega)];rfl
   unfold mwSt
   repeat' (first|refine gwA ?_|(refine gwX ?_;intro Q hQ hP;simp [hC,hY,hi,hi',hz,hs,fa_get];refine hQ _ _ _ _ (by kernel_rfl) ?_;clear hQ hP Q)|(refine gwC ?_ ?_<;>(intro hb;try (cases hb;done))))
   refine GW_for 4 (mwSt2 360 true (um a) (um b) i) ?_ ?_ ?_
   ·refine weakL _ 600 hC G0F (m0:=[]) hC0 (by omega) ?_ ?_ ?_
    ·simp [dom,wpcar_zero]
    ·have e:fa 8 .u64 (wpout (um a) (um b) i 0)=fa 8 .u64 (wi (wprow (um a) (um b) i)):=fa_congr fun j _=>by unfold wpout;rw [if_neg (by omega)]
     simp [e,fa_ids]
    ·simp
   ·intro k hk
    have hk':(k:Int)<4:=by omega
    have hkz:(0:Int)≤k:=by omega
    have hs2:Int.bmod ((k:Int)+1) 18446744073709551616=((k+1:Nat):Int):=by rw [bm (by omega) (by omega)];rfl
    have hik:Int.bmod ((i:Int)+k) 18446744073709551616=((i+k:Nat):Int):=by rw [bm (by omega) (by omega)];rfl
    have hik2:i+k<8:=by omega
    have hik3:(i:Int)+k<8:=by omega
    have hik4:(0:Int)≤(i:Int)+k:=by omega
    have hik5:((i:Int)+k).toNat=i+k:=by omega
    have hik6:(i:Int)+k≤7:=by omega
    have hik7:i+k≤7:=by omega
    have hn:=wn_bd (um a) (um b) i k
    have hc:=wpcar_bd (um a) (um b) i k
    unfold mwSt2
    repeat' (first|refine gwA ?_|(refine gwX ?_;intro Q hQ hP;simp [hC,hY,hi,hi',hz,hk,hk',hkz,hik,hik2,hik3,hik4,hik5,hik6,hik7,hs2,fa_get,fa_set,wi_ge,wi_lt,hn.1,hn.2.1,hn.2.2,hc.1];refine hQ _ _ _ _ (by kernel_rfl) ?_;clear hQ hP Q)|(refine gwC ?_ ?_<;>(intro hb;try (cases hb;done))))
    refine weakL _ 600 hC G0F (m0:=[]) hC0 (by omega) ?_ ?_ ?_
    ·simp [dom,hs2,wdivS]
    ·have e:fa 8 .u64 (upd (wpout (um a) (um b) i k) (i+k) (wi (wprow (um a) (um b) (i+1)) (i+k)))=fa 8 .u64 (wpout (um a) (um b) i (k+1)):=fa_congr fun j _=>wpout_step (um a) (um b) i k j
     simp [fa_ids,wmodS,e]
    ·simp
   ·have hi8:Int.bmod ((i:Int)+4) 18446744073709551616=(i:Int)+4:=bm (by omega) (by omega)
    have hi9:(0:Int)≤(i:Int)+4:=by omega
    have hi10:((i:Int)+4).toNat=i+4:=by omega
    have hi11:(i:Int)+4<8:=by omega
    have hi12:(i:Int)≤3:=by omega
    have hi14:i≤3:=by omega
    have hi13:i+4<8:=by omega
    unfold mwSt2
    repeat' (first|refine gwA ?_|(refine gwX ?_;intro Q hQ hP;simp [hC,hY,hi,hi',hz,hs,hi8,hi9,hi10,hi11,hi12,hi13,hi14,fa_set];refine hQ _ _ _ _ (by kernel_rfl) ?_;clear hQ hP Q)|(refine gwC ?_ ?_<;>(intro hb;try (cases hb;done))))
    refine weakL _ 600 hC G0F (m0:=[]) hC0 (by omega) ?_ ?_ ?_
    ·simp [dom,hs]
    ·have e:fa 8 .u64 (upd (wpout (um a) (um b) i 4) (i+4) (wpcar (um a) (um b) i 4))=fa 8 .u64 (wi (wprow (um a) (um b) (i+1))):=fa_congr fun j _=>wpout_end (um a) (um b) i hB0 hB1 j
     simp [fa_ids,e]
    ·simp
  ·unfold mwSt
   rw [eD]
   by_cases hx:orW D=0
   ·have hov:ovD D=false:=by rw [←hor];simp [hx]
    unfold orW at hx
    by_cases hzz:sz D=0
    ·have hw:=words_z D hzz
     repeat' (first|refine gwA ?_|(refine gwX ?_;intro Q hQ hP;simp [hC,hY,fa_8,fa_4,hx,hw];refine hQ _ _ _ _ (by kernel_rfl) ?_;clear hQ hP Q)|(refine gwC ?_ ?_<;>(intro hb;try (cases hb;done))))
     refine ⟨.inr trivial,?_⟩
     rw [ovD] at hov
     simp [Tryz.results94,hs2 hn,mulO,hx]
     have:=sz_small D hbd.1 (by simpa using hov)
     simp at hov
     omega
    ·have hw:=words_ne D hzz
     repeat' (first|refine gwA ?_|(refine gwX ?_;intro Q hQ hP;simp [hC,hY,fa_8,fa_4,hx,hw];refine hQ _ _ _ _ (by kernel_rfl) ?_;clear hQ hP Q)|(refine gwC ?_ ?_<;>(intro hb;try (cases hb;done))))
     refine ⟨.inr trivial,?_⟩
     rw [ovD] at hov
     simp [Tryz.results94,hs2 hn,mulO,hx]
     rw [Bool.eq_iff_iff]
     simp [ng_sz]
     have h3:=sz_small D hbd.1 (by simpa using hov)
     have h4:=sz_negl D hbd.1 (by simpa using hov)
     simp at hov
     omega
   ·have hov:ovD D=true:=by rw [←hor];simp [hx]
    unfold orW at hx
    have hx2:(bitI .or .u64 (bitI .or .u64 (bitI .or .u64 (wi D 4) (wi D 5)) (wi D 6)) (wi D 7)==0)=false:=by simpa using hx
    have hx3:(bitI .or .u64 (bitI .or .u64 (bitI .or .u64 (wi D 4) (wi D 5)) (wi D 6)) (wi D 7) != 0)=true:=by simpa using hx
    repeat' (first|refine gwA ?_|(refine gwX ?_;intro Q hQ hP;simp [hC,hY,fa_8,fa_4,hx,hx2,hx3];refine hQ _ _ _ _ (by kernel_rfl) ?_;clear hQ hP Q)|(refine gwC ?_ ?_<;>(intro hb;try (cases hb;done))))
    refine ⟨.inr trivial,?_⟩
    rw [ovD] at hov
    simp [Tryz.results94,hs2 hn,mulO,hx]
    simp at hov
    omega
 ·have hn:(ng a==ng b)=false:=by rw [ha,hq];rfl
  refine GW_for 4 (mwSt 360 true (um a) (um b)) ?_ ?_ ?_
  ·have e1:=wum_p a ha
   have e2:=wum_m b hq
   refine weakL _ 600 hC G0F (m0:=[]) hC0 (by omega) ?_ ?_ ?_
   ·simp [dom,fa_4,e1]
   ·simp [fa_ids,fa_4,fa_8,e1,e2,wprow,Int.emod_one,wi_zero]
   ·simp
  ·intro i hi
   have hi':(i:Int)<4:=by omega
   have hz:(0:Int)≤i:=by omega
   have hs:Int.bmod ((i:Int)+1) 18446744073709551616=((i+1:Nat):Int):=by rw [bm (by omega) (by omega)];rfl
   unfold mwSt
   repeat' (first|refine gwA ?_|(refine gwX ?_;intro Q hQ hP;simp [hC,hY,hi,hi',hz,hs,fa_get];refine hQ _ _ _ _ (by kernel_rfl) ?_;clear hQ hP Q)|(refine gwC ?_ ?_<;>(intro hb;try (cases hb;done))))
   refine GW_for 4 (mwSt2 360 true (um a) (um b) i) ?_ ?_ ?_
   ·refine weakL _ 600 hC G0F (m0:=[]) hC0 (by omega) ?_ ?_ ?_
    ·simp [dom,wpcar_zero]
    ·have e:fa 8 .u64 (wpout (um a) (um b) i 0)=fa 8 .u64 (wi (wprow (um a) (um b) i)):=fa_congr fun j _=>by unfold wpout;rw [if_neg (by omega)]
     simp [e,fa_ids]
    ·simp
   ·intro k hk
    have hk':(k:Int)<4:=by omega
    have hkz:(0:Int)≤k:=by omega
    have hs2:Int.bmod ((k:Int)+1) 18446744073709551616=((k+1:Nat):Int):=by rw [bm (by omega) (by omega)];rfl
    have hik:Int.bmod ((i:Int)+k) 18446744073709551616=((i+k:Nat):Int):=by rw [bm (by omega) (by omega)];rfl
    have hik2:i+k<8:=by omega
    have hik3:(i:Int)+k<8:=by omega
    have hik4:(0:Int)≤(i:Int)+k:=by omega
    have hik5:((i:Int)+k).toNat=i+k:=by omega
    have hik6:(i:Int)+k≤7:=by omega
    have hik7:i+k≤7:=by omega
    have hn:=wn_bd (um a) (um b) i k
    have hc:=wpcar_bd (um a) (um b) i k
    unfold mwSt2
    repeat' (first|refine gwA ?_|(refine gwX ?_;intro Q hQ hP;simp [hC,hY,hi,hi',hz,hk,hk',hkz,hik,hik2,hik3,hik4,hik5,hik6,hik7,hs2,fa_get,fa_set,wi_ge,wi_lt,hn.1,hn.2.1,hn.2.2,hc.1];refine hQ _ _ _ _ (by kernel_rfl) ?_;clear hQ hP Q)|(refine gwC ?_ ?_<;>(intro hb;try (cases hb;done))))
    refine weakL _ 600 hC G0F (m0:=[]) hC0 (by omega) ?_ ?_ ?_
    ·simp [dom,hs2,wdivS]
    ·have e:fa 8 .u64 (upd (wpout (um a) (um b) i k) (i+k) (wi (wprow (um a) (um b) (i+1)) (i+k)))=fa 8 .u64 (wpout (um a) (um b) i (k+1)):=fa_congr fun j _=>wpout_step (um a) (um b) i k j
     simp [fa_ids,wmodS,e]
    ·simp
   ·have hi8:Int.bmod ((i:Int)+4) 18446744073709551616=(i:Int)+4:=bm (by omega) (by omega)
    have hi9:(0:Int)≤(i:Int)+4:=by omega
    have hi10:((i:Int)+4).toNat=i+4:=by omega
    have hi11:(i:Int)+4<8:=by omega
    have hi12:(i:Int)≤3:=by omega
    have hi14:i≤3:=by omega
    have hi13:i+4<8:=by omega
    unfold mwSt2
    repeat' (first|refine gwA ?_|(refine gwX ?_;intro Q hQ hP;simp [hC,hY,hi,hi',hz,hs,hi8,hi9,hi10,hi11,hi12,hi13,hi14,fa_set];refine hQ _ _ _ _ (by kernel_rfl) ?_;clear hQ hP Q)|(refine gwC ?_ ?_<;>(intro hb;try (cases hb;done))))
    refine weakL _ 600 hC G0F (m0:=[]) hC0 (by omega) ?_ ?_ ?_
    ·simp [dom,hs]
    ·have e:fa 8 .u64 (upd (wpout (um a) (um b) i 4) (i+4) (wpcar (um a) (um b) i 4))=fa 8 .u64 (wi (wprow (um a) (um b) (i+1))):=fa_congr fun j _=>wpout_end (um a) (um b) i hB0 hB1 j
     simp [fa_ids,e]
    ·simp
  ·unfold mwSt
   rw [eD]
   by_cases hx:orW D=0
   ·have hov:ovD D=false:=by rw [←hor];simp [hx]
    unfold orW at hx
    by_cases hzz:sz D=0
    ·have hw:=words_z D hzz
     repeat' (first|refine gwA ?_|(refine gwX ?_;intro Q hQ hP;simp [hC,hY,fa_8,fa_4,hx,hw];refine hQ _ _ _ _ (by kernel_rfl) ?_;clear hQ hP Q)|(refine gwC ?_ ?_<;>(intro hb;try (cases hb;done))))
     refine ⟨.inr trivial,?_⟩
     rw [ovD] at hov
     simp [Tryz.results94,hs2 hn,mulO,hx]
     have:=sz_small D hbd.1 (by simpa using hov)
     simp at hov
     omega
    ·have hw:=words_ne D hzz
     repeat' (first|refine gwA ?_|(refine gwX ?_;intro Q hQ hP;simp [hC,hY,fa_8,fa_4,hx,hw];refine hQ _ _ _ _ (by kernel_rfl) ?_;clear hQ hP Q)|(refine gwC ?_ ?_<;>(intro hb;try (cases hb;done))))
     refine ⟨.inr trivial,?_⟩
     rw [ovD] at hov
     simp [Tryz.results94,hs2 hn,mulO,hx]
     rw [Bool.eq_iff_iff]
     simp [ng_sz]
     have h3:=sz_small D hbd.1 (by simpa using hov)
     have h4:=sz_negl D hbd.1 (by simpa using hov)
     simp at hov
     omega
   ·have hov:ovD D=true:=by rw [←hor];simp [hx]
    unfold orW at hx
    have hx2:(bitI .or .u64 (bitI .or .u64 (bitI .or .u64 (wi D 4) (wi D 5)) (wi D 6)) (wi D 7)==0)=false:=by simpa using hx
    have hx3:(bitI .or .u64 (bitI .or .u64 (bitI .or .u64 (wi D 4) (wi D 5)) (wi D 6)) (wi D 7) != 0)=true:=by simpa using hx
    repeat' (first|refine gwA ?_|(refine gwX ?_;intro Q hQ hP;simp [hC,hY,fa_8,fa_4,hx,hx2,hx3];refine hQ _ _ _ _ (by kernel_rfl) ?_;clear hQ hP Q)|(refine gwC ?_ ?_<;>(intro hb;try (cases hb;done))))
    refine ⟨.inr trivial,?_⟩
    rw [ovD] at hov
    simp [Tryz.results94,hs2 hn,mulO,hx]
    simp at hov
    omega
 ·have hn:(ng a==ng b)=true:=by rw [ha,hq];rfl
  refine GW_for 4 (mwSt 408 false (um a) (um b)) ?_ ?_ ?_
  ·have e1:=wum_p a ha
   have e2:=wum_p b hq
   refine weakL _ 600 hC G0F (m0:=[]) hC0 (by omega) ?_ ?_ ?_
   ·simp [dom,fa_4,e1]
   ·simp [fa_ids,fa_4,fa_8,e1,e2,wprow,Int.emod_one,wi_zero]
   ·simp
  ·intro i hi
   have hi':(i:Int)<4:=by omega
   have hz:(0:Int)≤i:=by omega
   have hs:Int.bmod ((i:Int)+1) 18446744073709551616=((i+1:Nat):Int):=by rw [bm (by omega) (by omega)];rfl
   unfold mwSt
   repeat' (first|refine gwA ?_|(refine gwX ?_;intro Q hQ hP;simp [hC,hY,hi,hi',hz,hs,fa_get];refine hQ _ _ _ _ (by kernel_rfl) ?_;clear hQ hP Q)|(refine gwC ?_ ?_<;>(intro hb;try (cases hb;done))))
   refine GW_for 4 (mwSt2 408 false (um a) (um b) i) ?_ ?_ ?_
   ·refine weakL _ 600 hC G0F (m0:=[]) hC0 (by omega) ?_ ?_ ?_
    ·simp [dom,wpcar_zero]
    ·have e:fa 8 .u64 (wpout (um a) (um b) i 0)=fa 8 .u64 (wi (wprow (um a) (um b) i)):=fa_congr fun j _=>by unfold wpout;rw [if_neg (by omega)]
     simp [e,fa_ids]
    ·simp
   ·intro k hk
    have hk':(k:Int)<4:=by omega
    have hkz:(0:Int)≤k:=by omega
    have hs2:Int.bmod ((k:Int)+1) 18446744073709551616=((k+1:Nat):Int):=by rw [bm (by omega) (by omega)];rfl
    have hik:Int.bmod ((i:Int)+k) 18446744073709551616=((i+k:Nat):Int):=by rw [bm (by omega) (by omega)];rfl
    have hik2:i+k<8:=by omega
    have hik3:(i:Int)+k<8:=by omega
    have hik4:(0:Int)≤(i:Int)+k:=by omega
    have hik5:((i:Int)+k).toNat=i+k:=by omega
    have hik6:(i:Int)+k≤7:=by omega
    have hik7:i+k≤7:=by omega
    have hn:=wn_bd (um a) (um b) i k
    have hc:=wpcar_bd (um a) (um b) i k
    unfold mwSt2
    repeat' (first|refine gwA ?_|(refine gwX ?_;intro Q hQ hP;simp [hC,hY,hi,hi',hz,hk,hk',hkz,hik,hik2,hik3,hik4,hik5,hik6,hik7,hs2,fa_get,fa_set,wi_ge,wi_lt,hn.1,hn.2.1,hn.2.2,hc.1];refine hQ _ _ _ _ (by kernel_rfl) ?_;clear hQ hP Q)|(refine gwC ?_ ?_<;>(intro hb;try (cases hb;done))))
    refine weakL _ 600 hC G0F (m0:=[]) hC0 (by omega) ?_ ?_ ?_
    ·simp [dom,hs2,wdivS]
    ·have e:fa 8 .u64 (upd (wpout (um a) (um b) i k) (i+k) (wi (wprow (um a) (um b) (i+1)) (i+k)))=fa 8 .u64 (wpout (um a) (um b) i (k+1)):=fa_congr fun j _=>wpout_step (um a) (um b) i k j
     simp [fa_ids,wmodS,e]
    ·simp
   ·have hi8:Int.bmod ((i:Int)+4) 18446744073709551616=(i:Int)+4:=bm (by omega) (by omega)
    have hi9:(0:Int)≤(i:Int)+4:=by omega
    have hi10:((i:Int)+4).toNat=i+4:=by omega
    have hi11:(i:Int)+4<8:=by omega
    have hi12:(i:Int)≤3:=by omega
    have hi14:i≤3:=by omega
    have hi13:i+4<8:=by omega
    unfold mwSt2
    repeat' (first|refine gwA ?_|(refine gwX ?_;intro Q hQ hP;simp [hC,hY,hi,hi',hz,hs,hi8,hi9,hi10,hi11,hi12,hi13,hi14,fa_set];refine hQ _ _ _ _ (by kernel_rfl) ?_;clear hQ hP Q)|(refine gwC ?_ ?_<;>(intro hb;try (cases hb;done))))
    refine weakL _ 600 hC G0F (m0:=[]) hC0 (by omega) ?_ ?_ ?_
    ·simp [dom,hs]
    ·have e:fa 8 .u64 (upd (wpout (um a) (um b) i 4) (i+4) (wpcar (um a) (um b) i 4))=fa 8 .u64 (wi (wprow (um a) (um b) (i+1))):=fa_congr fun j _=>wpout_end (um a) (um b) i hB0 hB1 j
     simp [fa_ids,e]
    ·simp
  ·unfold mwSt
   rw [eD]
   by_cases hx:orW D=0
   ·have hov:ovD D=false:=by rw [←hor];simp [hx]
    unfold orW at hx
    repeat' (first|refine gwA ?_|(refine gwX ?_;intro Q hQ hP;simp [hC,hY,fa_8,fa_4,hx];refine hQ _ _ _ _ (by kernel_rfl) ?_;clear hQ hP Q)|(refine gwC ?_ ?_<;>(intro hb;try (cases hb;done))))
    refine ⟨.inr trivial,?_⟩
    rw [ovD] at hov
    simp [Tryz.results94,hs1 hn,mulO,hx]
    rw [Bool.eq_iff_iff]
    simp [ng_sz]
    have h3:=sz_small D hbd.1 (by simpa using hov)
    simp at hov
    omega
   ·have hov:ovD D=true:=by rw [←hor];simp [hx]
    unfold orW at hx
    have hx2:(bitI .or .u64 (bitI .or .u64 (bitI .or .u64 (wi D 4) (wi D 5)) (wi D 6)) (wi D 7)==0)=false:=by simpa using hx
    have hx3:(bitI .or .u64 (bitI .or .u64 (bitI .or .u64 (wi D 4) (wi D 5)) (wi D 6)) (wi D 7) != 0)=true:=by simpa using hx
    repeat' (first|refine gwA ?_|(refine gwX ?_;intro Q hQ hP;simp [hC,hY,fa_8,fa_4,hx,hx2,hx3];refine hQ _ _ _ _ (by kernel_rfl) ?_;clear hQ hP Q)|(refine gwC ?_ ?_<;>(intro hb;try (cases hb;done))))
    refine ⟨.inr trivial,?_⟩
    rw [ovD] at hov
    simp [Tryz.results94,hs1 hn,mulO,hx]
    simp at hov
    omega
@[simp] theorem wMul (a b:Int) (K:Value→Prop):callK Tryz.prog G0 94 #[Value.agg #[.int .u64 (wi (a) 0),.int .u64 (wi (a) 1),.int .u64 (wi (a) 2),.int .u64 (wi (a) 3)],Value.agg #[.int .u64 (wi (b) 0),.int .u64 (wi (b) 1),.int .u64 (wi (b) 2),.int .u64 (wi (b) 3)]] K↔K (.tuple #[wd (sz a*sz b),.bool (mulO a b)]):=callK_iff G0W (by kernel_rfl) (wmul_ret a b)

def erV (n:Int):Value:=.iface 32 (.int .i64 n)
@[simp] theorem erV_eq (n:Int):erV n=.iface 32 (.int .i64 n):=rfl
def zB:Blk:=⟨#[.int .u64 0,.int .u64 0,.int .u64 0,.int .u64 0],.ty 86⟩
def eB (n:Int):Blk:=⟨#[.int .i64 n],.ty 32⟩
theorem assert_ok (n:Int) (W:World):(Instr.typeAssert (erV n) 20 32 true).run Tryz.prog W=.ok (.tuple #[.int .i64 n,.bool true]) W:=by kernel_rfl
theorem assert_nil (W:World):(Instr.typeAssert .nilIface 20 32 true).run Tryz.prog W=.ok (.tuple #[.int .i64 0,.bool false]) W:=by kernel_rfl
theorem rep10:Array.replicate 10 undef=#[undef,undef,undef,undef,undef,undef,undef,undef,undef,undef]:=rfl
theorem rep7:Array.replicate 7 undef=#[undef,undef,undef,undef,undef,undef,undef]:=rfl
def capQ:Array Value:=#[.pointer (some ⟨100000,0,none⟩),.pointer (some ⟨100008,0,none⟩)]
def hpQ (n:Int):Hp:=hpL G0 [(100000,zB),(100008,eB n)]
theorem hpQ_rst (n:Int):rst (hpQ n) [100000,100008]=hpQ n:=hpL_rst G0F (by simp)
theorem hpQ_ids (n:Int) (k:Nat) (b:Blk) (D:Nat→Prop) (h:hpQ n k=some b):b.ids D:=by
 rcases hpL_mem h with h|h
 ·simp at h
  rcases h with ⟨_,rfl⟩|⟨_,rfl⟩<;>simp [zB,eB]
 ·exact G0_closed _ _ _ h
theorem qrec (n:Int):RecF Tryz.prog G0 132 capQ (hpQ 0) [100000,100008] (erV n) [(100000,zB),(100008,eB n)]:=by
 refine ⟨⟨_,Tryz.func132⟩,Tryz.call132,?_,?_⟩
 ·refine back_of (k:=2) Tryz.func132 rfl fun args c₀ cs W hk hu=>?_
  obtain ⟨p0,p1,rfl⟩:∃ p0 p1,args=#[p0,p1]:=by
   rcases args with ⟨l⟩
   match l,hk with
   | [a,b],_=>exact ⟨a,b,rfl⟩
  have hn:Tryz.f132.ntmps=12:=Tryz.ntmps132
  refine wpSIn_seq (wpSIn_region ?_)
  simp [wpOpsSIn,List.range,List.range.loop,go_sem,recoverD,hu,hn,assert_nil,rep10]
  refine wpSIn_seq (wpSIn_region ?_)
  simp [wpOpsSIn,List.range,List.range.loop,go_sem]
  refine wpSIn_cond (t:=false) (by simp [Act.eval]) ?_
  refine wpSIn_of_wpIn rfl (wpIn_skip ?_)
  exact ⟨.inl rfl,rfl,rfl,rfl,.tuple #[],by simp [results,Tryz.results132,go_sem]⟩
 ·refine caught_of (B:=200000) (A:=#[.pointer (some ⟨100000,0,none⟩),.pointer (some ⟨100008,0,none⟩),.int .i64 n,.bool true,.tuple #[.int .i64 n,.bool true],erV n,.tuple #[.int .i64 n,.bool true],.int .i64 n,.bool true,undef,undef,undef]) G0F (fun k hk=>hpL_low (by simp) hk) Tryz.func132 rfl (by simp [Tryz.ntmps132]) ?_ ?_ ?_ ?_ ?_ ?_ (by omega) ?_ ?_
  ·rw [hpQ_rst];simp [hpQ,dom];exact flatV_ids (by simp)
  ·intro r c₀ cs W Q hu hQ
   have hrn:∀ v,flatV v=true→ren r v=v:=fun v hv=>flatV_ren hv
   simp only [List.map_toArray,List.map_cons,List.map_nil,capQ] at hQ ⊢
   generalize ren r (.pointer (some ⟨100000,0,none⟩))=p0 at hQ ⊢
   generalize ren r (.pointer (some ⟨100008,0,none⟩))=p1 at hQ ⊢
   simp only [hrn (.int .i64 n) rfl,hrn (.bool true) rfl,hrn (erV n) rfl,hrn (.tuple #[.int .i64 n,.bool true]) (by simp),ren_undef] at hQ
   have hn:Tryz.f132.ntmps=12:=Tryz.ntmps132
   have hA:=assert_ok n
   simp only [erV_eq] at hA
   simp [wpOpsSIn,List.range,List.range.loop,go_sem,recoverD,hu,pand,erV,hn,hA,rep10]
   exact hQ
  ·rw [hpQ_rst];exact fun k b h=>hpQ_ids 0 k b _ h
  ·rw [hpQ_rst];simp [hpQ,dom]
  ·intro k b c h1 h2
   simp at h1 h2
   rcases h1 with ⟨rfl,rfl⟩|⟨rfl,rfl⟩<;>rcases h2 with ⟨e2,rfl⟩|⟨e2,rfl⟩<;>first|rfl|omega
  ·simp [zB,eB]
  ·rw [hpQ_rst];exact fun x hx=>by simp [hpQ,show ¬x=100000 by omega,show ¬x=100008 by omega,show 100≤x by omega]
  ·intro C hC hC0 hY
   rw [hpQ_rst]
   repeat' (first|refine gwA ?_|(refine gwX ?_;intro Q hQ hP;simp [hC,hY,hpQ,zB,eB];refine hQ _ _ _ _ (by kernel_rfl) ?_;clear hQ hP Q)|(refine gwC ?_ ?_<;>(intro hb;try (cases hb;done))))
   refine ⟨.inl trivial,by simp [Tryz.results132],fun k hk=>?_⟩
   simp [zB,eB,hpQ]
theorem neq_nil0 (W:World):((do eqGuard .neq 20 (.tmp 4) (.const .nilIface) .nilIface .nilIface;binOp .neq 20 .nilIface .nilIface:Sem Value)).run Tryz.prog W=.ok (.bool false) W:=by kernel_rfl
def ifE:Value→Bool
 | .iface T (.int .i64 _)=>T==32
 | _=>false
def ifN:Value→Value
 | .iface _ u=>u
 | v=>v
@[simp] theorem ifE_eq (T:TypeId) (n:Int):ifE (.iface T (.int .i64 n))=(T==32):=nr rfl
@[simp] theorem ifN_eq (T:TypeId) (u:Value):ifN (.iface T u)=u:=nr rfl
theorem ifE_of {v:Value} (h:ifE v=true):∃ n,v=erV n:=by
 unfold ifE at h
 split at h
 ·rename_i T n
  have:T=32:=by simpa using h
  exact ⟨n,by rw [this];rfl⟩
 ·cases h
theorem pureV_iff {P:Program} {o:Oper} {ts:Nat→Value} {hp:Hp} {K:Value→Prop} {v:Value} (ho:∀ x∈o.op.operands.toList,okX ts hp x∧flatV (gev ts x)=true) (hv:flatV v=true) (hr:∀ W,(execOp (gev ts) o).run P W=.ok (.value v) W):pureV P o ts hp K↔K v :=
 ⟨fun ⟨_,u,_,h1,h2⟩=>by
  have:=(hr default).symm.trans (h1 default)
  injection this with this;injection this with this;subst this;exact h2,fun h=>⟨ho,v,hv,hr,h⟩⟩
@[simp] theorem bin2_inil (P:Program) (op:BinOp) (T t:TypeId) (v:Value):bin2 P op T (.iface t v) .nilIface=none:=by cases op<;>rfl
@[simp] theorem binX_neqnil {dst:Option Tmp} {x:Operand} {T:TypeId} {ps:String} {af:Array Edge} {g:Option (Nat×Bool)} {ts:Nat→Value} {hp:Hp} {C:Eff→Prop} (h:ifE (gev ts x)=true) (hx:okX ts hp x) :
  binX Tryz.prog none ⟨dst,.binOp .neq 20 x (.const .nilIface) 20,T,ps,af,g⟩ ts hp C↔C (val (.bool true) []):=by
 obtain ⟨n,hn⟩:=ifE_of h
 refine pureV_iff (K:=fun v=>C (val v [])) (v:=.bool true) ?_ rfl fun W=>?_
 ·intro y hy
  simp [Op.operands] at hy
  rcases hy with rfl|rfl
  ·exact ⟨hx,by rw [hn];rfl⟩
  ·exact ⟨rfl,rfl⟩
 ·show (execOp (gev ts) ⟨dst,.binOp .neq 20 x (.const .nilIface) 20,T,ps,af,g⟩).run Tryz.prog W=_
  simp only [execOp,hn]
  kernel_rfl
@[simp] theorem opX_assertE {dst:Option Tmp} {x:Operand} {T:TypeId} {ps:String} {af:Array Edge} {g:Option (Nat×Bool)} {V:XV} {yc nk:Nat} {ts:Nat→Value} {hp:Hp} {C:Eff→Prop} (h:ifE (gev ts x)=true) (hx:okX ts hp x) :
  opX Tryz.prog G0 V yc ⟨dst,.typeAssert x 20 32 false,T,ps,af,g⟩ ts hp nk C↔C (val (ifN (gev ts x)) []):=by
 obtain ⟨n,hn⟩:=ifE_of h
 refine pureV_iff (K:=fun v=>C (val v [])) ?_ ?_ fun W=>?_
 ·intro y hy
  simp [Op.operands] at hy
  subst hy
  exact ⟨hx,by rw [hn];rfl⟩
 ·rw [hn];rfl
 ·simp only [execOp,hn]
  kernel_rfl
theorem rrec (n:Int):RecF Tryz.prog G0 114 capQ (hpQ 0) [100000,100008] (erV n) [(100000,zB),(100008,eB n)]:=by
 refine ⟨⟨_,Tryz.func114⟩,Tryz.call114,?_,?_⟩
 ·refine back_of (k:=2) Tryz.func114 rfl fun args c₀ cs W hk hu=>?_
  obtain ⟨p0,p1,rfl⟩:∃ p0 p1,args=#[p0,p1]:=by
   rcases args with ⟨l⟩
   match l,hk with
   | [a,b],_=>exact ⟨a,b,rfl⟩
  have hn:Tryz.f114.ntmps=9:=Tryz.ntmps114
  refine wpSIn_seq (wpSIn_region ?_)
  simp [wpOpsSIn,List.range,List.range.loop,go_sem,recoverD,hu,hn,rep7]
  refine wpSIn_seq (wpSIn_region ?_)
  simp [wpOpsSIn,List.range,List.range.loop,go_sem,neq_nil0]
  refine wpSIn_cond (t:=false) (by simp [Act.eval]) ?_
  refine wpSIn_of_wpIn rfl (wpIn_skip ?_)
  exact ⟨.inl rfl,rfl,rfl,rfl,.tuple #[],by simp [results,Tryz.results114,go_sem]⟩
 ·refine caught_of (B:=200000) (A:=#[.pointer (some ⟨100000,0,none⟩),.pointer (some ⟨100008,0,none⟩),erV n,erV n,undef,undef,undef,undef,undef]) G0F (fun k hk=>hpL_low (by simp) hk) Tryz.func114 rfl (by simp [Tryz.ntmps114]) ?_ ?_ ?_ ?_ ?_ ?_ (by omega) ?_ ?_
  ·rw [hpQ_rst];simp [hpQ,dom]
  ·intro r c₀ cs W Q hu hQ
   have hrn:∀ v,flatV v=true→ren r v=v:=fun v hv=>flatV_ren hv
   simp only [List.map_toArray,List.map_cons,List.map_nil,capQ] at hQ ⊢
   generalize ren r (.pointer (some ⟨100000,0,none⟩))=p0 at hQ ⊢
   generalize ren r (.pointer (some ⟨100008,0,none⟩))=p1 at hQ ⊢
   simp only [hrn (erV n) rfl,ren_undef] at hQ
   have hn:Tryz.f114.ntmps=9:=Tryz.ntmps114
   simp [wpOpsSIn,List.range,List.range.loop,go_sem,recoverD,hu,pand,erV,hn,rep7]
   exact hQ
  ·rw [hpQ_rst];exact fun k b h=>hpQ_ids 0 k b _ h
  ·rw [hpQ_rst];simp [hpQ,dom]
  ·intro k b c h1 h2
   simp at h1 h2
   rcases h1 with ⟨rfl,rfl⟩|⟨rfl,rfl⟩<;>rcases h2 with ⟨e2,rfl⟩|⟨e2,rfl⟩<;>first|rfl|omega
  ·simp [zB,eB]
  ·rw [hpQ_rst];exact fun x hx=>by simp [hpQ,show ¬x=100000 by omega,show ¬x=100008 by omega,show 100≤x by omega]
  ·intro C hC hC0 hY
   rw [hpQ_rst]
   repeat' (first|refine gwA ?_|(refine gwX ?_;intro Q hQ hP;simp [hC,hY,hpQ,zB,eB];refine hQ _ _ _ _ (by kernel_rfl) ?_;clear hQ hP Q)|(refine gwC ?_ ?_<;>(intro hb;try (cases hb;done))))
   refine ⟨.inl trivial,by simp [Tryz.results114],fun k hk=>?_⟩
   simp [zB,eB,hpQ]
theorem qtold_ret {g:FuncId} {capv:List Value} {hp:Hp} {rs:List Nat} {x0 x1 x2 x3:Int} {ws:List (Nat×Blk)} (hG:∀ k,k<100→hp k=G0 k) (hrs:∀ k∈rs,k<100000) (hc:capv.isEmpty=false) (hpl:capv.all plain0=true)
  (h:Fun Tryz.prog G0 g capv.toArray hp rs (.ret (.agg #[.int .u64 x0,.int .u64 x1,.int .u64 x2,.int .u64 x3]) ws)) :
  Fun Tryz.prog G0 115 #[.func (.func g) #[] capv.toArray] hp rs (.ret (.tuple #[.agg #[.int .u64 x0,.int .u64 x1,.int .u64 x2,.int .u64 x3],.int .i64 0]) ws):=by
 have hids:∀ x∈capv,ids0 (dom (rst hp rs)) x:=fun x hx=>(ids_plain0 (List.all_eq_true.1 hpl x hx)).1 (h.ids x (by simpa using hx))
 have hbig:∀ x,100000≤x→rst hp rs x=none:=fun x hx=>by
  unfold rst;rw [if_neg];rintro (h1|h1)
  ·omega
  ·have:=hrs x h1;omega
 refine fun_rec (out:=.ret (.tuple #[.agg #[.int .u64 x0,.int .u64 x1,.int .u64 x2,.int .u64 x3],.int .i64 0]) ws) (B:=100000) (B1:=100016) (id:=1) (t:=4) (ts1:=upd (upd (fun t=>[Value.func (.func g) #[] capv.toArray][t]?.getD undef) 2 (gptr 100000)) 3 (gptr 100008))
  (hp1:=upd (upd (rst hp rs) 100000 (some zB)) 100008 (some (eB 0))) capQ G0F hG Tryz.func115 rfl (by simp [Tryz.ntmps115]) Tryz.call115 ⟨_,_,_,_,qrec 0⟩ ?_ h.closed ?_ (by simp [Tryz.ntmps115]) (by omega) hbig ?_ ?_ ?_ ?_ ?_ ?_
 ·simpa using hids
 ·exact ⟨flatV_ids (by simp),h.fits.2⟩
 ·intro C hC hC0 hY
  repeat' (first|refine gwA ?_|(refine gwX ?_;intro Q hQ hP;simp [hC,hY];refine hQ _ _ _ _ (by kernel_rfl) ?_;clear hQ hP Q)|(refine gwC ?_ ?_<;>(intro hb;try (cases hb;done))))
  exact ⟨trivial,rfl⟩
 ·intro k hk
  have h1:¬k=100000:=fun e=>hk (hbig k (by omega))
  have h2:¬k=100008:=fun e=>hk (hbig k (by omega))
  simp [h1,h2]
 ·simp [okT,capQ]
 ·simp [capQ]
 ·simp [capQ]
 ·intro C d hC hC0 hY
  refine GW_seq ?_
  refine GW_region' [] (by kernel_rfl) ?_;intro Q hQ hP;simp [hC,hY,hc,hpl]
  have hk1:∀ k∈keys ws,k<100000:=fun k hk=>hrs k (h.fits.2.1 k hk).1
  have hk2:(100000:Nat)∉keys ws:=fun hm=>by have:=hk1 _ hm;omega
  have hk3:(100008:Nat)∉keys ws:=fun hm=>by have:=hk1 _ hm;omega
  have w1:updL (upd (upd (rst hp rs) 100000 (some zB)) 100008 (some (eB 0))) ws 100000=some zB:=by
   rw [updL_other hk2];simp
  have w2:updL (upd (upd (rst hp rs) 100000 (some zB)) 100008 (some (eB 0))) ws 100008=some (eB 0):=by
   rw [updL_other hk3];simp
  refine heapK_of (hp':=hp) h (fun k hk=>?_) hG trivial ?_
  ·have:=hrs k hk
   simp [rst,hk,show ¬k=100000 by omega,show ¬k=100008 by omega]
  simp only [zB,eB] at w1 w2
  simp [w1,w2,zB,eB]
  refine hQ _ _ _ _ ?_
  repeat' (first|refine gwA ?_|(refine gwX ?_;intro Q hQ hP;simp [hC,hY,w1,w2,zB,eB];refine hQ _ _ _ _ (by kernel_rfl) ?_;clear hQ hP Q)|(refine gwC ?_ ?_<;>(intro hb;try (cases hb;done))))
  refine ⟨.inr rfl,by simp [Tryz.results115],fun k hk=>?_⟩
  have h1:¬k=100000:=fun e=>hk (hbig k (by omega))
  have h2:¬k=100008:=fun e=>hk (hbig k (by omega))
  rw [updL_comm_upd hk3,updL_comm_upd hk2]
  simp [h1,h2]
theorem rtold_ret {g:FuncId} {capv:List Value} {hp:Hp} {rs:List Nat} {x0 x1 x2 x3:Int} {ws:List (Nat×Blk)} (hG:∀ k,k<100→hp k=G0 k) (hrs:∀ k∈rs,k<100000) (hc:capv.isEmpty=false) (hpl:capv.all plain0=true)
  (h:Fun Tryz.prog G0 g capv.toArray hp rs (.ret (.agg #[.int .u64 x0,.int .u64 x1,.int .u64 x2,.int .u64 x3]) ws)) :
  Fun Tryz.prog G0 87 #[.func (.func g) #[] capv.toArray] hp rs (.ret (.tuple #[.agg #[.int .u64 x0,.int .u64 x1,.int .u64 x2,.int .u64 x3],.int .i64 0]) ws):=by
 have hids:∀ x∈capv,ids0 (dom (rst hp rs)) x:=fun x hx=>(ids_plain0 (List.all_eq_true.1 hpl x hx)).1 (h.ids x (by simpa using hx))
 have hbig:∀ x,100000≤x→rst hp rs x=none:=fun x hx=>by
  unfold rst;rw [if_neg];rintro (h1|h1)
  ·omega
  ·have:=hrs x h1;omega
 refine fun_rec (out:=.ret (.tuple #[.agg #[.int .u64 x0,.int .u64 x1,.int .u64 x2,.int .u64 x3],.int .i64 0]) ws) (B:=100000) (B1:=100016) (id:=1) (t:=4) (ts1:=upd (upd (fun t=>[Value.func (.func g) #[] capv.toArray][t]?.getD undef) 2 (gptr 100000)) 3 (gptr 100008))
  (hp1:=upd (upd (rst hp rs) 100000 (some zB)) 100008 (some (eB 0))) capQ G0F hG Tryz.func87 rfl (by simp [Tryz.ntmps87]) Tryz.call87 ⟨_,_,_,_,rrec 0⟩ ?_ h.closed ?_ (by simp [Tryz.ntmps87]) (by omega) hbig ?_ ?_ ?_ ?_ ?_ ?_
 ·simpa using hids
 ·exact ⟨flatV_ids (by simp),h.fits.2⟩
 ·intro C hC hC0 hY
  repeat' (first|refine gwA ?_|(refine gwX ?_;intro Q hQ hP;simp [hC,hY];refine hQ _ _ _ _ (by kernel_rfl) ?_;clear hQ hP Q)|(refine gwC ?_ ?_<;>(intro hb;try (cases hb;done))))
  exact ⟨trivial,rfl⟩
 ·intro k hk
  have h1:¬k=100000:=fun e=>hk (hbig k (by omega))
  have h2:¬k=100008:=fun e=>hk (hbig k (by omega))
  simp [h1,h2]
 ·simp [okT,capQ]
 ·simp [capQ]
 ·simp [capQ]
 ·intro C d hC hC0 hY
  refine GW_seq ?_
  refine GW_region' [] (by kernel_rfl) ?_;intro Q hQ hP;simp [hC,hY,hc,hpl]
  have hk1:∀ k∈keys ws,k<100000:=fun k hk=>hrs k (h.fits.2.1 k hk).1
  have hk2:(100000:Nat)∉keys ws:=fun hm=>by have:=hk1 _ hm;omega
  have hk3:(100008:Nat)∉keys ws:=fun hm=>by have:=hk1 _ hm;omega
  have w1:updL (upd (upd (rst hp rs) 100000 (some zB)) 100008 (some (eB 0))) ws 100000=some zB:=by
   rw [updL_other hk2];simp
  have w2:updL (upd (upd (rst hp rs) 100000 (some zB)) 100008 (some (eB 0))) ws 100008=some (eB 0):=by
   rw [updL_other hk3];simp
  refine heapK_of (hp':=hp) h (fun k hk=>?_) hG trivial ?_
  ·have:=hrs k hk
   simp [rst,hk,show ¬k=100000 by omega,show ¬k=100008 by omega]
  simp only [zB,eB] at w1 w2
  simp [w1,w2,zB,eB]
  refine hQ _ _ _ _ ?_
  repeat' (first|refine gwA ?_|(refine gwX ?_;intro Q hQ hP;simp [hC,hY,w1,w2,zB,eB];refine hQ _ _ _ _ (by kernel_rfl) ?_;clear hQ hP Q)|(refine gwC ?_ ?_<;>(intro hb;try (cases hb;done))))
  refine ⟨.inr rfl,by simp [Tryz.results87],fun k hk=>?_⟩
  have h1:¬k=100000:=fun e=>hk (hbig k (by omega))
  have h2:¬k=100008:=fun e=>hk (hbig k (by omega))
  rw [updL_comm_upd hk3,updL_comm_upd hk2]
  simp [h1,h2]

def nbits (x:Int):Int:=if x≤0 then 0 else (Nat.log2 x.toNat:Int)+1
theorem nbits_pos {x:Int} (h:0<x):∃ k:Nat,nbits x=k+1∧2^k≤x∧x<2^(k+1):=by
 refine ⟨Nat.log2 x.toNat,by unfold nbits;rw [if_neg (by omega)],?_,?_⟩
 ·have:=Nat.log2_self_le (n:=x.toNat) (by omega)
  have h2:((2^Nat.log2 x.toNat:Nat):Int)≤(x.toNat:Int):=by exact_mod_cast this
  rw [Int.toNat_of_nonneg (by omega)] at h2
  exact_mod_cast h2
 ·have:=Nat.lt_log2_self (n:=x.toNat)
  have h2:(x.toNat:Int)<((2^(Nat.log2 x.toNat+1):Nat):Int):=by exact_mod_cast this
  rw [Int.toNat_of_nonneg (by omega)] at h2
  exact_mod_cast h2
theorem nbits_is {x:Int} {k:Nat} (h1:2^k≤x) (h2:x<2^(k+1)):nbits x=k+1:=by
 have hp:(0:Int)<2^k:=Int.pow_pos (by omega)
 unfold nbits
 rw [if_neg (by omega)]
 have:Nat.log2 x.toNat=k:=(Nat.log2_eq_iff (by omega)).2 ⟨by
  have:((2^k:Nat):Int)≤(x.toNat:Int):=by rw [Int.toNat_of_nonneg (by omega)];exact_mod_cast h1
  exact_mod_cast this,by
  have:(x.toNat:Int)<((2^(k+1):Nat):Int):=by rw [Int.toNat_of_nonneg (by omega)];exact_mod_cast h2
  exact_mod_cast this⟩
 rw [this]
theorem nbits_div {x:Int} (j:Nat) (h:2^j≤x):nbits x=j+nbits (x / 2^j):=by
 have hp:(0:Int)<2^j:=Int.pow_pos (by omega)
 have h1:0<x / 2^j:=by
  have:=(Int.le_ediv_iff_mul_le hp (a:=1) (b:=x)).2 (by omega);omega
 obtain ⟨k,e,l1,l2⟩:=nbits_pos h1
 rw [e]
 have:=nbits_is (x:=x) (k:=j+k) (by
  have:=(Int.le_ediv_iff_mul_le hp).1 l1
  rw [Int.pow_add,Int.mul_comm];exact this) (by
  have:=(Int.ediv_lt_iff_lt_mul hp).1 l2
  rw [Nat.add_assoc,Int.pow_add,Int.mul_comm];exact this)
 rw [this];omega
theorem idvS_tab {s:ByteArray} {m:Int} {C:Eff→Prop} (h0:0≤m) (h1:m<256) (ht:∀ k:Fin 256,(s[k.1]?).map (fun b=>b.toNat)=some (if k.1=0 then 0 else Nat.log2 k.1+1)) (h:C (val (.int .u8 (nbits m)) [])):idvS s m C:=by
 have h2:=ht ⟨m.toNat,by omega⟩
 cases hb:s[m.toNat]? with
 | none=>simp [hb] at h2
 | some b =>
  simp only [hb,Option.map_some,Option.some.injEq] at h2
  rw [idvS_at h0 hb,h2]
  have:((if m.toNat=0 then 0 else Nat.log2 m.toNat+1:Nat):Int)=nbits m:=by
   unfold nbits
   by_cases e:m≤0
   ·rw [if_pos e,if_pos (by omega)];rfl
   ·rw [if_neg e,if_neg (by omega)];rfl
  exact this▸h
theorem nbits_lt {x:Int} (h:x<256):0≤nbits x∧nbits x≤8:=by
 by_cases h0:0<x
 ·obtain ⟨k,e,l1,l2⟩:=nbits_pos h0
  rw [e]
  have:k<8:=Classical.byContradiction fun hk=>by
   have:(2:Int)^8≤2^k:=by exact_mod_cast Nat.pow_le_pow_right (by omega) (by omega:8≤k)
   omega
  omega
 ·unfold nbits;rw [if_pos (by omega)];omega
@[simp] theorem wrap_u8 (z:Int):IntKind.u8.wrap z=z%256:=rfl
set_option maxHeartbeats 1000000 in
theorem len64_ret (x:Int) (h0:0≤x) (h1:x<18446744073709551616):Ret Tryz.prog G0 158 #[.int .u64 x] (.int .i64 (nbits x)):=by
 refine ret_of G0F Tryz.func158 rfl Tryz.call158 rfl (by simp) (by simp [Tryz.ntmps158]) ?_
 intro C hC hC0 hY
 have f32:∀ z:Int,z.fdiv 4294967296=z / 4294967296:=fun z=>Int.fdiv_eq_ediv_of_nonneg z (by omega)
 have f16:∀ z:Int,z.fdiv 65536=z / 65536:=fun z=>Int.fdiv_eq_ediv_of_nonneg z (by omega)
 have f8:∀ z:Int,z.fdiv 256=z / 256:=fun z=>Int.fdiv_eq_ediv_of_nonneg z (by omega)
 have n32:4294967296≤x→nbits x=32+nbits (x / 4294967296):=nbits_div 32
 have n16:∀ y:Int,65536≤y→nbits y=16+nbits (y / 65536):=fun y=>nbits_div 16
 have n8:∀ y:Int,256≤y→nbits y=8+nbits (y / 256):=fun y=>nbits_div 8
 repeat' (first|refine gwA ?_|(refine gwX ?_;intro Q hQ hP;simp [hC,hY,f32,f16,f8];refine hQ _ _ _ _ (by kernel_rfl) ?_;clear hQ hP Q)|(refine gwC ?_ ?_<;>(intro hb;try (cases hb;done))))
 all_goals
  rename_i c1 c2
  simp at c1 c2 hb
  refine GW_region' [] (by kernel_rfl) ?_;intro Q hQ hP;simp [hC,hY]
  refine idvS_tab (by omega) (by omega) (by decide +kernel) ?_
  simp
  refine hQ _ _ _ _ ?_
  repeat' (first|refine gwA ?_|(refine gwX ?_;intro Q hQ hP;simp [hC,hY];refine hQ _ _ _ _ (by kernel_rfl) ?_;clear hQ hP Q)|(refine gwC ?_ ?_<;>(intro hb;try (cases hb;done))))
  refine ⟨.inr trivial,?_⟩
  simp [Tryz.results158]
  rw [Int.emod_eq_of_lt (by omega) (by omega)]
  have k2:=n16 x
  have k3:=n16 (x / 4294967296)
  have k4:=n8 x
  have k5:=n8 (x / 4294967296)
  have k6:=n8 (x / 65536)
  have k7:=n8 (x / 4294967296 / 65536)
  have b1:=nbits_lt (x:=x)
  have b2:=nbits_lt (x:=x / 256)
  have b3:=nbits_lt (x:=x / 65536)
  have b4:=nbits_lt (x:=x / 65536 / 256)
  have b5:=nbits_lt (x:=x / 4294967296)
  have b6:=nbits_lt (x:=x / 4294967296 / 256)
  have b7:=nbits_lt (x:=x / 4294967296 / 65536)
  have b8:=nbits_lt (x:=x / 4294967296 / 65536 / 256)
  rw [bm (by omega) (by omega)]
  try omega
@[simp] theorem len64 (x:Int) (h0:0≤x) (h1:x<18446744073709551616) (K:Value→Prop):callK Tryz.prog G0 158 #[.int .u64 x] K↔K (.int .i64 (nbits x)):=callK_iff G0W (by kernel_rfl) (len64_ret x h0 h1)
def uz (z:Int):Int:=z%115792089237316195423570985008687907853269984665640564039457584007913129639936
theorem nbits_bd {x:Int} (j:Nat) (h:x<2^j):0≤nbits x∧nbits x≤j:=by
 by_cases h0:0<x
 ·obtain ⟨k,e,l1,l2⟩:=nbits_pos h0
  rw [e]
  have:k<j:=Classical.byContradiction fun hk=>by
   have:(2:Int)^j≤2^k:=by exact_mod_cast Nat.pow_le_pow_right (by omega) (by omega:j≤k)
   omega
  omega
 ·unfold nbits;rw [if_pos (by omega)];omega
theorem nb_word (z:Int) (k:Nat):0≤nbits (wi z k)∧nbits (wi z k)≤64:=nbits_bd 64 (by have:=wi_lt z k;omega)
theorem size_3 (z:Int) (h:¬wi z 3=0):nbits (uz z)=192+nbits (wi z 3):=by
 have h0:=wi_ge z 3
 have e:uz z / 2^192=wi z 3:=by unfold uz wi;omega
 have:=nbits_div (x:=uz z) 192 (by unfold wi at h h0;unfold uz;omega)
 rw [this,e];rfl
theorem size_2 (z:Int) (h3:wi z 3=0) (h:¬wi z 2=0):nbits (uz z)=128+nbits (wi z 2):=by
 have h0:=wi_ge z 2
 have e:uz z / 2^128=wi z 2:=by unfold wi at h3;unfold uz wi;omega
 have:=nbits_div (x:=uz z) 128 (by unfold wi at h h0;unfold uz;omega)
 rw [this,e];rfl
theorem size_1 (z:Int) (h3:wi z 3=0) (h2:wi z 2=0) (h:¬wi z 1=0):nbits (uz z)=64+nbits (wi z 1):=by
 have h0:=wi_ge z 1
 have e:uz z / 2^64=wi z 1:=by unfold wi at h3 h2;unfold uz wi;omega
 have:=nbits_div (x:=uz z) 64 (by unfold wi at h h0;unfold uz;omega)
 rw [this,e];rfl
theorem size_0 (z:Int) (h3:wi z 3=0) (h2:wi z 2=0) (h1:wi z 1=0):uz z=wi z 0:=by
 unfold wi at h3 h2 h1;unfold uz wi;omega
theorem must_t (n:Int):RetP Tryz.prog G0 133 #[.bool true,.int .i64 n] (.ret (.tuple #[])):=by
 refine retp_of G0F Tryz.func133 rfl Tryz.call133 (fun v h=>by cases h;simp) (by simp) (by simp [Tryz.ntmps133]) ?_
 intro C hC hC0 hY
 repeat' (first|refine gwA ?_|(refine gwX ?_;intro Q hQ hP;simp [hC,hY];(first|refine hQ _ _ _ _ (by kernel_rfl) ?_|refine hP _ _ (by kernel_rfl) fun _=>?_);clear hQ hP Q)|(refine gwC ?_ ?_<;>(intro hb;try (cases hb;done))))
 exact ⟨.inl trivial,by simp [Tryz.results133]⟩
theorem must_f (n:Int):RetP Tryz.prog G0 133 #[.bool false,.int .i64 n] (.pan (erV n)):=by
 refine retp_of G0F Tryz.func133 rfl Tryz.call133 (fun v h=>by cases h) (by simp) (by simp [Tryz.ntmps133]) ?_
 intro C hC hC0 hY
 repeat' (first|refine gwA ?_|(refine gwX ?_;intro Q hQ hP;simp [hC,hY];(first|refine hQ _ _ _ _ (by kernel_rfl) ?_|refine hP _ _ (by kernel_rfl) fun _=>?_);clear hQ hP Q)|(refine gwC ?_ ?_<;>(intro hb;try (cases hb;done))))
 rfl
theorem sure_f (z:Int):RetP Tryz.prog G0 134 #[wd z,.bool false] (.ret (wd z)):=by
 refine retp_of G0F Tryz.func134 rfl Tryz.call134 (fun v h=>by cases h;simp) (by simp) (by simp [Tryz.ntmps134]) ?_
 intro C hC hC0 hY
 repeat' (first|refine gwA ?_|((first|refine gwR [1000133] ?_|refine gwD [1000133] ?_);intro Q hQ hP;simp [hC,hY];(repeat ((first|(refine callP_of (must_t 20) ?_));try simp [hC,hY]));(first|refine hQ _ _ _ _ (by kernel_rfl) ?_|refine hP _ _ (by kernel_rfl) fun _=>?_);clear hQ hP Q)|(refine gwC ?_ ?_<;>(intro hb;try (cases hb;done))))
 exact ⟨.inr trivial,by simp [Tryz.results134]⟩
theorem size_ret (z:Int):Ret Tryz.prog G0 153 #[wd z] (.int .i64 (nbits (uz z))):=by
 refine ret_of G0F Tryz.func153 rfl Tryz.call153 rfl (by simp) (by simp [Tryz.ntmps153]) ?_
 intro C hC hC0 hY
 have b0:=nb_word z 0
 have b1:=nb_word z 1
 have b2:=nb_word z 2
 have b3:=nb_word z 3
 have k3:=size_3 z
 have k2:=size_2 z
 have k1:=size_1 z
 have k0:=size_0 z
 have m3:Int.bmod (192+nbits (wi z 3)) 18446744073709551616=192+nbits (wi z 3):=bm (by omega) (by omega)
 have m2:Int.bmod (128+nbits (wi z 2)) 18446744073709551616=128+nbits (wi z 2):=bm (by omega) (by omega)
 have m1:Int.bmod (64+nbits (wi z 1)) 18446744073709551616=64+nbits (wi z 1):=bm (by omega) (by omega)
 repeat' (first|refine GWL_start ?_|refine GWL_step ?_|refine gwA ?_|(refine gwX ?_;intro Q hQ hP;simp [hC,hY,wi_ge,wi_lt,m1,m2,m3];(first|refine hQ _ _ _ _ (by kernel_rfl) ?_|refine hP _ _ (by kernel_rfl) fun _=>?_);clear hQ hP Q)|(refine gwC ?_ ?_<;>(intro hb;try (cases hb;done))))
 all_goals
  refine ⟨.inr trivial,?_⟩
  simp [Tryz.results153]
  simp_all
@[simp] theorem qsize (z:Int) (K:Value→Prop):callK Tryz.prog G0 153 #[Value.agg #[.int .u64 (wi (z) 0),.int .u64 (wi (z) 1),.int .u64 (wi (z) 2),.int .u64 (wi (z) 3)]] K↔K (.int .i64 (nbits (uz z))):=callK_iff G0W (by kernel_rfl) (size_ret z)

theorem emm (a p m:Int):a%m*p%m=a*p%m:=by rw [Int.mul_emod,Int.emod_emod_of_dvd _ (Int.dvd_refl _),←Int.mul_emod]
theorem or_add {x y:Int} {R:Nat} (hx0:0≤x) (hx:x<18446744073709551616) (hd:x%2^R=0) (hy0:0≤y) (hy:y<2^R) (hR:R≤64):bitI .or .u64 x y=x+y:=by
 have hp:(2:Int)^R≤2^64:=by exact_mod_cast Nat.pow_le_pow_right (by omega) (by omega:R≤64)
 have e:bitI .or .u64 x y=((BitVec.ofInt 64 x ||| BitVec.ofInt 64 y:BitVec 64).toNat:Int)%18446744073709551616:=by
  unfold bitI
  show IntKind.u64.wrap ((BitVec.ofInt 64 x ||| BitVec.ofInt 64 y:BitVec 64).toNat:Int)=_
  rw [wrap_u64]
 have hx':(BitVec.ofInt 64 x).toNat=x.toNat:=by
  rw [BitVec.toNat_ofInt];congr 1;exact Int.emod_eq_of_lt hx0 hx
 have hy':(BitVec.ofInt 64 y).toNat=y.toNat:=by
  rw [BitVec.toNat_ofInt];congr 1;exact Int.emod_eq_of_lt hy0 (by omega)
 obtain ⟨X,rfl⟩:=Int.eq_ofNat_of_zero_le hx0
 obtain ⟨Y,rfl⟩:=Int.eq_ofNat_of_zero_le hy0
 have hd':X%2^R=0:=by exact_mod_cast hd
 have hY:Y<2^R:=by exact_mod_cast hy
 have hX:X=(X / 2^R) <<< R:=by rw [Nat.shiftLeft_eq];exact (Nat.div_mul_cancel (Nat.dvd_of_mod_eq_zero hd')).symm
 have hor:X ||| Y=X+Y:=by
  rw [hX];exact (Nat.shiftLeft_add_eq_or_of_lt hY _).symm
 have hp':2^R≤2^64:=Nat.pow_le_pow_right (by omega) (by omega:R≤64)
 have hb:X+Y<18446744073709551616:=by
  rw [←hor];exact Nat.or_lt_two_pow (n:=64) (by omega) (by omega)
 rw [e,BitVec.toNat_or,hx',hy']
 simp only [Int.toNat_natCast,hor]
 omega
theorem two_split {R:Nat} (hR:R<64):(2:Int)^R*2^(64 - R)=18446744073709551616:=by
 rw [←Int.pow_add,show R+(64 - R)=64 by omega];rfl
theorem wi_shl0 (z:Int) (R:Nat):wi (z*2^R) 0=(wi z 0*2^R)%18446744073709551616:=by
 simp only [wi,Nat.mul_zero,Int.pow_zero,Int.ediv_one]
 rw [emm]
theorem wi_shlS (z:Int) (R:Nat) (hR:R<64) (k:Nat):wi (z*2^R) (k+1)=(wi z (k+1)*2^R)%18446744073709551616+wi z k / 2^(64 - R)∧0≤wi z k / 2^(64 - R)∧wi z k / 2^(64 - R)<2^R∧(wi z (k+1)*2^R)%18446744073709551616%2^R=0:=by
 have hM:=two_split hR
 have hPp:(0:Int)<2^R:=Int.pow_pos (by omega)
 have hSp:(0:Int)<2^(64 - R):=Int.pow_pos (by omega)
 have e1:(2:Int)^(64*(k+1))=2^(64*k)*18446744073709551616:=by
  rw [show 64*(k+1)=64*k+64 by omega,Int.pow_add];rfl
 have hKp:(0:Int)<2^(64*k):=Int.pow_pos (by omega)
 unfold wi
 rw [e1]
 generalize (2:Int)^R=P at *
 generalize (2:Int)^(64 - R)=S at *
 generalize (2:Int)^(64*k)=K at *
 have eu:z*P / (K*18446744073709551616)=z / K / S:=by
  rw [←hM,show K*(P*S)=(K*S)*P by rw [Int.mul_comm P S,Int.mul_assoc],Int.mul_ediv_mul_of_pos_left _ _ hPp,Int.ediv_ediv_of_nonneg (by omega)]
 rw [eu,←Int.ediv_ediv_of_nonneg (Int.le_of_lt hKp)]
 generalize z / K=u at *
 have hdvd:P ∣ 18446744073709551616:=⟨S,hM.symm⟩
 have h1:0≤u%18446744073709551616 / S:=Int.ediv_nonneg (Int.emod_nonneg _ (by omega)) (by omega)
 have h2:u%18446744073709551616 / S<P:=by
  have:=Int.emod_lt_of_pos u (b:=18446744073709551616) (by omega)
  exact (Int.ediv_lt_iff_lt_mul hSp).2 (by rw [hM];exact this)
 have h3:(u / 18446744073709551616%18446744073709551616*P)%18446744073709551616%P=0:=by
  rw [Int.emod_emod_of_dvd _ hdvd,Int.mul_emod_left]
 refine ⟨?_,h1,h2,h3⟩
 have e2:u / S=(u / 18446744073709551616)*P+u%18446744073709551616 / S:=by
  have:=Int.emod_add_mul_ediv u 18446744073709551616
  have h4:u=u%18446744073709551616+S*(u / 18446744073709551616*P):=by
   have:S*(u / 18446744073709551616*P)=18446744073709551616*(u / 18446744073709551616):=by
    rw [←hM,Int.mul_comm P S,Int.mul_assoc,Int.mul_comm _ P]
   omega
  conv=>lhs;rw [h4]
  rw [Int.add_mul_ediv_left _ _ (by omega)]
  omega
 rw [e2,emm]
 have h5:(u / 18446744073709551616*P)%18446744073709551616%P=0:=by rw [Int.emod_emod_of_dvd _ hdvd,Int.mul_emod_left]
 have h6:=Int.emod_nonneg (u / 18446744073709551616*P) (b:=18446744073709551616) (by omega)
 have h7:=Int.emod_lt_of_pos (u / 18446744073709551616*P) (b:=18446744073709551616) (by omega)
 have h8:(u / 18446744073709551616*P)%18446744073709551616≤18446744073709551616 - P:=by
  obtain ⟨c,hc⟩:=Int.dvd_of_emod_eq_zero h5
  rw [hc] at h7 ⊢
  rw [←hM] at h7 ⊢
  have:c<S:=Int.lt_of_mul_lt_mul_left h7 (by omega)
  have:P*c≤P*(S - 1):=Int.mul_le_mul_of_nonneg_left (by omega) (by omega)
  rw [Int.mul_sub,Int.mul_one] at this
  exact this
 rw [Int.add_emod,Int.emod_eq_of_lt h1 (by omega),Int.emod_eq_of_lt (by omega) (by omega)]
theorem wi_up (z:Int) (q i R:Nat) (h:q≤i):wi (z*2^(64*q+R)) i=wi (z*2^R) (i - q):=by
 unfold wi
 obtain ⟨j,rfl⟩:∃ j,i=q+j:=⟨i - q,by omega⟩
 rw [show q+j - q=j by omega,Int.pow_add,show z*(2^(64*q)*2^R)=(z*2^R)*2^(64*q) by rw [Int.mul_comm (2^(64*q)),Int.mul_assoc],show 64*(q+j)=64*j+64*q by omega,Int.pow_add,
  Int.mul_ediv_mul_of_pos_left _ _ (Int.pow_pos (by omega))]
theorem wi_dn (z:Int) (q i R:Nat) (h:i<q):wi (z*2^(64*q+R)) i=0:=by
 unfold wi
 obtain ⟨j,rfl⟩:∃ j,q=i+1+j:=⟨q - (i+1),by omega⟩
 rw [show 64*(i+1+j)+R=64*i+(64+(64*j+R)) by omega,Int.pow_add,Int.pow_add,show z*(2^(64*i)*(2^64*2^(64*j+R)))=(z*2^(64*j+R)*2^64)*2^(64*i) by
  rw [Int.mul_comm (2^(64*i)),Int.mul_comm (2^64) (2^(64*j+R))];simp only [Int.mul_assoc],Int.mul_ediv_cancel _ (by have:(0:Int)<2^(64*i):=Int.pow_pos (by omega);omega)]
 exact Int.mul_emod_left _ _
set_option maxHeartbeats 1000000 in
theorem shift_ret (z:Int) (q R:Nat) (hq:q<4) (hR:R<64):Ret Tryz.prog G0 154 #[wd z,.int .i64 (64*q+R)] (wd (z*2^(64*q+R))):=by
 refine ret_of G0F Tryz.func154 rfl Tryz.call154 (by simp) (by simp) (by simp [Tryz.ntmps154]) ?_
 intro C hC hC0 hY
 have t1:(64*(q:Int)+R).tdiv 64=q:=by rw [Int.tdiv_eq_ediv_of_nonneg (by omega)];omega
 have t2:(64*(q:Int)+R).tmod 64=R:=by rw [Int.tmod_eq_emod_of_nonneg (by omega)];omega
 have m1:min R 64=R:=by omega
 have m2:Int.bmod (64 - (R:Int)) 18446744073709551616=64 - R:=bm (by omega) (by omega)
 have m3:(64 - (R:Int)).toNat=64 - R:=by omega
 have m4:min (64 - R) 64=64 - R:=by omega
 have m5:(R:Int)≤64:=by omega
 have m6:(0:Int)≤64 - R:=by omega
 have fd:∀ x:Int,x.fdiv (2^(64 - R))=x / 2^(64 - R):=fun x=>Int.fdiv_eq_ediv_of_nonneg x (Int.le_of_lt (Int.pow_pos (by omega)))
 have OR:∀ k,bitI .or .u64 ((wi z (k+1)*2^R)%18446744073709551616) (wi z k / 2^(64 - R))=wi (z*2^R) (k+1):=fun k=>by
  obtain ⟨e,h1,h2,h3⟩:=wi_shlS z R hR k
  rw [or_add (R:=R) (Int.emod_nonneg _ (by omega)) (Int.emod_lt_of_pos _ (by omega)) h3 h1 h2 (by omega),e]
 have o0:=OR 0
 have o1:=OR 1
 have o2:=OR 2
 have s0:=wi_shl0 z R
 have:q=0∨q=1∨q=2∨q=3:=by omega
 have up:=wi_up z
 have dn:=wi_dn z
 rcases this with rfl|rfl|rfl|rfl
 ·simp at t1 t2
  repeat' (first|refine GWL_start ?_|refine GWL_step ?_|refine gwA ?_|(refine gwX ?_;intro Q hQ hP;simp [hC,hY,t1,t2,m1,m2,m3,m4,m5,m6,fd,wi_ge,wi_lt];refine hQ _ _ _ _ (by kernel_rfl) ?_;clear hQ hP Q)|(refine gwC ?_ ?_<;>(intro hb;try (cases hb;done))))
  refine ⟨.inr trivial,?_⟩
  simp [Tryz.results154,o0,o1,o2,s0]
 ·simp at t1 t2
  repeat' (first|refine GWL_start ?_|refine GWL_step ?_|refine gwA ?_|(refine gwX ?_;intro Q hQ hP;simp [hC,hY,t1,t2,m1,m2,m3,m4,m5,m6,fd,wi_ge,wi_lt];refine hQ _ _ _ _ (by kernel_rfl) ?_;clear hQ hP Q)|(refine gwC ?_ ?_<;>(intro hb;try (cases hb;done))))
  refine ⟨.inr trivial,?_⟩
  simp [Tryz.results154,o0,o1,o2,s0]
  exact ⟨(dn 1 0 R (by omega)).symm,((up 1 1 R (by omega)).trans s0).symm,(up 1 2 R (by omega)).symm,(up 1 3 R (by omega)).symm⟩
 ·simp at t1 t2
  repeat' (first|refine GWL_start ?_|refine GWL_step ?_|refine gwA ?_|(refine gwX ?_;intro Q hQ hP;simp [hC,hY,t1,t2,m1,m2,m3,m4,m5,m6,fd,wi_ge,wi_lt];refine hQ _ _ _ _ (by kernel_rfl) ?_;clear hQ hP Q)|(refine gwC ?_ ?_<;>(intro hb;try (cases hb;done))))
  refine ⟨.inr trivial,?_⟩
  simp [Tryz.results154,o0,o1,o2,s0]
  exact ⟨(dn 2 0 R (by omega)).symm,(dn 2 1 R (by omega)).symm,((up 2 2 R (by omega)).trans s0).symm,(up 2 3 R (by omega)).symm⟩
 ·simp at t1 t2
  repeat' (first|refine GWL_start ?_|refine GWL_step ?_|refine gwA ?_|(refine gwX ?_;intro Q hQ hP;simp [hC,hY,t1,t2,m1,m2,m3,m4,m5,m6,fd,wi_ge,wi_lt];refine hQ _ _ _ _ (by kernel_rfl) ?_;clear hQ hP Q)|(refine gwC ?_ ?_<;>(intro hb;try (cases hb;done))))
  refine ⟨.inr trivial,?_⟩
  simp [Tryz.results154,o0,o1,o2,s0]
  exact ⟨(dn 3 0 R (by omega)).symm,(dn 3 1 R (by omega)).symm,(dn 3 2 R (by omega)).symm,((up 3 3 R (by omega)).trans s0).symm⟩
theorem shift_n (z n:Int) (h0:0≤n) (h1:n<256):Ret Tryz.prog G0 154 #[wd z,.int .i64 n] (wd (z*2^n.toNat)):=by
 have h:=shift_ret z (n / 64).toNat (n%64).toNat (by omega) (by omega)
 have e:64*(n / 64).toNat+(n%64).toNat=n.toNat:=by omega
 have e':(64*((n / 64).toNat:Int)+((n%64).toNat:Int))=n:=by omega
 rw [e,e'] at h
 exact h
@[simp] theorem qshift (z n:Int) (h0:0≤n) (h1:n<256) (K:Value→Prop):callK Tryz.prog G0 154 #[Value.agg #[.int .u64 (wi (z) 0),.int .u64 (wi (z) 1),.int .u64 (wi (z) 2),.int .u64 (wi (z) 3)],.int .i64 n] K↔K (wd (z*2^n.toNat)):=callK_iff G0W (by kernel_rfl) (shift_n z n h0 h1)

theorem shifts_new (a b:Int) (k:Nat) (h100:100≤k):Fun Tryz.prog G0 143 #[wd a,wd b] G0 [] (.new (.func (.func 152) #[] #[.pointer (some ⟨k,0,none⟩),.pointer (some ⟨k+1,0,none⟩)]) [(k,wb a),(k+1,wb b)]):=by
 have e0:rst G0 []=G0:=rst_G G0F []
 refine new_of (B:=200) (fun j=>if j=k then 200 else if j=k+1 then 208 else j) G0F (fun _ _=>rfl) Tryz.func143 rfl Tryz.call143 (by simp [idsV,idsA,idsF,ids0]) (by rw [e0];exact G0_closed _) ?_ (by simp [Tryz.ntmps143]) (by omega) (by rw [e0];exact fun x hx=>G0_big x (by omega)) (fun j hj=>?_) ?_ ?_ ?_ ?_
 ·refine ⟨by simp [idsV,idsA,idsF,ids0,extD,keys],by simp [keys];omega,fun q b c h1 h2=>?_⟩
  simp at h1 h2
  rcases h1 with ⟨e1,rfl⟩|⟨e1,rfl⟩<;>rcases h2 with ⟨e2,rfl⟩|⟨e2,rfl⟩<;>first|rfl|omega
 ·rw [e0] at hj;have:=G0_dom hj;rw [if_neg (by omega),if_neg (by omega)]
 ·simp [e0,dom]
 ·simp
 ·simp [wb,ids_lit,idsF,ids0]
 ·intro C hC hC0 hY
  rw [e0]
  repeat' (first|refine gwA ?_|(refine gwX ?_;intro Q hQ hP;simp [hC,hY];refine hQ _ _ _ _ (by kernel_rfl) ?_;clear hQ hP Q)|(refine gwC ?_ ?_<;>(intro hb;try (cases hb;done))))
  refine ⟨.inr trivial,?_⟩
  simp [Tryz.results143,ren,renA,renF,ren0,wb]
  intro j hj
  have:=G0_dom hj
  rw [if_neg (by omega),if_neg (by omega)]
theorem uz_bd (z:Int):0≤uz z∧uz z<2^256:=by unfold uz;omega
def shN (a b:Int):Int:=nbits (uz a) - nbits (uz b)
theorem shN_bd (a b:Int):-256≤shN a b∧shN a b≤256:=by
 have h1:=nbits_bd 256 (uz_bd a).2
 have h2:=nbits_bd 256 (uz_bd b).2
 unfold shN;omega
def shXs (b N:Int):List (Array Value):=(List.range (N+1).toNat).map fun (i:Nat)=>#[.int .i64 (N - (i:Int)),wd (b*2^(N - (i:Int)).toNat)]
theorem shXs_len (b N:Int):(shXs b N).length=(N+1).toNat:=by simp [shXs]
theorem shXs_at (b N:Int) (i:Nat) (h:i<(N+1).toNat):(shXs b N)[i]? = some #[.int .i64 (N - i),wd (b*2^(N - i).toNat)]:=by
 simp [shXs,h]
def shSt (a b N:Int) (l i:Nat):GS :=
 ⟨tsL [(0,.func (.yield l) #[] #[]),(1,.pointer (some ⟨100,0,none⟩)),(2,.pointer (some ⟨101,0,none⟩)),(4,.int .i64 (N - i))],wHp a b,300,i⟩
theorem shifts_it (a b:Int) (hlt:shN a b<256):IterG Tryz.prog G0 152 #[.pointer (some ⟨100,0,none⟩),.pointer (some ⟨101,0,none⟩)] (wHp a b) [100,101] (shXs b (shN a b)):=by
 have e0:rst (wHp a b) [100,101]=wHp a b:=hpL_rst G0F (by simp)
 refine iter_of (B:=200) (v:=.tuple #[]) G0F (fun k hk=>hpL_low (by simp) hk) Tryz.func152 rfl Tryz.call152 ?_ ?_ (by simp [Tryz.ntmps152]) (by omega) ?_ ?_
 ·rw [e0];simp [idsV,idsA,idsF,ids0,dom,wHp]
 ·rw [e0]
  intro k c hk
  rcases hpL_mem hk with h|h
  ·simp at h
   rcases h with ⟨_,rfl⟩|⟨_,rfl⟩<;>simp [wb,ids_lit,idsF,ids0]
  ·exact Blk.flat_ids ((G0F k c h).2)
 ·rw [e0]
  intro x hx
  have h1:¬x=100:=by omega
  have h2:¬x=101:=by omega
  have h3:100≤x:=by omega
  simp [wHp,h1,h2,h3]
 ·intro C l stop hC hC0 hY
  rw [e0] at hC0 ⊢
  have hbd:=shN_bd a b
  have hN:Int.bmod (nbits (uz a) - nbits (uz b)) 18446744073709551616=shN a b:=bm (by unfold shN at hbd;omega) (by unfold shN at hbd;omega)
  have hlen:=shXs_len b (shN a b)
  generalize hn:shN a b=N at *
  generalize hxs:shXs b N=xs at *
  refine GW_scope' 0 (fun m s=>∃ i,i≤stop∧i+m=xs.length∧s=shSt a b N l i) rfl ?_ ?_
  ·rintro m _ ⟨i,hi,him,rfl⟩
   have hi256:(i:Int)≤257:=by omega
   by_cases hl:i<xs.length
   ·have g1:(i:Int)≤N:=by omega
    have g2:N - (i:Int)<256:=by omega
    have g4:Int.bmod (N - (i:Int) - 1) 18446744073709551616=N - ((i+1:Nat):Int):=by rw [bm (by omega) (by omega)];omega
    have hx:xs[i]? = some #[.int .i64 (N - (i:Int)),wd (b*2^(N - (i:Int)).toNat)]:=by
     rw [←hxs];exact shXs_at b N i (by omega)
    simp only [wd_eq] at hx
    by_cases hs:i=stop
    ·have q1:(i != stop)=false:=by simp [hs]
     unfold shSt
     repeat' (first|refine gwA ?_|(refine gwX ?_;intro Q hQ hP;simp [hC,hY,wHp,wb,hi,g1,g2,hx,q1];refine hQ _ _ _ _ (by kernel_rfl) ?_;clear hQ hP Q)|(refine gwC ?_ ?_<;>(intro hb;try (cases hb;done))))
     refine ⟨.inl trivial,by simp [Tryz.results152],?_⟩
     show i+1=_
     omega
    ·have q1:(i != stop)=true:=by simp [hs]
     unfold shSt
     repeat' (first|refine gwA ?_|(refine gwX ?_;intro Q hQ hP;simp [hC,hY,wHp,wb,hi,g1,g2,g4,hx,q1];refine hQ _ _ _ _ (by kernel_rfl) ?_;clear hQ hP Q)|(refine gwC ?_ ?_<;>(intro hb;try (cases hb;done))))
     refine ⟨rfl,shSt a b N l (i+1),xs.length - (i+1),weakL _ 300 hC G0F (m:=[(100,wb a),(101,wb b)]) (m0:=[(100,wb a),(101,wb b)]) hC0 (by omega) ?_ ?_ ?_,⟨i+1,by omega,by omega,rfl⟩,by omega⟩
     ·simp [dom]
     ·simp [wb]
     ·simp [wb]
   ·have g1:¬(i:Int)≤N:=by omega
    unfold shSt
    repeat' (first|refine gwA ?_|(refine gwX ?_;intro Q hQ hP;simp [hC,hY,wHp,wb,g1];refine hQ _ _ _ _ (by kernel_rfl) ?_;clear hQ hP Q)|(refine gwC ?_ ?_<;>(intro hb;try (cases hb;done))))
    refine ⟨.inl trivial,by simp [Tryz.results152],?_⟩
    show i=_
    omega
  ·intro pass
   refine GW_seq ?_
   (refine gwX ?_;intro Q hQ hP;simp [hC,hY,wHp,wb,hN];refine hQ _ _ _ _ (by kernel_rfl) ?_;clear hQ hP Q)
   simp only [wN,wM,Nat.reduceAdd,Nat.reduceMul]
   refine GW_seq (GW_label ?_)
   simp only [thenG_normal]
   refine pass xs.length (shSt a b N l 0) _ ?_ ⟨0,by omega,by omega,rfl⟩
   refine weakL _ 300 hC G0F (m:=[(100,wb a),(101,wb b)]) (m0:=[(100,wb a),(101,wb b)]) hC0 (by omega) ?_ ?_ ?_
   ·simp [dom]
   ·simp [wb]
   ·simp [wb]

theorem sz_id {z:Int} (h0:-57896044618658097711785492504343953926634992332820282019728792003956564819968≤z) (h1:z<57896044618658097711785492504343953926634992332820282019728792003956564819968):sz z=z:=by
 unfold sz;rw [Int.bmod_def];split<;>omega
theorem sz_pos {z:Int} (h0:0≤z) (h1:z<57896044618658097711785492504343953926634992332820282019728792003956564819968):sz z=z:=sz_id (Int.le_trans (by decide) h0) h1
theorem div_step (a M:Int) (hM:0<M):(M≤a%(2*M)→a%M=a%(2*M) - M∧a / M=2*(a / (2*M))+1)∧(a%(2*M)<M→a%M=a%(2*M)∧a / M=2*(a / (2*M))):=by
 have h1:=Int.emod_add_mul_ediv a (2*M)
 have h2:=Int.emod_nonneg a (b:=2*M) (by omega)
 have h3:=Int.emod_lt_of_pos a (b:=2*M) (by omega)
 have e:2*M*(a / (2*M))=M*(2*(a / (2*M))):=by rw [Int.mul_comm 2 M,Int.mul_assoc]
 rw [e] at h1
 generalize a%(2*M)=r at *
 generalize 2*(a / (2*M))=k at *
 constructor
 ·intro h
  have ea:a=(r - M)+M*(k+1):=by rw [Int.mul_add];omega
  constructor
  ·rw [ea,Int.add_mul_emod_self_left,Int.emod_eq_of_lt (by omega) (by omega)]
  ·rw [ea,Int.add_mul_ediv_left _ _ (by omega),Int.ediv_eq_zero_of_lt (by omega) (by omega)];omega
 ·intro h
  have ea:a=r+M*k:=by omega
  constructor
  ·rw [ea,Int.add_mul_emod_self_left,Int.emod_eq_of_lt (by omega) (by omega)]
  ·rw [ea,Int.add_mul_ediv_left _ _ (by omega),Int.ediv_eq_zero_of_lt (by omega) (by omega)];omega
theorem pow_pos2 (k:Nat):(0:Int)<2^k:=Int.pow_pos (by omega)
theorem wi_bit (c:Int) (t r:Nat) (hr:r<64):bitI .or .u64 (wi (c*2^(64*t+r+1)) t) (2^r)=wi (c*2^(64*t+r+1)+2^(64*t+r)) t:=by
 have e1:c*2^(64*t+r+1) / 2^(64*t)=c*2^(r+1):=by
  rw [show 64*t+r+1=(r+1)+64*t by omega,Int.pow_add,←Int.mul_assoc,Int.mul_ediv_cancel _ (by have:=pow_pos2 (64*t);omega)]
 have e2:(c*2^(64*t+r+1)+2^(64*t+r)) / 2^(64*t)=c*2^(r+1)+2^r:=by
  have x1:(2:Int)^(64*t+r+1)=2^(r+1)*2^(64*t):=by rw [←Int.pow_add];congr 1;omega
  have x2:(2:Int)^(64*t+r)=2^r*2^(64*t):=by rw [←Int.pow_add];congr 1;omega
  rw [x1,x2,←Int.mul_assoc,←Int.add_mul,Int.mul_ediv_cancel _ (by have:=pow_pos2 (64*t);omega)]
 have hM:(18446744073709551616:Int)=2^(63 - r)*2^(r+1):=by rw [←Int.pow_add,show 63 - r+(r+1)=64 by omega];rfl
 have hdvd:(2:Int)^(r+1) ∣ 18446744073709551616:=⟨2^(63 - r),by rw [hM,Int.mul_comm]⟩
 have hp:=pow_pos2 r
 have hp1:(2:Int)^(r+1)=2*2^r:=by rw [Int.pow_succ,Int.mul_comm]
 have h5:(c*2^(r+1))%18446744073709551616%2^(r+1)=0:=by rw [Int.emod_emod_of_dvd _ hdvd,Int.mul_emod_left]
 have h6:=Int.emod_nonneg (c*2^(r+1)) (b:=18446744073709551616) (by omega)
 have h7:=Int.emod_lt_of_pos (c*2^(r+1)) (b:=18446744073709551616) (by omega)
 have h8:(c*2^(r+1))%18446744073709551616≤18446744073709551616 - 2^(r+1):=by
  obtain ⟨d,hd⟩:=Int.dvd_of_emod_eq_zero h5
  rw [hd] at h7 ⊢
  have hs:=pow_pos2 (63 - r)
  have hq:=pow_pos2 (r+1)
  rw [hM] at h7 ⊢
  generalize (2:Int)^(r+1)=P at *
  generalize (2:Int)^(63 - r)=S at *
  rw [Int.mul_comm S P] at h7 ⊢
  have:d<S:=Int.lt_of_mul_lt_mul_left h7 (by omega)
  have:P*d≤P*(S - 1):=Int.mul_le_mul_of_nonneg_left (by omega) (by omega)
  rw [Int.mul_sub,Int.mul_one] at this
  exact this
 unfold wi
 rw [e1,e2,or_add (R:=r+1) h6 h7 h5 (by omega) (by omega) (by omega),Int.add_emod (c*2^(r+1)),Int.emod_eq_of_lt (a:=2^r) (by omega) (by omega),Int.emod_eq_of_lt (a:=c*2^(r+1)%18446744073709551616+2^r) (by omega) (by omega)]
theorem wi_other (c:Int) (t r j:Nat) (hr:r<64) (h:j≠t):wi (c*2^(64*t+r+1)+2^(64*t+r)) j=wi (c*2^(64*t+r+1)) j:=by
 unfold wi
 by_cases hj:j<t
 ·obtain ⟨m,rfl⟩:∃ m,t=j+1+m:=⟨t - (j+1),by omega⟩
  have e:(2:Int)^(64*(j+1+m)+r)=(2^(64*m+r)*18446744073709551616)*2^(64*j):=by
   rw [show 64*(j+1+m)+r=64*m+r+64+64*j by omega,Int.pow_add,Int.pow_add];rfl
  rw [Int.pow_succ,e,show c*(2^(64*m+r)*18446744073709551616*2^(64*j)*2)=(c*2*2^(64*m+r)*18446744073709551616)*2^(64*j) by
   simp only [Int.mul_assoc,Int.mul_comm,Int.mul_left_comm],←Int.add_mul,Int.mul_ediv_cancel _ (by have:=pow_pos2 (64*j);omega),Int.mul_ediv_cancel _ (by have:=pow_pos2 (64*j);omega),←Int.add_mul,Int.mul_emod_left,Int.mul_emod_left]
 ·obtain ⟨m,rfl⟩:∃ m,j=t+1+m:=⟨j - (t+1),by omega⟩
  have e:(2:Int)^(64*(t+1+m))=2^(64*t+r+1)*2^(64*m+(63 - r)):=by
   rw [←Int.pow_add];congr 1;omega
  have hp:=pow_pos2 (64*t+r)
  have hq:(2:Int)^(64*t+r+1)=2*2^(64*t+r):=by rw [Int.pow_succ,Int.mul_comm]
  have hc:(c*2^(64*t+r+1)+2^(64*t+r)) / 2^(64*t+r+1)=c:=by
   rw [Int.add_comm,Int.add_mul_ediv_right _ _ (by omega),Int.ediv_eq_zero_of_lt (by omega) (by omega)];omega
  rw [e,←Int.ediv_ediv_of_nonneg (Int.le_of_lt (pow_pos2 _)),←Int.ediv_ediv_of_nonneg (Int.le_of_lt (pow_pos2 _)),hc,Int.mul_ediv_cancel _ (by omega)]
def rA (a b:Int) (k:Nat):Int:=a%(b*2^k)
def qA (a b:Int) (k:Nat):Int:=a / (b*2^k)*2^k
theorem dA_step (a b:Int) (hb:0<b) (k:Nat):(b*2^k≤rA a b (k+1)→rA a b k=rA a b (k+1) - b*2^k∧qA a b k=qA a b (k+1)+2^k)∧(rA a b (k+1)<b*2^k→rA a b k=rA a b (k+1)∧qA a b k=qA a b (k+1)):=by
 have hp:=pow_pos2 k
 have e:b*2^(k+1)=2*(b*2^k):=by rw [Int.pow_succ,←Int.mul_assoc,Int.mul_comm]
 have e2:∀ x:Int,x*2^(k+1)=2*x*2^k:=fun x=>by rw [Int.pow_succ,Int.mul_comm (2^k),←Int.mul_assoc,Int.mul_comm x 2]
 have h:=div_step a (b*2^k) (Int.mul_pos hb hp)
 unfold rA qA
 rw [e,e2]
 refine ⟨fun h1=>?_,fun h1=>?_⟩
 ·obtain ⟨h2,h3⟩:=h.1 h1
  exact ⟨h2,by rw [h3,Int.add_mul,Int.one_mul]⟩
 ·obtain ⟨h2,h3⟩:=h.2 h1
  exact ⟨h2,by rw [h3]⟩
theorem dA_end (a b:Int):rA a b 0=a%b∧qA a b 0=a / b:=by simp [rA,qA]
theorem dA_begin (a b:Int) (k:Nat) (h0:0≤a) (h:a<b*2^k):rA a b k=a∧qA a b k=0:=by
 unfold rA qA
 rw [Int.emod_eq_of_lt h0 h,Int.ediv_eq_zero_of_lt h0 h]
 simp
theorem shN_up (a b:Int) (ha0:0≤a) (hb0:0<b) (ha:a<2^256) (hb:b<2^256):a<b*2^(shN a b+1).toNat∧(0≤shN a b→b*2^(shN a b).toNat<2^(nbits a).toNat):=by
 have ea:uz a=a:=by unfold uz;omega
 have eb:uz b=b:=by unfold uz;omega
 unfold shN
 rw [ea,eb]
 obtain ⟨j,hj,j1,j2⟩:=nbits_pos hb0
 by_cases h0:a=0
 ·subst h0
  have e0:nbits 0=0:=rfl
  rw [e0,hj]
  exact ⟨Int.mul_pos hb0 (pow_pos2 _),fun h=>by omega⟩
 ·obtain ⟨k,hk,k1,k2⟩:=nbits_pos (x:=a) (by omega)
  rw [hk,hj]
  refine ⟨?_,fun h=>?_⟩
  ·by_cases hkj:j≤k+1
   ·have e:((k:Int)+1 - (j+1)+1).toNat=k+1 - j:=by omega
    rw [e]
    refine Int.lt_of_lt_of_le k2 ?_
    have h3:(2:Int)^(k+1)=2^j*2^(k+1 - j):=by rw [←Int.pow_add];congr 1;omega
    rw [h3]
    exact Int.mul_le_mul_of_nonneg_right j1 (Int.le_of_lt (pow_pos2 _))
   ·have e:((k:Int)+1 - (j+1)+1).toNat=0:=by omega
    rw [e,Int.pow_zero,Int.mul_one]
    refine Int.lt_of_lt_of_le k2 (Int.le_trans ?_ j1)
    exact_mod_cast Nat.pow_le_pow_right (by omega) (by omega:k+1≤j)
  ·have e:((k:Int)+1 - (j+1)).toNat=k - j:=by omega
   have e':((k:Int)+1).toNat=k+1:=by omega
   rw [e,e']
   have h3:(2:Int)^(k+1)=2^(j+1)*2^(k - j):=by rw [←Int.pow_add];congr 1;omega
   rw [h3]
   exact Int.mul_lt_mul_of_pos_right j2 (pow_pos2 _)

def pnHp (a b:Int) (k:Nat):Hp:=hpL G0 [(200,wb (rA a b k)),(208,wb b),(216,⟨fa 4 .u64 (wi (qA a b k)),.ty 86⟩),(224,zB)]
def pnTs:Nat→Value:=tsL [(2,.pointer (some ⟨200,0,none⟩)),(3,.pointer (some ⟨208,0,none⟩)),(4,.pointer (some ⟨216,0,none⟩)),(5,.pointer (some ⟨224,0,none⟩))]
set_option maxHeartbeats 1000000 in
theorem plain_ret (a b:Int) (ha0:0≤a) (ha:a<57896044618658097711785492504343953926634992332820282019728792003956564819968) (hb0:0<b) (hb1:b<57896044618658097711785492504343953926634992332820282019728792003956564819968) :
  Ret Tryz.prog G0 135 #[wd a,wd b] (.tuple #[wd (a / b),wd (a%b)]):=by
 refine ret_of G0F Tryz.func135 rfl Tryz.call135 (by simp) (by simp) (by simp [Tryz.ntmps135]) ?_
 intro C hC hC0 hY
 have hup:=shN_up a b ha0 hb0 (by omega) (by omega)
 have hbd:=shN_bd a b
 have hna:nbits a≤255:=(nbits_bd 255 (by omega)).2
 have hlt:shN a b<256:=by
  have ea:uz a=a:=by unfold uz;omega
  have hnb:=nbits_bd 256 (uz_bd b).2
  unfold shN;rw [ea];omega
 have hit:=shifts_it a b hlt
 generalize shN a b=N at *
 repeat' (first|refine gwA ?_|(refine gwX ?_;intro Q hQ hP;simp [hC,hY];refine hQ _ _ _ _ (by kernel_rfl) ?_;clear hQ hP Q)|(refine gwC ?_ ?_<;>(intro hb;try (cases hb;done))))
 refine GW_region' [143] (by kernel_rfl) ?_;intro Q hQ hP;simp [hC,hY]
 refine heapK_of (shifts_new a b 248 (by omega)) (by simp) (fun _ _=>rfl) (by simp [Res.at]) ?_
 simp
 refine hQ _ _ _ _ ?_;clear hQ hP Q
 repeat' (first|refine gwA ?_|(refine gwX ?_;intro Q hQ hP;simp [hC,hY];refine hQ _ _ _ _ (by kernel_rfl) ?_;clear hQ hP Q)|(refine gwC ?_ ?_<;>(intro hb;try (cases hb;done))))
 refine GW_range (f:=152) (rs:=[248,249]) (xs:=shXs b N) (caps:=#[.pointer (some ⟨248,0,none⟩),.pointer (some ⟨249,0,none⟩)]) (by simp) ?_ ?_ (by simp [Tryz.ntmps135]) pnTs (fun i=>pnHp a b (N+1 - (i:Int)).toNat) 300 (N+1).toNat (by rw [shXs_len];omega) ?_ ?_ ?_ ?_ ?_
 ·rw [hC]
  refine IterG.cast (IterX.rn (fun k=>if k=100 then 248 else if k=101 then 249 else k) G0F (fun k hk=>hpL_low (by simp) hk) (rs:=[100,101]) ?_ hit) (by simp [ren0]) (by simp)
  refine ⟨fun k hk=>?_,?_,?_,?_⟩
  ·have h1:¬k=100:=by omega
   have h2:¬k=101:=by omega
   have h3:¬k=200:=by omega
   have h4:¬k=208:=by omega
   have h5:¬k=216:=by omega
   have h6:¬k=224:=by omega
   have h8:¬k=248:=by omega
   have h9:¬k=249:=by omega
   simp [h1,h2,h3,h4,h5,h6,h8,h9,wHp]
  ·simp
  ·simp [wHp,wb,Blk.rn,renF,ren0]
  ·simp
 ·intro x hx
  simp only [shXs,List.mem_map] at hx
  obtain ⟨i,_,rfl⟩:=hx
  simp
 ·have e:=dA_begin a b (N+1).toNat ha0 hup.1
  refine weakL _ 300 hC G0F (m0:=[]) hC0 (by omega) ?_ ?_ ?_
  ·simp [dom]
  ·simp [zB,wb,e.1,e.2,fa_4,wi_zero]
  ·simp
 ·simp [pnHp,dom]
 ·intro i hi t
  refine tsL_ids ?_ t
  simp [dom,pnHp]
 ·intro i x hi hx C1 l hC1 hh1 hY1
  have hCC:=hC
  have hC1':C1.G=G0:=hC1.trans hC
  obtain ⟨n,hn⟩:∃ n:Nat,N - (i:Int)=n:=⟨(N - i).toNat,by omega⟩
  rw [shXs_at b N i hi,hn] at hx
  have e1:(N+1 - (i:Int)).toNat=n+1:=by omega
  have e2:(N+1 - ((i+1:Nat):Int)).toNat=n:=by omega
  simp only [e1,e2]
  cases hx
  have hD:b*2^n<57896044618658097711785492504343953926634992332820282019728792003956564819968:=by
   have h1:=hup.2 (by omega)
   have h2:(2:Int)^n≤2^N.toNat:=by exact_mod_cast Nat.pow_le_pow_right (by omega) (by omega:n≤N.toNat)
   have h3:b*2^n≤b*2^N.toNat:=Int.mul_le_mul_of_nonneg_left h2 (by omega)
   have h4:(2:Int)^(nbits a).toNat≤2^255:=by exact_mod_cast Nat.pow_le_pow_right (by omega) (by omega:(nbits a).toNat≤255)
   omega
  have hD0:0<b*2^n:=Int.mul_pos hb0 (pow_pos2 _)
  have hM0:0<b*2^(n+1):=Int.mul_pos hb0 (pow_pos2 _)
  have hA0:0≤rA a b (n+1):=Int.emod_nonneg _ (by omega)
  have hA1:rA a b (n+1)≤a:=by
   have h1:=Int.emod_add_mul_ediv a (b*2^(n+1))
   have h2:0≤b*2^(n+1)*(a / (b*2^(n+1))):=Int.mul_nonneg (by omega) (Int.ediv_nonneg ha0 (by omega))
   unfold rA;omega
  have szD:sz (b*2^n)=b*2^n:=sz_pos (Int.le_of_lt hD0) hD
  have szA:sz (rA a b (n+1))=rA a b (n+1):=sz_pos hA0 (Int.lt_of_le_of_lt hA1 ha)
  obtain ⟨t,r,hr,hn'⟩:∃ t r,r<64∧n=64*t+r:=⟨n / 64,n%64,by omega,by omega⟩
  have tq:((n:Int)).tdiv 64=t:=by rw [Int.tdiv_eq_ediv_of_nonneg (by omega)];omega
  have tm:((n:Int)).tmod 64=r:=by rw [Int.tmod_eq_emod_of_nonneg (by omega)];omega
  have t4:t<4:=by omega
  have t4':(t:Int)<4:=by omega
  have t0:(0:Int)≤t:=by omega
  have tb:Int.bmod (t:Int) 18446744073709551616=t:=bm (by omega) (by omega)
  have t3:t≤3:=Nat.le_of_lt_succ t4
  have t3':(t:Int)≤3:=Int.le_of_lt_add_one t4'
  have m1:min r 64=r:=by omega
  have m2:(2:Int)^r%18446744073709551616=2^r:=Int.emod_eq_of_lt (Int.le_of_lt (pow_pos2 _)) (by
   have:(2:Int)^r<2^64:=by exact_mod_cast Nat.pow_lt_pow_right (by omega) hr
   exact this)
  have hst:=dA_step a b hb0 n
  replace hC:=hC1'
  replace hY:=hY1
  by_cases hle:b*2^n≤rA a b (n+1)
  ·have hcmp:cmpI (sz (b*2^n)) (sz (rA a b (n+1)))≤0:=by rw [szD,szA];unfold cmpI;split<;>(try split)<;>omega
   obtain ⟨s1,s2⟩:=hst.1 hle
   have hb1:=wi_bit (a / (b*2^(64*t+r+1))) t r hr
   have hb2:=wi_other (a / (b*2^(64*t+r+1))) t r
   rw [←hn'] at hb1 hb2
   replace hb1:bitI .or .u64 (wi (qA a b (n+1)) t) (2^r)=wi (qA a b n) t:=by rw [s2];exact hb1
   replace hb2:∀ j,j≠t→wi (qA a b n) j=wi (qA a b (n+1)) j:=fun j hj=>by rw [s2];exact hb2 j hr hj
   have hq:fa 4 .u64 (upd (wi (qA a b (n+1))) t (wi (qA a b n) t))=fa 4 .u64 (wi (qA a b n)):=fa_congr fun j _=>by
    unfold upd;split
    ·rename_i h;rw [h]
    ·rename_i h;rw [hb2 j h]
   unfold pnHp
   repeat' (first|refine gwA ?_|(refine gwX ?_;intro Q hQ hP;simp [hC,hY,roundTs,pnTs];refine hQ _ _ _ _ (by kernel_rfl) ?_;clear hQ hP Q)|(refine gwC ?_ ?_<;>(intro hb;try (cases hb;done))))
   intro C2 hC2 hh2 hY2
   replace hC:C2.G=G0:=hC2.trans hCC
   replace hY:=hY2
   repeat' (first|refine gwA ?_|(refine gwX ?_;intro Q hQ hP;simp [hC,hY,roundTs,pnTs,wb,hcmp,tq,tm,t4,t4',t0,t3,t3',tb,m1,m2,fa_get,fa_set,hb1];refine hQ _ _ _ _ (by kernel_rfl) ?_;clear hQ hP Q)|(refine gwC ?_ ?_<;>(intro hb;try (cases hb;done))))
   refine weakL [] 300 hC1' G0F hh1 (by omega) ?_ ?_ ?_
   ·simp
   ·simp [fa_ids,ids_lit,wb,zB,hq,s1]
   ·simp [wb,zB,hq,s1]
  ·have hcmp:¬cmpI (sz (b*2^n)) (sz (rA a b (n+1)))≤0:=by rw [szD,szA];unfold cmpI;split<;>(try split)<;>omega
   obtain ⟨s1,s2⟩:=hst.2 (by omega)
   unfold pnHp
   repeat' (first|refine gwA ?_|(refine gwX ?_;intro Q hQ hP;simp [hC,hY,roundTs,pnTs];refine hQ _ _ _ _ (by kernel_rfl) ?_;clear hQ hP Q)|(refine gwC ?_ ?_<;>(intro hb;try (cases hb;done))))
   intro C2 hC2 hh2 hY2
   replace hC:C2.G=G0:=hC2.trans hCC
   replace hY:=hY2
   repeat' (first|refine gwA ?_|(refine gwX ?_;intro Q hQ hP;simp [hC,hY,roundTs,pnTs,wb,hcmp];refine hQ _ _ _ _ (by kernel_rfl) ?_;clear hQ hP Q)|(refine gwC ?_ ?_<;>(intro hb;try (cases hb;done))))
   refine weakL [] 300 hC1' G0F hh1 (by omega) ?_ ?_ ?_
   ·simp
   ·simp [fa_ids,ids_lit,wb,zB,s1,s2]
   ·simp [wb,zB,s1,s2]
 ·left
  refine ⟨by rw [shXs_len],?_⟩
  have e:(N+1 - ((N+1).toNat:Int)).toNat=0:=by omega
  have ed:=dA_end a b
  rw [e]
  unfold pnHp pnTs
  rw [ed.1,ed.2]
  repeat' (first|refine gwA ?_|(refine gwX ?_;intro Q hQ hP;simp [hC,hY,wb,fa_4,zB];refine hQ _ _ _ _ (by kernel_rfl) ?_;clear hQ hP Q)|(refine gwC ?_ ?_<;>(intro hb;try (cases hb;done))))
  refine ⟨.inr trivial,?_⟩
  simp [Tryz.results135]
@[simp] theorem qplain (a b:Int) (ha0:0≤a) (ha:a<57896044618658097711785492504343953926634992332820282019728792003956564819968) (hb0:0<b) (hb1:b<57896044618658097711785492504343953926634992332820282019728792003956564819968) (K:Value→Prop) :
  callK Tryz.prog G0 135 #[Value.agg #[.int .u64 (wi (a) 0),.int .u64 (wi (a) 1),.int .u64 (wi (a) 2),.int .u64 (wi (a) 3)],Value.agg #[.int .u64 (wi (b) 0),.int .u64 (wi (b) 1),.int .u64 (wi (b) 2),.int .u64 (wi (b) 3)]] K↔K (.tuple #[wd (a / b),wd (a%b)]):=callK_iff G0W (by kernel_rfl) (plain_ret a b ha0 ha hb0 hb1)
theorem ret_of_retp {P:Program} {G:Hp} {f:FuncId} {args:Array Value} {v:Value} (h:RetP P G f args (.ret v)):Ret P G f args v:=⟨h.1 v rfl,h.2.1,h.2.2.1,h.2.2.2⟩
@[simp] theorem qmust (n:Int) (K:Value→Prop):callK Tryz.prog G0 133 #[.bool true,.int .i64 n] K↔K (.tuple #[]):=callK_iff G0W (by kernel_rfl) (ret_of_retp (must_t n))
@[simp] theorem qsure (z:Int) (K:Value→Prop):callK Tryz.prog G0 134 #[Value.agg #[.int .u64 (wi (z) 0),.int .u64 (wi (z) 1),.int .u64 (wi (z) 2),.int .u64 (wi (z) 3)],.bool false] K↔K (wd z):=callK_iff G0W (by kernel_rfl) (ret_of_retp (sure_f z))
def wr (z:Int):Prop:=-57896044618658097711785492504343953926634992332820282019728792003956564819968≤z∧z<57896044618658097711785492504343953926634992332820282019728792003956564819968
theorem wr_sz {z:Int} (h:wr z):sz z=z:=sz_id h.1 h.2
theorem wr_ng {z:Int} (h:wr z):ng z=decide (z<0):=by rw [ng_sz,wr_sz h]
theorem ng_f {z:Int} (h:wr z) (h0:0≤z):ng z=false:=by rw [wr_ng h];simp;exact h0
theorem ng_t {z:Int} (h:wr z) (h0:z<0):ng z=true:=by rw [wr_ng h];simp;exact h0
theorem least_ne (z:Int) (h:wr z) (h1:z ≠ -57896044618658097711785492504343953926634992332820282019728792003956564819968):(!wi z 0==0||(!wi z 1==0||(!wi z 2==0||!wi z 3==9223372036854775808)))=true:=by
 refine Classical.byContradiction fun hn=>h1 ?_
 simp at hn
 obtain ⟨w0,w1,w2,w3⟩:=hn
 rw [←wr_sz h,sz_w,w0,w1,w2,w3]
 unfold ng;rw [w3];decide
theorem wr_ne {z:Int} (h:wr z) (h0:z≠0):(!wi z 0==0||(!wi z 1==0||(!wi z 2==0||!wi z 3==0)))=true:=words_ne z (by rw [wr_sz h];exact h0)
theorem i64_1:i64 1:=by decide
def lst:Int:=-57896044618658097711785492504343953926634992332820282019728792003956564819968

theorem floor_zero (a:Int):RetP Tryz.prog G0 117 #[wd a,wd 0] (.pan (erV 30)):=by
 refine retp_of G0F Tryz.func117 rfl Tryz.call117 (fun v h=>by cases h) (by simp) (by simp [Tryz.ntmps117]) ?_
 intro C hC hC0 hY
 repeat' (first|refine gwA ?_|((first|refine gwR [1000133] ?_|refine gwD [1000133] ?_);intro Q hQ hP;simp [hC,hY,wi_zero];(repeat ((first|(refine callP_of (must_f 30) ?_));try simp [hC,hY,wi_zero]));(first|refine hQ _ _ _ _ (by kernel_rfl) ?_|refine hP _ _ (by kernel_rfl) fun _=>?_);clear hQ hP Q)|(refine gwC ?_ ?_<;>(intro hb;try (cases hb;done))))
 rfl
set_option maxHeartbeats 2000000 in
theorem floor_pp (a b:Int) (ha:wr a) (hb:wr b) (h0:0<b) (ha0:0≤a):Ret Tryz.prog G0 117 #[wd a,wd b] (.tuple #[wd (a.fdiv b),wd (a.fmod b)]):=by
 refine ret_of G0F Tryz.func117 rfl Tryz.call117 (by simp) (by simp) (by simp [Tryz.ntmps117]) ?_
 intro C hC hC0 hY
 have hz:=wr_ne hb (by omega)
 have hn1:=least_ne a ha (by omega)
 have hn2:=least_ne b hb (by omega)
 have s1:¬cmpI (sz b) 0<0:=by rw [wr_sz hb];unfold cmpI;split<;>(try split)<;>omega
 have s2:¬cmpI (sz a) 0<0:=by rw [wr_sz ha];unfold cmpI;split<;>(try split)<;>omega
 have hbu:b<57896044618658097711785492504343953926634992332820282019728792003956564819968:=hb.2
 have hau:a<57896044618658097711785492504343953926634992332820282019728792003956564819968:=ha.2
 have e1:a.fdiv b=a / b:=Int.fdiv_eq_ediv_of_nonneg a (by omega)
 have e2:a.fmod b=a%b:=Int.fmod_eq_emod_of_nonneg a (by omega)
 repeat' (first|refine gwA ?_|(refine gwX ?_;intro Q hQ hP;simp [hC,hY,hz,hn1,hn2,s1,s2,lsB,ha0,hau,h0,hbu];(first|refine hQ _ _ _ _ (by kernel_rfl) ?_|refine hP _ _ (by kernel_rfl) fun _=>?_);clear hQ hP Q)|(refine gwC ?_ ?_<;>(intro hb;try (cases hb;done))))
 refine ⟨.inr trivial,?_⟩
 simp [Tryz.results117,e1,e2]
theorem neg_fdiv (m b:Int) (hb:0<b):(-(m+1)).fdiv b=-(m / b) - 1∧(-(m+1)).fmod b=b - 1 - m%b:=by
 have h1:=Int.emod_add_mul_ediv m b
 have h2:=Int.emod_nonneg m (b:=b) (by omega)
 have h3:=Int.emod_lt_of_pos m hb
 have e:-(m+1)=(b - 1 - m%b)+b*(-(m / b) - 1):=by rw [Int.mul_sub,Int.mul_neg];omega
 rw [Int.fdiv_eq_ediv_of_nonneg _ (by omega),Int.fmod_eq_emod_of_nonneg _ (by omega)]
 constructor
 ·rw [e,Int.add_mul_ediv_left _ _ (by omega),Int.ediv_eq_zero_of_lt (by omega) (by omega)];omega
 ·rw [e,Int.add_mul_emod_self_left,Int.emod_eq_of_lt (by omega) (by omega)]
set_option maxHeartbeats 2000000 in
theorem floor_np (m b:Int) (ha:wr (-(m+1))) (hal:-(m+1)≠lst) (hb:wr b) (h0:0<b) (hm0:0≤m):Ret Tryz.prog G0 117 #[wd (-(m+1)),wd b] (.tuple #[wd ((-(m+1)).fdiv b),wd ((-(m+1)).fmod b)]):=by
 refine ret_of G0F Tryz.func117 rfl Tryz.call117 (by simp) (by simp) (by simp [Tryz.ntmps117]) ?_
 intro C hC hC0 hY
 obtain ⟨d1,d2⟩:=neg_fdiv m b h0
 rw [d1,d2]
 generalize ea:-(m+1)=a at *
 have hz:=wr_ne hb (by omega)
 have hn1:=least_ne a ha hal
 have hn2:=least_ne b hb (by omega)
 have s1:¬cmpI (sz b) 0<0:=by rw [wr_sz hb];unfold cmpI;split<;>(try split)<;>omega
 have s2:cmpI (sz a) 0<0:=by rw [wr_sz ha];unfold cmpI;split<;>(try split)<;>omega
 have hbu:b<57896044618658097711785492504343953926634992332820282019728792003956564819968:=hb.2
 have hmu:m<57896044618658097711785492504343953926634992332820282019728792003956564819968:=by have:=ha.1;unfold lst at hal;omega
 have hq0:0≤m / b:=Int.ediv_nonneg hm0 (by omega)
 have hq1:m / b≤m:=Int.ediv_le_self b hm0
 have hr0:0≤m%b:=Int.emod_nonneg m (by omega)
 have hr1:m%b<b:=Int.emod_lt_of_pos m h0
 have em:-(a+1)=m:=by omega
 have f1:(ng a==ng 1&&ng (a+1) != ng a)=false:=by
  rw [ng_t ha (by omega),ng_f (z:=1) (by unfold wr;omega) (by omega)];rfl
 have f2:(ng (a+1)&&ng m)=false:=by rw [ng_f (z:=m) (by unfold wr;omega) hm0];simp
 have f3:(ng (m / b)&&ng (-(m / b)))=false:=by rw [ng_f (z:=m / b) (by unfold wr;omega) hq0];simp
 have f4:(ng (-(m / b)) != ng 1&&ng (-(m / b) - 1) != ng (-(m / b)))=false:=by
  rw [ng_f (z:=1) (by unfold wr;omega) (by omega),ng_t (z:=-(m / b) - 1) (by unfold wr;omega) (by omega)]
  cases ng (-(m / b))<;>rfl
 have f5:(ng b != ng 1&&ng (b - 1) != ng b)=false:=by
  rw [ng_f hb (by omega),ng_f (z:=1) (by unfold wr;omega) (by omega)];rfl
 have f6:(ng (b - 1) != ng (m%b)&&ng (b - 1 - m%b) != ng (b - 1))=false:=by
  rw [ng_f (z:=b - 1) (by unfold wr;have:=hb.2;omega) (by omega),ng_f (z:=m%b) (by unfold wr;omega) hr0];rfl
 have i1:=i64_1
 repeat' (first|refine gwA ?_|(refine gwX ?_;intro Q hQ hP;simp [hC,hY,hz,hn1,hn2,s1,s2,lsB,h0,hbu,hm0,hmu,em,f1,f2,f3,f4,f5,f6,i1];(first|refine hQ _ _ _ _ (by kernel_rfl) ?_|refine hP _ _ (by kernel_rfl) fun _=>?_);clear hQ hP Q)|(refine gwC ?_ ?_<;>(intro hb;try (cases hb;done))))
 refine ⟨.inr trivial,?_⟩
 simp [Tryz.results117]
theorem upd_far {α:Type} {f:Nat→α} {x k:Nat} {v:α} (h:k<x):upd f x v k=f k:=upd_other f v (by omega)
theorem floor_ret (a b:Int) (ha:wr a) (hal:a≠lst) (hb:wr b) (h0:0<b):Ret Tryz.prog G0 117 #[wd a,wd b] (.tuple #[wd (a / b),wd (a%b)]):=by
 rw [←Int.fdiv_eq_ediv_of_nonneg a (Int.le_of_lt h0),←Int.fmod_eq_emod_of_nonneg a (Int.le_of_lt h0)]
 by_cases ha0:0≤a
 ·exact floor_pp a b ha hb h0 ha0
 ·obtain ⟨m,rfl⟩:∃ m,a=-(m+1):=⟨-a - 1,by omega⟩
  exact floor_np m b ha hal hb h0 (by omega)
@[simp] theorem qfloor (a b:Int) (ha:wr a) (hal:a≠lst) (hb:wr b) (h0:0<b) (K:Value→Prop):callK Tryz.prog G0 117 #[Value.agg #[.int .u64 (wi (a) 0),.int .u64 (wi (a) 1),.int .u64 (wi (a) 2),.int .u64 (wi (a) 3)],Value.agg #[.int .u64 (wi (b) 0),.int .u64 (wi (b) 1),.int .u64 (wi (b) 2),.int .u64 (wi (b) 3)]] K↔K (.tuple #[wd (a / b),wd (a%b)]) :=
 callK_iff G0W (by kernel_rfl) (floor_ret a b ha hal hb h0)
def hp2 (a b:Int):Hp:=hpL G0 [(200,wb a),(208,wb b)]
theorem hp2_rst (a b:Int):rst (hp2 a b) [200,208]=hp2 a b:=hpL_rst G0F (by simp)
theorem hp2_closed (a b:Int) (D:Nat→Prop) (k:Nat) (c:Blk) (h:hp2 a b k=some c):c.ids D:=by
 rcases hpL_mem h with h|h
 ·simp at h
  rcases h with ⟨_,rfl⟩|⟨_,rfl⟩<;>simp [wb]
 ·exact G0_closed _ _ _ h
theorem hp2_free (a b:Int) (x:Nat) (hx:300≤x):hp2 a b x=none:=by
 simp [hp2,show ¬x=200 by omega,show ¬x=208 by omega,show 100≤x by omega]
theorem Floor1_fun (a b:Int) (ha:wr a) (hal:a≠lst) (hb:wr b) (h0:0<b):Fun Tryz.prog G0 116 [.pointer (some ⟨200,0,none⟩),.pointer (some ⟨208,0,none⟩)].toArray (hp2 a b) [200,208] (.ret (wd (a / b)) []):=by
 refine fun_of (B:=300) G0F (fun k hk=>hpL_low (by simp) hk) Tryz.func116 rfl Tryz.call116 ?_ ?_ ⟨flatV_ids (by simp),by simp [keys],by simp,by simp⟩ (by simp [Tryz.ntmps116]) (by omega) ?_ ?_
 ·rw [hp2_rst];simp [hp2,dom]
 ·rw [hp2_rst];exact hp2_closed a b _
 ·rw [hp2_rst];exact hp2_free a b
 ·intro C hC hC0 hY
  rw [hp2_rst] at hC0 ⊢
  repeat' (first|refine gwA ?_|(refine gwX ?_;intro Q hQ hP;simp [hC,hY,hp2,wb,ha,hal,hb,h0];(first|refine hQ _ _ _ _ (by kernel_rfl) ?_|refine hP _ _ (by kernel_rfl) fun _=>?_);clear hQ hP Q)|(refine gwC ?_ ?_<;>(intro hb;try (cases hb;done))))
  refine ⟨.inr rfl,by simp [Tryz.results116],fun k hk=>?_⟩
  have hk3:k<300:=Classical.byContradiction fun h=>hk (hp2_free a b k (by omega))
  simp (disch:=omega) only [upd_far]
  rfl
theorem qFloor_ret (a b:Int) (ha:wr a) (hal:a≠lst) (hb:wr b) (h0:0<b):Ret Tryz.prog G0 89 #[wd a,wd b] (.tuple #[wd (a / b),.int .i64 0]):=by
 refine ret_of G0F Tryz.func89 rfl Tryz.call89 (by simp) (by simp) (by simp [Tryz.ntmps89]) ?_
 intro C hC hC0 hY
 repeat' (first|refine gwA ?_|((first|refine gwR [115] ?_|refine gwD [115] ?_);intro Q hQ hP;simp [hC,hY];(repeat ((first|(refine heapK_of (hp':=hp2 a b) (qtold_ret (fun k hk=>hpL_low (by simp) hk) (by simp) rfl (by simp) (Floor1_fun a b ha hal hb h0)) (by simp [hp2,wb]) (fun k hk=>hpL_low (by simp) hk) trivial ?_));try simp [hC,hY]));(first|refine hQ _ _ _ _ (by kernel_rfl) ?_|refine hP _ _ (by kernel_rfl) fun _=>?_);clear hQ hP Q)|(refine gwC ?_ ?_<;>(intro hb;try (cases hb;done))))
 refine ⟨.inr trivial,?_⟩
 simp [Tryz.results89]
@[simp] theorem qFloor (a b:Int) (ha:wr a) (hal:a≠lst) (hb:wr b) (h0:0<b) (K:Value→Prop):callK Tryz.prog G0 89 #[Value.agg #[.int .u64 (wi (a) 0),.int .u64 (wi (a) 1),.int .u64 (wi (a) 2),.int .u64 (wi (a) 3)],Value.agg #[.int .u64 (wi (b) 0),.int .u64 (wi (b) 1),.int .u64 (wi (b) 2),.int .u64 (wi (b) 3)]] K↔K (.tuple #[wd (a / b),.int .i64 0]) :=
 callK_iff G0W (by kernel_rfl) (qFloor_ret a b ha hal hb h0)
theorem rmust_t (n:Int):RetP Tryz.prog G0 93 #[.bool true,.int .i64 n] (.ret (.tuple #[])):=by
 refine retp_of G0F Tryz.func93 rfl Tryz.call93 (fun v h=>by cases h;simp) (by simp) (by simp [Tryz.ntmps93]) ?_
 intro C hC hC0 hY
 repeat' (first|refine gwA ?_|(refine gwX ?_;intro Q hQ hP;simp [hC,hY];(first|refine hQ _ _ _ _ (by kernel_rfl) ?_|refine hP _ _ (by kernel_rfl) fun _=>?_);clear hQ hP Q)|(refine gwC ?_ ?_<;>(intro hb;try (cases hb;done))))
 exact ⟨.inl trivial,by simp [Tryz.results93]⟩
theorem rmust_f (n:Int):RetP Tryz.prog G0 93 #[.bool false,.int .i64 n] (.pan (erV n)):=by
 refine retp_of G0F Tryz.func93 rfl Tryz.call93 (fun v h=>by cases h) (by simp) (by simp [Tryz.ntmps93]) ?_
 intro C hC hC0 hY
 repeat' (first|refine gwA ?_|(refine gwX ?_;intro Q hQ hP;simp [hC,hY];(first|refine hQ _ _ _ _ (by kernel_rfl) ?_|refine hP _ _ (by kernel_rfl) fun _=>?_);clear hQ hP Q)|(refine gwC ?_ ?_<;>(intro hb;try (cases hb;done))))
 rfl
@[simp] theorem rmust (n:Int) (K:Value→Prop):callK Tryz.prog G0 93 #[.bool true,.int .i64 n] K↔K (.tuple #[]):=callK_iff G0W (by kernel_rfl) (ret_of_retp (rmust_t n))
theorem most_ret (z:Int):Ret Tryz.prog G0 149 #[wd z] (.int .i64 (nbits (uz z) / 2)):=by
 refine ret_of G0F Tryz.func149 rfl Tryz.call149 rfl (by simp) (by simp [Tryz.ntmps149]) ?_
 intro C hC hC0 hY
 have b0:=nb_word z 0
 have b1:=nb_word z 1
 have b2:=nb_word z 2
 have b3:=nb_word z 3
 have k3:=size_3 z
 have k2:=size_2 z
 have k1:=size_1 z
 have k0:=size_0 z
 have m3:Int.bmod (192+nbits (wi z 3)) 18446744073709551616=192+nbits (wi z 3):=bm (by omega) (by omega)
 have m2:Int.bmod (128+nbits (wi z 2)) 18446744073709551616=128+nbits (wi z 2):=bm (by omega) (by omega)
 have m1:Int.bmod (64+nbits (wi z 1)) 18446744073709551616=64+nbits (wi z 1):=bm (by omega) (by omega)
 have t3:(192+nbits (wi z 3)).tdiv 2=(192+nbits (wi z 3)) / 2:=Int.tdiv_eq_ediv_of_nonneg (by omega)
 have t2:(128+nbits (wi z 2)).tdiv 2=(128+nbits (wi z 2)) / 2:=Int.tdiv_eq_ediv_of_nonneg (by omega)
 have t1:(64+nbits (wi z 1)).tdiv 2=(64+nbits (wi z 1)) / 2:=Int.tdiv_eq_ediv_of_nonneg (by omega)
 have t0:(nbits (wi z 0)).tdiv 2=nbits (wi z 0) / 2:=Int.tdiv_eq_ediv_of_nonneg (by omega)
 have u3:Int.bmod ((192+nbits (wi z 3)) / 2) 18446744073709551616=(192+nbits (wi z 3)) / 2:=bm (by omega) (by omega)
 have u2:Int.bmod ((128+nbits (wi z 2)) / 2) 18446744073709551616=(128+nbits (wi z 2)) / 2:=bm (by omega) (by omega)
 have u1:Int.bmod ((64+nbits (wi z 1)) / 2) 18446744073709551616=(64+nbits (wi z 1)) / 2:=bm (by omega) (by omega)
 have u0:Int.bmod (nbits (wi z 0) / 2) 18446744073709551616=nbits (wi z 0) / 2:=bm (by omega) (by omega)
 repeat' (first|refine GWL_start ?_|refine GWL_step ?_|refine gwA ?_|(refine gwX ?_;intro Q hQ hP;simp [hC,hY,wi_ge,wi_lt,m1,m2,m3,t0,t1,t2,t3,u0,u1,u2,u3];(first|refine hQ _ _ _ _ (by kernel_rfl) ?_|refine hP _ _ (by kernel_rfl) fun _=>?_);clear hQ hP Q)|(refine gwC ?_ ?_<;>(intro hb;try (cases hb;done))))
 all_goals
  refine ⟨.inr trivial,?_⟩
  simp [Tryz.results149]
  simp_all
@[simp] theorem rmost (z:Int) (K:Value→Prop):callK Tryz.prog G0 149 #[Value.agg #[.int .u64 (wi (z) 0),.int .u64 (wi (z) 1),.int .u64 (wi (z) 2),.int .u64 (wi (z) 3)]] K↔K (.int .i64 (nbits (uz z) / 2)):=callK_iff G0W (by kernel_rfl) (most_ret z)
theorem all_new (a:Int) (k:Nat) (h100:100≤k):Fun Tryz.prog G0 139 #[wd a] G0 [] (.new (.func (.func 148) #[] #[.pointer (some ⟨k,0,none⟩)]) [(k,wb a)]):=by
 have e0:rst G0 []=G0:=rst_G G0F []
 refine new_of (B:=200) (fun j=>if j=k then 200 else j) G0F (fun _ _=>rfl) Tryz.func139 rfl Tryz.call139 (by simp [idsV,idsA,idsF,ids0]) (by rw [e0];exact G0_closed _) ?_ (by simp [Tryz.ntmps139]) (by omega) (by rw [e0];exact fun x hx=>G0_big x (by omega)) (fun j hj=>?_) ?_ ?_ ?_ ?_
 ·refine ⟨by simp [idsV,idsA,idsF,ids0,extD,keys],by simp [keys];omega,fun q b c h1 h2=>?_⟩
  simp at h1 h2
  rw [h1.2,h2.2]
 ·rw [e0] at hj;have:=G0_dom hj;rw [if_neg (by omega)]
 ·simp [e0,dom]
 ·simp
 ·simp [wb,ids_lit,idsF,ids0]
 ·intro C hC hC0 hY
  rw [e0]
  repeat' (first|refine gwA ?_|(refine gwX ?_;intro Q hQ hP;simp [hC,hY];(first|refine hQ _ _ _ _ (by kernel_rfl) ?_|refine hP _ _ (by kernel_rfl) fun _=>?_);clear hQ hP Q)|(refine gwC ?_ ?_<;>(intro hb;try (cases hb;done))))
  refine ⟨.inr trivial,?_⟩
  simp [Tryz.results139,ren,renA,renF,ren0,wb]
  intro j hj hj2
  have:=G0_dom hj
  omega
theorem wi_pow (t r j:Nat) (hr:r<64):wi (2^(64*t+r)) j=if j=t then 2^r else 0:=by
 by_cases h:j=t
 ·subst h
  rw [if_pos rfl]
  unfold wi
  rw [Int.pow_add,Int.mul_ediv_cancel_left _ (by have:=pow_pos2 (64*j);omega)]
  exact Int.emod_eq_of_lt (Int.le_of_lt (pow_pos2 _)) (by
   have:(2:Int)^r<2^64:=by exact_mod_cast Nat.pow_lt_pow_right (by omega) hr
   exact this)
 ·rw [if_neg h]
  have:=wi_other 0 t r j hr h
  simp only [Int.zero_mul,Int.zero_add] at this
  rw [this,wi_zero]
theorem set_bit (t r:Nat) (ht:t<4) (hr:r<64):(#[.int .u64 0,.int .u64 0,.int .u64 0,.int .u64 0]:Array Value).setIfInBounds t (.int .u64 (2^r))=#[.int .u64 (wi (2^(64*t+r)) 0),.int .u64 (wi (2^(64*t+r)) 1),.int .u64 (wi (2^(64*t+r)) 2),.int .u64 (wi (2^(64*t+r)) 3)]:=by
 simp only [wi_pow _ _ _ hr]
 have:t=0∨t=1∨t=2∨t=3:=by omega
 rcases this with rfl|rfl|rfl|rfl<;>simp
def allXs (M:Int):List (Array Value):=(List.range (M+1).toNat).map fun (i:Nat)=>#[wd (2^(M - (i:Int)).toNat)]
theorem allXs_len (M:Int):(allXs M).length=(M+1).toNat:=by simp [allXs]
theorem allXs_at (M:Int) (i:Nat) (h:i<(M+1).toNat):(allXs M)[i]? = some #[wd (2^(M - (i:Int)).toNat)]:=by simp [allXs,h]
def aHp (a:Int):Hp:=hpL G0 [(100,wb a)]
def allSt (a M:Int) (l i:Nat):GS :=
 ⟨tsL [(0,.func (.yield l) #[] #[]),(1,.pointer (some ⟨100,0,none⟩)),(3,.int .i64 (M - i))],aHp a,300,i⟩
theorem all_it (a:Int):IterG Tryz.prog G0 148 #[.pointer (some ⟨100,0,none⟩)] (aHp a) [100] (allXs (nbits (uz a) / 2)):=by
 have e0:rst (aHp a) [100]=aHp a:=hpL_rst G0F (by simp)
 refine iter_of (B:=200) (v:=.tuple #[]) G0F (fun k hk=>hpL_low (by simp) hk) Tryz.func148 rfl Tryz.call148 ?_ ?_ (by simp [Tryz.ntmps148]) (by omega) ?_ ?_
 ·rw [e0];simp [idsV,idsA,idsF,ids0,dom,aHp]
 ·rw [e0]
  intro k c hk
  rcases hpL_mem hk with h|h
  ·simp at h
   rcases h with ⟨_,rfl⟩
   simp [wb,ids_lit,idsF,ids0]
  ·exact G0_closed _ _ _ h
 ·rw [e0]
  intro x hx
  simp [aHp,show ¬x=100 by omega,show 100≤x by omega]
 ·intro C l stop hC hC0 hY
  rw [e0] at hC0 ⊢
  have hnb:=nbits_bd 256 (uz_bd a).2
  have hM:0≤nbits (uz a) / 2∧nbits (uz a) / 2≤128:=by omega
  have hlen:=allXs_len (nbits (uz a) / 2)
  repeat' (first|refine gwA ?_|(refine gwX ?_;intro Q hQ hP;simp [hC,hY,aHp,wb];(first|refine hQ _ _ _ _ (by kernel_rfl) ?_|refine hP _ _ (by kernel_rfl) fun _=>?_);clear hQ hP Q)|(refine gwC ?_ ?_<;>(intro hb;try (cases hb;done))))
  generalize hMe:nbits (uz a) / 2=M at *
  generalize hxs:allXs M=xs at *
  refine GW_for (min stop xs.length) (allSt a M l) ?_ ?_ ?_
  ·refine weakL _ 300 hC G0F (m:=[(100,wb a)]) (m0:=[(100,wb a)]) hC0 (by omega) ?_ ?_ ?_
   ·simp [dom]
   ·simp [wb]
   ·simp [wb]
  ·intro i hi
   have hs:i<stop:=by omega
   have hq:(i != stop)=true:=by simp;omega
   have hle:i≤stop:=by omega
   obtain ⟨n,hn⟩:∃ n:Nat,M - (i:Int)=n:=⟨(M - i).toNat,by omega⟩
   have g1:(i:Int)≤M:=by omega
   have hx:xs[i]? = some #[wd (2^n)]:=by
    rw [←hxs,allXs_at M i (by omega),hn];rfl
   simp only [wd_eq] at hx
   have g4:Int.bmod ((n:Int) - 1) 18446744073709551616=M - ((i+1:Nat):Int):=by rw [bm (by omega) (by omega)];omega
   obtain ⟨t,r,hr,hn'⟩:∃ t r,r<64∧n=64*t+r:=⟨n / 64,n%64,by omega,by omega⟩
   have tq:((n:Int)).tdiv 64=t:=by rw [Int.tdiv_eq_ediv_of_nonneg (by omega)];omega
   have tm:((n:Int)).tmod 64=r:=by rw [Int.tmod_eq_emod_of_nonneg (by omega)];omega
   have t4:t<4:=by omega
   have t4':(t:Int)<4:=by omega
   have t0:(0:Int)≤t:=by omega
   have tb:Int.bmod (t:Int) 18446744073709551616=t:=bm (by omega) (by omega)
   have t3:t≤3:=Nat.le_of_lt_succ t4
   have m1:min r 64=r:=by omega
   have m2:(2:Int)^r%18446744073709551616=2^r:=Int.emod_eq_of_lt (Int.le_of_lt (pow_pos2 _)) (by
    have:(2:Int)^r<2^64:=by exact_mod_cast Nat.pow_lt_pow_right (by omega) hr
    exact this)
   have hset:=set_bit t r t4 hr
   rw [←hn'] at hset
   unfold allSt
   repeat' (first|refine gwA ?_|(refine gwX ?_;intro Q hQ hP;simp [hC,hY,aHp,wb,hs,hq,hle,hn,g1,g4,hx,tq,tm,t4,t4',t0,tb,t3,m1,m2,hset];(first|refine hQ _ _ _ _ (by kernel_rfl) ?_|refine hP _ _ (by kernel_rfl) fun _=>?_);clear hQ hP Q)|(refine gwC ?_ ?_<;>(intro hb;try (cases hb;done))))
   refine weakL _ 300 hC G0F (m:=[(100,wb a)]) (m0:=[(100,wb a)]) hC0 (by omega) ?_ ?_ ?_
   ·simp [dom]
   ·simp [wb]
   ·simp [wb]
  ·by_cases h4:xs.length≤stop
   ·rw [Nat.min_eq_right h4]
    have g1:¬((xs.length:Int)≤M):=by omega
    unfold allSt
    repeat' (first|refine gwA ?_|(refine gwX ?_;intro Q hQ hP;simp [hC,hY,aHp,wb,g1];(first|refine hQ _ _ _ _ (by kernel_rfl) ?_|refine hP _ _ (by kernel_rfl) fun _=>?_);clear hQ hP Q)|(refine gwC ?_ ?_<;>(intro hb;try (cases hb;done))))
    refine ⟨.inl trivial,by simp [Tryz.results148],?_⟩
    show xs.length=_
    omega
   ·rw [Nat.min_eq_left (by omega)]
    obtain ⟨n,hn⟩:∃ n:Nat,M - (stop:Int)=n:=⟨(M - stop).toNat,by omega⟩
    have g1:(stop:Int)≤M:=by omega
    have hx:xs[stop]? = some #[wd (2^n)]:=by
     rw [←hxs,allXs_at M stop (by omega),hn];rfl
    simp only [wd_eq] at hx
    obtain ⟨t,r,hr,hn'⟩:∃ t r,r<64∧n=64*t+r:=⟨n / 64,n%64,by omega,by omega⟩
    have tq:((n:Int)).tdiv 64=t:=by rw [Int.tdiv_eq_ediv_of_nonneg (by omega)];omega
    have tm:((n:Int)).tmod 64=r:=by rw [Int.tmod_eq_emod_of_nonneg (by omega)];omega
    have t4:t<4:=by omega
    have t4':(t:Int)<4:=by omega
    have t0:(0:Int)≤t:=by omega
    have tb:Int.bmod (t:Int) 18446744073709551616=t:=bm (by omega) (by omega)
    have t3:t≤3:=Nat.le_of_lt_succ t4
    have m1:min r 64=r:=by omega
    have m2:(2:Int)^r%18446744073709551616=2^r:=Int.emod_eq_of_lt (Int.le_of_lt (pow_pos2 _)) (by
     have:(2:Int)^r<2^64:=by exact_mod_cast Nat.pow_lt_pow_right (by omega) hr
     exact this)
    have hset:=set_bit t r t4 hr
    rw [←hn'] at hset
    unfold allSt
    repeat' (first|refine gwA ?_|(refine gwX ?_;intro Q hQ hP;simp [hC,hY,aHp,wb,hn,g1,hx,tq,tm,t4,t4',t0,tb,t3,m1,m2,hset];(first|refine hQ _ _ _ _ (by kernel_rfl) ?_|refine hP _ _ (by kernel_rfl) fun _=>?_);clear hQ hP Q)|(refine gwC ?_ ?_<;>(intro hb;try (cases hb;done))))
    refine ⟨.inr trivial,by simp [Tryz.results148],?_⟩
    show stop+1=_
    omega
def rp (a:Int) (K:Nat):Nat→Int
 | 0=>0
 | i+1=>if (rp a K i+2^(K - 1 - i))*(rp a K i+2^(K - 1 - i))≤a then rp a K i+2^(K - 1 - i) else rp a K i
theorem rp_inv (a:Int) (K:Nat) (h0:0≤a) (h:a<2^K*2^K):∀ i,i≤K→0≤rp a K i∧rp a K i*rp a K i≤a∧a<(rp a K i+2^(K - i))*(rp a K i+2^(K - i))
 | 0,_=>by simp [rp];exact ⟨h0,h⟩
 | i+1,hi=>by
  obtain ⟨h1,h2,h3⟩:=rp_inv a K h0 h i (by omega)
  have e1:K - i=(K - 1 - i)+1:=by omega
  have e2:K - (i+1)=K - 1 - i:=by omega
  rw [e1,Int.pow_succ] at h3
  rw [e2]
  have hp:=pow_pos2 (K - 1 - i)
  unfold rp
  split
  ·rename_i hc
   refine ⟨by omega,hc,?_⟩
   rw [Int.add_assoc,show (2:Int)^(K - 1 - i)+2^(K - 1 - i)=2^(K - 1 - i)*2 by omega]
   exact h3
  ·rename_i hc
   exact ⟨h1,h2,by omega⟩
def isq (a:Int):Int:=rp a (nbits a / 2+1).toNat (nbits a / 2+1).toNat
theorem isq_bits (a:Int) (h0:0≤a):a<2^(nbits a / 2+1).toNat*2^(nbits a / 2+1).toNat:=by
 rw [←Int.pow_add]
 by_cases h:a=0
 ·subst h;exact pow_pos2 _
 ·obtain ⟨k,hk,k1,k2⟩:=nbits_pos (x:=a) (by omega)
  refine Int.lt_of_lt_of_le k2 ?_
  rw [hk]
  exact_mod_cast Nat.pow_le_pow_right (by omega) (by omega)
theorem isq_spec (a:Int) (h0:0≤a):0≤isq a∧isq a*isq a≤a∧a<(isq a+1)*(isq a+1):=by
 have:=rp_inv a (nbits a / 2+1).toNat h0 (isq_bits a h0) (nbits a / 2+1).toNat (Nat.le_refl _)
 simpa [isq] using this
theorem sq_lt {x y:Int} (hx:0≤x) (hy:0≤y) (h:x*x<y*y):x<y:=by
 refine Classical.byContradiction fun hn=>?_
 have:y*y≤x*x:=Int.mul_le_mul (by omega) (by omega) hy hx
 omega
theorem isq_unique {a r:Int} (h0:0≤r) (h1:r*r≤a) (h2:a<(r+1)*(r+1)):isq a=r:=by
 have ha:0≤a:=Int.le_trans (Int.mul_nonneg h0 h0) h1
 obtain ⟨s0,s1,s2⟩:=isq_spec a ha
 have h3:=sq_lt (x:=isq a) (y:=r+1) s0 (by omega) (by omega)
 have h4:=sq_lt (x:=r) (y:=isq a+1) h0 (by omega) (by omega)
 omega
theorem sq_bd {x:Int} (B:Int) (hx:0≤x) (hB:0≤B) (h:x*x<B*B):x<B:=sq_lt hx hB h
def rfHp (a r:Int):Hp:=hpL G0 [(200,wb a),(208,wb r)]
def rfTs:Nat→Value:=tsL [(1,.pointer (some ⟨200,0,none⟩)),(2,.pointer (some ⟨208,0,none⟩))]
theorem rfloor_neg (a:Int) (ha:wr a) (h0:a<0):RetP Tryz.prog G0 120 #[wd a] (.pan (erV 2)):=by
 refine retp_of G0F Tryz.func120 rfl Tryz.call120 (fun v h=>by cases h) (by simp) (by simp [Tryz.ntmps120]) ?_
 intro C hC hC0 hY
 have s1:¬0≤cmpI (sz a) 0:=by rw [wr_sz ha];unfold cmpI;split<;>(try split)<;>omega
 repeat' (first|refine gwA ?_|((first|refine gwR [1000093] ?_|refine gwD [1000093] ?_);intro Q hQ hP;simp [hC,hY,s1];(repeat ((first|(refine callP_of (rmust_f 2) ?_));try simp [hC,hY,s1]));(first|refine hQ _ _ _ _ (by kernel_rfl) ?_|refine hP _ _ (by kernel_rfl) fun _=>?_);clear hQ hP Q)|(refine gwC ?_ ?_<;>(intro hb;try (cases hb;done))))
 rfl
set_option maxHeartbeats 1000000 in
theorem rfloor_ret (a:Int) (ha:wr a) (h0:0≤a):Ret Tryz.prog G0 120 #[wd a] (wd (isq a)):=by
 refine ret_of G0F Tryz.func120 rfl Tryz.call120 (by simp) (by simp) (by simp [Tryz.ntmps120]) ?_
 intro C hC hC0 hY
 have s1:0≤cmpI (sz a) 0:=by rw [wr_sz ha];unfold cmpI;split<;>(try split)<;>omega
 have hnb:=nbits_bd 255 ha.2
 have hit:=all_it a
 have eu:uz a=a:=by unfold uz;have:=ha.2;omega
 rw [eu] at hit
 have hinv:=rp_inv a (nbits a / 2+1).toNat h0 (isq_bits a h0)
 have hisq:isq a=rp a (nbits a / 2+1).toNat (nbits a / 2+1).toNat:=rfl
 have hM:0≤nbits a / 2∧nbits a / 2≤127:=by omega
 generalize nbits a / 2=M at *
 repeat' (first|refine gwA ?_|(refine gwX ?_;intro Q hQ hP;simp [hC,hY,s1];(first|refine hQ _ _ _ _ (by kernel_rfl) ?_|refine hP _ _ (by kernel_rfl) fun _=>?_);clear hQ hP Q)|(refine gwC ?_ ?_<;>(intro hb;try (cases hb;done))))
 refine GW_region' [139] (by kernel_rfl) ?_;intro Q hQ hP;simp [hC,hY]
 refine heapK_of (all_new a 256 (by omega)) (by simp) (fun _ _=>rfl) (by simp [Res.at]) ?_
 simp
 refine hQ _ _ _ _ ?_;clear hQ hP Q
 repeat' (first|refine gwA ?_|(refine gwX ?_;intro Q hQ hP;simp [hC,hY];(first|refine hQ _ _ _ _ (by kernel_rfl) ?_|refine hP _ _ (by kernel_rfl) fun _=>?_);clear hQ hP Q)|(refine gwC ?_ ?_<;>(intro hb;try (cases hb;done))))
 generalize hK:(M+1).toNat=K at *
 refine GW_range (f:=148) (rs:=[256]) (xs:=allXs M) (caps:=#[.pointer (some ⟨256,0,none⟩)]) (by simp) ?_ ?_ (by simp [Tryz.ntmps120]) rfTs (fun i=>rfHp a (rp a K i)) 300 K (by rw [allXs_len];omega) ?_ ?_ ?_ ?_ ?_
 ·rw [hC]
  refine IterG.cast (IterX.rn (fun k=>if k=100 then 256 else k) G0F (fun k hk=>hpL_low (by simp) hk) (rs:=[100]) ?_ hit) (by simp [ren0]) (by simp)
  refine ⟨fun k hk=>?_,?_,?_,?_⟩
  ·simp [aHp,show ¬k=100 by omega,show ¬k=200 by omega,show ¬k=208 by omega,show ¬k=256 by omega]
  ·simp
  ·simp [aHp,wb,Blk.rn,renF,ren0]
  ·simp
 ·intro x hx
  simp only [allXs,List.mem_map] at hx
  obtain ⟨i,_,rfl⟩:=hx
  simp
 ·refine weakL _ 300 hC G0F (m0:=[]) hC0 (by omega) ?_ ?_ ?_
  ·simp [dom]
  ·simp [wb,rp,wi_zero]
  ·simp
 ·simp [rfHp,dom]
 ·intro i hi t
  refine tsL_ids ?_ t
  simp [dom,rfHp]
 ·intro i x hi hx C1 l hC1 hh1 hY1
  have hCC:=hC
  have hC1':C1.G=G0:=hC1.trans hC
  obtain ⟨n,hn⟩:∃ n:Nat,M - (i:Int)=n:=⟨(M - i).toNat,by omega⟩
  rw [allXs_at M i (by omega),hn] at hx
  cases hx
  obtain ⟨r0,r1,r2⟩:=hinv i (by omega)
  have en:K - 1 - i=n:=by omega
  have hrs:rp a K (i+1)=if (rp a K i+2^n)*(rp a K i+2^n)≤a then rp a K i+2^n else rp a K i:=by
   rw [rp,en]
  generalize rp a K i=r at *
  have hau:=ha.2
  have hr:r<340282366920938463463374607431768211456:=sq_bd _ r0 (by decide) (by omega)
  have hn2:(2:Int)^n≤2^127:=by exact_mod_cast Nat.pow_le_pow_right (by omega) (by omega:n≤127)
  have hn0:=pow_pos2 n
  have t0:0≤r+2^n:=by omega
  have t1:r+2^n<680564733841876926926749214863536422912:=by omega
  have szt:sz (r+2^n)=r+2^n:=sz_pos t0 (Int.lt_trans t1 (by decide))
  have tt0:0≤(r+2^n)*(r+2^n):=Int.mul_nonneg t0 t0
  have hmul:mulO (r+2^n) (r+2^n)=decide (¬((r+2^n)*(r+2^n)<57896044618658097711785492504343953926634992332820282019728792003956564819968)):=by
   unfold mulO;rw [szt];congr 1
   exact propext ⟨fun h1 h2=>h1 ⟨Int.le_trans (by decide) tt0,h2⟩,fun h1 h2=>h1 h2.2⟩
  have sza:sz a=a:=wr_sz ha
  replace hC:=hC1'
  replace hY:=hY1
  simp only [hrs]
  generalize htt:(r+2^n)*(r+2^n)=T at *
  by_cases hov:T<57896044618658097711785492504343953926634992332820282019728792003956564819968
  ·have hm:mulO (r+2^n) (r+2^n)=false:=by rw [hmul];simp [hov]
   have szT:sz T=T:=sz_pos tt0 hov
   by_cases hle:T≤a
   ·have hcmp:cmpI (sz T) (sz a)≤0:=by rw [szT,sza];unfold cmpI;split<;>(try split)<;>omega
    rw [if_pos hle]
    unfold rfHp
    repeat' (first|refine gwA ?_|(refine gwX ?_;intro Q hQ hP;simp [hC,hY,roundTs,rfTs];(first|refine hQ _ _ _ _ (by kernel_rfl) ?_|refine hP _ _ (by kernel_rfl) fun _=>?_);clear hQ hP Q)|(refine gwC ?_ ?_<;>(intro hb;try (cases hb;done))))
    intro C2 hC2 hh2 hY2
    replace hC:C2.G=G0:=hC2.trans hCC
    replace hY:=hY2
    repeat' (first|refine gwA ?_|(refine gwX ?_;intro Q hQ hP;simp [hC,hY,roundTs,rfTs,wb,szt,htt,hm,hcmp];(first|refine hQ _ _ _ _ (by kernel_rfl) ?_|refine hP _ _ (by kernel_rfl) fun _=>?_);clear hQ hP Q)|(refine gwC ?_ ?_<;>(intro hb;try (cases hb;done))))
    refine weakL [] 300 hC1' G0F hh1 (by omega) ?_ ?_ ?_
    ·simp
    ·simp [wb]
    ·simp [wb]
   ·have hcmp:¬cmpI (sz T) (sz a)≤0:=by rw [szT,sza];unfold cmpI;split<;>(try split)<;>omega
    rw [if_neg hle]
    unfold rfHp
    repeat' (first|refine gwA ?_|(refine gwX ?_;intro Q hQ hP;simp [hC,hY,roundTs,rfTs];(first|refine hQ _ _ _ _ (by kernel_rfl) ?_|refine hP _ _ (by kernel_rfl) fun _=>?_);clear hQ hP Q)|(refine gwC ?_ ?_<;>(intro hb;try (cases hb;done))))
    intro C2 hC2 hh2 hY2
    replace hC:C2.G=G0:=hC2.trans hCC
    replace hY:=hY2
    repeat' (first|refine gwA ?_|(refine gwX ?_;intro Q hQ hP;simp [hC,hY,roundTs,rfTs,wb,szt,htt,hm,hcmp];(first|refine hQ _ _ _ _ (by kernel_rfl) ?_|refine hP _ _ (by kernel_rfl) fun _=>?_);clear hQ hP Q)|(refine gwC ?_ ?_<;>(intro hb;try (cases hb;done))))
    refine weakL [] 300 hC1' G0F hh1 (by omega) ?_ ?_ ?_
    ·simp
    ·simp [wb]
    ·simp [wb]
  ·have hm:mulO (r+2^n) (r+2^n)=true:=by rw [hmul];simp only [hov,not_false_eq_true,decide_true]
   have hle:¬T≤a:=fun h=>hov (Int.lt_of_le_of_lt h hau)
   rw [if_neg hle]
   unfold rfHp
   repeat' (first|refine gwA ?_|(refine gwX ?_;intro Q hQ hP;simp [hC,hY,roundTs,rfTs];(first|refine hQ _ _ _ _ (by kernel_rfl) ?_|refine hP _ _ (by kernel_rfl) fun _=>?_);clear hQ hP Q)|(refine gwC ?_ ?_<;>(intro hb;try (cases hb;done))))
   intro C2 hC2 hh2 hY2
   replace hC:C2.G=G0:=hC2.trans hCC
   replace hY:=hY2
   repeat' (first|refine gwA ?_|(refine gwX ?_;intro Q hQ hP;simp [hC,hY,roundTs,rfTs,wb,szt,htt,hm];(first|refine hQ _ _ _ _ (by kernel_rfl) ?_|refine hP _ _ (by kernel_rfl) fun _=>?_);clear hQ hP Q)|(refine gwC ?_ ?_<;>(intro hb;try (cases hb;done))))
   refine weakL [] 300 hC1' G0F hh1 (by omega) ?_ ?_ ?_
   ·simp
   ·simp [wb]
   ·simp [wb]
 ·left
  refine ⟨by rw [allXs_len];omega,?_⟩
  rw [←hisq]
  unfold rfHp rfTs
  repeat' (first|refine gwA ?_|(refine gwX ?_;intro Q hQ hP;simp [hC,hY,wb];(first|refine hQ _ _ _ _ (by kernel_rfl) ?_|refine hP _ _ (by kernel_rfl) fun _=>?_);clear hQ hP Q)|(refine gwC ?_ ?_<;>(intro hb;try (cases hb;done))))
  refine ⟨.inr trivial,?_⟩
  simp [Tryz.results120]
@[simp] theorem rfloor (a:Int) (ha:wr a) (h0:0≤a) (K:Value→Prop):callK Tryz.prog G0 120 #[Value.agg #[.int .u64 (wi (a) 0),.int .u64 (wi (a) 1),.int .u64 (wi (a) 2),.int .u64 (wi (a) 3)]] K↔K (wd (isq a)):=callK_iff G0W (by kernel_rfl) (rfloor_ret a ha h0)
end Go.Gy
