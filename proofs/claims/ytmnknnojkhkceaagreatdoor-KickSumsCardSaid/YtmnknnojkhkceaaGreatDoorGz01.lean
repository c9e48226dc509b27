/-
  Lemmas of this claim, in their order (GyF, GyR, GyV, GyS, GyT, GyK2).
  Conditions: those of each theorem.
-/
import Derived.Test.YtmnknnojkhkceaaGreatDoorGz00
set_option linter.unusedSimpArgs false
set_option linter.unusedVariables false
namespace Go.Gy
open Go Go.RowKit

abbrev Tr:=List (Nat×List Nat×List Nat)
def joz (xs ys:List Nat):Bool:=xs.all fun x=>!ys.contains x
def chk (md:Region.Mode) (ops:Array Oper):Tr→Bool
 | []=>true
 | (i,rd,wr)::tl=>(tl.all fun q=>(joz rd q.2.2&&joz wr q.2.1)||zkl md ops i q.1)&&chk md ops tl
def zgg (k:Nat) (rd wr:List Nat) (tr:Tr):Tr :=
 match rd with
 | []=>match wr with
  | []=>tr
  | _::_=>(k,rd,wr)::tr
 | _::_=>(k,rd,wr)::tr

def ziz (P:Program) (G:Hp) (V:XV) (ops:Array Oper) (base:Nat) (Q:(Nat→Value)→Hp→Tr→Nat→Prop) (Qp:Value→Tr→Prop):Nat→List Oper→(Nat→Value)→Hp→Tr→Nat→Bool→Bool→Prop
 | _,[],ts,hp,tr,yc,_,_=>Q ts hp tr yc
 | k,o::rest,ts,hp,tr,yc,wr,yd=>match zcl ops o ts with
  | some true=>opX P G V yc o ts hp (base+8*k) fun e=>(e.yl=true→yd=false)∧match e.pan with
   | none=>ziz P G V ops base Q Qp (k+1) rest (zb6 ts o.dst e.v) (zbh hp (e.ws++e.ns)) (zgg k (e.rs++zab e.ns) (zab e.ws++zab e.ns) tr) (if e.yl then yc+1 else yc) (wr||!e.ws.isEmpty) (yd||e.yl)
   | some pv=>(V.dr=true→rest=[])∧(wr||!e.ws.isEmpty)=false∧Qp pv (zgg k (e.rs++zab e.ns) (zab e.ws++zab e.ns) tr)
  | some false=>unD o ts∧ziz P G V ops base Q Qp (k+1) rest (zb6 ts o.dst undef) hp tr yc wr yd
  | none=>False

theorem zs2 (k:Nat) (rd wr:List Nat) (tr:Tr):zgg k rd wr tr=(k,rd,wr)::tr∨(rd=[]∧wr=[]∧zgg k rd wr tr=tr):=by
 cases rd with
 | nil=>cases wr with
  | nil=>exact .inr ⟨rfl,rfl,rfl⟩
  | cons=>exact .inl rfl
 | cons=>exact .inl rfl

theorem zjv {md:Region.Mode} {ops:Array Oper} {k:Nat} {rd wr:List Nat} {tr:Tr} (h:chk md ops (zgg k rd wr tr)=true) :
  chk md ops tr=true∧∀ q∈tr,((∀ x∈rd,x∉q.2.2)∧(∀ x∈wr,x∉q.2.1))∨zkl md ops k q.1=true:=by
 rcases zs2 k rd wr tr with e|⟨h1,h2,e⟩
 ·rw [e] at h
  simp only [chk,Bool.and_eq_true,List.all_eq_true,Bool.or_eq_true] at h
  refine ⟨h.2,fun q hq=>(h.1 q hq).imp (fun h=>⟨fun x hx=>?_,fun x hx=>?_⟩) id⟩
  ·have:=List.all_eq_true.1 h.1 x hx;simpa using this
  ·have:=List.all_eq_true.1 h.2 x hx;simpa using this
 ·rw [e] at h;subst h1;subst h2
  exact ⟨h,fun q _=>.inl ⟨fun x hx=>(by cases hx),fun x hx=>(by cases hx)⟩⟩

section
variable {P:Program} {G:Hp} {V:XV}

def z0u (lg:Nat→List Nat×List Nat) (tr:Tr):Prop :=
 ∀ j,lg j=([],[])∨∃ rd wr,(j,rd,wr)∈tr∧(∀ x∈(lg j).1,x∈rd)∧(∀ x∈(lg j).2,x∈wr)

theorem z0u.step {lg:Nat→List Nat×List Nat} {tr:Tr} (h:z0u lg tr) (k:Nat) (e:Eff):z0u (upd lg k (e.rs,zab e.ws++zab e.ns)) (zgg k (e.rs++zab e.ns) (zab e.ws++zab e.ns) tr):=by
 intro j
 rcases zs2 k (e.rs++zab e.ns) (zab e.ws++zab e.ns) tr with e1|⟨h1,h2,e1⟩
 ·rw [e1]
  by_cases hj:j=k
  ·subst hj
   rw [zba]
   exact .inr ⟨_,_,List.mem_cons_self ..,fun x hx=>List.mem_append_left _ hx,fun x hx=>hx⟩
  ·rw [zaa _ _ hj]
   exact (h j).imp id fun ⟨rd,wr,hm,a,b⟩=>⟨rd,wr,List.mem_cons_of_mem _ hm,a,b⟩
 ·rw [e1]
  by_cases hj:j=k
  ·subst hj
   rw [zba]
   have:e.rs=[]:=(List.append_eq_nil_iff.1 h1).1
   exact .inl (by rw [this,h2])
  ·rw [zaa _ _ hj];exact h j

theorem zmp {ops:Array Oper} {base:Nat} {K:(Nat→Value)→Hp→Nat→Prop} {Kp:Value→Prop} (hGF:zbi G) (hb:100≤base):∀ (l:List Oper) (k:Nat) (ts:Nat→Value) (hp:Hp) (tr:Tr) (yc:Nat) (wr yd:Bool),(∀ x,x<100→hp x=G x) →
  ziz P G V ops base (fun ts hp tr yc=>chk .any ops tr=true∧K ts hp yc) (fun pv tr=>chk .any ops tr=true∧Kp pv) k l ts hp tr yc wr yd→chk .any ops tr=true
 | [],_,_,_,_,_,_,_,_,h=>h.1
 | o::l,k,ts,hp,tr,yc,wr,yd,hG,h=>by
  simp only [ziz] at h
  split at h
  ·obtain ⟨e,_,hs,_,h3⟩:=zga hGF hG h
   split at h3
   ·refine (zjv (zmp hGF hb l _ _ _ _ _ _ _ (fun x hx=>?_) h3)).1
    rw [za8 (fun hm=>?_)]
    ·exact hG x hx
    ·have:x∈zab e.ws∨x∈zab e.ns:=by simpa [zab] using hm
     rcases this with h|h
     ·have:=(hs.ws x h).2.2;omega
     ·have:=hs.ns x h;omega
   ·exact (zjv h3.2.2.1).1
  ·exact zmp hGF hb l _ _ _ _ _ _ _ hG h.2
  ·exact h.elim

def jqw (Kn:(Nat→Value)→Hp→Nat→Prop) (Kp:Value→Prop) (B:Nat) (s:St):Prop :=
 (s.pn=none→Kn s.ts s.hp s.yc∧∀ x,B≤x→s.hp x=none)∧∀ pv,s.pn=some pv→s.wr=false∧Kp pv

theorem zij {ops:Array Oper} {base:Nat} {K:(Nat→Value)→Hp→Nat→Prop} {Kp:Value→Prop} (hGF:zbi G) (hb:100≤base) (hdr:V.dr=true):∀ (l:List Oper) (k:Nat) (ts:Nat→Value) (hp:Hp) (tr:Tr) (yc:Nat) (wr yd:Bool) (lg:Nat→List Nat×List Nat),(∀ x,x<100→hp x=G x) →
  (∀ x,base+8*k≤x→hp x=none)→z0u lg tr→(∀ j,k≤j→lg j=([],[]))→(∀ o∈l,unC P o) →
  ziz P G V ops base (fun ts hp tr yc=>chk .any ops tr=true∧K ts hp yc) (fun pv tr=>chk .any ops tr=true∧Kp pv) k l ts hp tr yc wr yd →
  zpb (okp P V.Y) .any ops base (jqw K Kp (base+8*(k+l.length))) k l ⟨ts,hp,lg,yc,yd,none,wr⟩
 | [],k,ts,hp,tr,yc,wr,yd,lg,hG,hn,hl,hz,hu,h=>⟨fun _=>⟨h.2,by simpa using hn⟩,fun _ h=>(by cases h)⟩
 | o::l,k,ts,hp,tr,yc,wr,yd,lg,hG,hn,hl,hz,hu,h=>by
  have hlen:k+(o::l).length=(k+1)+l.length:=by simp;omega
  rw [hlen]
  simp only [ziz] at h
  simp only [zpb]
  cases hw:zcl ops o ts with
  | none=>rw [hw] at h;exact h.elim
  | some b =>
   rw [hw] at h
   cases b with
   | true =>
    simp only at h ⊢
    obtain ⟨e,h1,hs,hyd,h3⟩:=zga hGF hG h
    have big:∀ x∈zab (e.ws++e.ns),100≤x:=fun x hm=>by
     have:x∈zab e.ws∨x∈zab e.ns:=by simpa [zab] using hm
     rcases this with h|h
     ·exact (hs.ws x h).2.2
     ·have:=hs.ns x h;omega
    have hG':∀ x,x<100→zbh hp (e.ws++e.ns) x=G x:=fun x hx=>by
     rw [za8 (fun hm=>by have:=big x hm;omega)];exact hG x hx
    have hn':∀ x,base+8*(k+1)≤x→zbh hp (e.ws++e.ns) x=none:=fun x hx=>by
     rw [za8 (fun hm=>?_)]
     ·exact hn x (by omega)
     ·have:x∈zab e.ws∨x∈zab e.ns:=by simpa [zab] using hm
      rcases this with h|h
      ·exact (hs.ws x h).2.1 (hn x (by omega))
      ·have:=hs.ns x h;omega
    have fits:chk .any ops (zgg k (e.rs++zab e.ns) (zab e.ws++zab e.ns) tr)=true→Fits .any ops base k ⟨ts,hp,lg,yc,yd,none,wr⟩ e:=fun hc=>by
     have hc:=zjv hc
     refine ⟨hs.ws,fun x hx=>?_,fun x hx=>?_,hs.once,fun j hj=>?_,hz k (Nat.le_refl _),fun _=>rfl,hyd⟩
     ·have:=hs.ns x hx;omega
     ·have:=hs.ns x hx;exact hn x (by omega)
     ·rcases hl j with h0|⟨rd,wr,hm,a,b⟩
      ·simp only [h0];exact ⟨fun _ _ h=>(by cases h),fun _ _ h=>(by cases h)⟩
      ·rcases hc.2 _ hm with ⟨c1,c2⟩|c
       ·exact ⟨fun x hx hm=>c1 x hx (b x hm),fun x hx hm=>c2 x hx (a x hm)⟩
       ·rw [hj] at c;cases c
    cases hpn:e.pan with
    | none =>
     rw [hpn] at h3
     simp only at h3
     refine ⟨e,h1,fits (zmp hGF hb l _ _ _ _ _ _ _ hG' h3),?_⟩
     have:=zij hGF hb hdr l (k+1) _ _ _ _ _ _ _ hG' hn' (hl.step k e) (fun j hj=>by rw [zaa _ _ (by omega)];exact hz j (by omega)) (fun o ho=>hu o (List.mem_cons_of_mem _ ho)) h3
     simpa [St.after,hpn] using this
    | some pv =>
     rw [hpn] at h3
     obtain ⟨hrest,hwr,hch,hkp⟩:=h3
     obtain rfl:=hrest hdr
     refine ⟨e,h1,fits hch,?_⟩
     simp only [zpb,St.after,hpn]
     refine ⟨fun h=>?_,fun pv' h=>?_⟩
     ·simp at h
     ·simp at h;subst h;exact ⟨hwr,hkp⟩
   | false =>
    simp only at h ⊢
    exact ⟨⟨h.1,hu o (by simp)⟩,zij hGF hb hdr l (k+1) _ _ _ _ _ _ _ hG (fun x hx=>hn x (by omega)) hl (fun j hj=>hz j (by omega)) (fun o ho=>hu o (List.mem_cons_of_mem _ ho)) h.2⟩

def zu7 (P:Program) (ops:List Oper):Bool:=ops.all fun o=>match o.op with
 | .call c=>match c.callee with
  | .value (.func f)=>decide (f<P.funcs.size)
  | _=>true
 | _=>true
theorem zgh {ops:List Oper} (h:zu7 P ops=true):∀ o∈ops,unC P o:=fun o ho=>by
 have:=List.all_eq_true.1 h o ho
 unfold unC
 split
 ·rename_i c hc
  simp only [hc] at this
  split
  ·rename_i f hcc
   simp only [hcc,decide_eq_true_eq] at this
   exact ⟨_,Array.getElem?_eq_getElem this⟩
  ·trivial
 ·trivial

structure GS where
 ts:Nat→Value
 hp:Hp
 B:Nat
 yc:Nat

structure GI (P:Program) (C:Ctx) (n:Nat) (d:List Deferred) (r:Nat→Nat) (s:GS) (a:Act) (W:World):Prop where
 ri:RI C n d r s.ts s.hp s.yc a W
 free:∀ x,s.B≤x→s.hp x=none
 low:100≤s.B
 flat:zbi C.G
 rounds:∀ y,C.Y=some y→zfz P C.G C.E y

def GW (P:Program) (C:Ctx) (n:Nat) (d:List Deferred) (ro:Option Nat) (c:Code) (s:GS) (K:Exit→GS→Prop):Prop :=
 ∀ r a W,GI P C n d r s a W→c.wpIn (Fw P ro) 0 P (fun e a' W'=>∃ s' r',K e s'∧GI P C n d r' s' a' W') a W

variable {C:Ctx} {n:Nat} {d:List Deferred} {ro:Option Nat} {s:GS} {K:Exit→GS→Prop} {yc:Nat}

def zcq (next:GS→Prop) (K:Exit→GS→Prop):Exit→GS→Prop
 | .normal,s=>next s
 | e,s=>K e s

theorem zdp {c:Code} {K':Exit→GS→Prop} (h:GW P C n d ro c s K) (hk:∀ e s,K e s→K' e s):GW P C n d ro c s K' :=
 fun r a W hi=>wpIn_mono (h r a W hi) fun _ _ _ ⟨s',r',k,i⟩=>⟨s',r',hk _ _ k,i⟩

theorem ziu {x y:Code} (h:GW P C n d ro x s (zcq (fun s'=>GW P C n d ro y s' K) K)):GW P C n d ro (.seq x y) s K:=by
 intro r a W hi
 refine wpIn_seq (wpIn_mono (h r a W hi) ?_)
 rintro e a' W' ⟨s',r',k,i⟩
 cases e with
 | normal=>exact k r' a' W' i
 | _=>exact ⟨s',r',k,i⟩

theorem zvs (h:K .normal s):GW P C n d ro .skip s K:=fun r _ _ hi=>wpIn_skip ⟨s,r,h,hi⟩
theorem zvr (h:K .ret s):GW P C n d ro .ret s K:=fun r _ _ hi=>wpIn_ret ⟨s,r,h,hi⟩
theorem z7a {id:Nat} (h:K (.exit id) s):GW P C n d ro (.exit id) s K:=fun r _ _ hi=>wpIn_exit ⟨s,r,h,hi⟩
theorem z7b {id:Nat} (h:K (.goto id) s):GW P C n d ro (.goto id) s K:=fun r _ _ hi=>wpIn_goto ⟨s,r,h,hi⟩
theorem zri {id:Nat} (h:K .normal s):GW P C n d ro (.label id) s K:=fun r _ _ hi=>wpIn_label ⟨s,r,h,hi⟩

theorem z68 {t:Tmp} {x y:Code} {b:Bool} (hb:s.ts t=.bool b) (ht:b=true→GW P C n d ro x s K) (hf:b=false→GW P C n d ro y s K):GW P C n d ro (.cond (.tmp t) x y) s K:=by
 intro r a W hi
 have he:a.eval (.tmp t)=.bool b:=by
  have:=(hi.ri.rel t).resolve_left (by rw [hb];simp [zcj])
  rw [hb] at this
  exact this.1
 exact wpIn_cond_split he (fun h=>ht h r a W hi) (fun h=>hf h r a W hi)

def zek (id:Nat) (K:Exit→GS→Prop):Exit→GS→Prop
 | .exit id',s=>if id'=id then K .normal s else K (.exit id') s
 | e,s=>K e s

theorem z0r {id:Nat} {c:Code} (h:GW P C n d ro c s (zek id K)):GW P C n d ro (.block id c) s K:=by
 intro r a W hi
 refine wpIn_block (wpIn_mono (h r a W hi) ?_)
 rintro e a' W' ⟨s',r',k,i⟩
 cases e with
 | exit id' =>
  simp only [Exit.inBlock,zek] at k ⊢
  split
  ·rename_i h;rw [if_pos h] at k;exact ⟨s',r',k,i⟩
  ·rename_i h;rw [if_neg h] at k;exact ⟨s',r',k,i⟩
 | _=>exact ⟨s',r',k,i⟩

structure Weak (C:Ctx) (s s':GS):Prop where
 ts:∀ t,s'.ts t=zcj∨(s'.ts t=s.ts t∧zan (dom s'.hp) (s'.ts t))
 hp:∀ k,100≤k→s'.hp k=none∨s'.hp k=s.hp k
 ids:∀ k b,s'.hp k=some b→b.ids (dom s'.hp)
 keep:∀ k,100≤k→dom C.hp0 k→s'.hp k=s.hp k
 glob:∀ k,k<100→s'.hp k=C.G k
 yc:s'.yc=s.yc
 free:∀ x,s'.B≤x→s'.hp x=none
 low:100≤s'.B

theorem GI.weak {r:Nat→Nat} {a:Act} {W:World} {s':GS} (h:GI P C n d r s a W) (hw:Weak C s s'):GI P C n d r s' a W:=by
 have hhp:∀ k,s'.hp k=none∨s'.hp k=s.hp k:=fun k=>by
  by_cases hk:100≤k
  ·exact hw.hp k hk
  ·exact .inr ((hw.glob k (by omega)).trans (h.ri.glob k (by omega)).symm)
 have sub:∀ k,dom s'.hp k→dom s.hp k:=fun k hk=>by
  rcases hhp k with h|h
  ·exact absurd h hk
  ·unfold dom at *;rwa [←h]
 refine ⟨{ h.ri with rel:=fun t=>?_,sat:=fun k b hb=>?_,inj:=fun k l hk hl=>h.ri.inj k l (sub k hk) (sub l hl),ext:=?_,keep:=fun i hi=>?_,glob:=hw.glob,low:=fun k hk hd=>h.ri.low k hk (sub k hd) },hw.free,hw.low,h.flat,h.rounds⟩
 ·rcases hw.ts t with e|⟨e,hi⟩
  ·exact .inl e
  ·rcases h.ri.rel t with e'|e'
   ·exact .inl (e.trans e')
   ·exact .inr ⟨by rw [e];exact e'.1,hi⟩
 ·rcases hhp k with e|e
  ·rw [e] at hb;cases hb
  ·exact ⟨(h.ri.sat k b (by rw [←e];exact hb)).1,hw.ids k b hb⟩
 ·obtain ⟨S,ms,h1,h2,h3,h4⟩:=h.ri.ext
  exact ⟨S,ms,by rw [hw.yc];exact h1,h2,fun i hi=>h3 i (sub i hi),h4⟩
 ·have:=h.ri.keep i hi
  exact ⟨by unfold dom;rw [show s'.hp i=s.hp i by
   by_cases h1:100≤i
   ·exact hw.keep i h1 hi
   ·exact (hw.glob i (by omega)).trans (h.ri.glob i (by omega)).symm];exact this.1,this.2⟩

theorem zvt {c:Code} {s':GS} (hw:Weak C s s') (h:GW P C n d ro c s' K):GW P C n d ro c s K :=
 fun r a W hi=>h r a W (hi.weak hw)

theorem z7c {c:Code} (I:Nat→GS→Prop) {m0:Nat} {s0:GS} (hw:Weak C s s0) (h0:I m0 s0)
  (round:∀ m s,I m s→GW P C n d ro c s (zcq (fun s'=>∃ s'' m',Weak C s' s''∧I m' s''∧m'<m) K)):GW P C n d ro (.loop c) s K:=by
 have key:∀ (m:Nat) (s:GS),I m s→∀ r a W,GI P C n d r s a W→∀ (b:Frame) (k:List Item) (cs:List Frame),b.roundOf=ro →
   (Fs P).fn b.fn→∃ e a' w',(∃ s' r',K e s'∧GI P C n d r' s' a' w')∧ArrivesIn (Machine.fenced P (Fw P ro)) P (lone (b.atR a (.code c::.inLoop c::k)) cs W) b k cs e a' w':=by
  intro m
  induction m using Nat.strongRecOn with
  | _ m ih =>
   intro s hI r a W hi b k cs hro hfn
   obtain ⟨e,a₁,w₁,⟨s',r',hk,hi'⟩,harr⟩:=round m s hI r a W hi b (.inLoop c::k) cs hro hfn (zer P _)
   cases e with
   | normal =>
    obtain ⟨s'',m',hw'',hI'',hlt⟩:=hk
    obtain ⟨e₂,a₂,w₂,hq₂,harr₂⟩:=ih m' hlt s'' hI'' r' a₁ w₁ (hi'.weak hw'') b k cs hro hfn
    exact ⟨e₂,a₂,w₂,hq₂,.of_steps (StepsIn.trans harr (.one (fenced_calm (F:=Fw P ro) (n:=0) hfn (zer P _) rfl) stepR_inLoop)) harr₂⟩
   | exit id=>exact ⟨_,a₁,w₁,⟨s',r',hk,hi'⟩,.pass (x:=.inLoop c) rfl (fun _ _=>.inl (by simp)) harr⟩
   | goto l=>exact ⟨_,a₁,w₁,⟨s',r',hk,hi'⟩,.pass (x:=.inLoop c) rfl (fun _ _=>.inl (by simp)) harr⟩
   | ret=>exact ⟨_,a₁,w₁,⟨s',r',hk,hi'⟩,.pass (x:=.inLoop c) rfl (fun _ _=>.inl (by simp)) harr⟩
   | panic ch=>exact ⟨_,a₁,w₁,⟨s',r',hk,hi'⟩,.pass (x:=.inLoop c) rfl (fun _ _=>.inl (by simp)) harr⟩
   | outgrown=>exact ⟨_,a₁,w₁,⟨s',r',hk,hi'⟩,.pass (x:=.inLoop c) rfl (fun _ _=>.inl (by simp)) harr⟩
 intro r a W hi b k cs hro hb hr
 obtain ⟨e,a',w',hq,harr⟩:=key m0 s0 h0 r a W (hi.weak hw) b k cs hro hb
 exact ⟨e,a',w',hq,.of_steps (.one (fenced_calm hb hr rfl) stepR_loop) harr⟩

theorem zb8 {c:Code} (N:Nat) (St:Nat→GS) (hw:Weak C s (St 0)) (round:∀ i,i<N→GW P C n d ro c (St i) (zcq (fun s'=>Weak C s' (St (i+1))) K))
  (last:GW P C n d ro c (St N) (zcq (fun _=>False) K)):GW P C n d ro (.loop c) s K:=by
 refine z7c (m0:=N) (fun m s=>∃ i,i+m=N∧s=St i) hw ⟨0,by omega,rfl⟩ ?_
 rintro m _ ⟨i,hi,rfl⟩
 cases m with
 | zero =>
  obtain rfl:i=N:=by omega
  refine zdp last fun e s h=>?_
  cases e<;>first|exact h|exact h.elim
 | succ m =>
  refine zdp (round i (by omega)) fun e s h=>?_
  cases e<;>first|exact h|exact ⟨St (i+1),m,h,⟨i+1,by omega,rfl⟩,by omega⟩

theorem zq3 {b:Frame} {a:Act} {c:Code} {k:List Item} {cs:List Frame} {w:World}:step P (lone (b.atR a (.code (.scope c)::k)) cs w)=.next (lone (b.atR a (.code c::.inScope c::k)) cs w):=by
 exact step_lone_go (by simp [stepG,stepG.exec,Frame.atR])
theorem zm2 {b:Frame} {a:Act} {c:Code} {k:List Item} {cs:List Frame} {w:World}:step P (lone (b.atR a (.inScope c::k)) cs w)=.next (lone (b.atR a k) cs w):=by
 exact step_lone_go (by simp [stepG,stepG.exec,Frame.atR])
def zht (l:Nat) (J:GS→Prop) (K:Exit→GS→Prop):Exit→GS→Prop
 | .goto l',s=>l'=l∧J s
 | e,s=>K e s
theorem z0t {c rest:Code} (l:Nat) (I:Nat→GS→Prop) (hfl:findLabel c l=some rest) (first:GW P C n d ro c s (zht l (fun s'=>∃ s'' m',Weak C s' s''∧I m' s'') K))
  (pass:∀ m s,I m s→GW P C n d ro rest s (zht l (fun s'=>∃ s'' m',Weak C s' s''∧I m' s''∧m'<m) K)):GW P C n d ro (.scope c) s K:=by
 intro r a W hi b k cs hro hb hr
 have hg:gotoIn l (.inScope c::k)=some (.code rest::.inScope c::k):=by simp [gotoIn,hfl]
 have sIn:∀ {a W},StepsIn (Machine.fenced P (Fw P ro)) P (lone (b.atR a (.inScope c::k)) cs W) (lone (b.atR a k) cs W):=fun {a W} =>
  .one (fenced_calm (F:=Fw P ro) (n:=0) hb (zer P _) rfl) zm2
 have s0:StepsIn (Machine.fenced P (Fw P ro)) P (lone (b.atR a (.code (.scope c)::k)) cs W) (lone (b.atR a (.code c::.inScope c::k)) cs W) :=
  .one (fenced_calm (F:=Fw P ro) (n:=0) hb (zer P _) rfl) zq3
 have key:∀ (m:Nat) (s:GS),I m s→∀ r a W,GI P C n d r s a W →
   ∃ e a' w',(∃ s' r',K e s'∧GI P C n d r' s' a' w')∧ArrivesIn (Machine.fenced P (Fw P ro)) P (lone (b.atR a (.code rest::.inScope c::k)) cs W) b k cs e a' w':=by
  intro m
  induction m using Nat.strongRecOn with
  | _ m ih =>
   intro s hI r a W hi
   obtain ⟨e,a₁,w₁,⟨s',r',hk,hi'⟩,harr⟩:=pass m s hI r a W hi b (.inScope c::k) cs hro hb hr
   cases e with
   | normal=>exact ⟨.normal,a₁,w₁,⟨s',r',hk,hi'⟩,StepsIn.trans harr sIn⟩
   | goto l' =>
    obtain ⟨rfl,s'',m',hw,hI',hlt⟩:=hk
    obtain ⟨e₂,a₂,w₂,hq₂,harr₂⟩:=ih m' hlt s'' hI' r' a₁ w₁ (hi'.weak hw)
    exact ⟨e₂,a₂,w₂,hq₂,.of_steps (harr.1 _ hg) harr₂⟩
   | exit id=>exact ⟨_,a₁,w₁,⟨s',r',hk,hi'⟩,fun k' hk=>harr.1 k' (by simp [exitTo,hk]),fun hr' hk=>harr.2 hr' (by simpa [exitTo] using hk)⟩
   | ret=>exact ⟨_,a₁,w₁,⟨s',r',hk,hi'⟩,harr⟩
   | panic ch=>exact ⟨_,a₁,w₁,⟨s',r',hk,hi'⟩,harr⟩
   | outgrown=>exact ⟨_,a₁,w₁,⟨s',r',hk,hi'⟩,harr⟩
 obtain ⟨e,a₁,w₁,⟨s',r',hk,hi'⟩,harr⟩:=first r a W hi b (.inScope c::k) cs hro hb hr
 cases e with
 | normal=>exact ⟨.normal,a₁,w₁,⟨s',r',hk,hi'⟩,StepsIn.trans s0 (StepsIn.trans harr sIn)⟩
 | goto l' =>
  obtain ⟨rfl,s'',m',hw,hI'⟩:=hk
  obtain ⟨e₂,a₂,w₂,hq₂,harr₂⟩:=key m' s'' hI' r' a₁ w₁ (hi'.weak hw)
  exact ⟨e₂,a₂,w₂,hq₂,.of_steps (StepsIn.trans s0 (harr.1 _ hg)) harr₂⟩
 | exit id=>exact ⟨_,a₁,w₁,⟨s',r',hk,hi'⟩,.of_steps s0 (e:=.exit id) ⟨fun k' hk=>harr.1 k' (by simp [exitTo,hk]),fun hr' hk=>harr.2 hr' (by simpa [exitTo] using hk)⟩⟩
 | ret=>exact ⟨_,a₁,w₁,⟨s',r',hk,hi'⟩,.of_steps s0 harr⟩
 | panic ch=>exact ⟨_,a₁,w₁,⟨s',r',hk,hi'⟩,.of_steps s0 harr⟩
 | outgrown=>exact ⟨_,a₁,w₁,⟨s',r',hk,hi'⟩,.of_steps s0 harr⟩

def zhu (l:List Oper) (ts:Nat→Value):Nat→Value:=fun t=>if l.any (fun o=>o.dst==some t) then zcj else ts t
theorem GI.panicked {l:List Oper} {r r':Nat→Nat} {a a':Act} {W W':World} {ts':Nat→Value} {hp':Hp} {yc':Nat} (h0:GI P C n d r s a W) (hs:∀ k b,s.hp k=some b→hp' k=some b) (hts:∀ t,(∀ o∈l,o.dst≠some t)→ts' t=s.ts t) (h:RI C n d r' ts' hp' yc' a' W') :
  GI P C n d r' ⟨zhu l s.ts,s.hp,s.B,yc'⟩ a' W':=by
 have sub:∀ k,dom s.hp k→dom hp' k:=fun k hk=>by
  unfold dom at *
  cases hb:s.hp k with
  | none=>exact absurd hb hk
  | some b=>rw [hs k b hb];simp
 exact ⟨{ h with
  rel:=fun t=>by
   show (if l.any (fun o=>o.dst==some t) then zcj else s.ts t)=zcj∨_
   cases hd:l.any (fun o=>o.dst==some t) with
   | true=>exact .inl rfl
   | false =>
    have ht:=hts t (fun o ho e=>by
     have:=List.any_eq_false.1 hd o ho
     rw [e] at this;simp at this)
    rcases h0.ri.rel t with e|e
    ·exact .inl e
    ·rcases h.rel t with e'|e'
     ·exact .inl (ht.symm.trans e')
     ·refine .inr ⟨?_,?_⟩
      ·rw [e'.1,ht];simp [zhu,hd]
      ·simp only [zhu,hd];exact e.2
  sat:=fun k b hk=>⟨(h.sat k b (hs k b hk)).1,(h0.ri.sat k b hk).2⟩
  inj:=fun k l hk hl=>h.inj k l (sub k hk) (sub l hl)
  ext:=by
   obtain ⟨S,ms,h1,h2,h3,h4⟩:=h.ext
   exact ⟨S,ms,h1,h2,fun i hi=>h3 i (sub i hi),h4⟩
  keep:=fun i hi=>⟨(h0.ri.keep i hi).1,(h.keep i hi).2⟩
  glob:=h0.ri.glob
  low:=fun k hk hd=>h.low k hk (sub k hd) },h0.free,h0.low,h0.flat,h0.rounds⟩

theorem z69 {id:Nat} {l:List Oper} (pn:List FuncId) (hm:P.follows .mixedOrders=true) (hB:Region.lexFrom .any l.toArray l.length 0 (Array.replicate l.length false)=true) (hdst:(zhj n l&&zu7 P l)=true)
  (h:∀ (Q:(Nat→Value)→Hp→Tr→Nat→Prop) (Qp:Value→Tr→Prop),(∀ ts hp tr yc,chk .any l.toArray tr=true→K .normal ⟨ts,hp,s.B+8*l.length,yc⟩→Q ts hp tr yc) →
   (∀ pv tr,chk .any l.toArray tr=true→(∀ yc,K (.panic [{ v:=pv,recovered:=false }]) ⟨zhu l s.ts,s.hp,s.B,yc⟩)→Qp pv tr)→ziz P C.G ⟨C.Y,pn,true⟩ l.toArray s.B Q Qp 0 l s.ts s.hp [] s.yc false false):GW P C n d ro (.region id l.toArray true) s K:=by
 intro r a W hi
 simp only [Bool.and_eq_true] at hdst
 replace h:=h (fun ts hp tr yc=>chk .any l.toArray tr=true∧K .normal ⟨ts,hp,s.B+8*l.length,yc⟩) (fun pv tr=>chk .any l.toArray tr=true∧∀ yc,K (.panic [{ v:=pv,recovered:=false }]) ⟨zhu l s.ts,s.hp,s.B,yc⟩) (fun _ _ _ _ a b=>⟨a,b⟩) (fun _ _ a b=>⟨a,b⟩)
 have hw:=zij (P:=P) (G:=C.G) (V:=⟨C.Y,pn,true⟩) (base:=s.B) (K:=fun ts hp yc=>K .normal ⟨ts,hp,s.B+8*l.length,yc⟩) (Kp:=fun pv=>∀ yc,K (.panic [{ v:=pv,recovered:=false }]) ⟨zhu l s.ts,s.hp,s.B,yc⟩) hi.flat hi.low rfl l 0 s.ts s.hp [] s.yc false false (fun _=>([],[])) hi.ri.glob (by simpa using hi.free) (fun _=>.inl rfl) (fun _ _=>rfl) (zgh hdst.2) h
 refine zqz (z2n hi.flat hi.rounds) zsf hm hB hdst.1 hi.ri hw ?_ ?_ ?_
 ·rintro s' hk hpn r' a' W' hi'
  obtain ⟨hk,hf⟩:=hk.1 hpn
  exact ⟨⟨s'.ts,s'.hp,s.B+8*l.length,s'.yc⟩,r',hk,hi',by simpa using hf,by have:=hi.low;simp;omega,hi.flat,hi.rounds⟩
 ·intro s' pv hk hpn _ r' a' W' ts' hp' yc' hs hts hi'
  exact ⟨_,r',(hk.2 pv hpn).2 yc',hi.panicked hs hts hi'⟩
 ·intro s' hk hpn
  cases hp:s'.pn with
  | none=>exact absurd hp hpn
  | some pv=>exact (hk.2 pv hp).1

theorem ze7 {ops:Array Oper} {base:Nat} {pn:List FuncId} {Q:Exit→Act→World→Prop} {Kn:(Nat→Value)→Hp→Nat→Prop} {Kp:Value→Prop} {hp0:Hp} {ts0:Nat→Value} {l0:List Oper} (hGF:zbi C.G) (hR:∀ y,C.Y=some y→zfz P C.G C.E y) (hb:100≤base):∀ (l:List Oper) (k:Nat) (ts:Nat→Value) (hp:Hp) (tr:Tr) (yc:Nat) (wr yd:Bool) (r:Nat→Nat) (a:Act) (W:World),
  (∀ o∈l,(((∀ dd,o.dst=some dd→dd<n)∧∀ c,o.op≠.defer c)∧unC P o)∧o∈l0)→(∀ t,(∀ o∈l0,o.dst≠some t)→ts t=ts0 t)→RI C n d r ts hp yc a W→(∀ x,base+8*k≤x→hp x=none)→(wr=false→∀ k b,hp0 k=some b→hp k=some b) →
  (∀ ts hp yc r a W,Kn ts hp yc→RI C n d r ts hp yc a W→(∀ x,base+8*(k+l.length)≤x→hp x=none)→Q .normal a W) →
  (∀ pv ts hp yc r a W,Kp pv→(∀ k b,hp0 k=some b→hp k=some b)→(∀ t,(∀ o∈l0,o.dst≠some t)→ts t=ts0 t)→RI C n d r ts hp yc a W→Q (.panic [{ v:=pv,recovered:=false }]) a W) →
  ziz P C.G ⟨C.Y,pn,false⟩ ops base (fun ts hp _ yc=>Kn ts hp yc) (fun pv _=>Kp pv) k l ts hp tr yc wr yd→wpListIn (Fw P ro) 0 P ops Q l a W
 | [],k,ts,hp,tr,yc,wr,yd,r,a,W,_,_,hi,hn,_,hQ,_,h=>hQ ts hp yc r a W h hi (by simpa using hn)
 | o::l,k,ts,hp,tr,yc,wr,yd,r,a,W,hd,hts,hi,hn,hs0,hQ,hQp,h=>by
  have hlen:k+(o::l).length=(k+1)+l.length:=by simp;omega
  rw [hlen] at hQ
  refine wpListIn_step fun K hK=>?_
  simp only [ziz] at h
  cases hw:zcl ops o ts with
  | none=>rw [hw] at h;exact h.elim
  | some b =>
   rw [hw] at h
   rw [zgr hi.rel hw]
   cases b with
   | true =>
    simp only at h
    simp only [if_true]
    obtain ⟨e,h1,hs,hyd,h3⟩:=zga hGF hi.glob h
    have hs1:(wr||!e.ws.isEmpty)=false→∀ k b,hp0 k=some b→zbh hp (e.ws++e.ns) k=some b:=fun hwr k' b hk'=>by
     simp only [Bool.or_eq_false_iff] at hwr
     have e0:e.ws=[]:=by have:=hwr.2;simpa using this
     have hh:=hs0 hwr.1 k' b hk'
     rw [e0,List.nil_append,za8 (fun hm=>by have:=hs.ns k' hm;rw [hn k' (by omega)] at hh;cases hh)]
     exact hh
    refine z2n hGF hR o e ts hp yc r a W 0 _ _ hi (hd o (by simp)).1.1 h1 (fun x hx=>(hs.ws x hx).2) (fun x hx=>?_) (fun r' a' W' hpn hi'=>hK _ _ ?_) (fun pv W' yc' hpn hi'=>?_)
    ·have:=hs.ns x hx;exact ⟨hn x (by omega),by omega⟩
    ·rw [hpn] at h3
     refine ze7 hGF hR hb l (k+1) _ _ _ _ _ _ r' a' W' (fun o ho=>hd o (List.mem_cons_of_mem _ ho)) (fun t ht=>(zd9 (ht o (hd o (by simp)).2)).trans (hts t ht)) hi' (fun x hx=>?_) hs1 hQ hQp h3
     rw [za8 (fun hm=>?_)]
     ·exact hn x (by omega)
     ·have:x∈zab e.ws∨x∈zab e.ns:=by simpa [zab] using hm
      rcases this with h|h
      ·exact (hs.ws x h).2.1 (hn x (by omega))
      ·have:=hs.ns x h;omega
    ·rw [hpn] at h3
     obtain ⟨_,hwr,hkp⟩:=h3
     simp only [Bool.or_eq_false_iff] at hwr
     exact hQp pv ts hp yc' r a W' hkp (hs0 hwr.1) hts hi'
   | false =>
    simp only at h
    simp only [Bool.false_eq_true,if_false]
    exact ⟨zsf (Y:=none) o ts r _ a W hi.rel ⟨h.1,(hd o (by simp)).1.2⟩,hK _ _ (ze7 hGF hR hb l (k+1) _ _ _ _ _ _ r _ W (fun o ho=>hd o (List.mem_cons_of_mem _ ho)) (fun t ht=>(zd9 (ht o (hd o (by simp)).2)).trans (hts t ht)) (hi.put_undef (hd o (by simp)).1.1.1) (fun x hx=>hn x (by omega)) hs0 hQ hQp h.2)⟩

theorem zvq {id:Nat} {l:List Oper} (pn:List FuncId) (hdst:(zhj n l&&zu7 P l)=true) (h:∀ (Q:(Nat→Value)→Hp→Tr→Nat→Prop) (Qp:Value→Tr→Prop),(∀ ts hp tr yc,K .normal ⟨ts,hp,s.B+8*l.length,yc⟩→Q ts hp tr yc) →
   (∀ pv tr,(∀ yc,K (.panic [{ v:=pv,recovered:=false }]) ⟨zhu l s.ts,s.hp,s.B,yc⟩)→Qp pv tr)→ziz P C.G ⟨C.Y,pn,false⟩ l.toArray s.B Q Qp 0 l s.ts s.hp [] s.yc false false):GW P C n d ro (.region id l.toArray false) s K:=by
 intro r a W hi
 simp only [Bool.and_eq_true] at hdst
 replace h:=h (fun ts hp _ yc=>K .normal ⟨ts,hp,s.B+8*l.length,yc⟩) (fun pv _=>∀ yc,K (.panic [{ v:=pv,recovered:=false }]) ⟨zhu l s.ts,s.hp,s.B,yc⟩) (fun _ _ _ _ a=>a) (fun _ _ a=>a)
 refine wpIn_region_lit (ze7 (Kn:=fun ts hp yc=>K .normal ⟨ts,hp,s.B+8*l.length,yc⟩) (Kp:=fun pv=>∀ yc,K (.panic [{ v:=pv,recovered:=false }]) ⟨zhu l s.ts,s.hp,s.B,yc⟩) (hp0:=s.hp) (ts0:=s.ts) (l0:=l) hi.flat hi.rounds hi.low l 0 s.ts s.hp [] s.yc false false r a W (fun o ho=>⟨⟨ze9 hdst.1 ho,zgh hdst.2 o ho⟩,ho⟩) (fun _ _=>rfl) hi.ri (by simpa using hi.free) (fun _ _ _ h=>h) ?_ ?_ h)
 ·intro ts hp yc r' a' W' hk hi' hf
  exact ⟨⟨ts,hp,s.B+8*l.length,yc⟩,r',hk,hi',by simpa using hf,by have:=hi.low;simp;omega,hi.flat,hi.rounds⟩
 ·intro pv ts hp yc r' a' W' hk hs hts hi'
  exact ⟨_,r',hk yc,hi.panicked hs hts hi'⟩

def zmx (P:Program) (ts:Nat→Value) (hp:Hp):ResultVar→Option Value
 | .tmp t=>if zcw (ts t) then some (ts t) else none
 | .cell t T=>match ts t with
  | .pointer (some ⟨k,off,none⟩)=>match hp k with
   | some b=>match zdk P T b off with
    | some v=>if zcw v then some v else none
    | none=>none
   | none=>none
  | _=>none
def zi7 (P:Program) (ts:Nat→Value) (hp:Hp):List ResultVar→Option (List Value)
 | []=>some []
 | x::l=>match zmx P ts hp x with
  | some v=>match zi7 P ts hp l with
   | some vs=>some (v::vs)
   | none=>none
  | none=>none
def zmw (P:Program) (rs:List ResultVar) (ts:Nat→Value) (hp:Hp):Option Value :=
 match zi7 P ts hp rs with
 | some [v]=>some v
 | some vs=>some (.tuple vs.toArray)
 | none=>none

def zor (tmps:Array Value):ResultVar→Sem Value
 | .tmp t=>pure (tmps.getD t undef)
 | .cell a t=>do loadVar t (←asAddr (tmps.getD a undef))
theorem zup (fn:Func) (tmps:Array Value):results fn tmps=(do let vs ←fn.results.mapM (zor tmps);pure (if h:vs.size=1 then vs[0] else .tuple vs)):=by
 unfold results
 congr 2

theorem zy1 {r:Nat→Nat} {D:Nat→Prop} {ts:Nat→Value} {hp:Hp} {a:Act} {W:World} (h:Rel r D ts a) (hs:Sat r D hp W) {x:ResultVar} {v:Value} (hv:zmx P ts hp x=some v) :
  (zor a.tmps x).run P W=.ok (ren r v) W∧zcw v=true:=by
 cases x with
 | tmp t =>
  simp only [zmx] at hv
  split at hv
  ·rename_i hn
   cases hv
   have:=(h t).resolve_left (by intro e;rw [e] at hn;simp [zcw,zcj] at hn)
   exact ⟨by simp only [zor,Sem.run_pure,this.1],hn⟩
  ·cases hv
 | cell t T =>
  simp only [zmx] at hv
  split at hv
  ·rename_i k off hg
   split at hv
   ·rename_i b hb
    split at hv
    ·rename_i u hu
     split at hv
     ·rename_i hn
      cases hv
      have h1:=(h t).resolve_left (by rw [hg];simp [zcj])
      rw [hg] at h1
      have h3:a.tmps.getD t undef=.pointer (some ⟨r k,off,none⟩):=h1.1
      refine ⟨?_,hn⟩
      simp only [zor,h3,asAddr]
      have:=zh5 hu (hs k b hb).1
      simpa using this
     ·cases hv
    ·cases hv
   ·cases hv
  ·cases hv

theorem zoz {r:Nat→Nat} {D:Nat→Prop} {ts:Nat→Value} {hp:Hp} {a:Act} {W:World} (h:Rel r D ts a) (hs:Sat r D hp W):∀ (l:List ResultVar) (vs:List Value),zi7 P ts hp l=some vs →
  (l.mapM (zor a.tmps)).run P W=.ok (vs.map (ren r)) W∧∀ v∈vs,zcw v=true
 | [],vs,hv=>by simp only [zi7,Option.some.injEq] at hv;subst hv;simp
 | x::l,vs,hv=>by
  simp only [zi7] at hv
  split at hv
  ·rename_i v h1
   split at hv
   ·rename_i us h2
    cases hv
    have e1:=zy1 h hs h1
    have e2:=zoz h hs l us h2
    refine ⟨?_,fun u hu=>?_⟩
    ·rw [List.mapM_cons,Sem.run_bind,e1.1]
     simp only [Result.andThen_ok,Sem.run_bind,e2.1,Sem.run_pure,List.map_cons]
    ·rcases List.mem_cons.1 hu with rfl|hu
     ·exact e1.2
     ·exact e2.2 u hu
   ·cases hv
  ·cases hv

theorem zuo {r:Nat→Nat} {v:Value} (h:zcw v=true):ren r v=zax r v:=by cases v<;>simp_all [zcw,ren]

theorem zea {fn:Func} {r:Nat→Nat} {D:Nat→Prop} {ts:Nat→Value} {hp:Hp} {a:Act} {W:World} (h:Rel r D ts a) (hs:Sat r D hp W) {v:Value} (hv:zmw P fn.results.toList ts hp=some v):(results fn a.tmps).run P W=.ok (ren r v) W:=by
 unfold zmw at hv
 have key:∀ vs,zi7 P ts hp fn.results.toList=some vs→(results fn a.tmps).run P W=.ok (if h:(vs.map (ren r)).toArray.size=1 then (vs.map (ren r)).toArray[0] else .tuple (vs.map (ren r)).toArray) W∧∀ v∈vs,zcw v=true:=fun vs hvs=>by
  have e:=zoz h hs _ _ hvs
  refine ⟨?_,e.2⟩
  rw [zup,Array.mapM_eq_mapM_toList]
  simp only [Sem.run_bind,Sem.run_map,e.1,Result.andThen_ok,Sem.run_pure]
 split at hv
 ·rename_i u hu
  cases hv
  have:=(key _ hu).1
  simpa using this
 ·rename_i vs hn hu
  cases hv
  have e:=key _ hu
  rw [e.1]
  have hlen:vs.length≠1:=fun hl=>by
   match vs,hl with
   | [u],_=>exact hn u rfl
  rw [dif_neg (by simpa using hlen)]
  simp only [ren]
  congr 2
  apply Array.ext'
  simp only [Array.toList_map]
  exact List.map_congr_left fun v hv=>zuo (e.2 v hv)
 ·cases hv

theorem zds {n:Nat} {fn:Func} {tmps:Array Value} {R:Ending→World→Prop} {u:FrameMode} (hu:u≠.run):∀ (ms:List Nat) (W:World),ms.Nodup→(∀ D∈ms,W.heap[D]? = some (.deferred (some []))) →
  (∀ W':World,W'.heap.size=W.heap.size→W'.os=W.os→W'.tape=W.tape→W'.output=W.output→(∀ k,k∉ms→W'.heap[k]? = W.heap[k]?)→LeavesIn (Fw P none) n P fn tmps R [] u W')→LeavesInM (Fw P none) n P fn tmps R (ms.map z2m) u W
 | [],W,_,_,h=>h W rfl rfl rfl rfl fun _ _=>rfl
 | D::ms,W,hn,hd,h=>by
  have hD:=hd D (by simp)
  have hn':=List.nodup_cons.1 hn
  refine ⟨hu,.inl ⟨D,_,rfl,run_takeDeferred hD,zds hu ms _ hn'.2 (fun E hE=>?_) fun W' e1 e2 e3 e4 e5=>h W' ?_ e2 e3 e4 fun k hk=>?_⟩⟩
  ·rw [World.putObj_heap_other (fun e=>hn'.1 (by rw [←e];exact hE))];exact hd E (List.mem_cons_of_mem _ hE)
  ·rw [e1,zck]
  ·simp only [List.mem_cons,not_or] at hk
   rw [e5 k hk.2,World.putObj_heap_other (fun e=>hk.1 e)]

def ze1 (W:World) (D:Nat→Prop):Ext where
 X _ S W':=(∀ k,S k↔k<W.heap.size∧¬D k)∧W'.os=W.os∧W'.tape=W.tape∧W'.output=W.output∧W.heap.size≤W'.heap.size∧∀ k,S k→W'.heap[k]? = W.heap[k]?
 ok _ _ _ _ h hs os tape output size:=⟨h.1,os.trans h.2.1,tape.trans h.2.2.1,output.trans h.2.2.2.1,Nat.le_trans h.2.2.2.2.1 size,fun k hk=>(hs k hk).trans (h.2.2.2.2.2 k hk)⟩

def jnq (P:Program) (fn:Func) (hp:Hp) (res:Res) (e:Exit) (s:GS):Prop :=
 match res with
 | .ret v ws=>(e=.normal∨e=.ret)∧zmw P fn.results.toList s.ts s.hp=some v∧∀ k,dom hp k→s.hp k=zbh hp ws k
 | .pan v=>e=.panic [{ v:=v,recovered:=false }]∧∀ k,dom hp k→s.hp k=hp k
 | .new _ _=>False

theorem zo4:∀ {ws:List (Nat×Blk)} {hp:Hp} {p:Nat×Blk},p∈ws→(∀ k b c,(k,b)∈ws→(k,c)∈ws→b=c)→zbh hp ws p.1=some p.2:=fun {ws hp p} hp1 ho=>by
 have hd:dom (zbh hp ws) p.1:=zjn.2 (.inr (zag.2 ⟨p,hp1,rfl⟩))
 unfold dom at hd
 cases hb:zbh hp ws p.1 with
 | none=>exact absurd hb hd
 | some b =>
  rcases zs6 hb with ⟨_,h2⟩|h2
  ·exact absurd (zag.2 ⟨p,hp1,rfl⟩) h2
  ·rw [ho p.1 b p.2 h2 hp1]

theorem zfa {f:FuncId} {fn:Func} {c:Code} {args:Array Value} {hp:Hp} {rs:List Nat} {res:Res} {B:Nat} (hGF:zbi G) (hG:∀ k,k<100→hp k=G k) (hf:P.funcs[f]? = some fn) (hb:fn.body=some c) (hcall:∀ a w,(callFunc f a).run P w=.ok (.enter f a) w)
  (ha:∀ x∈args,zan (dom (rst hp rs)) x) (hcl:∀ k b,rst hp rs k=some b→b.ids (dom (rst hp rs))) (hfit:res.fits hp rs) (hn:args.size≤fn.ntmps) (hB:100≤B) (hfree:∀ x,B≤x→rst hp rs x=none)
  (h:∀ C:Ctx,C.G=G→C.hp0=rst hp rs→C.Y=none→GW P C fn.ntmps [] none c ⟨fun t=>args.getD t undef,rst hp rs,B,0⟩ (jnq P fn (rst hp rs) res)):Fun P G f args hp rs res:=by
 refine ⟨hcall,ha,hcl,hfit,fun r W hgok hsat hinj hlow=>callsIn_of_wp_marks hf hb ⟨fn,hf⟩ ?_⟩
 have ltW:∀ k,dom (rst hp rs) k→r k<W.heap.size:=fun k hk=>by
  unfold dom at hk
  cases hb:rst hp rs k with
  | none=>exact absurd hb hk
  | some b=>exact (Array.getElem?_eq_some_iff.1 (hsat k b hb).1).1
 let im:Nat→Prop:=fun j=>∃ i,dom (rst hp rs) i∧r i=j
 let C:Ctx:=⟨ze1 W im,rst hp rs,r,G,none⟩
 have hi:GI P C fn.ntmps [] r ⟨fun t=>args.getD t undef,rst hp rs,B,0⟩ { tmps:=args.map (ren r)++Array.replicate (fn.ntmps - (args.map (ren r)).size) undef,defers:=[] } W:=by
  refine ⟨⟨by simp;omega,fun t=>?_,hsat,hinj,⟨fun k=>k<W.heap.size∧¬im k,[],⟨fun _=>Iff.rfl,rfl,rfl,rfl,Nat.le_refl _,fun _ _=>rfl⟩,fun k hk=>hk.1,fun i hi _ hS=>hS.2 ⟨i,hi,rfl⟩,⟨rfl,List.nodup_nil⟩,by simp⟩,
   fun i hi=>⟨hi,rfl⟩,fun k hk=>?_,hlow⟩,hfree,hB,hGF,fun y hy=>by cases hy⟩
  ·right
   dsimp only
   by_cases ht:t<args.size
   ·have hm:args[t]∈args:=Array.getElem_mem ht
    have e:args.getD t undef=args[t]:=by simp [Array.getD,ht]
    rw [e]
    refine ⟨?_,ha _ hm⟩
    have:t<(args.map (ren r)).size:=by simpa using ht
    simp [Array.getElem?_append_left this,ht]
   ·have e:args.getD t undef=undef:=by simp [Array.getElem?_eq_none (Nat.le_of_not_lt ht)]
    rw [e]
    refine ⟨?_,zc4 _⟩
    rw [zcg]
    simp only [Array.getD_eq_getD_getElem?]
    rw [Array.getElem?_append_right (by simpa using Nat.le_of_not_lt ht),Array.getElem?_replicate]
    split<;>rfl
  ·show rst hp rs k=G k
   simp [rst,hk,hG k hk]
 refine wpIn_mono (h C rfl rfl rfl r _ W hi) ?_
 rintro e a' W' ⟨s',r',hres,hi'⟩
 obtain ⟨S,ms,⟨hS,os,tape,output,size,hsame⟩,hS1,hS2,⟨hdef,hnd⟩,hms⟩:=hi'.ri.ext
 have hkeep:∀ i,dom (rst hp rs) i→dom s'.hp i∧r' i=r i:=hi'.ri.keep
 have hobj:∀ b:Blk,b.ids (dom (rst hp rs))→b.obj r'=b.obj r:=fun b hb=>Blk.obj_congr (fun k hk=>(hkeep k hk).2) hb
 -- the blocks of what was there
 have old:∀ W'':World,(∀ k,k∉ms→W''.heap[k]? = W'.heap[k]?)→∀ k,k<W.heap.size→¬im k→W''.heap[k]? = W.heap[k]?:=fun W'' hW k hk hi=>by
  have hSk:S k:=(hS k).2 ⟨hk,hi⟩
  rw [hW k (fun hm=>(hms k hm).2.1 hSk)]
  exact hsame k hSk
 have mine:∀ W'':World,(∀ k,k∉ms→W''.heap[k]? = W'.heap[k]?)→∀ i b,s'.hp i=some b→W''.heap[r' i]? = some (b.obj r'):=fun W'' hW i b hb=>by
  rw [hW _ (fun hm=>hi'.ri.ne_mark (by unfold dom;rw [hb];simp) (hms _ hm).1 rfl)]
  exact (hi'.ri.sat i b hb).1
 cases res with
 | ret v ws =>
  obtain ⟨he,hr,hhp⟩:=hres
  have hend:∀ W'':World,W''.heap.size=W'.heap.size→W''.os=W'.os→W''.tape=W'.tape→W''.output=W'.output→(∀ k,k∉ms→W''.heap[k]? = W'.heap[k]?) →
    LeavesIn (Fw P none) 0 P fn a'.tmps ((Res.ret v ws).holds r (dom (rst hp rs)) W) [] .returning W'':=fun W'' e1 e2 e3 e4 e5=>by
   have hsat':Sat r' (dom s'.hp) s'.hp W'':=fun k b hk=>⟨mine W'' e5 k b hk,(hi'.ri.sat k b hk).2⟩
   have hrun:=zea (fn:=fn) hi'.ri.rel hsat' hr
   rw [zcx (fun k hk=>(hkeep k hk).2) hfit.1] at hrun
   refine ⟨_,hrun,rfl,?_⟩
   refine ⟨e2.trans os,e3.trans tape,e4.trans output,by rw [e1];exact size,fun k hk hnw=>?_,fun p hp1=>?_,by simp,by simp⟩
   ·by_cases hk':im k
    ·obtain ⟨i,hi1,rfl⟩:=hk'
     have hiw:i∉zab ws:=fun hm=>by obtain ⟨p,hp1,rfl⟩:=zag.1 hm;exact hnw p hp1 rfl
     cases hb:rst hp rs i with
     | none=>exact absurd hb hi1
     | some b =>
      have e:s'.hp i=some b:=by rw [hhp i hi1,za8 hiw];exact hb
      have:=mine W'' e5 i b e
      rw [(hkeep i hi1).2,hobj b (hcl i b hb)] at this
      rw [this,(hsat i b hb).1]
    ·exact old W'' e5 k hk hk'
   ·simp only [List.append_nil] at hp1
    have hk:=hfit.2.1 p.1 (zag.2 ⟨p,hp1,rfl⟩)
    have hdm:dom (rst hp rs) p.1:=by unfold dom rst at *;simp [hk.1];exact hk.2.1
    have e:s'.hp p.1=some p.2:=by rw [hhp _ hdm];exact zo4 hp1 hfit.2.2.1
    have:=mine W'' e5 _ _ e
    have hid:=hfit.2.2.2 p hp1
    rw [(hkeep _ hdm).2,hobj _ hid] at this
    exact ⟨this,Blk.ids_mono (fun k hk=>.inl hk) hid⟩
  rcases he with rfl|rfl
  ·show LeavesInM _ _ _ _ _ _ a'.defers _ _
   rw [hdef,List.append_nil]
   exact zds (by simp) ms W' hnd (fun D hD=>(hms D hD).1) hend
  ·show LeavesInM _ _ _ _ _ _ a'.defers _ _
   rw [hdef,List.append_nil]
   exact zds (by simp) ms W' hnd (fun D hD=>(hms D hD).1) hend
 | new v ns=>exact hres.elim
 | pan v =>
  obtain ⟨rfl,hhp⟩:=hres
  show LeavesInM _ _ _ _ _ _ a'.defers _ _
  rw [hdef,List.append_nil]
  refine zds (by simp) ms W' hnd (fun D hD=>(hms D hD).1) fun W'' e1 e2 e3 e4 e5=>?_
  refine ⟨rfl,e2.trans os,e3.trans tape,e4.trans output,by rw [e1];exact size,fun k hk=>?_⟩
  by_cases hk':im k
  ·obtain ⟨i,hi1,rfl⟩:=hk'
   cases hb:rst hp rs i with
   | none=>exact absurd hb hi1
   | some b =>
    have e:s'.hp i=some b:=by rw [hhp i hi1];exact hb
    have:=mine W'' e5 i b e
    rw [(hkeep i hi1).2,hobj b (hcl i b hb)] at this
    rw [this,(hsat i b hb).1]
  ·exact old W'' e5 k hk hk'

theorem zi8 (hGF:zbi G) (rs:List Nat):rst G rs=G:=funext fun k=>by
 unfold rst
 split
 ·rfl
 ·rename_i hk
  cases hg:G k with
  | none=>rfl
  | some b=>exact absurd (.inl (hGF k b hg).1) hk

theorem zww (hGF:zbi G) {W:World} (h:GOK G W):Sat id (dom G) G W:=fun k b hk=>by
 obtain ⟨_,hfl⟩:=hGF k b hk
 refine ⟨?_,Blk.flat_ids hfl⟩
 rw [id,h k b hk]
 rw [Blk.obj_flat (fun x hx=>hfl x hx)]

theorem zuq {f:FuncId} {args:Array Value} {v:Value} (hGF:zbi G) (hv:zav v=true) (ha:∀ x∈args,zav x=true) (h:Fun P G f args G [] (.ret v [])):Ret P G f args v:=by
 refine ⟨hv,ha,h.enter,fun W hW=>?_⟩
 have hrun:=h.run id W hW (by rw [zi8 hGF];exact zww hGF hW) (fun _ _ _ _ e=>e) (fun _ _ _=>rfl)
 rw [zbo (fun x hx=>zau (ha x hx))] at hrun
 refine hrun.mono fun e W' ⟨he,ht⟩=>?_
 rw [zau hv] at he
 exact ⟨he,ht.os,ht.tape,ht.output,ht.size,fun k hk=>ht.same k hk (by simp)⟩

theorem zar {f:FuncId} {fn:Func} {c:Code} {args:Array Value} {v:Value} (hGF:zbi G) (hf:P.funcs[f]? = some fn) (hb:fn.body=some c) (hcall:∀ a w,(callFunc f a).run P w=.ok (.enter f a) w)
  (hv:zav v=true) (ha:∀ x∈args,zav x=true) (hn:args.size≤fn.ntmps)
  (h:∀ C:Ctx,C.G=G→C.hp0=G→C.Y=none→GW P C fn.ntmps [] none c ⟨fun t=>args.getD t undef,G,200,0⟩ (fun e s=>(e=.normal∨e=.ret)∧zmw P fn.results.toList s.ts s.hp=some v)):Ret P G f args v:=by
 refine zuq hGF hv ha (zfa (B:=200) hGF (fun _ _=>rfl) hf hb hcall (fun x hx=>zaq (ha x hx)) (fun k b hk=>?_) ⟨zaq hv,by simp [zab],by simp,by simp⟩ hn (by omega) (fun x hx=>?_) fun C h1 h2 h3=>?_)
 ·rw [zi8 hGF] at hk ⊢
  exact Blk.flat_ids ((hGF k b hk).2)
 ·rw [zi8 hGF]
  cases hg:G x with
  | none=>rfl
  | some b=>have:=(hGF x b hg).1;omega
 ·rw [zi8 hGF] at h2 ⊢
  intro r a W hi
  refine wpIn_mono (h C h1 h2 h3 r a W hi) ?_
  rintro e a' W' ⟨s',r',⟨he,hr⟩,hi'⟩
  refine ⟨s',r',⟨he,hr,fun k hk=>?_⟩,hi'⟩
  have hlt:k<100:=by
   unfold dom at hk
   cases hg:G k with
   | none=>exact absurd hg hk
   | some b=>exact (hGF k b hg).1
  simp only [zbh]
  rw [hi'.ri.glob k hlt,h1]

theorem zed {f:FuncId} {fn:Func} {c:Code} {args:Array Value} {oc:Out} (hGF:zbi G) (hf:P.funcs[f]? = some fn) (hb:fn.body=some c) (hcall:∀ a w,(callFunc f a).run P w=.ok (.enter f a) w)
  (hv:∀ v,oc=.ret v→zav v=true) (ha:∀ x∈args,zav x=true) (hn:args.size≤fn.ntmps)
  (h:∀ C:Ctx,C.G=G→C.hp0=G→C.Y=none→GW P C fn.ntmps [] none c ⟨fun t=>args.getD t undef,G,200,0⟩ (fun e s=>match oc with
   | .ret v=>(e=.normal∨e=.ret)∧zmw P fn.results.toList s.ts s.hp=some v
   | .pan v=>e=.panic [{ v:=v,recovered:=false }])):zkw P G f args oc:=by
 refine ⟨hv,ha,hcall,fun W hW=>?_⟩
 have low:∀ k,dom G k→k<100:=fun k hk=>by
  unfold dom at hk
  cases hg:G k with
  | none=>exact absurd hg hk
  | some b=>exact (hGF k b hg).1
 cases oc with
 | ret v =>
  have hr:=zar (v:=v) hGF hf hb hcall (hv v rfl) ha hn h
  exact hr.2.2.2 W hW
 | pan v =>
  have hfun:Fun P G f args G [] (.pan v):=by
   refine zfa (B:=200) hGF (fun _ _=>rfl) hf hb hcall (fun x hx=>zaq (ha x hx)) (fun k b hk=>?_) trivial hn (by omega) (fun x hx=>?_) fun C h1 h2 h3=>?_
   ·rw [zi8 hGF] at hk ⊢
    exact Blk.flat_ids ((hGF k b hk).2)
   ·rw [zi8 hGF]
    cases hg:G x with
    | none=>rfl
    | some b=>have:=(hGF x b hg).1;omega
   ·rw [zi8 hGF] at h2 ⊢
    intro r a W hi
    refine wpIn_mono (h C h1 h2 h3 r a W hi) ?_
    rintro e a' W' ⟨s',r',he,hi'⟩
    exact ⟨s',r',⟨he,fun k hk=>by rw [hi'.ri.glob k (low k hk),h1]⟩,hi'⟩
  have hrun:=hfun.run id W hW (by rw [zi8 hGF];exact zww hGF hW) (fun _ _ _ _ e=>e) (fun _ _ _=>rfl)
  rw [zbo (fun x hx=>zau (ha x hx))] at hrun
  exact hrun

theorem Ret.unique {f:FuncId} {args:Array Value} {v u:Value} (hW:∃ W,GOK G W) (hi:P.inits.idxOf? f=none) (h:Ret P G f args v) (h':Ret P G f args u):v=u:=by
 obtain ⟨W,hW⟩:=hW
 have mk:∀ {v:Value},Ret P G f args v→∃ k w',runN P k (lone (Frame.enter P f args .normal) [] W)=.ended (.done v) w':=fun {v} h=>by
  have:=(h.2.2.2 W hW).calls.mono (R':=fun | .returned x,_=>x=v|_,_=>False) (fun e w' ⟨he,_⟩=>by subst he;rfl)
  obtain ⟨k,x,w',h1,h2⟩:=this.done hi
  exact ⟨k,w',by rw [h1];cases h2;rfl⟩
 obtain ⟨k,w1,h1⟩:=mk h
 obtain ⟨l,w2,h2⟩:=mk h'
 have more:∀ {k:Nat} {x:Value} {w:World},runN P k (lone (Frame.enter P f args .normal) [] W)=.ended (.done x) w→∀ m,runN P (k+m) (lone (Frame.enter P f args .normal) [] W)=.ended (.done x) w:=fun {k x w} hk m=>by
  rw [runN_add,hk]
 have e1:=more h1 l
 have e2:=more h2 k
 rw [Nat.add_comm] at e2
 rw [e1] at e2
 injection e2 with e2
 injection e2

theorem zad {f:FuncId} {args:Array Value} {v:Value} {K:Value→Prop} (hW:∃ W,GOK G W) (hi:P.inits.idxOf? f=none) (h:Ret P G f args v):za0 P G f args K↔K v:=by
 refine ⟨fun ⟨u,hu,hk⟩=>?_,fun hk=>⟨v,.inl h,hk⟩⟩
 rcases hu with hu|hu
 ·exact Ret.unique hW hi h hu▸hk
 ·have:=h.2.2.1 args default
  rw [hu.2.2 default] at this
  cases this
theorem ztq {f:FuncId} {args:Array Value} {v:Value} {K:Value→Prop} (h:jik P f args v):za0 P G f args K↔K v:=by
 refine ⟨fun ⟨u,hu,hk⟩=>?_,fun hk=>⟨v,.inr h,hk⟩⟩
 rcases hu with hu|hu
 ·have:=hu.2.2.1 args default
  rw [h.2.2 default] at this
  cases this
 ·have:=hu.2.2 default
  rw [h.2.2 default] at this
  injection this with this
  injection this with this
  subst this
  exact hk

end

section
variable {P:Program} {G:Hp}

structure IterX (pn:Option Value) (P:Program) (G:Hp) (f:FuncId) (caps:Array Value) (hp:Hp) (rs:List Nat) (xs:List (Array Value)):Prop where
 enter:∀ a w,(callFunc f a).run P w=.ok (.enter f a) w
 cids:∀ x∈caps,zbj x=true∧zan (dom (rst hp rs)) x
 closed:∀ k b,rst hp rs k=some b→b.ids (dom (rst hp rs))
 run:∀ (E:Ext) (l stop:Nat) r S W,GOK G W→Sat r (dom (rst hp rs)) (rst hp rs) W→Inj r (dom (rst hp rs))→(∀ k,k<100→dom (rst hp rs) k→r k=k)→(pn≠none→stop<xs.length)→zfz P G E ⟨l,xs,stop,pn⟩→E.X 0 S W→(∀ k,S k→k<W.heap.size) →
  (∀ i,dom (rst hp rs) i→100≤i→¬S (r i)) →
  zd4 P f (#[Value.func (.yield l) #[] #[]]++caps.map (ren r)) W fun e W'=>match pn with
   | none=>(∃ v,e=.returned v)∧∃ S',E.X (min (stop+1) xs.length) S' W'
   | some pv=>e=.panicked [{ v:=pv,recovered:=false }]∧∃ c S',E.X c S' W'
abbrev zg4 (P:Program) (G:Hp) (f:FuncId) (caps:Array Value) (hp:Hp) (rs:List Nat) (xs:List (Array Value)):Prop:=IterX none P G f caps hp rs xs
abbrev z7e (P:Program) (G:Hp) (f:FuncId) (caps:Array Value) (hp:Hp) (rs:List Nat) (xs:List (Array Value)):Prop:=∀ pv,IterX (some pv) P G f caps hp rs xs

theorem zr3 (pn:Option Value) {f:FuncId} {fn:Func} {c:Code} {caps:Array Value} {hp:Hp} {rs:List Nat} {xs:List (Array Value)} {B:Nat} {v:Value} (hGF:zbi G) (hG:∀ k,k<100→hp k=G k) (hf:P.funcs[f]? = some fn) (hb:fn.body=some c) (hcall:∀ a w,(callFunc f a).run P w=.ok (.enter f a) w)
  (ha:∀ x∈caps,zbj x=true∧zan (dom (rst hp rs)) x) (hcl:∀ k b,rst hp rs k=some b→b.ids (dom (rst hp rs))) (hn:caps.size+1≤fn.ntmps) (hB:100≤B) (hfree:∀ x,B≤x→rst hp rs x=none)
  (h:∀ (C:Ctx) (l stop:Nat),C.G=G→C.hp0=rst hp rs→(pn≠none→stop<xs.length)→C.Y=some ⟨l,xs,stop,pn⟩→GW P C fn.ntmps [] none c ⟨fun t=>(#[Value.func (.yield l) #[] #[]]++caps).getD t undef,rst hp rs,B,0⟩
   (fun e s=>match pn with
    | none=>(e=.normal∨e=.ret)∧zmw P fn.results.toList s.ts s.hp=some v∧s.yc=min (stop+1) xs.length
    | some pv=>e=.panic [{ v:=pv,recovered:=false }])):IterX pn P G f caps hp rs xs:=by
 refine ⟨hcall,ha,hcl,fun E l stop r S W hgok hsat hinj hlow hlen hR hX hS hdis=>callsIn_of_wp_marks hf hb ⟨fn,hf⟩ ?_⟩
 let C:Ctx:=⟨E,rst hp rs,r,G,some ⟨l,xs,stop,pn⟩⟩
 have hi:GI P C fn.ntmps [] r ⟨fun t=>(#[Value.func (.yield l) #[] #[]]++caps).getD t undef,rst hp rs,B,0⟩
   { tmps:=(#[Value.func (.yield l) #[] #[]]++caps.map (ren r))++Array.replicate (fn.ntmps - (#[Value.func (.yield l) #[] #[]]++caps.map (ren r)).size) undef,defers:=[] } W:=by
  have hsz:(#[Value.func (.yield l) #[] #[]]++caps.map (ren r)).size=(#[Value.func (.yield l) #[] #[]]++caps).size:=by simp
  have hmap:#[Value.func (.yield l) #[] #[]]++caps.map (ren r)=(#[Value.func (.yield l) #[] #[]]++caps).map (ren r):=by simp [ren,zax,zak]
  refine ⟨⟨?_,fun t=>?_,hsat,hinj,⟨S,[],hX,hS,fun i hi h1=>hdis i hi h1,⟨rfl,List.nodup_nil⟩,by simp⟩,fun i hi=>⟨hi,rfl⟩,fun k hk=>?_,hlow⟩,hfree,hB,hGF,fun y hy=>by cases hy;exact hR⟩
  ·simp only [Array.size_append,Array.size_replicate,hsz]
   simp
   omega
  ·right
   dsimp only
   rw [hmap]
   generalize hA:#[Value.func (.yield l) #[] #[]]++caps=A
   have hAi:∀ x∈A,zan (dom (rst hp rs)) x:=fun x hx=>by
    rw [←hA] at hx
    rcases Array.mem_append.1 hx with hx|hx
    ·simp at hx;subst hx;simp [zan,zay,zai]
    ·exact (ha x hx).2
   by_cases ht:t<A.size
   ·have hm:A[t]∈A:=Array.getElem_mem ht
    have e:A.getD t undef=A[t]:=by simp [Array.getD,ht]
    rw [e]
    refine ⟨?_,hAi _ hm⟩
    have:t<(A.map (ren r)).size:=by simpa using ht
    simp [Array.getElem?_append_left this,ht]
   ·have e:A.getD t undef=undef:=by simp [Array.getElem?_eq_none (Nat.le_of_not_lt ht)]
    rw [e]
    refine ⟨?_,zc4 _⟩
    rw [zcg]
    simp only [Array.getD_eq_getD_getElem?]
    rw [Array.getElem?_append_right (by simpa using Nat.le_of_not_lt ht),Array.getElem?_replicate]
    split<;>rfl
  ·show rst hp rs k=G k
   simp [rst,hk,hG k hk]
 refine wpIn_mono (h C l stop rfl rfl hlen rfl r _ W hi) ?_
 rintro e a' W' ⟨s',r',hres,hi'⟩
 obtain ⟨S',ms,hX',hS1,hS2,⟨hdef,hnd⟩,hms⟩:=hi'.ri.ext
 cases pn with
 | none =>
  obtain ⟨he,hr,hy⟩:=hres
  have hend:∀ W'':World,W''.heap.size=W'.heap.size→W''.os=W'.os→W''.tape=W'.tape→W''.output=W'.output→(∀ k,k∉ms→W''.heap[k]? = W'.heap[k]?) →
    LeavesIn (Fw P none) 0 P fn a'.tmps (fun e W'=>(∃ v,e=.returned v)∧∃ S',E.X (min (stop+1) xs.length) S' W') [] .returning W'':=fun W'' e1 e2 e3 e4 e5=>by
   have hsat':Sat r' (dom s'.hp) s'.hp W'':=fun k b hk=>⟨by
    rw [e5 _ (fun hm=>hi'.ri.ne_mark (by unfold dom;rw [hk];simp) (hms _ hm).1 rfl)]
    exact (hi'.ri.sat k b hk).1,(hi'.ri.sat k b hk).2⟩
   refine ⟨_,zea (fn:=fn) hi'.ri.rel hsat' hr,⟨_,rfl⟩,S',?_⟩
   rw [←hy]
   exact E.ok _ _ _ _ hX' (fun k hk=>e5 k fun hm=>(hms k hm).2.1 hk) e2 e3 e4 (by rw [e1];exact Nat.le_refl _)
  rcases he with rfl|rfl
  ·show LeavesInM _ _ _ _ _ _ a'.defers _ _
   rw [hdef,List.append_nil]
   exact zds (by simp) ms W' hnd (fun D hD=>(hms D hD).1) hend
  ·show LeavesInM _ _ _ _ _ _ a'.defers _ _
   rw [hdef,List.append_nil]
   exact zds (by simp) ms W' hnd (fun D hD=>(hms D hD).1) hend
 | some pv =>
  subst hres
  show LeavesInM _ _ _ _ _ _ a'.defers _ _
  rw [hdef,List.append_nil]
  refine zds (by simp) ms W' hnd (fun D hD=>(hms D hD).1) fun W'' e1 e2 e3 e4 e5=>?_
  exact ⟨rfl,_,S',E.ok _ _ _ _ hX' (fun k hk=>e5 k fun hm=>(hms k hm).2.1 hk) e2 e3 e4 (by rw [e1];exact Nat.le_refl _)⟩
theorem zmo {f:FuncId} {fn:Func} {c:Code} {caps:Array Value} {hp:Hp} {rs:List Nat} {xs:List (Array Value)} {B:Nat} {v:Value} (hGF:zbi G) (hG:∀ k,k<100→hp k=G k) (hf:P.funcs[f]? = some fn) (hb:fn.body=some c) (hcall:∀ a w,(callFunc f a).run P w=.ok (.enter f a) w)
  (ha:∀ x∈caps,zbj x=true∧zan (dom (rst hp rs)) x) (hcl:∀ k b,rst hp rs k=some b→b.ids (dom (rst hp rs))) (hn:caps.size+1≤fn.ntmps) (hB:100≤B) (hfree:∀ x,B≤x→rst hp rs x=none)
  (h:∀ (C:Ctx) (l stop:Nat),C.G=G→C.hp0=rst hp rs→C.Y=some ⟨l,xs,stop,none⟩→GW P C fn.ntmps [] none c ⟨fun t=>(#[Value.func (.yield l) #[] #[]]++caps).getD t undef,rst hp rs,B,0⟩
   (fun e s=>(e=.normal∨e=.ret)∧zmw P fn.results.toList s.ts s.hp=some v∧s.yc=min (stop+1) xs.length)):zg4 P G f caps hp rs xs :=
 zr3 none (v:=v) hGF hG hf hb hcall ha hcl hn hB hfree fun C l stop h1 h2 _ h3=>h C l stop h1 h2 h3
theorem z2a {f:FuncId} {fn:Func} {c:Code} {caps:Array Value} {hp:Hp} {rs:List Nat} {xs:List (Array Value)} {B:Nat} (hGF:zbi G) (hG:∀ k,k<100→hp k=G k) (hf:P.funcs[f]? = some fn) (hb:fn.body=some c) (hcall:∀ a w,(callFunc f a).run P w=.ok (.enter f a) w)
  (ha:∀ x∈caps,zbj x=true∧zan (dom (rst hp rs)) x) (hcl:∀ k b,rst hp rs k=some b→b.ids (dom (rst hp rs))) (hn:caps.size+1≤fn.ntmps) (hB:100≤B) (hfree:∀ x,B≤x→rst hp rs x=none)
  (h:∀ (pv:Value) (C:Ctx) (l stop:Nat),C.G=G→C.hp0=rst hp rs→stop<xs.length→C.Y=some ⟨l,xs,stop,some pv⟩→GW P C fn.ntmps [] none c ⟨fun t=>(#[Value.func (.yield l) #[] #[]]++caps).getD t undef,rst hp rs,B,0⟩
   (fun e _=>e=.panic [{ v:=pv,recovered:=false }])):z7e P G f caps hp rs xs:=fun pv =>
 zr3 (some pv) (v:=undef) hGF hG hf hb hcall ha hcl hn hB hfree fun C l stop h1 h2 hl h3=>h pv C l stop h1 h2 (hl (by simp)) h3

def zaz (ps:List Tmp) (x:List Value) (ts:Nat→Value):Nat→Value:=(ps.zip x).foldl (fun ts p=>upd ts p.1 p.2) ts

def zb1:Exit→Option Code
 | .ret=>some .ret
 | .exit id=>some (.exit id)
 | .goto l=>some (.goto l)
 | _=>none

variable {C:Ctx} {n:Nat} {d:List Deferred} {s:GS} {K:Exit→GS→Prop}

theorem Weak.ctx {C C':Ctx} {s s':GS} (h:C.hp0=C'.hp0) (hG:C.G=C'.G) (hw:Weak C s s'):Weak C' s s':=⟨hw.ts,hw.hp,hw.ids,by rw [←h];exact hw.keep,by rw [←hG];exact hw.glob,hw.yc,hw.free,hw.low⟩

def zpn (S:Nat→Prop) (W:World) (Φ:World→Prop):Prop :=
 ∀ W':World,(∀ k,S k→W'.heap[k]? = W.heap[k]?)→W'.os=W.os→W'.tape=W.tape→W'.output=W.output→W.heap.size≤W'.heap.size→Φ W'
theorem zpn.trans {S S':Nat→Prop} {W W':World} {Φ:World→Prop} (h:zpn S W Φ) (hs:∀ k,S k→S' k) (h1:∀ k,S k→W'.heap[k]? = W.heap[k]?) (h2:W'.os=W.os) (h3:W'.tape=W.tape) (h4:W'.output=W.output) (h5:W.heap.size≤W'.heap.size):zpn S' W' Φ :=
 fun W'' k1 k2 k3 k4 k5=>h W'' (fun k hk=>(k1 k (hs k hk)).trans (h1 k hk)) (k2.trans h2) (k3.trans h3) (k4.trans h4) (Nat.le_trans h5 k5)
theorem zpn.here {S:Nat→Prop} {W:World} {Φ:World→Prop} (h:zpn S W Φ):Φ W:=h W (fun _ _=>rfl) rfl rfl rfl (Nat.le_refl _)

structure Own0 (C:Ctx) (d:List Deferred) (So:Nat→Prop) (ms:List Nat) (yc:Nat) (a:Act) (r:Nat→Nat) (ts:Nat→Value) (hp:Hp) (V:World):Prop where
 ri:Rel r (dom hp) ts a
 sat:Sat r (dom hp) hp V
 inj:Inj r (dom hp)
 X:C.E.X yc So V
 sep:∀ i,dom hp i→100≤i→¬So (r i)
 mks:∀ D∈ms,V.heap[D]? = some (.deferred (some []))
 keep:∀ i,dom C.hp0 i→dom hp i∧r i=C.r0 i
 glob:∀ k,k<100→hp k=C.G k
 low:∀ k,k<100→dom hp k→r k=k

theorem Own0.supp {So:Nat→Prop} {ms:List Nat} {yc:Nat} {a:Act} {r:Nat→Nat} {ts:Nat→Value} {hp:Hp} {V:World} {S:Nat→Prop} (h:Own0 C d So ms yc a r ts hp V) (h1:∀ k,So k→S k) (h2:∀ i,dom hp i→S (r i)) (h3:∀ D∈ms,S D):zpn S V (Own0 C d So ms yc a r ts hp) :=
 fun W' k1 k2 k3 k4 k5=>⟨h.ri,fun k b hk=>⟨(k1 _ (h2 k (by unfold dom;rw [hk];simp))).trans (h.sat k b hk).1,(h.sat k b hk).2⟩,h.inj,C.E.ok _ _ _ _ h.X (fun k hk=>k1 k (h1 k hk)) k2 k3 k4 k5,h.sep,fun D hD=>(k1 D (h3 D hD)).trans (h.mks D hD),h.keep,h.glob,h.low⟩

theorem ze3:∀ (l:List (Tmp×Value)) (A:Array Value),(l.foldl (fun t (p:Tmp×Value)=>t.setIfInBounds p.1 p.2) A).size=A.size
 | [],_=>rfl
 | p::l,A=>by rw [List.foldl_cons,ze3 l];simp

theorem zmy {r:Nat→Nat} {D:Nat→Prop}:∀ (l:List (Tmp×Value)) (ts:Nat→Value) (A:Array Value),(∀ p∈l,p.1<A.size∧zav p.2=true)→Rel r D ts { tmps:=A,defers:=[] } →
  Rel r D (l.foldl (fun ts p=>upd ts p.1 p.2) ts) { tmps:=l.foldl (fun t (p:Tmp×Value)=>t.setIfInBounds p.1 p.2) A,defers:=[] }
 | [],_,_,_,h=>h
 | p::l,ts,A,hl,h=>by
  have hp:=hl p (by simp)
  refine zmy l (upd ts p.1 p.2) (A.setIfInBounds p.1 p.2) (fun q hq=>by simpa using hl q (List.mem_cons_of_mem _ hq)) ?_
  have:=h.put (dst:=some p.1) (fun d hd=>by cases hd;exact hp.1) (zaq (D:=D) hp.2)
  rw [zau hp.2] at this
  exact this

def imO (r:Nat→Nat) (hp:Hp):Nat→Prop:=fun j=>∃ i,dom hp i∧r i=j

theorem RI.not_loop {C:Ctx} {r:Nat→Nat} {ts:Nat→Value} {hp:Hp} {yc:Nat} {a:Act} {V:World} (h:RI C n d r ts hp yc a V) {l:Nat} {L:Loop} (hl:V.heap[l]? = some (.loop L)):¬imO r hp l:=by
 rintro ⟨i,hd,rfl⟩
 unfold dom at hd
 cases hb:hp i with
 | none=>exact hd hb
 | some b=>have:=(h.sat i b hb).1;rw [hl] at this;exact (Blk.obj_loop this).elim

theorem zot {d0:List Deferred} {So S:Nat→Prop} {ms:List Nat} {yc y1 y2 n0:Nat} {a a1 a2:Act} {V V1 V2:World} {rc r1 r2:Nat→Nat} {tsE ts1 ts2:Nat→Value} {hpc hp1 hp2:Hp} {l:Nat} {L0 L1 L2:Loop} (hGF:zbi C.G)
  (hown:Own0 C d0 So ms yc a rc tsE hpc V) (hSol:¬So l) (hSV:∀ k,S k→k<V.heap.size) (kSo:∀ k,So k→S k) (kms:∀ D∈ms,S D) (hrcS:∀ i,dom hpc i→S (rc i)) (hl:V.heap[l]? = some (.loop L0))
  (ri1:RI ⟨ze1 V (imO rc hpc),hpc,rc,C.G,none⟩ n0 [] r1 ts1 hp1 y1 a1 V1)
  {D1:Nat→Prop} (hD1:∀ k,k<V.heap.size→D1 k→imO r1 hp1 k) (hD1l:¬D1 l) (ri2:RI ⟨ze1 (V1.putObj l (.loop L1)) D1,hpc,rc,C.G,none⟩ n0 [] r2 ts2 hp2 y2 a2 V2) :
  V1.heap[l]? = some (.loop L0)∧V2.heap[l]? = some (.loop L1)∧Own0 C d0 So ms yc a r2 tsE hp2 (V2.putObj l (.loop L2))∧(∀ i,dom hp2 i→V.heap.size≤r2 i∨S (r2 i))∧V.heap.size≤V2.heap.size ∧
   (∀ k,k<V.heap.size→¬imO rc hpc k→k≠l→(V2.putObj l (.loop L2)).heap[k]? = V.heap[k]?)∧GOK C.G (V2.putObj l (.loop L2)):=by
 obtain ⟨T1,m1,⟨hT1,os1,tp1,ou1,sz1,sm1⟩,hT1s,sep1,_,_⟩:=ri1.ext
 obtain ⟨T2,m2,⟨hT2,os2,tp2,ou2,sz2,sm2⟩,hT2s,sep2,_,_⟩:=ri2.ext
 have hlV:l<V.heap.size:=(Array.getElem?_eq_some_iff.1 hl).1
 have hl0:¬imO rc hpc l:=by
  rintro ⟨i,hd,rfl⟩
  unfold dom at hd
  cases hb:hpc i with
  | none=>exact hd hb
  | some b=>have:=(hown.sat i b hb).1;rw [hl] at this;exact (Blk.obj_loop this).elim
 have hl1:V1.heap[l]? = some (.loop L0):=(sm1 l ((hT1 l).2 ⟨hlV,hl0⟩)).trans hl
 have hl1i:¬imO r1 hp1 l:=ri1.not_loop hl1
 have hlt1:l<V1.heap.size:=(Array.getElem?_eq_some_iff.1 hl1).1
 have szp:(V1.putObj l (.loop L1)).heap.size=V1.heap.size:=zck _ _ _
 have hl2:V2.heap[l]? = some (.loop L1):=(sm2 l ((hT2 l).2 ⟨by rw [szp];exact hlt1,hD1l⟩)).trans (World.putObj_heap_same hlt1)
 have size:V.heap.size≤V2.heap.size:=by rw [szp] at sz2;omega
 have g1:∀ k,k<100→hp1 k=C.G k:=ri1.glob
 have g2:∀ k,k<100→hp2 k=C.G k:=ri2.glob
 have gc:=hown.glob
 have eqd:∀ {h h':Hp} {k:Nat},h k=h' k→dom h k→dom h' k:=fun {h h' k} e hd=>by unfold dom at *;rw [←e];exact hd
 -- an old place of a new state is an old place of an old state
 have im1:∀ k,k<V.heap.size→imO r1 hp1 k→imO rc hpc k:=fun k hk ⟨i,hd,e⟩=>by
  by_cases h1:100≤i
  ·have:=sep1 i hd h1
   rw [hT1,e] at this
   exact Classical.byContradiction fun hc=>this ⟨hk,hc⟩
  ·have hd':dom hpc i:=eqd ((g1 i (by omega)).trans (gc i (by omega)).symm) hd
   exact ⟨i,hd',by rw [←e,ri1.low i (by omega) hd,hown.low i (by omega) hd']⟩
 have im2:∀ k,k<V.heap.size→imO r2 hp2 k→imO rc hpc k:=fun k hk ⟨i,hd,e⟩=>by
  by_cases h1:100≤i
  ·have:=sep2 i hd h1
   rw [hT2,e,szp] at this
   exact im1 k hk (hD1 k hk (Classical.byContradiction fun hc=>this ⟨by omega,hc⟩))
  ·have hd':dom hpc i:=eqd ((g2 i (by omega)).trans (gc i (by omega)).symm) hd
   exact ⟨i,hd',by rw [←e,ri2.low i (by omega) hd,hown.low i (by omega) hd']⟩
 have keep2:∀ i,dom hpc i→dom hp2 i∧r2 i=rc i:=ri2.keep
 have old:∀ i,dom hp2 i→r2 i<V.heap.size→dom hpc i∧r2 i=rc i:=fun i hd hlt=>by
  obtain ⟨q,hq,e⟩:=im2 _ hlt ⟨i,hd,rfl⟩
  have:=keep2 q hq
  have e2:q=i:=ri2.inj q i this.1 hd (this.2.trans e)
  subst e2
  exact ⟨hq,this.2⟩
 have frame:∀ k,k<V.heap.size→¬imO rc hpc k→k≠l→(V2.putObj l (.loop L2)).heap[k]? = V.heap[k]?:=fun k hk hi hne=>by
  rw [World.putObj_heap_other hne,sm2 k ((hT2 k).2 ⟨by rw [szp];omega,fun hc=>hi (im1 k hk (hD1 k hk hc))⟩),World.putObj_heap_other hne,sm1 k ((hT1 k).2 ⟨hk,hi⟩)]
 have sat2:Sat r2 (dom hp2) hp2 (V2.putObj l (.loop L2)):=fun k b hk=>by
  have h:=ri2.sat k b hk
  exact ⟨(World.putObj_heap_other (fun e=>ri2.not_loop hl2 ⟨k,by unfold dom;rw [hk];simp,e⟩)).trans h.1,h.2⟩
 have gok:∀ {r:Nat→Nat} {h:Hp} {W:World},Sat r (dom h) h W→(∀ k,k<100→h k=C.G k)→(∀ k,k<100→dom h k→r k=k)→GOK C.G W:=fun {r h W} h1 h2 h3 k b hk=>by
  obtain ⟨hlt,hfl⟩:=hGF k b hk
  have hb:h k=some b:=(h2 k hlt).trans hk
  have h9:=(h1 k b hb).1
  rw [h3 k hlt (by unfold dom;rw [hb];simp)] at h9
  rw [h9]
  rw [Blk.obj_flat (fun x hx=>hfl x hx)]
 have gok2:=gok sat2 g2 ri2.low
 have gokV:=gok hown.sat gc hown.low
 refine ⟨hl1,hl2,⟨hown.ri.mono (fun k hk=>(keep2 k hk).1) (fun k hk=>(keep2 k hk).2),sat2,ri2.inj,?_,fun i hd h1 hS=>?_,fun D hD=>?_,fun i hi=>?_,g2,ri2.low⟩,fun i hd=>?_,size,frame,gok2⟩
 ·refine C.E.ok _ _ _ _ hown.X (fun k hk=>?_) (os2.trans os1) (tp2.trans tp1) (ou2.trans ou1) (by rw [zck];exact size)
  by_cases hi:imO rc hpc k
  ·obtain ⟨i,hd,rfl⟩:=hi
   by_cases h1:100≤i
   ·exact absurd hk (hown.sep i hd h1)
   ·have e:=hown.low i (by omega) hd
    rw [e]
    have hg:C.G i≠none:=by rw [←gc i (by omega)];exact hd
    cases hb:C.G i with
    | none=>exact absurd hb hg
    | some b=>rw [gok2 i b hb,gokV i b hb]
  ·by_cases hkl:k=l
   ·exact absurd (hkl▸hk) hSol
   ·exact frame k (hSV k (kSo k hk)) hi hkl
 ·have hlt:=hSV _ (kSo _ hS)
  have:=old i hd hlt
  exact hown.sep i this.1 h1 (this.2▸hS)
 ·have hD':=hown.mks D hD
  rw [frame D (hSV D (kms D hD)) (fun ⟨i,hd,e⟩=>?_) (fun e=>by rw [e,hl] at hD';cases hD')]
  ·exact hD'
  ·unfold dom at hd
   cases hb:hpc i with
   | none=>exact hd hb
   | some b=>have:=(hown.sat i b hb).1;rw [e,hD'] at this;exact (Blk.obj_def this).elim
 ·have:=hown.keep i hi
  have k2:=keep2 i this.1
  exact ⟨k2.1,k2.2.trans this.2⟩
 ·by_cases hlt:r2 i<V.heap.size
  ·have:=old i hd hlt
   exact .inr (by rw [this.2];exact hrcS i this.1)
  ·exact .inl (by omega)

theorem zyj {W:World} {l:Nat} {ob:Obj} (h:W.heap[l]? = some ob):W.putObj l ob=W:=by
 unfold World.putObj
 congr 1
 apply Array.ext_getElem?
 intro i
 rw [Array.getElem?_setIfInBounds]
 split
 ·rename_i e;subst e
  rw [h]
  obtain ⟨hlt,_⟩:=Array.getElem?_eq_some_iff.1 h
  simp [hlt]
 ·rfl

def zfd (F:Fence) (m:Nat) (P:Program) (fn:Func) (l:Nat) (R:Ending→World→Prop):Exit→Act→World→Prop
 | .panic chain,a,w=>LeavesInM F m P fn a.tmps (fun e w'=>(∃ ch,e=.panicked ch)∧R e w') a.defers (.panicking chain) w
 | e,a,w=>roundPost P l R e a w
theorem zfu {F:Fence} {m:Nat} {l:Nat} {f:FuncId} {fn:Func} {tmps:Array Value} {assign body:Code} {w:World} {R:Ending→World→Prop} (hF:F.fn f) (hfn:P.funcs[f]? = some fn)
  (h:assign.wpIn (F.inRound l) m P (Exit.then (fun a₁ w₁=>∃ w₂,(Instr.beginRound l).run P w₁=.ok () w₂∧body.wpIn (F.inRound l) m P (zfd F m P fn l R) a₁ w₂) (fun _ _ _=>False))
   { tmps:=tmps,defers:=[] } w) :
  RoundIn F m P l f tmps assign body w R:=by
 refine ⟨hF,fun c cs hr=>?_⟩
 let b:Frame:={ (default:Frame) with fn:=f,kind:=.normal,roundOf:=some l }
 have hb0:Frame.round l f tmps assign body .normal=b.atR { tmps:=tmps,defers:=[] } [.code assign,.beginRound,.code body]:=by
  simp [Frame.round,Frame.atR,b]
 have hr':(F.inRound l).room ((c::cs).length+1+m):=hr
 have hF':(F.inRound l).fn b.fn:=hF
 obtain ⟨e,a₁,w₁,hq,harr⟩:=h b [.beginRound,.code body] (c::cs) rfl hF' hr'
 rw [←hb0] at harr
 cases e with
 | normal =>
  obtain ⟨w₂,hbr,hbody⟩:=hq
  have s1:StepsIn (Machine.fenced P (F.inRound l)) P (lone (b.atR a₁ [.beginRound,.code body]) (c::cs) w₁) (lone (b.atR a₁ [.code body]) (c::cs) w₂) :=
   .one (fenced_calm (fr:=b.atR a₁ [.beginRound,.code body]) hF' hr' rfl) (stepR_beginRound rfl hbr)
  obtain ⟨e₂,a₂,w₃,hq₂,harr₂⟩:=hbody b [] (c::cs) rfl hF' hr'
  cases e₂ with
  | normal =>
   obtain ⟨v,w₄,hend,hR⟩:=hq₂
   exact ⟨.returned v,w₄,hR,(StepsIn.trans harr s1).trans (StepsIn.trans harr₂ (.one (fenced_calm (fr:=b.atR a₂ []) hF' hr' rfl) (stepR_round_end rfl rfl hend)))⟩
  | ret =>
   obtain ⟨v,w₄,hend,hR⟩:=hq₂
   obtain ⟨k₁,hs⟩:=harr₂.2 rfl
   exact ⟨.returned v,w₄,hR,(StepsIn.trans harr s1).trans (StepsIn.trans hs (.one (fenced_calm (fr:=b.atR a₂ (.code .ret::k₁)) hF' hr' rfl) (stepR_round_ret rfl rfl hend)))⟩
  | exit id =>
   obtain ⟨v,w₄,hend,hR⟩:=hq₂
   obtain ⟨k₁,hk,hs⟩:=harr₂.2 rfl rfl
   exact ⟨.returned v,w₄,hR,(StepsIn.trans harr s1).trans (StepsIn.trans hs (.one (fenced_calm (fr:=b.atR a₂ (.code (.exit id)::k₁)) hF' hr' rfl) (stepR_round_exit rfl rfl hk hend)))⟩
  | goto t =>
   obtain ⟨v,w₄,hend,hR⟩:=hq₂
   obtain ⟨k₁,hk,hs⟩:=harr₂.2 rfl rfl
   exact ⟨.returned v,w₄,hR,(StepsIn.trans harr s1).trans (StepsIn.trans hs (.one (fenced_calm (fr:=b.atR a₂ (.code (.goto t)::k₁)) hF' hr' rfl) (stepR_round_goto rfl rfl hk hend)))⟩
  | panic chain =>
   obtain ⟨todo,hs⟩:=harr₂
   obtain ⟨e',w₄,fr',⟨⟨ch,rfl⟩,hR⟩,hs',hfn',hl⟩:=leaves_stepsInM a₂.defers (.panicking chain) w₃ { b.atR a₂ todo with mode:=.panicking chain } (c::cs) rfl rfl rfl hfn rfl hF hr hq₂
   refine ⟨.panicked ch,w₄,hR,(StepsIn.trans harr s1).trans (StepsIn.trans hs (StepsIn.trans hs' (.one (fenced_leaving (n:=m) (hfn'▸hF) hr hl) (step_leave_panicked hl))))⟩
  | outgrown=>exact hq₂.elim
 | exit id=>exact hq.elim
 | goto t=>exact hq.elim
 | ret=>exact hq.elim
 | panic chain=>exact hq.elim
 | outgrown=>exact hq.elim

theorem znf (pn:Option Value) {t:Tmp} {ps:Array Tmp} {assign body:Code} {f:FuncId} {caps:Array Value} {rs:List Nat} {xs:List (Array Value)} (hg:s.ts t=.func (.func f) #[] caps) (hit:IterX pn P C.G f caps s.hp rs xs)
  (hxs:∀ x∈xs,x.size=ps.size∧∀ v∈x,zav v=true) (hps:∀ p∈ps,p<n) (tsE:Nat→Value) (hp:Nat→Hp) (B:Nat) (N:Nat) (hN:N≤xs.length)
  (hw:Weak C s ⟨tsE,hp 0,B,s.yc⟩) (hdis:∀ k∈rs,hp 0 k=none∧dom s.hp k) (hids:∀ i,i≤N→∀ t,zan (dom (hp i)) (tsE t))
  (rounds:∀ i x,i<N→xs[i]? = some x→∀ (C1:Ctx) (l:Nat),C1.G=C.G→C1.hp0=hp i→C1.Y=none→GW P C1 n [] (some l) assign ⟨zaz ps.toList x.toList tsE,hp i,B,0⟩
   (zcq (fun s1=>∀ C2:Ctx,C2.G=C.G→C2.hp0=hp i→C2.Y=none→GW P C2 n [] (some l) body s1 (zcq (fun s2=>Weak C1 s2 ⟨fun _=>zcj,hp (i+1),B,s2.yc⟩) (fun _ _=>False))) (fun _ _=>False)))
  (fin:match pn with
   | none=>(N=xs.length∧K .normal ⟨tsE,hp N,B,s.yc⟩)∨∃ x,xs[N]? = some x∧∀ (C1:Ctx) (l:Nat),C1.G=C.G→C1.hp0=hp N→C1.Y=none→GW P C1 n [] (some l) assign ⟨zaz ps.toList x.toList tsE,hp N,B,0⟩
    (zcq (fun s1=>∀ C2:Ctx,C2.G=C.G→C2.hp0=hp N→C2.Y=none→GW P C2 n [] (some l) body s1 (fun e s2=>(zb1 e).isSome=true∧(∀ t,zan (dom s2.hp) (tsE t))∧K e ⟨tsE,s2.hp,s2.B,s.yc⟩)) (fun _ _=>False))
   | some pv=>(∀ c,c≤N→K (.panic [{ v:=pv,recovered:=false }]) ⟨tsE,hp c,B,s.yc⟩)∧∃ x,xs[N]? = some x∧∀ (C1:Ctx) (l:Nat),C1.G=C.G→C1.hp0=hp N→C1.Y=none→GW P C1 n [] (some l) assign ⟨zaz ps.toList x.toList tsE,hp N,B,0⟩
    (zcq (fun s1=>∀ C2:Ctx,C2.G=C.G→C2.hp0=hp N→C2.Y=none→GW P C2 n [] (some l) body s1 (fun e s2=>e=.panic [{ v:=pv,recovered:=false }]∧(∀ t,zan (dom s2.hp) (tsE t))∧K e ⟨tsE,s2.hp,s2.B,s.yc⟩)) (fun _ _=>False))) (hYn:C.Y≠some .still:=by first|assumption|(intro h;simp_all [YG.still])) :
  GW P C n d none (.rangeFunc (.tmp t) ps assign body) s K:=by
 intro r a W hi0
 have hi:=hi0.weak hw
 obtain ⟨So,ms,hX0,hSo,hsep,⟨hdef,hnd⟩,hms⟩:=hi0.ri.ext
 have hcapv:a.eval (.tmp t)=.func (.func f) #[] (caps.map (zao r)):=by
  have:=((hi0.ri.rel t).resolve_left (by rw [hg];simp [zcj])).1
  rw [hg] at this
  simpa [ren,zax,zak,Act.eval] using this
 have hcap:caps.map (zao r)=caps.map (ren r):=Array.map_congr_left fun x hx=>(zcy (hit.cids x hx).1).symm
 rw [hcap] at hcapv
 refine wpIn_rangeFunc ?_
 rintro fn ⟨fnn,hfnn⟩
 obtain ⟨rec,hrec⟩:∃ rec:LoopState→Option Code→Loop,rec=fun st pe=>{ state:=st,pending:=pe,fn,tmps:=a.tmps,params:=ps,assign,body,defers:=W.heap.size }:=⟨_,rfl⟩
 obtain ⟨W1,hW1⟩:∃ W1,(W.alloc (.deferred (some []))).alloc (.loop (rec .ready none))=W1:=⟨_,rfl⟩
 have hL1:W1.heap[W.heap.size+1]? = some (.loop (rec .ready none)):=by
  rw [←hW1];have:=World.alloc_heap_new (W.alloc (.deferred (some []))) (.loop (rec .ready none));rwa [World.size_alloc] at this
 have hK1:W1.heap[W.heap.size]? = some (.deferred (some [])):=by
  rw [←hW1];exact (Below.heap_alloc _ _ _ (by simp)).trans (World.alloc_heap_new W _)
 have hsz1:W1.heap.size=W.heap.size+2:=by rw [←hW1];simp
 have hb1:Below W.heap.size W W1:=by
  rw [←hW1];exact (((Below.refl _ W).alloc (Nat.le_refl _) _).alloc (by simp) _)
 let l:=W.heap.size+1
 let D0:=W.heap.size
 let capd:Nat→Prop:=fun j=>∃ i,i∈rs∧100≤i∧r i=j
 -- what is said between two rounds
 let Lv:LoopState→Option Code→World→Prop:=fun st pe V=>V.heap[l]? = some (.loop (rec st pe))∧V.heap[D0]? = some (.deferred (some []))
 let XX:Nat→(Nat→Prop)→World→Prop:=fun c S V=>(∀ k,So k→S k)∧(∀ D∈ms,S D)∧S l∧S D0 ∧
  ((c≤N∧(∀ x,B≤x→hp c x=none)∧∃ rc,(∀ i,dom (hp c) i→S (rc i))∧zpn S V (fun V'=>Own0 C d So ms s.yc a rc tsE (hp c) V'∧Lv .ready none V')) ∨
  (c=N+1∧∃ e hpE BE rc,((pn=none∧(zb1 e).isSome=true)∨∃ pv,pn=some pv∧e=.panic [{ v:=pv,recovered:=false }])∧K e ⟨tsE,hpE,BE,s.yc⟩∧(∀ x,BE≤x→hpE x=none)∧100≤BE∧(∀ i,dom hpE i→S (rc i))∧zpn S V (fun V'=>Own0 C d So ms s.yc a rc tsE hpE V'∧V'.heap[D0]? = some (.deferred (some []))∧∀ j,zb1 e=some j→Lv .done (some j) V')))
 let E:Ext:=⟨XX,fun c S V V' h hs os tape output size=>⟨h.1,h.2.1,h.2.2.1,h.2.2.2.1,h.2.2.2.2.imp (fun ⟨hc,hf,rc,h1,h2⟩=>⟨hc,hf,rc,h1,h2.trans (fun _ h=>h) hs os tape output size⟩)
  (fun ⟨hc,e,hpE,BE,rc,h1,h2,h3,h4,h5,h6⟩=>⟨hc,e,hpE,BE,rc,h1,h2,h3,h4,h5,h6.trans (fun _ h=>h) hs os tape output size⟩)⟩⟩
 have sub:∀ i,dom (hp 0) i→dom s.hp i:=fun i hd=>by
  have hhp:hp 0 i=none∨hp 0 i=s.hp i:=by
   by_cases hk:100≤i
   ·exact hw.hp i hk
   ·exact .inr ((hw.glob i (by omega)).trans (hi0.ri.glob i (by omega)).symm)
  rcases hhp with e|e
  ·exact absurd e hd
  ·have e:hp 0 i=s.hp i:=e
   unfold dom at *;rw [←e];exact hd
 have own0:Own0 C d So ms s.yc a r tsE (hp 0) W1:=⟨hi.ri.rel,fun k b hk=>⟨(hb1.block _ (hi.ri.lt (k:=k) (by unfold dom;show hp 0 k≠none;rw [hk];simp))).trans (hi.ri.sat k b hk).1,(hi.ri.sat k b hk).2⟩,hi.ri.inj,
  C.E.ok _ _ _ _ hX0 (fun k hk=>hb1.block k (hSo k hk)) hb1.os hb1.tape hb1.output hb1.size,fun i hd h1=>hsep i (sub i hd) h1,
  fun D hD=>(hb1.block D (Array.getElem?_eq_some_iff.1 (hms D hD).1).1).trans (hms D hD).1,hi.ri.keep,hi.ri.glob,hi.ri.low⟩
 have incap:∀ i,dom s.hp i→capd (r i)→i∈rs:=fun i hd ⟨j,hj,_,e⟩=>by
  have:=hi0.ri.inj j i (hdis j hj).2 hd e
  exact this▸hj
 let S1:Nat→Prop:=fun k=>k<W1.heap.size∧¬capd k
 have capSmall:∀ k,capd k→k<W.heap.size:=fun k ⟨i,hi1,_,e⟩=>e▸hi0.ri.lt (hdis i hi1).2
 have s1So:∀ k,So k→S1 k:=fun k hk=>⟨by have:=hSo k hk;omega,fun ⟨i,hi1,h1,e⟩=>hsep i (hdis i hi1).2 h1 (e▸hk)⟩
 have s1ms:∀ D∈ms,S1 D:=fun D hD=>⟨by have:=(Array.getElem?_eq_some_iff.1 (hms D hD).1).1;omega,fun ⟨i,hi1,_,e⟩=>hi0.ri.ne_mark (hdis i hi1).2 (hms D hD).1 e⟩
 have s1l:S1 l:=⟨by omega,fun hc=>by have:=capSmall _ hc;omega⟩
 have s1D:S1 D0:=⟨by omega,fun hc=>by have:=capSmall _ hc;omega⟩
 have s1hp:∀ i,dom (hp 0) i→S1 (r i):=fun i hd=>⟨by have:=hi0.ri.lt (sub i hd);omega,fun hc=>hd (hdis i (incap i (sub i hd) hc)).1⟩
 have X0:XX 0 S1 W1:=⟨s1So,s1ms,s1l,s1D,.inl ⟨Nat.zero_le _,hw.free,r,s1hp,fun V k1 k2 k3 k4 k5=>⟨own0.supp s1So s1hp s1ms V k1 k2 k3 k4 k5,(k1 l s1l).trans hL1,(k1 D0 s1D).trans hK1⟩⟩⟩
 have gokOf:∀ {rc:Nat→Nat} {hpc:Hp} {V:World},Sat rc (dom hpc) hpc V→(∀ k,k<100→hpc k=C.G k)→(∀ k,k<100→dom hpc k→rc k=k)→GOK C.G V:=fun {rc hpc V} h1 h2 h3 k b hk=>by
  obtain ⟨hlt,hfl⟩:=hi0.flat k b hk
  have hb:hpc k=some b:=(h2 k hlt).trans hk
  have h9:=(h1 k b hb).1
  rw [h3 k hlt (by unfold dom;rw [hb];simp)] at h9
  rw [h9]
  rw [Blk.obj_flat (fun x hx=>hfl x hx)]
 -- one round
 have hround:zfz P C.G E ⟨l,xs,N,pn⟩:=by
  intro c x S V hgok hx hc hXc hSV
  obtain ⟨kSo,kms,kl,kD,hcase⟩:=hXc
  have hcN:c≤N:=hc
  obtain ⟨hc',hfreeC,rc,hrcS,hsupp⟩:c≤N∧(∀ x,B≤x→hp c x=none)∧∃ rc,(∀ i,dom (hp c) i→S (rc i))∧zpn S V (fun V'=>Own0 C d So ms s.yc a rc tsE (hp c) V'∧Lv .ready none V'):=by
   rcases hcase with h|h
   ·exact h
   ·omega
  obtain ⟨hown,hl,hD⟩:=hsupp.here
  have hxm:=hxs x (List.mem_of_getElem? hx)
  have hy:=run_yield (P:=P) (args:=x) hl (by rw [hrec];exact hxm.1)
  rw [hrec] at hy
  refine ⟨fn,_,assign,body,hy,zfu ⟨fnn,hfnn⟩ hfnn ?_⟩
  have hrel:=zmy (r:=rc) (D:=dom (hp c)) (ps.toList.zip x.toList) tsE a.tmps (fun p hp1=>⟨by rw [hi0.ri.size];exact hps _ (by simpa using (List.of_mem_zip hp1).1),hxm.2 _ (by simpa using (List.of_mem_zip hp1).2)⟩) hown.ri
  have htm:(ps.zip x).foldl (fun t (p:Tmp×Value)=>t.setIfInBounds p.1 p.2) a.tmps=(ps.toList.zip x.toList).foldl (fun t (p:Tmp×Value)=>t.setIfInBounds p.1 p.2) a.tmps:=by
   rw [←Array.foldl_toList,Array.toList_zip]
  have hsize:((ps.zip x).foldl (fun t (p:Tmp×Value)=>t.setIfInBounds p.1 p.2) a.tmps).size=n:=by
   rw [htm,ze3,hi0.ri.size]
  let im:Nat→Prop:=imO rc (hp c)
  let RR:Ending→World→Prop:=fun e W'=>(match (YG.mk l xs N pn).pan c with|none=>e=.returned (.bool (c != N))|some pv=>e=.panicked [{ v:=pv,recovered:=false }])∧GOK C.G W'∧V.heap.size≤W'.heap.size∧(∀ k,k<V.heap.size→¬S k→W'.heap[k]? = V.heap[k]?) ∧
      ∃ S',XX (c+1) S' W'∧(∀ k,S' k→k<W'.heap.size)∧∀ k,S' k→k<V.heap.size→S k
  -- the assignment to the loop's variables
  let C1:Ctx:=⟨ze1 V im,hp c,rc,C.G,none⟩
  have ltV:∀ i,dom (hp c) i→rc i<V.heap.size:=fun i hd=>hSV _ (hrcS i hd)
  have gi1:GI P C1 n [] rc ⟨zaz ps.toList x.toList tsE,hp c,B,0⟩ { tmps:=(ps.zip x).foldl (fun t (p:Tmp×Value)=>t.setIfInBounds p.1 p.2) a.tmps,defers:=[] } V:=by
   refine ⟨⟨hsize,?_,hown.sat,hown.inj,⟨fun k=>k<V.heap.size∧¬im k,[],⟨fun _=>Iff.rfl,rfl,rfl,rfl,Nat.le_refl _,fun _ _=>rfl⟩,fun k hk=>hk.1,fun i hd _ hS=>hS.2 ⟨i,hd,rfl⟩,⟨rfl,List.nodup_nil⟩,by simp⟩,fun i hd=>⟨hd,rfl⟩,hown.glob,hown.low⟩,hfreeC,hw.low,hi0.flat,fun y hy=>by cases hy⟩
   rw [htm];exact hrel
  have hSol:¬So l:=fun h=>by have:=hSo _ h;omega
  -- a round's frame,from its assignment on
  have both:∀ (Kb:Exit→GS→Prop),GW P C1 n [] (some l) assign ⟨zaz ps.toList x.toList tsE,hp c,B,0⟩ (zcq (fun s1=>∀ C2:Ctx,C2.G=C.G→C2.hp0=hp c→C2.Y=none→GW P C2 n [] (some l) body s1 Kb) (fun _ _=>False)) →
    (∀ e s2 (r2:Nat→Nat) (V1 V2:World) (a1 a2:Act) (r1:Nat→Nat) (ts1:Nat→Value) (hp1:Hp) (y1:Nat) (D1:Nat→Prop),(∀ k,k<V.heap.size→D1 k→imO r1 hp1 k)→¬D1 l→Kb e s2→RI ⟨ze1 V im,hp c,rc,C.G,none⟩ n [] r1 ts1 hp1 y1 a1 V1 →
     GI P ⟨ze1 (V1.putObj l (.loop (rec .busy none))) D1,hp c,rc,C.G,none⟩ n [] r2 s2 a2 V2→zfd (Fs P) 0 P fnn l RR e a2 V2) →
    assign.wpIn ((Fs P).inRound l) 0 P (Exit.then (fun a₁ w₁=>∃ w₂,(Instr.beginRound l).run P w₁=.ok () w₂∧body.wpIn ((Fs P).inRound l) 0 P (zfd (Fs P) 0 P fnn l RR) a₁ w₂) (fun _ _ _=>False))
     { tmps:=(ps.zip x).foldl (fun t (p:Tmp×Value)=>t.setIfInBounds p.1 p.2) a.tmps,defers:=[] } V:=fun Kb hgw hend=>by
   refine wpIn_mono (hgw rc _ V gi1) ?_
   rintro e a1 V1 ⟨s1,r1,hk1,gi⟩
   cases e with
   | normal =>
    obtain ⟨T1,m1,⟨hT1,os1,tp1,ou1,sz1,sm1⟩,hT1s,sep1,df1,dm1⟩:=gi.ri.ext
    have hl1:V1.heap[l]? = some (.loop (rec .ready none)):=by
     rw [sm1 l ((hT1 l).2 ⟨hSV l kl,?_⟩)]
     ·exact hl
     ·rintro ⟨i,hd,e⟩
      unfold dom at hd
      cases hb:hp c i with
      | none=>exact hd hb
      | some b=>have:=(hown.sat i b hb).1;rw [e,hl] at this;exact (Blk.obj_loop this).elim
    refine ⟨_,run_beginRound hl1 (by rw [hrec]),?_⟩
    have hrb:{ rec .ready none with state:=.busy }=rec .busy none:=by rw [hrec]
    rw [hrb]
    have hlt1:l<V1.heap.size:=(Array.getElem?_eq_some_iff.1 hl1).1
    let D1:Nat→Prop:=fun k=>imO r1 s1.hp k∨k∈m1
    let C2:Ctx:=⟨ze1 (V1.putObj l (.loop (rec .busy none))) D1,hp c,rc,C.G,none⟩
    have gi2:GI P C2 n [] r1 s1 a1 (V1.putObj l (.loop (rec .busy none))):=by
     refine ⟨⟨gi.ri.size,gi.ri.rel,fun k b hk=>⟨(World.putObj_heap_other (fun e=>gi.ri.not_loop hl1 ⟨k,by unfold dom;rw [hk];simp,e⟩)).trans (gi.ri.sat k b hk).1,(gi.ri.sat k b hk).2⟩,gi.ri.inj,
      ⟨fun k=>k<(V1.putObj l (.loop (rec .busy none))).heap.size∧¬D1 k,m1,⟨fun _=>Iff.rfl,rfl,rfl,rfl,Nat.le_refl _,fun _ _=>rfl⟩,fun k hk=>hk.1,fun i hd _ hS=>hS.2 (.inl ⟨i,hd,rfl⟩),df1,fun D hD=>⟨?_,(fun hS=>hS.2 (.inr hD)),fun h=>nomatch h⟩⟩,
      fun i hd=>gi.ri.keep i hd,gi.ri.glob,gi.ri.low⟩,gi.free,gi.low,gi.flat,fun y hy=>by cases hy⟩
     rw [World.putObj_heap_other (fun e=>?_)]
     ·exact (dm1 D hD).1
     ·have:=(dm1 D hD).1;rw [e,hl1] at this;cases this
    refine wpIn_mono (hk1 C2 rfl rfl rfl r1 a1 _ gi2) ?_
    rintro e2 a2 V2 ⟨s2,r2,hk2,gi3⟩
    refine hend e2 s2 r2 V1 V2 a1 a2 r1 s1.ts s1.hp s1.yc D1 (fun k hk hD=>?_) (fun hD=>?_) hk2 gi.ri gi3
    ·rcases hD with h|h
     ·exact h
     ·have h2:=(dm1 k h).2.1
      rw [hT1] at h2
      obtain ⟨i,hd,e⟩:=Classical.byContradiction fun hc=>h2 ⟨hk,hc⟩
      have h3:=(dm1 k h).1
      by_cases h100:100≤i
      ·have:dom s1.hp i∧r1 i=rc i:=gi.ri.keep i hd
       exact ⟨i,this.1,this.2.trans e⟩
      ·have:dom s1.hp i∧r1 i=rc i:=gi.ri.keep i hd
       exact ⟨i,this.1,this.2.trans e⟩
    ·rcases hD with h|h
     ·exact gi.ri.not_loop hl1 h
     ·have:=(dm1 l h).1;rw [hl1] at this;cases this
   | _=>exact hk1.elim
  -- what a round leaves,put together
  have post:∀ (st:LoopState) (pe:Option Code) (r2:Nat→Nat) (V1 V2:World) (a1 a2:Act) (r1:Nat→Nat) (ts1 ts2:Nat→Value) (hp1 hp2:Hp) (y1 y2:Nat) (D1:Nat→Prop),(∀ k,k<V.heap.size→D1 k→imO r1 hp1 k)→¬D1 l→RI ⟨ze1 V im,hp c,rc,C.G,none⟩ n [] r1 ts1 hp1 y1 a1 V1 →
    RI ⟨ze1 (V1.putObj l (.loop (rec .busy none))) D1,hp c,rc,C.G,none⟩ n [] r2 ts2 hp2 y2 a2 V2 →
    V2.heap[l]? = some (.loop (rec .busy none))∧GOK C.G (V2.putObj l (.loop (rec st pe)))∧V.heap.size≤(V2.putObj l (.loop (rec st pe))).heap.size∧(∀ k,k<V.heap.size→¬S k→(V2.putObj l (.loop (rec st pe))).heap[k]? = V.heap[k]?) ∧
    ∃ S':Nat→Prop,(∀ k,So k→S' k)∧(∀ D∈ms,S' D)∧S' l∧S' D0∧(∀ i,dom hp2 i→S' (r2 i))∧zpn S' (V2.putObj l (.loop (rec st pe))) (fun V'=>Own0 C d So ms s.yc a r2 tsE hp2 V'∧Lv st pe V') ∧
     (∀ k,S' k→k<(V2.putObj l (.loop (rec st pe))).heap.size)∧∀ k,S' k→k<V.heap.size→S k:=fun st pe r2 V1 V2 a1 a2 r1 ts1 ts2 hp1 hp2 y1 y2 D1 hD1 hD1l ri1 ri2=>by
   obtain ⟨_,q1,q2,q3,q4,q5,q6⟩:=zot (L2:=rec st pe) hi0.flat hown hSol hSV kSo kms hrcS hl ri1 hD1 hD1l ri2
   have sz:(V2.putObj l (.loop (rec st pe))).heap.size=V2.heap.size:=zck _ _ _
   have hnim:∀ k,¬S k→¬imO rc (hp c) k:=fun k hk ⟨i,hd,e⟩=>hk (e▸hrcS i hd)
   refine ⟨q1,q6,by rw [sz];exact q4,fun k hk hnS=>q5 k hk (hnim k hnS) (fun e=>hnS (e▸kl)),fun k=>S k∨(V.heap.size≤k∧k<V2.heap.size),fun k hk=>.inl (kSo k hk),fun D hD=>.inl (kms D hD),.inl kl,.inl kD,fun i hd=>?_,?_,fun k hk=>?_,fun k hk hlt=>?_⟩
   ·rcases q3 i hd with h|h
    ·exact .inr ⟨h,by
      unfold dom at hd
      cases hb:hp2 i with
      | none=>exact absurd hb hd
      | some b=>have:=(Array.getElem?_eq_some_iff.1 (q2.sat i b hb).1).1;rwa [sz] at this⟩
    ·exact .inl h
   ·have hD0:(V2.putObj l (.loop (rec st pe))).heap[D0]? = some (.deferred (some [])):=by
     rw [q5 D0 (hSV D0 kD) (fun ⟨i,hd',e⟩=>by
      unfold dom at hd'
      cases hb:hp c i with
      | none=>exact hd' hb
      | some b=>have:=(hown.sat i b hb).1;rw [e,hD] at this;exact (Blk.obj_def this).elim) (by omega)]
     exact hD
    have hlt2:l<V2.heap.size:=(Array.getElem?_eq_some_iff.1 q1).1
    refine fun V' k1 k2 k3 k4 k5=>⟨q2.supp (S:=fun k=>S k∨(V.heap.size≤k∧k<V2.heap.size)) (fun k hk=>.inl (kSo k hk)) (fun i hd=>?_) (fun D hD=>.inl (kms D hD)) V' k1 k2 k3 k4 k5,(k1 l (.inl kl)).trans (World.putObj_heap_same hlt2),(k1 D0 (.inl kD)).trans hD0⟩
    rcases q3 i hd with h|h
    ·exact .inr ⟨h,by
      unfold dom at hd
      cases hb:hp2 i with
      | none=>exact absurd hb hd
      | some b=>have:=(Array.getElem?_eq_some_iff.1 (q2.sat i b hb).1).1;rwa [sz] at this⟩
    ·exact .inl h
   ·rw [sz]
    rcases hk with h|h
    ·exact Nat.lt_of_lt_of_le (hSV k h) q4
    ·exact h.2
   ·exact hk.resolve_right (by omega)
  by_cases hcn:c<N
  ·refine both _ (rounds c x hcn hx C1 l rfl rfl rfl) ?_
   intro e s2 r2 V1 V2 a1 a2 r1 ts1 hp1 y1 D1 hD1 hD1l hk ri1 gi2
   cases e with
   | normal =>
    have gi3:=gi2.weak (Weak.ctx (C:=C1) rfl rfl hk)
    obtain ⟨p1,p2,p3,p4,S',p5,p6,p7,p8,p9,p10,p11,p12⟩:=post .ready none r2 V1 V2 a1 a2 r1 ts1 _ hp1 _ y1 _ D1 hD1 hD1l ri1 gi3.ri
    have hend:=run_endRound (P:=P) none p1
    rw [hrec] at hend p2 p3 p4 p10 p11
    refine ⟨_,_,hend,?_,p2,p3,p4,S',⟨p5,p6,p7,p8,.inl ⟨hcn,gi3.free,r2,p9,?_⟩⟩,p11,p12⟩
    ·have h1:(YG.mk l xs N pn).pan c=none:=by
      show (if c=N then pn else none)=none
      rw [if_neg (by omega)]
     have h2:(c != N)=true:=by simp;omega
     rw [h1,h2];rfl
    ·simpa [hrec] using p10
   | _=>exact hk.elim
  ·obtain rfl:c=N:=by omega
   have hpanN:(YG.mk l xs c pn).pan c=pn:=by
    show (if c=c then pn else none)=pn
    rw [if_pos rfl]
   cases pn with
   | none =>
    rcases fin with ⟨e,_⟩|⟨x',hx',hfin⟩
    ·obtain ⟨h9,_⟩:=List.getElem?_eq_some_iff.1 hx;have h9:c<xs.length:=h9;omega
    ·have hx:xs[c]? = some x:=hx
     rw [hx] at hx';cases hx'
     refine both _ (hfin C1 l rfl rfl rfl) ?_
     intro e s2 r2 V1 V2 a1 a2 r1 ts1 hp1 y1 D1 hD1 hD1l hk ri1 gi2
     obtain ⟨hk1,hk2,hk3⟩:=hk
     cases ho:zb1 e with
     | none=>rw [ho] at hk1;cases hk1
     | some j =>
      obtain ⟨p1,p2,p3,p4,S',p5,p6,p7,p8,p9,p10,p11,p12⟩:=post .done (some j) r2 V1 V2 a1 a2 r1 ts1 _ hp1 _ y1 _ D1 hD1 hD1l ri1 gi2.ri
      have hend:=run_endRound (P:=P) (some j) p1
      rw [hrec] at hend p2 p3 p4 p10 p11
      have hR:∃ v w',(Instr.endRound l (some j)).run P V2=.ok v w'∧RR (.returned v) w':=by
       refine ⟨_,_,hend,?_,p2,p3,p4,S',⟨p5,p6,p7,p8,.inr ⟨rfl,e,s2.hp,s2.B,r2,.inl ⟨rfl,hk1⟩,hk3,gi2.free,gi2.low,p9,?_⟩⟩,p11,p12⟩
       ·rw [hpanN];simp
       ·intro V' k1 k2 k3 k4 k5
        obtain ⟨q1,q2⟩:=p10 V' k1 k2 k3 k4 k5
        refine ⟨q1,q2.2,fun j' hj'=>?_⟩
        rw [ho] at hj';cases hj'
        simpa [hrec] using q2
      cases e<;>simp only [zb1,Option.some.injEq,reduceCtorEq] at ho
      ·subst ho;exact hR
      ·subst ho;exact hR
      ·subst ho;exact hR
   | some pv =>
    obtain ⟨_,x',hx',hfin⟩:=fin
    have hx:xs[c]? = some x:=hx
    rw [hx] at hx';cases hx'
    refine both _ (hfin C1 l rfl rfl rfl) ?_
    intro e s2 r2 V1 V2 a1 a2 r1 ts1 hp1 y1 D1 hD1 hD1l hk ri1 gi2
    obtain ⟨rfl,hk2,hk3⟩:=hk
    obtain ⟨p1,p2,p3,p4,S',p5,p6,p7,p8,p9,p10,p11,p12⟩:=post .busy none r2 V1 V2 a1 a2 r1 ts1 _ hp1 _ y1 _ D1 hD1 hD1l ri1 gi2.ri
    have hid:V2.putObj l (.loop (rec .busy none))=V2:=zyj p1
    rw [hid] at p2 p3 p4 p10 p11
    obtain ⟨T2,m2,⟨hT2,os2,tp2,ou2,sz2,sm2⟩,hT2s,sep2,⟨df2,nd2⟩,dm2⟩:=gi2.ri.ext
    have lt1:V.heap.size≤(V1.putObj l (.loop (rec .busy none))).heap.size:=by
     rw [zck]
     obtain ⟨_,_,⟨_,_,_,_,z1,_⟩,_⟩:=ri1.ext
     exact z1
    -- a z2m of the round's own lies behind what was there
    have mnew:∀ D∈m2,V.heap.size≤D:=fun D hD=>by
     have h1:=(dm2 D hD).1
     have h2:=(dm2 D hD).2.1
     refine Classical.byContradiction fun hlt=>?_
     have hlt:D<V.heap.size:=by omega
     rw [hT2] at h2
     have hD1D:D1 D:=Classical.byContradiction fun hc=>h2 ⟨by omega,hc⟩
     obtain ⟨i,hd,e⟩:=hD1 D hlt hD1D
     by_cases hz:100≤i
     ·obtain ⟨T1,m1,⟨hT1,_⟩,_,sep1,_⟩:=ri1.ext
      have h3:=sep1 i hd hz
      rw [hT1,e] at h3
      obtain ⟨q,hq,e2⟩:=Classical.byContradiction fun hc=>h3 ⟨hlt,hc⟩
      have hk5:dom s2.hp q∧r2 q=rc q:=gi2.ri.keep q hq
      exact gi2.ri.ne_mark hk5.1 h1 (hk5.2.trans e2)
     ·have e3:hp1 i=C.G i:=ri1.glob i (by omega)
      have e4:s2.hp i=C.G i:=gi2.ri.glob i (by omega)
      have hd2:dom s2.hp i:=by unfold dom at *;rw [e4,←e3];exact hd
      exact gi2.ri.ne_mark hd2 h1 (by rw [gi2.ri.low i (by omega) hd2,←e,ri1.low i (by omega) hd])
    show LeavesInM _ _ _ _ _ _ a2.defers _ _
    rw [df2,List.append_nil]
    refine zds (by simp) m2 V2 nd2 (fun D hD=>(dm2 D hD).1) fun W'' e1 e2 e3 e4 e5=>?_
    refine ⟨⟨_,rfl⟩,?_⟩
    have sgok:GOK C.G W'':=fun k b hk=>by
     rw [e5 k (fun hm=>by have:=(dm2 k hm).1;rw [p2 k b hk] at this;exact (Blk.obj0_def this.symm).elim)]
     exact p2 k b hk
    refine ⟨?_,sgok,by rw [e1];exact p3,fun k hk hnS=>?_,fun k=>S' k∧k∉m2,⟨fun k hk=>⟨p5 k hk,fun hm=>?_⟩,fun D hD=>⟨p6 D hD,fun hm=>?_⟩,⟨p7,fun hm=>?_⟩,⟨p8,fun hm=>?_⟩,.inr ⟨rfl,_,s2.hp,s2.B,r2,.inr ⟨pv,rfl,rfl⟩,hk3,gi2.free,gi2.low,fun i hd=>⟨p9 i hd,fun hm=>?_⟩,?_⟩⟩,fun k hk=>?_,fun k hk hlt=>p12 k hk.1 hlt⟩
    ·rw [hpanN]
    ·rw [e5 k (fun hm=>by have:=mnew k hm;omega)];exact p4 k hk hnS
    ·have:=mnew k hm;have:=hSV k (kSo k hk);omega
    ·have:=mnew D hm;have:=hSV D (kms D hD);omega
    ·have:=(dm2 l hm).1;rw [p1] at this;cases this
    ·have:=mnew D0 hm;have:=hSV D0 kD;omega
    ·exact gi2.ri.ne_mark hd (dm2 _ hm).1 rfl
    ·intro V' k1 k2 k3 k4 k5
     have hh:=fun k (hk:S' k∧k∉m2)=>(k1 k hk).trans (e5 k hk.2)
     have hsupp2:zpn (fun k=>S' k∧k∉m2) W'' (fun V'=>Own0 C d So ms s.yc a r2 tsE s2.hp V'∧V'.heap[D0]? = some (.deferred (some []))):=by
      obtain ⟨own2,_,hD2⟩:=p10.here
      have own3:Own0 C d So ms s.yc a r2 tsE s2.hp W'':=own2.supp (S:=fun k=>S' k∧k∉m2) (fun k hk=>⟨p5 k hk,fun hm=>by have:=mnew k hm;have:=hSV k (kSo k hk);omega⟩) (fun i hd=>⟨p9 i hd,fun hm=>gi2.ri.ne_mark hd (dm2 _ hm).1 rfl⟩) (fun D hD=>⟨p6 D hD,fun hm=>by have:=mnew D hm;have:=hSV D (kms D hD);omega⟩) W'' (fun k hk=>e5 k hk.2) e2 e3 e4 (by rw [e1];exact Nat.le_refl _)
      have hD3:W''.heap[D0]? = some (.deferred (some [])):=(e5 D0 (fun hm=>by have:=mnew D0 hm;have:=hSV D0 kD;omega)).trans hD2
      exact fun V' k1 k2 k3 k4 k5=>⟨own3.supp (S:=fun k=>S' k∧k∉m2) (fun k hk=>⟨p5 k hk,fun hm=>by have:=mnew k hm;have:=hSV k (kSo k hk);omega⟩) (fun i hd=>⟨p9 i hd,fun hm=>gi2.ri.ne_mark hd (dm2 _ hm).1 rfl⟩) (fun D hD=>⟨p6 D hD,fun hm=>by have:=mnew D hm;have:=hSV D (kms D hD);omega⟩) V' k1 k2 k3 k4 k5,(k1 D0 ⟨p8,fun hm=>by have:=mnew D0 hm;have:=hSV D0 kD;omega⟩).trans hD3⟩
     obtain ⟨q1,q2⟩:=hsupp2 V' k1 k2 k3 k4 k5
     exact ⟨q1,q2,fun j hj=>by simp [zb1] at hj⟩
    ·rw [e1];exact p11 k hk.1
 -- behind the iterator
 refine ⟨l,[z2m D0],W1,{ target:=.fn (.func f) (caps.map (ren r)),args:=#[.func (.yield l) #[] #[]] },W1,f,#[Value.func (.yield l) #[] #[]]++caps.map (ren r),W1,?_,?_,fun f' hf'=>?_,?_,fun h=>(by cases h),?_⟩
 ·rw [←hW1,hrec];exact run_enterLoop_outer _ _ _ _ _
 ·simp only [resolve,hcapv]
  simp [go_sem,Act.eval]
 ·simp [Target.leads] at hf'
  subst hf'
  exact zg5 (hit.enter #[] default)
 ·simp [invoke,go_sem,hit.enter]
 ·have hsat1:Sat r (dom (rst s.hp rs)) (rst s.hp rs) W1:=fun k b hk=>⟨(hb1.block _ (hi0.ri.lt (k:=k) (by unfold dom;rw [zef hk];simp))).trans (hi0.ri.sat k b (zef hk)).1,hit.closed k b hk⟩
  have hsubr:∀ k,dom (rst s.hp rs) k→dom s.hp k:=fun k hk=>by
   unfold dom at *
   cases hb:rst s.hp rs k with
   | none=>exact absurd hb hk
   | some b=>rw [zef hb];simp
  have hlen:pn≠none→N<xs.length:=fun hp1=>by
   cases pn with
   | none=>exact absurd rfl hp1
   | some pv =>
    obtain ⟨_,x',hx',_⟩:=fin
    exact (List.getElem?_eq_some_iff.1 hx').1
  have hcalls:=hit.run E l N r S1 W1 (gokOf own0.sat own0.glob own0.low) hsat1 (fun k l' hk hl=>hi0.ri.inj k l' (hsubr k hk) (hsubr l' hl)) (fun k hk hd=>hi0.ri.low k hk (hsubr k hd)) hlen hround X0 (fun k hk=>hk.1) (fun i hd h1 hS=>hS.2 ?_)
  ·refine CallsIn.mono (hcalls:CallsIn (Fw P none) 0 P _ _ _ _) ?_
   -- the owner's activation,behind it all
   have giV:∀ (rc:Nat→Nat) (hpE:Hp) (BE:Nat) (V:World),(∀ x,BE≤x→hpE x=none)→100≤BE→Own0 C d So ms s.yc a rc tsE hpE V→V.heap[D0]? = some (.deferred (some []))→W.heap.size≤V.heap.size →
     GI P C n d rc ⟨tsE,hpE,BE,s.yc⟩ { a with defers:=[z2m D0]++a.defers } V:=fun rc hpE BE V hfree hBE hown hD hsz =>
    ⟨⟨hi0.ri.size,hown.ri,hown.sat,hown.inj,
     ⟨So,D0::ms,hown.X,fun k hk=>Nat.lt_of_lt_of_le (hSo k hk) hsz,hown.sep,⟨by simp [hdef],List.nodup_cons.2 ⟨fun hm=>by have:=(Array.getElem?_eq_some_iff.1 (hms D0 hm).1).1;omega,hnd⟩⟩,fun D hDm=>by
      rcases List.mem_cons.1 hDm with rfl|hDm
      ·exact ⟨hD,(fun hS=>by have:=hSo _ hS;omega),hYn⟩
      ·exact ⟨hown.mks D hDm,(hms D hDm).2⟩⟩,
     hown.keep,hown.glob,hown.low⟩,hfree,hBE,hi0.flat,hi0.rounds⟩
   have szOf:∀ {S:Nat→Prop} {V:World} {c:Nat},XX c S V→(∀ V,XX c S V→S l→True)→V.heap[D0]? = some (.deferred (some []))→W.heap.size≤V.heap.size:=fun {S V c} _ _ h=>by
    have:=(Array.getElem?_eq_some_iff.1 h).1;omega
   cases pn with
   | some pv =>
    rintro e V ⟨rfl,c,S',hX⟩
    obtain ⟨kSo,kms,kl,kD,hcase⟩:=hX
    obtain ⟨hbefore,_⟩:=fin
    rcases hcase with ⟨hc',hfree,rc,hrcS,hsupp⟩|⟨hc',e,hpE,BE,rc,ho,hk,hfree,hBE,hrcS,hsupp⟩
    ·obtain ⟨hown,hl,hD⟩:=hsupp.here
     exact ⟨_,rc,hbefore c hc',giV rc _ B V hfree hw.low hown hD (by have:=(Array.getElem?_eq_some_iff.1 hD).1;omega)⟩
    ·obtain ⟨hown,hD,_⟩:=hsupp.here
     rcases ho with ⟨h1,_⟩|⟨pv',h1,rfl⟩
     ·cases h1
     ·cases h1
      exact ⟨_,rc,hk,giV rc _ BE V hfree hBE hown hD (by have:=(Array.getElem?_eq_some_iff.1 hD).1;omega)⟩
   | none =>
   rintro e V ⟨⟨v,rfl⟩,S',hX⟩
   obtain ⟨kSo,kms,kl,kD,hcase⟩:=hX
   have fini:∀ (st:LoopState) (pe:Option Code) (rc:Nat→Nat) (hpE:Hp) (BE:Nat),st≠.busy→(∀ x,BE≤x→hpE x=none)→100≤BE→Own0 C d So ms s.yc a rc tsE hpE V→Lv st pe V →
     (Instr.endLoop l).run P V=.ok pe (V.putObj l (.loop { rec st pe with state:=.exhausted }))∧GI P C n d rc ⟨tsE,hpE,BE,s.yc⟩ { a with defers:=[z2m D0]++a.defers } (V.putObj l (.loop { rec st pe with state:=.exhausted })):=fun st pe rc hpE BE hst hfree hBE hown ⟨hl,hD⟩=>by
    have hend:=run_endLoop (P:=P) hl (by rw [hrec];exact hst)
    refine ⟨by rw [hrec] at hend ⊢;exact hend,?_⟩
    have hlt:l<V.heap.size:=(Array.getElem?_eq_some_iff.1 hl).1
    have szV:∀ ob,(V.putObj l ob).heap.size=V.heap.size:=fun ob=>zck _ _ _
    refine ⟨⟨hi0.ri.size,hown.ri,fun k b hk=>⟨(World.putObj_heap_other (fun e=>?_)).trans (hown.sat k b hk).1,(hown.sat k b hk).2⟩,hown.inj,
     ⟨So,D0::ms,C.E.ok _ _ _ _ hown.X (fun k hk=>World.putObj_heap_other (fun e=>by have:=hSo k hk;omega)) rfl rfl rfl (by rw [szV];exact Nat.le_refl _),fun k hk=>by rw [szV];have:=hSo k hk;omega,hown.sep,⟨by simp [hdef],List.nodup_cons.2 ⟨fun hm=>?_,hnd⟩⟩,fun D hDm=>?_⟩,
     hown.keep,hown.glob,hown.low⟩,hfree,hBE,hi0.flat,hi0.rounds⟩
    ·have:=(hown.sat k b hk).1;rw [e,hl] at this;exact (Blk.obj_loop this).elim
    ·have:=(Array.getElem?_eq_some_iff.1 (hms D0 hm).1).1;omega
    ·rcases List.mem_cons.1 hDm with rfl|hDm
     ·exact ⟨(World.putObj_heap_other (by omega)).trans hD,(fun hS=>by have:=hSo _ hS;omega),hYn⟩
     ·exact ⟨(World.putObj_heap_other (fun e=>by have:=hown.mks D hDm;rw [e,hl] at this;cases this)).trans (hown.mks D hDm),(hms D hDm).2⟩
   rcases hcase with ⟨hc',hfree,rc,hrcS,hsupp⟩|⟨hc',e,hpE,BE,rc,ho,hk,hfree,hBE,hrcS,hsupp⟩
   ·obtain ⟨hown,hLv⟩:=hsupp.here
    have hNl:N=xs.length:=by omega
    have hmin:min (N+1) xs.length=N:=by omega
    rw [hmin] at hfree hown
    obtain ⟨f1,f2⟩:=fini .ready none rc (hp N) B (by simp) hfree hw.low hown hLv
    rcases fin with ⟨_,hK⟩|⟨x',hx',_⟩
    ·exact ⟨none,_,f1,_,rc,hK,f2⟩
    ·obtain ⟨h9,_⟩:=List.getElem?_eq_some_iff.1 hx';omega
   ·obtain ⟨hown,_,hLv⟩:=hsupp.here
    rcases ho with ⟨_,ho⟩|⟨pv,h1,_⟩
    ·cases hoj:zb1 e with
     | none=>rw [hoj] at ho;cases ho
     | some j =>
      obtain ⟨f1,f2⟩:=fini .done (some j) rc hpE BE (by simp) hfree hBE hown (hLv j hoj)
      refine ⟨some j,_,f1,?_⟩
      cases e<;>simp only [zb1,Option.some.injEq,reduceCtorEq] at hoj
      ·subst hoj;exact wpIn_exit ⟨_,rc,hk,f2⟩
      ·subst hoj;exact wpIn_goto ⟨_,rc,hk,f2⟩
      ·subst hoj;exact wpIn_ret ⟨_,rc,hk,f2⟩
    ·cases h1
  ·refine ⟨i,?_,h1,rfl⟩
   unfold dom rst at hd
   split at hd
   ·rename_i h;exact h.resolve_left (by omega)
   ·exact absurd rfl hd

theorem zgi {t:Tmp} {ps:Array Tmp} {assign body:Code} {f:FuncId} {caps:Array Value} {rs:List Nat} {xs:List (Array Value)} (hg:s.ts t=.func (.func f) #[] caps) (hit:zg4 P C.G f caps s.hp rs xs)
  (hxs:∀ x∈xs,x.size=ps.size∧∀ v∈x,zav v=true) (hps:∀ p∈ps,p<n) (tsE:Nat→Value) (hp:Nat→Hp) (B:Nat) (N:Nat) (hN:N≤xs.length)
  (hw:Weak C s ⟨tsE,hp 0,B,s.yc⟩) (hdis:∀ k∈rs,hp 0 k=none∧dom s.hp k) (hids:∀ i,i≤N→∀ t,zan (dom (hp i)) (tsE t))
  (rounds:∀ i x,i<N→xs[i]? = some x→∀ (C1:Ctx) (l:Nat),C1.G=C.G→C1.hp0=hp i→C1.Y=none→GW P C1 n [] (some l) assign ⟨zaz ps.toList x.toList tsE,hp i,B,0⟩
   (zcq (fun s1=>∀ C2:Ctx,C2.G=C.G→C2.hp0=hp i→C2.Y=none→GW P C2 n [] (some l) body s1 (zcq (fun s2=>Weak C1 s2 ⟨fun _=>zcj,hp (i+1),B,s2.yc⟩) (fun _ _=>False))) (fun _ _=>False)))
  (fin:(N=xs.length∧K .normal ⟨tsE,hp N,B,s.yc⟩)∨∃ x,xs[N]? = some x∧∀ (C1:Ctx) (l:Nat),C1.G=C.G→C1.hp0=hp N→C1.Y=none→GW P C1 n [] (some l) assign ⟨zaz ps.toList x.toList tsE,hp N,B,0⟩
   (zcq (fun s1=>∀ C2:Ctx,C2.G=C.G→C2.hp0=hp N→C2.Y=none→GW P C2 n [] (some l) body s1 (fun e s2=>(zb1 e).isSome=true∧(∀ t,zan (dom s2.hp) (tsE t))∧K e ⟨tsE,s2.hp,s2.B,s.yc⟩)) (fun _ _=>False))) (hYn:C.Y≠some .still:=by first|assumption|(intro h;simp_all [YG.still])) :
  GW P C n d none (.rangeFunc (.tmp t) ps assign body) s K :=
 znf none hg hit hxs hps tsE hp B N hN hw hdis hids rounds fin hYn
theorem zvp (pv:Value) {t:Tmp} {ps:Array Tmp} {assign body:Code} {f:FuncId} {caps:Array Value} {rs:List Nat} {xs:List (Array Value)} (hg:s.ts t=.func (.func f) #[] caps) (hit:z7e P C.G f caps s.hp rs xs)
  (hxs:∀ x∈xs,x.size=ps.size∧∀ v∈x,zav v=true) (hps:∀ p∈ps,p<n) (tsE:Nat→Value) (hp:Nat→Hp) (B:Nat) (N:Nat) (hN:N≤xs.length)
  (hw:Weak C s ⟨tsE,hp 0,B,s.yc⟩) (hdis:∀ k∈rs,hp 0 k=none∧dom s.hp k) (hids:∀ i,i≤N→∀ t,zan (dom (hp i)) (tsE t))
  (rounds:∀ i x,i<N→xs[i]? = some x→∀ (C1:Ctx) (l:Nat),C1.G=C.G→C1.hp0=hp i→C1.Y=none→GW P C1 n [] (some l) assign ⟨zaz ps.toList x.toList tsE,hp i,B,0⟩
   (zcq (fun s1=>∀ C2:Ctx,C2.G=C.G→C2.hp0=hp i→C2.Y=none→GW P C2 n [] (some l) body s1 (zcq (fun s2=>Weak C1 s2 ⟨fun _=>zcj,hp (i+1),B,s2.yc⟩) (fun _ _=>False))) (fun _ _=>False)))
  (before:∀ c,c≤N→K (.panic [{ v:=pv,recovered:=false }]) ⟨tsE,hp c,B,s.yc⟩)
  (fin:∃ x,xs[N]? = some x∧∀ (C1:Ctx) (l:Nat),C1.G=C.G→C1.hp0=hp N→C1.Y=none→GW P C1 n [] (some l) assign ⟨zaz ps.toList x.toList tsE,hp N,B,0⟩
   (zcq (fun s1=>∀ C2:Ctx,C2.G=C.G→C2.hp0=hp N→C2.Y=none→GW P C2 n [] (some l) body s1 (fun e s2=>e=.panic [{ v:=pv,recovered:=false }]∧(∀ t,zan (dom s2.hp) (tsE t))∧K e ⟨tsE,s2.hp,s2.B,s.yc⟩)) (fun _ _=>False))) (hYn:C.Y≠some .still:=by first|assumption|(intro h;simp_all [YG.still])) :
  GW P C n d none (.rangeFunc (.tmp t) ps assign body) s K :=
 znf (some pv) hg (hit pv) hxs hps tsE hp B N hN hw hdis hids rounds ⟨before,fin⟩ hYn
end

theorem nr {α:Sort _} {a b:α} (h:a=b):a=b:=h
section
variable {P:Program} {G:Hp} {V:XV} {yc:Nat} {ts:Nat→Value} {hp:Hp} {nk:Nat} {C:Eff→Prop} {dst:Option Tmp} {type:TypeId} {pos:String} {after:Array Edge} {guard:Option (Nat×Bool)}

@[simp] theorem jmy (b:Bool):nj (.bool b)=True:=nr rfl
@[simp] theorem jpu (k:IntKind) (n:Int):nj (.int k n)=True:=nr rfl
@[simp] theorem jge (s:ByteArray):nj (.string s)=True:=nr rfl
@[simp] theorem jcn (a:Option Addr):nj (.pointer a)=True:=nr rfl
@[simp] theorem jkc (a:Option Addr) (n c:Nat):nj (.slice a n c)=True:=nr rfl
@[simp] theorem jpv (a:Option Nat):nj (.map a)=True:=nr rfl
@[simp] theorem jmz (f:Fn) (a b:Array Value):nj (.func f a b)=True:=nr rfl
@[simp] theorem jcm:nj .nilFunc=True:=nr rfl
@[simp] theorem jkb (t:TypeId) (v:Value):nj (.iface t v)=True:=nr rfl
@[simp] theorem z9h:nj .nilIface=True:=nr rfl
@[simp] theorem jpt (cs:Array Value):nj (.agg cs)=True:=nr rfl
@[simp] theorem jkd (cs:Array Value):nj (.tuple cs)=True:=nr rfl

@[simp] theorem jm1 (t:Tmp):okX ts hp (.tmp t)=nj (ts t):=nr rfl
@[simp] theorem jgi (v:Value):okX ts hp (.const v)=(zav v=true):=nr rfl
@[simp] theorem jcq (g:Nat):okX ts hp (.global g)=(g<100∧(hp g).isSome=true):=nr rfl
@[simp] theorem jkg (f:FuncId):okX ts hp (.func f)=True:=nr rfl
@[simp] theorem jl3 (t:Tmp):gev ts (.tmp t)=ts t:=nr rfl
@[simp] theorem je8 (v:Value):gev ts (.const v)=v:=nr rfl
@[simp] theorem jbx (g:Nat):gev ts (.global g)=.pointer (some ⟨g,0,none⟩):=nr rfl
@[simp] theorem ji5 (f:FuncId):gev ts (.func f)=.func (.func f) #[] #[]:=nr rfl

@[simp] theorem jbq (b:Bool):zem (.bool b)=true:=nr rfl
@[simp] theorem jes (k:IntKind) (n:Int):zem (.int k n)=true:=nr rfl
@[simp] theorem z5b (s:ByteArray):zem (.string s)=true:=nr rfl
@[simp] theorem z1x:zem .nilFunc=true:=nr rfl
@[simp] theorem zz7:zem .nilIface=true:=nr rfl
@[simp] theorem z5a:zem (.pointer none)=true:=nr rfl
@[simp] theorem zz8 (n c:Nat):zem (.slice none n c)=true:=nr rfl
@[simp] theorem jbs (b:Bool):zbd (.bool b)=true:=nr rfl
@[simp] theorem jev (k:IntKind) (n:Int):zbd (.int k n)=true:=nr rfl
@[simp] theorem z5f (s:ByteArray):zbd (.string s)=true:=nr rfl
@[simp] theorem z1z:zbd .nilFunc=true:=nr rfl
@[simp] theorem z0b:zbd .nilIface=true:=nr rfl
@[simp] theorem z5e:zbd (.pointer none)=true:=nr rfl
@[simp] theorem z0c (n c:Nat):zbd (.slice none n c)=true:=nr rfl
@[simp] theorem z79 (t:TypeId) (v:Value):zbd (.iface t v)=zem v:=nr rfl
@[simp] theorem jbr (b:Bool):ze2 (.bool b)=true:=nr rfl
@[simp] theorem jeu (k:IntKind) (n:Int):ze2 (.int k n)=true:=nr rfl
@[simp] theorem z5d (s:ByteArray):ze2 (.string s)=true:=nr rfl
@[simp] theorem z1y:ze2 .nilFunc=true:=nr rfl
@[simp] theorem zz9:ze2 .nilIface=true:=nr rfl
@[simp] theorem z5c:ze2 (.pointer none)=true:=nr rfl
@[simp] theorem z0a (n c:Nat):ze2 (.slice none n c)=true:=nr rfl
@[simp] theorem z78 (t:TypeId) (v:Value):ze2 (.iface t v)=zem v:=nr rfl
@[simp] theorem jet (cs:Array Value):ze2 (.agg cs)=cs.all zbd:=nr rfl
@[simp] theorem jbt (b:Bool):zav (.bool b)=true:=nr rfl
@[simp] theorem jey (k:IntKind) (n:Int):zav (.int k n)=true:=nr rfl
@[simp] theorem z5h (s:ByteArray):zav (.string s)=true:=nr rfl
@[simp] theorem z10:zav .nilFunc=true:=nr rfl
@[simp] theorem z0d:zav .nilIface=true:=nr rfl
@[simp] theorem z5g:zav (.pointer none)=true:=nr rfl
@[simp] theorem z0e (n c:Nat):zav (.slice none n c)=true:=nr rfl
@[simp] theorem z8a (t:TypeId) (v:Value):zav (.iface t v)=zem v:=nr rfl
@[simp] theorem jew (cs:Array Value):zav (.agg cs)=cs.all zbd:=nr rfl
@[simp] theorem z8b (cs:Array Value):zav (.tuple cs)=cs.all ze2:=nr rfl

@[simp] theorem jhk (b:Bool):zh7 (.bool b)=true:=nr rfl
@[simp] theorem jkx (k:IntKind) (n:Int):zh7 (.int k n)=true:=nr rfl
@[simp] theorem jaj (s:ByteArray):zh7 (.string s)=true:=nr rfl
@[simp] theorem z6q (a:Option Addr):zh7 (.pointer a)=true:=nr rfl
@[simp] theorem jda (a:Option Addr) (n c:Nat):zh7 (.slice a n c)=true:=nr rfl
@[simp] theorem jhl (f:Fn) (a b:Array Value):zh7 (.func f a b)=true:=nr rfl
@[simp] theorem z6p:zh7 .nilFunc=true:=nr rfl
@[simp] theorem jc9 (t:TypeId) (v:Value):zh7 (.iface t v)=true:=nr rfl
@[simp] theorem z3q:zh7 .nilIface=true:=nr rfl

@[simp] theorem z6c (b:Bool):za2 (.bool b)=true:=nr rfl
@[simp] theorem z9o (k:IntKind) (n:Int):za2 (.int k n)=true:=nr rfl
@[simp] theorem z0i (s:ByteArray):za2 (.string s)=true:=nr rfl
@[simp] theorem zx2 (a:Option Addr):za2 (.pointer a)=true:=nr rfl
@[simp] theorem z23 (a:Option Addr) (n c:Nat):za2 (.slice a n c)=true:=nr rfl
@[simp] theorem z6d (f:Fn) (a b:Array Value):za2 (.func f a b)=true:=nr rfl
@[simp] theorem zx1:za2 .nilFunc=true:=nr rfl
@[simp] theorem z22 (t:TypeId) (v:Value):za2 (.iface t v)=true:=nr rfl
@[simp] theorem zvh:za2 .nilIface=true:=nr rfl
@[simp] theorem z9n (cs:Array Value):za2 (.agg cs)=cs.all zh7:=nr rfl

@[simp] theorem z9j (b:Bool):zcw (.bool b)=true:=nr rfl
@[simp] theorem jcp (k:IntKind) (n:Int):zcw (.int k n)=true:=nr rfl
@[simp] theorem z21 (s:ByteArray):zcw (.string s)=true:=nr rfl
@[simp] theorem z0h (a:Option Addr):zcw (.pointer a)=true:=nr rfl
@[simp] theorem z59 (a:Option Addr) (n c:Nat):zcw (.slice a n c)=true:=nr rfl
@[simp] theorem z9k (f:Fn) (a b:Array Value):zcw (.func f a b)=true:=nr rfl
@[simp] theorem z0g:zcw .nilFunc=true:=nr rfl
@[simp] theorem z58 (t:TypeId) (v:Value):zcw (.iface t v)=true:=nr rfl
@[simp] theorem zxx:zcw .nilIface=true:=nr rfl
@[simp] theorem jco (cs:Array Value):zcw (.agg cs)=true:=nr rfl

@[simp] theorem z93 (b:Bool):zbj (.bool b)=true:=nr rfl
@[simp] theorem jcz (k:IntKind) (n:Int):zbj (.int k n)=true:=nr rfl
@[simp] theorem z3b (s:ByteArray):zbj (.string s)=true:=nr rfl
@[simp] theorem z0l (a:Option Addr):zbj (.pointer a)=true:=nr rfl
@[simp] theorem z6k (a:Option Addr) (n c:Nat):zbj (.slice a n c)=true:=nr rfl
@[simp] theorem z0k:zbj .nilFunc=true:=nr rfl

@[simp] theorem jbk (b:Bool):(Value.bool b).cells=#[.bool b]:=nr rfl
@[simp] theorem jd9 (k:IntKind) (n:Int):(Value.int k n).cells=#[.int k n]:=nr rfl
@[simp] theorem z45 (s:ByteArray):(Value.string s).cells=#[.string s]:=nr rfl
@[simp] theorem z1g (a:Option Addr):(Value.pointer a).cells=#[.pointer a]:=nr rfl
@[simp] theorem z7w (a:Option Addr) (n c:Nat):(Value.slice a n c).cells=#[.slice a n c]:=nr rfl
@[simp] theorem jbl (f:Fn) (a b:Array Value):(Value.func f a b).cells=#[.func f a b]:=nr rfl
@[simp] theorem z1f:Value.nilFunc.cells=#[.nilFunc]:=nr rfl
@[simp] theorem z7v (t:TypeId) (v:Value):(Value.iface t v).cells=#[.iface t v]:=nr rfl
@[simp] theorem zz3:Value.nilIface.cells=#[.nilIface]:=nr rfl
@[simp] theorem jd8 (cs:Array Value):(Value.agg cs).cells=cs:=nr rfl

@[simp] theorem joc {α:Type} (f:Nat→α) (k:Nat) (v:α) (j:Nat):upd f k v j=if j=k then v else f j:=nr rfl
@[simp] theorem jla:zbh hp []=hp:=nr rfl
@[simp] theorem jib (k:Nat) (b:Blk) (l:List (Nat×Blk)):zbh hp ((k,b)::l)=zbh (upd hp k (some b)) l:=nr rfl
@[simp] theorem jg7 (d:Tmp) (v:Value):zb6 ts (some d) v=upd ts d v:=nr rfl
@[simp] theorem jg6 (v:Value):zb6 ts none v=ts:=nr rfl
@[simp] theorem jjz:zab []=[]:=nr rfl
@[simp] theorem jfp (k:Nat) (b:Blk) (l:List (Nat×Blk)):zab ((k,b)::l)=k::zab l:=nr rfl
@[simp] theorem jnz (k:Nat) (tr:Tr):zgg k [] [] tr=tr:=nr rfl
@[simp] theorem jn0 (k x:Nat) (l wr:List Nat) (tr:Tr):zgg k (x::l) wr tr=(k,x::l,wr)::tr:=nr rfl
@[simp] theorem jn1 (k x:Nat) (l:List Nat) (tr:Tr):zgg k [] (x::l) tr=(k,[],x::l)::tr:=nr rfl
@[simp] theorem jsf (v:Value) (rs:List Nat):(val v rs).v=v:=nr rfl
@[simp] theorem jqf (v:Value) (rs:List Nat):(val v rs).rs=rs:=nr rfl
@[simp] theorem jqg (v:Value) (rs:List Nat):(val v rs).ws=[]:=nr rfl
@[simp] theorem jqe (v:Value) (rs:List Nat):(val v rs).ns=[]:=nr rfl
@[simp] theorem jod (v:Value) (rs:List Nat):(val v rs).pan=none:=nr rfl
@[simp] theorem jqh (v:Value) (rs:List Nat):(val v rs).yl=false:=nr rfl
@[simp] theorem jlu (rs:List Nat) (v:Value) (ws:List (Nat×Blk)):(Res.ret v ws).eff rs=⟨v,rs,ws,[],none,false⟩:=nr rfl
@[simp] theorem jls (rs:List Nat) (v:Value) (ns:List (Nat×Blk)):(Res.new v ns).eff rs=⟨v,rs,[],ns,none,false⟩:=nr rfl
@[simp] theorem jlt (rs:List Nat) (v:Value):(Res.pan v).eff rs=⟨zcj,rs,[],[],some v,false⟩:=nr rfl
@[simp] theorem jl5 (k:Nat):zk8 k=.pointer (some ⟨k,0,none⟩):=nr rfl
@[simp] theorem jdf (c:Array Value) (o:Nat):zch c o []=c:=nr rfl
@[simp] theorem jan (c:Array Value) (o:Nat) (v:Value) (l:List Value):zch c o (v::l)=zch (c.setIfInBounds o v) (o+1) l:=nr rfl

def zzn (v:Value) (w:Bool):Option Bool :=
 match v with
 | .bool b=>some (b==w)
 | .tuple _=>some false
 | _=>none
@[simp] theorem jdm (b w:Bool):zzn (.bool b) w=some (b==w):=nr rfl
@[simp] theorem ja5 (w:Bool):zzn undef w=some false:=nr rfl
@[simp] theorem ja6 (ops:Array Oper) (op:Op):zcl ops ⟨dst,op,type,pos,after,none⟩ ts=some true:=nr rfl
def zzm (d:Option Tmp) (w:Bool) (ts:Nat→Value):Option Bool :=
 match d with
 | some d=>zzn (ts d) w
 | none=>some false
@[simp] theorem jdl (d:Tmp) (w:Bool):zzm (some d) w ts=zzn (ts d) w:=nr rfl
@[simp] theorem zq8 (ops:Array Oper) (op:Op) (j:Nat) (w:Bool):zcl ops ⟨dst,op,type,pos,after,some (j,w)⟩ ts=zzm ((ops[j]?).bind (·.dst)) w ts:=by
 unfold zcl zzm zzn
 rfl

def jdn (w:Option Bool) (a b:Prop):Prop :=
 match w with
 | some true=>a
 | some false=>b
 | none=>False
@[simp] theorem zkm (a b:Prop):jdn (some true) a b=a:=nr rfl
@[simp] theorem jdp (a b:Prop):jdn (some false) a b=b:=nr rfl
def ze5 (seen:List (Option Tmp)) (k:Nat) (o:Oper) (ts:Nat→Value):Option Bool :=
 match o.guard with
 | none=>some true
 | some (j,w)=>if j<k then zzm ((seen[k - 1 - j]?).bind id) w ts else none
@[simp] theorem z61 (seen:List (Option Tmp)) (k:Nat) (op:Op):ze5 seen k ⟨dst,op,type,pos,after,none⟩ ts=some true:=nr rfl
@[simp] theorem zo7 (seen:List (Option Tmp)) (k:Nat) (op:Op) (j:Nat) (w:Bool):ze5 seen k ⟨dst,op,type,pos,after,some (j,w)⟩ ts=if j<k then zzm ((seen[k - 1 - j]?).bind id) w ts else none:=nr rfl
structure QQ where
 q:(Nat→Value)→Hp→Tr→Nat→Prop
 p:Value→Tr→Prop
def jcv (pan:Option Value) (a:Prop) (b:Value→Prop):Prop :=
 match pan with
 | none=>a
 | some v=>b v
@[simp] theorem jgu (a:Prop) (b:Value→Prop):jcv none a b=a:=nr rfl
@[simp] theorem jgv (a:Prop) (b:Value→Prop) (v:Value):jcv (some v) a b=b v:=nr rfl
@[congr] theorem jcw {pan pan':Option Value} {a:Prop} {b:Value→Prop} (h:pan=pan'):jcv pan a b=jcv pan' a b:=by rw [h]
def zic (P:Program) (G:Hp) (V:XV) (base:Nat) (Q:QQ):List (Option Tmp)→Nat→List Oper→(Nat→Value)→Hp→Tr→Nat→Bool→Bool→Prop
 | _,_,[],ts,hp,tr,yc,_,_=>Q.q ts hp tr yc
 | seen,k,o::rest,ts,hp,tr,yc,wr,yd=>jdn (ze5 seen k o ts) (opX P G V yc o ts hp (base+8*k) fun e=>(e.yl=true→yd=false)∧jcv e.pan
    (zic P G V base Q (o.dst::seen) (k+1) rest (zb6 ts o.dst e.v) (zbh hp (e.ws++e.ns)) (zgg k (e.rs++zab e.ns) (zab e.ws++zab e.ns) tr) (if e.yl then yc+1 else yc) (wr||!e.ws.isEmpty) (yd||e.yl))
    (fun pv=>(V.dr=true→rest.isEmpty=true)∧(wr||!e.ws.isEmpty)=false∧Q.p pv (zgg k (e.rs++zab e.ns) (zab e.ws++zab e.ns) tr)))
   (unD o ts∧zic P G V base Q (o.dst::seen) (k+1) rest (zb6 ts o.dst undef) hp tr yc wr yd)
theorem zlz {ops:Array Oper} {seen:List (Option Tmp)} {k:Nat} {o:Oper} {b:Bool} (hs:∀ j,j<k→(seen[k - 1 - j]?).bind id=(ops[j]?).bind (·.dst)) (h:ze5 seen k o ts=some b):zcl ops o ts=some b:=by
 obtain ⟨dst,op,type,pos,after,guard⟩:=o
 cases guard with
 | none=>exact h
 | some p =>
  obtain ⟨j,w⟩:=p
  rw [zo7] at h
  rw [zq8]
  split at h
  ·rename_i hj;rw [hs j hj] at h;exact h
  ·cases h
theorem zw5 {C':Eff→Prop} (hc:∀ e,C e→C' e) {m k v:Value} (h:z8s hp m k v C):z8s hp m k v C':=by
 unfold z8s zt3 at *
 repeat' split at h
 all_goals first|exact h.elim|exact ⟨h.1,h.2.1,hc _ h.2.2⟩
theorem z2j {C':Eff→Prop} (hc:∀ e,C e→C' e) {m k:Value} (h:lkX hp m k C):lkX hp m k C':=by
 unfold lkX jcl at *
 repeat' split at h
 all_goals first|exact h.elim|exact ⟨h.1,hc _ h.2⟩
theorem z2v {v:Value} {C C':Eff→Prop} (hc:∀ e,C e→C' e) (h:ncX v C):ncX v C':=by
 unfold ncX at *
 split at h
 ·exact hc _ h
 ·exact h.elim
theorem z2p {u:Option TypeDesc} {v w:Value} {C C':Eff→Prop} (hc:∀ e,C e→C' e) (h:msU P nk u v w C):msU P nk u v w C':=by
 unfold msU msM msZ at *
 repeat' split at h
 all_goals first|exact h.elim|exact ⟨h.1,h.2.1,h.2.2.1,h.2.2.2.1,h.2.2.2.2.1,h.2.2.2.2.2.1,hc _ h.2.2.2.2.2.2⟩
theorem zms {o:Oper} {C':Eff→Prop} (hc:∀ e,C e→C' e) (h:opX P G V yc o ts hp nk C):opX P G V yc o ts hp nk C':=by
 have hi:=@zw5 hp C C' hc
 have hl:=@z2j hp C C' hc
 have hn:=@z2v (C:=C) (C':=C') (hc:=hc)
 have hq:=@z2p P nk (C:=C) (C':=C') (hc:=hc)
 unfold opX ztr zig za0 zps zg7 zl2 zuh at *
 repeat' split at h
 all_goals first|exact h.elim|exact ⟨h.1,h.2.1,h.2.2.1,h.2.2.2.1,h.2.2.2.2.1,hi h.2.2.2.2.2⟩|exact ⟨h.1,h.2.1,h.2.2.1,h.2.2.2.1,hl h.2.2.2.2⟩|exact ⟨h.1,hn h.2⟩|exact ⟨h.1,h.2.1,hq h.2.2⟩|skip
 all_goals grind
theorem zex {ops:Array Oper} {base:Nat} {Q:QQ}:∀ (l:List Oper) (seen:List (Option Tmp)) (k:Nat) (ts:Nat→Value) (hp:Hp) (tr:Tr) (yc:Nat) (wr yd:Bool),(∀ j,j<k→(seen[k - 1 - j]?).bind id=(ops[j]?).bind (·.dst))→(∀ i,l[i]? = ops[k+i]?) →
  zic P G V base Q seen k l ts hp tr yc wr yd→ziz P G V ops base Q.q Q.p k l ts hp tr yc wr yd
 | [],_,_,_,_,_,_,_,_,_,_,h=>h
 | o::l,seen,k,ts,hp,tr,yc,wr,yd,hs,hl,h=>by
  have ho:ops[k]? = some o:=by have:=hl 0;simpa using this.symm
  have hs':∀ j,j<k+1→((o.dst::seen)[k+1 - 1 - j]?).bind id=(ops[j]?).bind (·.dst):=fun j hj=>by
   by_cases e:j=k
   ·subst e;simp [ho]
   ·have:k+1 - 1 - j=(k - 1 - j)+1:=by omega
    rw [this,List.getElem?_cons_succ];exact hs j (by omega)
  have hl':∀ i,l[i]? = ops[k+1+i]?:=fun i=>by
   have:=hl (i+1)
   rw [List.getElem?_cons_succ] at this
   rw [this];congr 1;omega
  simp only [zic] at h
  simp only [ziz]
  cases hw:ze5 seen k o ts with
  | none=>rw [hw] at h;exact h.elim
  | some b =>
   rw [hw] at h
   rw [zlz hs hw]
   cases b with
   | true =>
    rw [zkm] at h
    refine zms (fun e he=>⟨he.1,?_⟩) h
    have he:=he.2
    cases hpn:e.pan with
    | none=>rw [hpn] at he;exact zex l _ _ _ _ _ _ _ _ hs' hl' he
    | some pv=>rw [hpn] at he;exact ⟨fun hd=>by simpa using he.1 hd,he.2⟩
   | false=>exact ⟨h.1,zex l _ _ _ _ _ _ _ _ hs' hl' h.2⟩
theorem z0s {Ct:Ctx} {n:Nat} {d:List Deferred} {ro:Option Nat} {s:GS} {K:Exit→GS→Prop} {id:Nat} {l:List Oper} (pn:List FuncId) (hm:P.follows .mixedOrders=true) (hB:Region.lexFrom .any l.toArray l.length 0 (Array.replicate l.length false)=true) (hdst:(zhj n l&&zu7 P l)=true)
  (h:∀ (Q:QQ),(∀ ts hp tr yc,chk .any l.toArray tr=true→K .normal ⟨ts,hp,s.B+8*l.length,yc⟩→Q.q ts hp tr yc) →
   (∀ pv tr,chk .any l.toArray tr=true→(∀ yc,K (.panic [{ v:=pv,recovered:=false }]) ⟨zhu l s.ts,s.hp,s.B,yc⟩)→Q.p pv tr)→zic P Ct.G ⟨Ct.Y,pn,true⟩ s.B Q [] 0 l s.ts s.hp [] s.yc false false):GW P Ct n d ro (.region id l.toArray true) s K :=
 z69 pn hm hB hdst fun Q Qp hQ hQp=>zex (Q:=⟨Q,Qp⟩) l [] 0 _ _ _ _ _ _ (fun j hj=>absurd hj (Nat.not_lt_zero j)) (fun i=>by simp) (h ⟨Q,Qp⟩ hQ hQp)
theorem zcc {Ct:Ctx} {n:Nat} {d:List Deferred} {ro:Option Nat} {s:GS} {K:Exit→GS→Prop} {id:Nat} {l:List Oper} (pn:List FuncId) (hdst:(zhj n l&&zu7 P l)=true)
  (h:∀ (Q:QQ),(∀ ts hp tr yc,K .normal ⟨ts,hp,s.B+8*l.length,yc⟩→Q.q ts hp tr yc) →
   (∀ pv tr,(∀ yc,K (.panic [{ v:=pv,recovered:=false }]) ⟨zhu l s.ts,s.hp,s.B,yc⟩)→Q.p pv tr)→zic P Ct.G ⟨Ct.Y,pn,false⟩ s.B Q [] 0 l s.ts s.hp [] s.yc false false):GW P Ct n d ro (.region id l.toArray false) s K :=
 zvq pn hdst fun Q Qp hQ hQp=>zex (Q:=⟨Q,Qp⟩) l [] 0 _ _ _ _ _ _ (fun j hj=>absurd hj (Nat.not_lt_zero j)) (fun i=>by simp) (h ⟨Q,Qp⟩ hQ hQp)

def z1d (C:Eff→Prop) (v:Value):Prop:=C (val v [])
@[simp] theorem jd6 (v:Value):z1d C v=C (val v []):=nr rfl
def zjx (P:Program) (G:Hp) (V:XV) (base:Nat) (Q:QQ) (seen:List (Option Tmp)) (k:Nat) (rest:List Oper) (dst:Option Tmp) (ts:Nat→Value) (hp:Hp) (tr:Tr) (yc:Nat) (wr yd:Bool) (e:Eff):Prop :=
 (e.yl=true→yd=false)∧jcv e.pan
    (zic P G V base Q (dst::seen) (k+1) rest (zb6 ts dst e.v) (zbh hp (e.ws++e.ns)) (zgg k (e.rs++zab e.ns) (zab e.ws++zab e.ns) tr) (if e.yl then yc+1 else yc) (wr||!e.ws.isEmpty) (yd||e.yl))
    (fun pv=>(V.dr=true→rest.isEmpty=true)∧(wr||!e.ws.isEmpty)=false∧Q.p pv (zgg k (e.rs++zab e.ns) (zab e.ws++zab e.ns) tr))
@[simp] theorem jee (base:Nat) (Q:QQ) (seen:List (Option Tmp)) (k:Nat) (rest:List Oper) (tr:Tr) (wr yd:Bool) (v:Value) (rs:List Nat):zjx P G V base Q seen k rest dst ts hp tr yc wr yd (val v rs) =
 zic P G V base Q (dst::seen) (k+1) rest (zb6 ts dst v) hp (zgg k rs [] tr) yc wr yd:=by simp [zjx]
@[simp] theorem jiy (base:Nat) (Q:QQ) (seen:List (Option Tmp)) (k:Nat) (rest:List Oper) (tr:Tr) (wr yd:Bool) (v:Value) (rs:List Nat) (ws ns:List (Nat×Blk)):zjx P G V base Q seen k rest dst ts hp tr yc wr yd ⟨v,rs,ws,ns,none,false⟩ =
 zic P G V base Q (dst::seen) (k+1) rest (zb6 ts dst v) (zbh hp (ws++ns)) (zgg k (rs++zab ns) (zab ws++zab ns) tr) yc (wr||!ws.isEmpty) yd:=by simp [zjx]
@[simp] theorem jiz (base:Nat) (Q:QQ) (seen:List (Option Tmp)) (k:Nat) (rest:List Oper) (tr:Tr) (wr yd:Bool) (v:Value):zjx P G V base Q seen k rest dst ts hp tr yc wr yd ⟨v,[],[],[],none,true⟩ =
 (yd=false∧zic P G V base Q (dst::seen) (k+1) rest (zb6 ts dst v) hp tr (yc+1) wr true):=by simp [zjx]
@[simp] theorem jec (base:Nat) (Q:QQ) (seen:List (Option Tmp)) (k:Nat) (rest:List Oper) (tr:Tr) (wr yd:Bool) (v pv:Value) (rs:List Nat):zjx P G V base Q seen k rest dst ts hp tr yc wr yd ⟨v,rs,[],[],some pv,false⟩ =
 ((V.dr=true→rest.isEmpty=true)∧wr=false∧Q.p pv (zgg k rs [] tr)):=by simp [zjx]
@[simp] theorem jed (base:Nat) (Q:QQ) (seen:List (Option Tmp)) (k:Nat) (rest:List Oper) (tr:Tr) (wr yd:Bool) (v pv:Value):zjx P G V base Q seen k rest dst ts hp tr yc wr yd ⟨v,[],[],[],some pv,true⟩ =
 (yd=false∧(V.dr=true→rest.isEmpty=true)∧wr=false∧Q.p pv tr):=by simp [zjx]
@[simp] theorem jj4 (base:Nat) (Q:QQ) (seen:List (Option Tmp)) (k:Nat) (tr:Tr) (wr yd:Bool):zic P G V base Q seen k [] ts hp tr yc wr yd=Q.q ts hp tr yc:=nr rfl
@[simp] theorem jfz (base:Nat) (Q:QQ) (seen:List (Option Tmp)) (k:Nat) (tr:Tr) (wr yd:Bool) (op:Op) (rest:List Oper):zic P G V base Q seen k (⟨dst,op,type,pos,after,guard⟩::rest) ts hp tr yc wr yd =
  jdn (ze5 seen k ⟨dst,op,type,pos,after,guard⟩ ts) (opX P G V yc ⟨dst,op,type,pos,after,guard⟩ ts hp (base+8*k) (zjx P G V base Q seen k rest dst ts hp tr yc wr yd))
   (unD ⟨dst,op,type,pos,after,guard⟩ ts∧zic P G V base Q (dst::seen) (k+1) rest (zb6 ts dst undef) hp tr yc wr yd):=nr rfl

@[simp] theorem jk6 (x:Operand):unD ⟨dst,.move x,type,pos,after,guard⟩ ts=True:=nr rfl
@[simp] theorem jdi (x:Operand):unD ⟨dst,.assign x,type,pos,after,guard⟩ ts=True:=nr rfl
@[simp] theorem jk7 (c:Operand) (x:Operand) (y:Operand):unD ⟨dst,.pick c x y,type,pos,after,guard⟩ ts=True:=nr rfl
@[simp] theorem jhy (T:TypeId):unD ⟨dst,.alloc T,type,pos,after,guard⟩ ts=True:=nr rfl
@[simp] theorem job (T:TypeId) (x:Operand):unD ⟨dst,.box T x,type,pos,after,guard⟩ ts=True:=nr rfl
@[simp] theorem jh0 (T:TypeId) (ps:Array (Nat×Operand)):unD ⟨dst,.build T ps,type,pos,after,guard⟩ ts=True:=nr rfl
@[simp] theorem z0o (T:TypeId) (n:Nat) (ps:Array (Nat×Operand)):unD ⟨dst,.buildSlice T n ps,type,pos,after,guard⟩ ts=True:=nr rfl
@[simp] theorem jk5 (T:TypeId) (x:Operand):unD ⟨dst,.load T x,type,pos,after,guard⟩ ts=True:=nr rfl
@[simp] theorem jh8 (T:TypeId) (x:Operand) (y:Operand):unD ⟨dst,.store T x y,type,pos,after,guard⟩ ts=True:=nr rfl
@[simp] theorem z60 (x:Operand):unD ⟨dst,.nilCheck x,type,pos,after,guard⟩ ts=True:=nr rfl
@[simp] theorem jhz (b:BinOp) (T:TypeId) (x:Operand) (y:Operand) (T2:TypeId):unD ⟨dst,.binOp b T x y T2,type,pos,after,guard⟩ ts=True:=nr rfl
@[simp] theorem jk8 (u:UnOp) (T:TypeId) (x:Operand):unD ⟨dst,.unOp u T x,type,pos,after,guard⟩ ts=True:=nr rfl
@[simp] theorem jaz (S:TypeId) (T:TypeId) (x:Operand):unD ⟨dst,.convert S T x,type,pos,after,guard⟩ ts=True:=nr rfl
@[simp] theorem zm5 (T:TypeId) (x:Operand):unD ⟨dst,.sliceToArrayPointer T x,type,pos,after,guard⟩ ts=True:=nr rfl
@[simp] theorem zu6 (T:TypeId) (x:Operand):unD ⟨dst,.makeInterface T x,type,pos,after,guard⟩ ts=True:=nr rfl
@[simp] theorem z6z (f:Fn) (a:Array Operand) (b:Array Operand):unD ⟨dst,.makeFunc f a b,type,pos,after,guard⟩ ts=True:=nr rfl
@[simp] theorem z31 (T:TypeId) (x:Operand) (y:Operand):unD ⟨dst,.makeSlice T x y,type,pos,after,guard⟩ ts=True:=nr rfl
@[simp] theorem jh7 (T:TypeId) (x:Operand) (lo:Option Operand) (hi:Option Operand) (mx:Option Operand):unD ⟨dst,.slice T x lo hi mx,type,pos,after,guard⟩ ts=True:=nr rfl
@[simp] theorem z3z (T:TypeId) (x:Operand) (f:Nat):unD ⟨dst,.fieldAddr T x f,type,pos,after,guard⟩ ts=True:=nr rfl
@[simp] theorem jh4 (T:TypeId) (x:Operand) (f:Nat):unD ⟨dst,.field T x f,type,pos,after,guard⟩ ts=True:=nr rfl
@[simp] theorem z30 (T:TypeId) (x:Operand) (i:Operand):unD ⟨dst,.indexAddr T x i,type,pos,after,guard⟩ ts=True:=nr rfl
@[simp] theorem jh5 (T:TypeId) (x:Operand) (i:Operand):unD ⟨dst,.index T x i,type,pos,after,guard⟩ ts=True:=nr rfl
@[simp] theorem jdk (T:TypeId) (x:Operand) (i:Operand) (ok:Bool):unD ⟨dst,.lookup T x i ok,type,pos,after,guard⟩ ts=True:=nr rfl
@[simp] theorem z0p (x:Operand) (S:TypeId) (T:TypeId) (ok:Bool):unD ⟨dst,.typeAssert x S T ok,type,pos,after,guard⟩ ts=True:=nr rfl
@[simp] theorem ja0 (x:Operand) (i:Nat):unD ⟨dst,.extract x i,type,pos,after,guard⟩ ts=True:=nr rfl
@[simp] theorem jh6 (x:Operand):unD ⟨dst,.panic x,type,pos,after,guard⟩ ts=True:=nr rfl
@[simp] theorem ja1 (T:TypeId) (r:Option Operand):unD ⟨dst,.makeMap T r,type,pos,after,guard⟩ ts=True:=nr rfl
@[simp] theorem jdj (T:TypeId) (a:Operand) (b:Operand) (c2:Operand):unD ⟨dst,.insert T a b c2,type,pos,after,guard⟩ ts=True:=nr rfl
@[simp] theorem z32 (T:TypeId) (a:Operand) (b:Operand) (c2:Operand):unD ⟨dst,.mapUpdate T a b c2,type,pos,after,guard⟩ ts=True:=nr rfl
@[simp] theorem jh3 (t:Tmp) (a:Array Operand) (T:Array TypeId):unD ⟨dst,.call ⟨.value (.tmp t),a,T⟩,type,pos,after,guard⟩ ts=(ts t=undef):=nr rfl
@[simp] theorem jh2 (f:FuncId) (a:Array Operand) (T:Array TypeId):unD ⟨dst,.call ⟨.value (.func f),a,T⟩,type,pos,after,guard⟩ ts=True:=nr rfl
@[simp] theorem jh1 (b:Builtin) (a:Array Operand) (T:Array TypeId):unD ⟨dst,.call ⟨.builtin b,a,T⟩,type,pos,after,guard⟩ ts=True:=nr rfl

def z5l (u:Option TypeDesc) (T:TypeId) (v:Value) (C:Eff→Prop):Prop :=
 match u with
 | some (.interface _)=>False
 | some _=>C (val (.iface T v) [])
 | none=>False
@[simp ↓] theorem jkl (x:Operand):opX P G V yc ⟨dst,.move x,type,pos,after,guard⟩ ts hp nk C=(okX ts hp x∧C (val (gev ts x) [])):=nr rfl
@[simp ↓] theorem jcr (x:Operand):opX P G V yc ⟨dst,.assign x,type,pos,after,guard⟩ ts hp nk C=(okX ts hp x∧C (val (gev ts x) [])):=nr rfl
def z29 (ts:Nat→Value) (hp:Hp) (v:Value) (x y:Operand) (C:Eff→Prop):Prop :=
 match v with
 | .bool b=>(b=true→okX ts hp x)∧(b=false→okX ts hp y)∧C (val (if b then gev ts x else gev ts y) [])
 | _=>False
@[simp] theorem jcy (b:Bool) (x y:Operand):z29 ts hp (.bool b) x y C=((b=true→okX ts hp x)∧(b=false→okX ts hp y)∧C (val (if b then gev ts x else gev ts y) [])):=nr rfl
@[simp ↓] theorem jkm (c x y:Operand):opX P G V yc ⟨dst,.pick c x y,type,pos,after,guard⟩ ts hp nk C=(okX ts hp c∧z29 ts hp (gev ts c) x y C):=nr rfl
def zrm (z:Option Value) (nk:Nat) (T:TypeId) (C:Eff→Prop):Prop :=
 match z with
 | some z=>za2 z=true∧zav z=true∧C ⟨zk8 nk,[],[],[(nk,⟨z.cells,T⟩)],none,false⟩
 | none=>False
@[simp] theorem z7l (z:Value) (T:TypeId):zrm (some z) nk T C=(za2 z=true∧zav z=true∧C ⟨zk8 nk,[],[],[(nk,⟨z.cells,T⟩)],none,false⟩):=nr rfl
@[simp ↓] theorem jgk (T:TypeId):opX P G V yc ⟨dst,.alloc T,type,pos,after,guard⟩ ts hp nk C=zrm (zbg P T) nk T C:=nr rfl
@[simp ↓] theorem jm4 (T:TypeId) (x:Operand):opX P G V yc ⟨dst,.box T x,type,pos,after,guard⟩ ts hp nk C=(okX ts hp x∧za2 (gev ts x)=true∧C ⟨zk8 nk,[],[],[(nk,⟨(gev ts x).cells,T⟩)],none,false⟩):=nr rfl
def zoe (v:Option Value) (k:Nat) (C:Eff→Prop):Prop :=
 match v with
 | some v=>C (val v [k])
 | none=>False
@[simp] theorem z88 (v:Value) (k:Nat):zoe (some v) k C=C (val v [k]):=nr rfl
def zod (P:Program) (T:TypeId) (b:Option Blk) (k off:Nat) (C:Eff→Prop):Prop :=
 match b with
 | some b=>zoe (zdk P T b off) k C
 | none=>False
@[simp] theorem jj7 (T t:TypeId) (c:Array Value) (off:Nat):zdk P T ⟨c,.ty t⟩ off=zce P T c off:=nr rfl
@[simp] theorem z87 (T:TypeId) (b:Blk) (k off:Nat):zod P T (some b) k off C=zoe (zdk P T b off) k C:=nr rfl
def z2k (P:Program) (T:TypeId) (hp:Hp) (v:Value) (C:Eff→Prop):Prop :=
 match v with
 | .pointer (some ⟨k,off,none⟩)=>zod P T (hp k) k off C
 | _=>False
@[simp] theorem jf2 (T:TypeId) (k off:Nat):z2k P T hp (.pointer (some ⟨k,off,none⟩)) C=zod P T (hp k) k off C:=nr rfl
@[simp ↓] theorem jkk (T:TypeId) (x:Operand):opX P G V yc ⟨dst,.load T x,type,pos,after,guard⟩ ts hp nk C=(okX ts hp x∧z2k P T hp (gev ts x) C):=nr rfl
def zki (P:Program) (T:TypeId) (b:Option Blk) (k off:Nat) (w:Value) (C:Eff→Prop):Prop :=
 match b with
 | some b=>b.T.own=true∧za2 w=true∧zat P T=some w.cells.size∧off+w.cells.size≤b.c.size∧100≤k∧C ⟨undef,[k],[(k,⟨zch b.c off w.cells.toList,b.T⟩)],[],none,false⟩
 | none=>False
@[simp] theorem z6x (T:TypeId) (c:Array Value) (T':BTy) (k off:Nat) (w:Value):zki P T (some ⟨c,T'⟩) k off w C=(BTy.own T'=true∧za2 w=true∧zat P T=some w.cells.size∧off+w.cells.size≤c.size∧100≤k∧C ⟨undef,[k],[(k,⟨zch c off w.cells.toList,T'⟩)],[],none,false⟩):=nr rfl
def zs1 (P:Program) (T:TypeId) (hp:Hp) (v w:Value) (C:Eff→Prop):Prop :=
 match v with
 | .pointer (some ⟨k,off,none⟩)=>zki P T (hp k) k off w C
 | _=>False
@[simp] theorem jdg (T:TypeId) (k off:Nat) (w:Value):zs1 P T hp (.pointer (some ⟨k,off,none⟩)) w C=zki P T (hp k) k off w C:=nr rfl
@[simp ↓] theorem jgs (T:TypeId) (x y:Operand):opX P G V yc ⟨dst,.store T x y,type,pos,after,guard⟩ ts hp nk C=(okX ts hp x∧okX ts hp y∧zs1 P T hp (gev ts x) (gev ts y) C):=nr rfl
@[simp ↓] theorem z9t (T:TypeId) (y:Option Operand):opX P G V yc ⟨dst,.makeMap T y,type,pos,after,guard⟩ ts hp nk C=(y.isNone=true∧C ⟨.map (some nk),[],[],[(nk,mpB [])],none,false⟩):=nr rfl
@[simp] theorem ji4 (f:Fn) (a b:Array Value):fnV (.func f a b)=true:=nr rfl
@[simp] theorem jca (l:List (ByteArray×Value)) (k:Nat) (s:ByteArray) (v:Value):zt3 (some (mpB l)) k s v C=(zc3 s l=none∧100≤k∧C ⟨undef,[k],[(k,mpB (l++[(s,v)]))],[],none,false⟩):=by simp [zt3,zsj]
@[simp] theorem jjh (q:Nat) (s:ByteArray) (v:Value):z8s hp (.map (some q)) (.string s) v C=zt3 (hp q) q s v C:=nr rfl
@[simp ↓] theorem jct (T:TypeId) (m k x:Operand):opX P G V yc ⟨dst,.insert T m k x,type,pos,after,guard⟩ ts hp nk C=(okX ts hp m∧okX ts hp k∧okX ts hp x∧zgf P T=true∧fnV (gev ts x)=true∧z8s hp (gev ts m) (gev ts k) (gev ts x) C):=nr rfl
def jms (v:Option Value) (k:Nat) (C:Eff→Prop):Prop:=match v with
 | some v=>fnV v=true∧C (val v [k])
 | none=>False
@[simp] theorem jf1 (v:Value) (k:Nat):jms (some v) k C=(fnV v=true∧C (val v [k])):=nr rfl
@[simp] theorem jf0 (l:List (ByteArray×Value)) (k:Nat) (s:ByteArray):jcl (some (mpB l)) k s C=jms (zc3 s l) k C:=by unfold jcl jms;rw [Option.bind_some,zsj];rfl
@[simp] theorem jmt (q:Nat) (s:ByteArray):lkX hp (.map (some q)) (.string s) C=jcl (hp q) q s C:=nr rfl
@[simp ↓] theorem jcu (T:TypeId) (x i:Operand) (ok:Bool):opX P G V yc ⟨dst,.lookup T x i ok,type,pos,after,guard⟩ ts hp nk C=(okX ts hp x∧okX ts hp i∧ok=false∧zgf P T=true∧lkX hp (gev ts x) (gev ts i) C):=nr rfl
def zf3 (v:Option Value) (C:Eff→Prop):Prop :=
 match v with
 | some v=>zcw v=true∧C (val v [])
 | none=>False
@[simp] theorem zz4 (v:Value):zf3 (some v) C=(zcw v=true∧C (val v [])):=nr rfl
def zjd (v:Value) (i:Nat) (C:Eff→Prop):Prop :=
 match v with
 | .tuple vs=>zf3 vs[i]? C
 | _=>False
@[simp] theorem zz6 (vs:Array Value) (i:Nat):zjd (.tuple vs) i C=zf3 vs[i]? C:=nr rfl
@[simp ↓] theorem z9s (x:Operand) (i:Nat):opX P G V yc ⟨dst,.extract x i,type,pos,after,guard⟩ ts hp nk C=(okX ts hp x∧zjd (gev ts x) i C):=nr rfl
def zp1 (s:Option Nat) (k off:Nat) (m:Int) (C:Eff→Prop):Prop :=
 match s with
 | some s=>C (val (.pointer (some ⟨k,off+m.toNat*s,none⟩)) [])
 | none=>False
@[simp] theorem jb5 (s k off:Nat) (m:Int):zp1 (some s) k off m C=C (val (.pointer (some ⟨k,off+m.toNat*s,none⟩)) []):=nr rfl
def zw1 (P:Program) (v:Value) (len:Nat) (e:TypeId) (m:Int) (C:Eff→Prop):Prop :=
 match v with
 | .pointer (some ⟨k,off,none⟩)=>(0≤m∧m<len)∧zp1 (zat P e) k off m C
 | _=>False
@[simp] theorem jfl (k off len:Nat) (e:TypeId) (m:Int):zw1 P (.pointer (some ⟨k,off,none⟩)) len e m C=((0≤m∧m<len)∧zp1 (zat P e) k off m C):=nr rfl
def zw2 (P:Program) (v:Value) (e:TypeId) (m:Int) (C:Eff→Prop):Prop :=
 match v with
 | .slice (some ⟨k,off,none⟩) len _=>(0≤m∧m<len)∧zp1 (zat P e) k off m C
 | _=>False
@[simp] theorem z8r (k off len cap:Nat) (e:TypeId) (m:Int):zw2 P (.slice (some ⟨k,off,none⟩) len cap) e m C=((0≤m∧m<len)∧zp1 (zat P e) k off m C):=nr rfl
def jb4 (P:Program) (u:Option TypeDesc) (v:Value) (m:Int) (C:Eff→Prop):Prop :=
 match u with
 | some (.array len e)=>zw1 P v len e m C
 | some (.slice e)=>zw2 P v e m C
 | _=>False
@[simp] theorem jb6 (len:Nat) (e:TypeId) (v:Value) (m:Int):jb4 P (some (.array len e)) v m C=zw1 P v len e m C:=nr rfl
@[simp] theorem jb8 (e:TypeId) (v:Value) (m:Int):jb4 P (some (.slice e)) v m C=zw2 P v e m C:=nr rfl
def z18 (P:Program) (T:TypeId) (i v:Value) (C:Eff→Prop):Prop :=
 match i with
 | .int _ m=>jb4 P (P.underlying T) v m C
 | _=>False
@[simp] theorem jfk (T:TypeId) (k:IntKind) (m:Int) (v:Value):z18 P T (.int k m) v C=jb4 P (P.underlying T) v m C:=nr rfl
@[simp ↓] theorem jgp (T:TypeId) (x i:Operand):opX P G V yc ⟨dst,.indexAddr T x i,type,pos,after,guard⟩ ts hp nk C=(okX ts hp x∧okX ts hp i∧z18 P T (gev ts i) (gev ts x) C):=nr rfl
def z0f (ts:Nat→Value) (args:Array Operand):List Value:=args.toList.map (gev ts)
@[simp] theorem jl4 (l:List Operand):z0f ts l.toArray=l.map (gev ts):=by simp [z0f]
def znc (P:Program) (e:TypeId) (s:Option Nat) (v:Value) (m:Int) (C:Eff→Prop):Prop :=
 match s with
 | some s=>match v with
  | .agg cs=>unX' (zce P e cs (m.toNat*s)) C
  | _=>False
 | none=>False
where unX' (v:Option Value) (C:Eff→Prop):Prop :=
 match v with
 | some v=>C (val v [])
 | none=>False
@[simp] theorem jfj (e:TypeId) (s:Nat) (cs:Array Value) (m:Int):znc P e (some s) (.agg cs) m C=znc.unX' (zce P e cs (m.toNat*s)) C:=nr rfl
@[simp] theorem jmd (v:Value):znc.unX' (some v) C=C (val v []):=nr rfl
@[congr] theorem z17 {v v':Option Value} (h:v=v'):znc.unX' v C=znc.unX' v' C:=by rw [h]
@[congr] theorem jb3 {e:TypeId} {s s':Option Nat} {v v':Value} {m m':Int} (h1:s=s') (h2:v=v') (h3:m=m'):znc P e s v m C=znc P e s' v' m' C:=by rw [h1,h2,h3]
def z5k (s:ByteArray) (m:Int) (C:Eff→Prop):Prop :=
 match (if 0≤m then s[m.toNat]? else none) with
 | some b=>C (val (.int .u8 b.toNat) [])
 | none=>False
def zt2 (v:Value) (m:Int) (C:Eff→Prop):Prop :=
 match v with
 | .string s=>z5k s m C
 | _=>False
@[simp] theorem jfi (s:ByteArray) (m:Int):zt2 (.string s) m C=z5k s m C:=nr rfl
@[congr] theorem z8l {v v':Value} {m m':Int} (h1:v=v') (h2:m=m'):zt2 v m C=zt2 v' m' C:=by rw [h1,h2]
@[congr] theorem jb2 {s s':ByteArray} {m m':Int} (h1:s=s') (h2:m=m'):z5k s m C=z5k s' m' C:=by rw [h1,h2]
theorem z8m {s:ByteArray} {m:Int} {b:UInt8} (h0:0≤m) (h:s[m.toNat]? = some b):z5k s m C=C (val (.int .u8 b.toNat) []):=by simp [z5k,h0,h]
def z8k (P:Program) (u:Option TypeDesc) (v:Value) (m:Int) (C:Eff→Prop):Prop :=
 match u with
 | some (.array len e)=>(0≤m∧m<len)∧znc P e (zat P e) v m C
 | some .string=>zt2 v m C
 | _=>False
@[simp] theorem jjg (v:Value) (m:Int):z8k P (some .string) v m C=zt2 v m C:=nr rfl
@[simp] theorem jjf (len:Nat) (e:TypeId) (v:Value) (m:Int):z8k P (some (.array len e)) v m C=((0≤m∧m<len)∧znc P e (zat P e) v m C):=nr rfl
@[congr] theorem jb1 {u u':Option TypeDesc} {v v':Value} {m m':Int} (h1:u=u') (h2:v=v') (h3:m=m'):z8k P u v m C=z8k P u' v' m' C:=by rw [h1,h2,h3]
def jfh (P:Program) (T:TypeId) (i v:Value) (C:Eff→Prop):Prop :=
 match i with
 | .int _ m=>z8k P (P.underlying T) v m C
 | _=>False
@[simp] theorem jje (T:TypeId) (k:IntKind) (m:Int) (v:Value):jfh P T (.int k m) v C=z8k P (P.underlying T) v m C:=nr rfl
@[congr] theorem jb0 {T:TypeId} {i i' v v':Value} (h1:i=i') (h2:v=v'):jfh P T i v C=jfh P T i' v' C:=by rw [h1,h2]
@[simp ↓] theorem jcs (T:TypeId) (x i:Operand):opX P G V yc ⟨dst,.index T x i,type,pos,after,guard⟩ ts hp nk C=(okX ts hp x∧okX ts hp i∧jfh P T (gev ts i) (gev ts x) C):=by
 simp only [opX,jfh]
 congr 2
 cases gev ts i<;>first|rfl|skip
 unfold z8k
 simp only
 cases hu:P.underlying T with
 | none=>rfl
 | some u =>
  cases u<;>first|rfl|skip
  ·simp only
   unfold znc
   cases hg:gev ts x<;>cases hs:zat P _<;>first|rfl|(simp;done)|skip
   all_goals (simp only [znc.unX'];cases zce P _ _ _<;>rfl)
  all_goals (simp only;unfold zt2 z5k;cases gev ts x<;>rfl)
def je2 (P:Program) (f:Option (TypeId×Nat)) (v:Value) (C:Eff→Prop):Prop :=
 match f with
 | some (t,off)=>match v with
  | .agg cs=>znc.unX' (zce P t cs off) C
  | _=>False
 | none=>False
@[simp] theorem je3 (t:TypeId) (off:Nat) (cs:Array Value):je2 P (some (t,off)) (.agg cs) C=znc.unX' (zce P t cs off) C:=nr rfl
@[congr] theorem jbv {f f':Option (TypeId×Nat)} {v v':Value} (h1:f=f') (h2:v=v'):je2 P f v C=je2 P f' v' C:=by rw [h1,h2]
@[simp ↓] theorem jgn (T:TypeId) (x:Operand) (f:Nat):opX P G V yc ⟨dst,.field T x f,type,pos,after,guard⟩ ts hp nk C=(okX ts hp x∧je2 P (fdX P T f) (gev ts x) C):=by
 simp only [opX,je2]
 congr 1
def ji3 (f:Option (TypeId×Nat)) (v:Value) (C:Eff→Prop):Prop :=
 match f with
 | some (_,off)=>match v with
  | .pointer (some ⟨k,o,none⟩)=>C (val (.pointer (some ⟨k,o+off,none⟩)) [])
  | _=>False
 | none=>False
@[simp] theorem jep (t:TypeId) (off k o:Nat):ji3 (some (t,off)) (.pointer (some ⟨k,o,none⟩)) C=C (val (.pointer (some ⟨k,o+off,none⟩)) []):=nr rfl
@[congr] theorem jbn {f f':Option (TypeId×Nat)} {v v':Value} (h1:f=f') (h2:v=v'):ji3 f v C=ji3 f' v' C:=by rw [h1,h2]
@[simp] theorem jq9 (k o:Nat):ncX (.pointer (some ⟨k,o,none⟩)) C=C (val (.pointer (some ⟨k,o,none⟩)) []):=nr rfl
@[congr] theorem jgb {v v':Value} (h:v=v'):ncX v C=ncX v' C:=by rw [h]
@[simp ↓] theorem z6h (x:Operand):opX P G V yc ⟨dst,.nilCheck x,type,pos,after,guard⟩ ts hp nk C=(okX ts hp x∧ncX (gev ts x) C):=nr rfl
@[simp ↓] theorem z25 (T:TypeId) (x:Operand) (f:Nat):opX P G V yc ⟨dst,.fieldAddr T x f,type,pos,after,guard⟩ ts hp nk C=(okX ts hp x∧ji3 (fdX P T f) (gev ts x) C):=nr rfl
def je5 (ts:Nat→Value) (o:Option Operand):Option Value:=o.map (gev ts)
@[simp] theorem je7 (x:Operand):je5 ts (some x)=some (gev ts x):=nr rfl
@[simp] theorem je6:je5 ts none=none:=nr rfl
@[simp ↓] theorem jgr (T:TypeId) (x:Operand) (lo hi mx:Option Operand):opX P G V yc ⟨dst,.slice T x lo hi mx,type,pos,after,guard⟩ ts hp nk C =
 (okX ts hp x∧(∀ y∈lo.toList,okX ts hp y)∧(∀ y∈hi.toList,okX ts hp y)∧mx.isNone=true∧znc.unX' (slX P T (gev ts x) (je5 ts lo) (je5 ts hi)) C):=by
 simp only [opX,je5]
 cases slX P T (gev ts x) (lo.map (gev ts)) (hi.map (gev ts))<;>rfl
def slU (P:Program) (u:Option TypeDesc) (v:Value) (lo hi:Option Value):Option Value :=
 match u with
 | some (.array n e)=>match v with
  | .pointer (some ⟨k,off,none⟩)=>match zat P e with
   | some s=>slV (some (k,off)) s n (zdx n n lo hi)
   | none=>none
  | _=>none
 | some (.slice e)=>match v with
  | .slice (some ⟨k,off,none⟩) n c=>match zat P e with
   | some s=>slV (some (k,off)) s c (zdx n c lo hi)
   | none=>none
  | .slice none n c=>match zat P e with
   | some s=>slV none s c (zdx n c lo hi)
   | none=>none
  | _=>none
 | some .string=>match v with
  | .string s=>slS s (zdx s.size s.size lo hi)
  | _=>none
 | _=>none
@[simp] theorem jqb (T:TypeId) (v:Value) (lo hi:Option Value):slX P T v lo hi=slU P (P.underlying T) v lo hi:=nr rfl
def slZ (a:Option (Nat×Nat)) (s:Option Nat) (c:Nat) (p:Option (Nat×Nat)):Option Value :=
 match s with
 | some s=>slV a s c p
 | none=>none
@[simp] theorem jk2 (a:Option (Nat×Nat)) (s c:Nat) (p:Option (Nat×Nat)):slZ a (some s) c p=slV a s c p:=nr rfl
@[simp] theorem jnv (n:Nat) (e:TypeId) (k off:Nat) (lo hi:Option Value):slU P (some (.array n e)) (.pointer (some ⟨k,off,none⟩)) lo hi=slZ (some (k,off)) (zat P e) n (zdx n n lo hi):=nr rfl
@[simp] theorem jhp (e:TypeId) (k off n c:Nat) (lo hi:Option Value):slU P (some (.slice e)) (.slice (some ⟨k,off,none⟩) n c) lo hi=slZ (some (k,off)) (zat P e) c (zdx n c lo hi):=nr rfl
@[simp] theorem jnw (e:TypeId) (n c:Nat) (lo hi:Option Value):slU P (some (.slice e)) (.slice none n c) lo hi=slZ none (zat P e) c (zdx n c lo hi):=nr rfl
@[simp] theorem jnx (s:ByteArray) (lo hi:Option Value):slU P (some .string) (.string s) lo hi=slS s (zdx s.size s.size lo hi):=nr rfl
@[simp] theorem jk1 (k off s c l h:Nat):slV (some (k,off)) s c (some (l,h))=some (.slice (some ⟨k,if c=l then off else off+l*s,none⟩) (h - l) (c - l)):=nr rfl
@[simp] theorem jk0 (s c l h:Nat):slV none s c (some (l,h))=some (.slice none (h - l) (c - l)):=nr rfl
@[simp] theorem jkz (s:ByteArray) (l h:Nat):slS s (some (l,h))=some (.string (s.extract l h)):=nr rfl
@[simp] theorem ji6 (len cap:Nat):hiG len cap none=some len:=nr rfl
@[simp] theorem ji7 (len cap:Nat) (k:IntKind) (m:Int):hiG len cap (some (.int k m))=if 0≤m∧m≤cap then some m.toNat else none:=nr rfl
@[simp] theorem jj5 (h:Nat):loG h none=some 0:=nr rfl
@[simp] theorem jj6 (h:Nat) (k:IntKind) (m:Int):loG h (some (.int k m))=if 0≤m∧m≤h then some m.toNat else none:=nr rfl
def z6v (lo:Option Value) (h:Option Nat):Option (Nat×Nat) :=
 match h with
 | none=>none
 | some h=>(loG h lo).map fun l=>(l,h)
@[simp] theorem jhq (len cap:Nat) (lo hi:Option Value):zdx len cap lo hi=z6v lo (hiG len cap hi):=nr rfl
@[simp] theorem jam (lo:Option Value) (h:Nat):z6v lo (some h)=(loG h lo).map fun l=>(l,h):=nr rfl
@[simp ↓] theorem jm2 (T:TypeId) (x:Operand):opX P G V yc ⟨dst,.sliceToArrayPointer T x,type,pos,after,guard⟩ ts hp nk C=(okX ts hp x∧znc.unX' (jbh P T (gev ts x)) C):=by
 simp only [opX]
 cases jbh P T (gev ts x)<;>rfl
def jov (u:Option TypeDesc) (v:Value):Option Value :=
 match u with
 | some (.array n _)=>match v with
  | .slice a len _=>if n≤len then some (.pointer a) else none
  | _=>none
 | _=>none
@[simp] theorem jlm (T:TypeId) (v:Value):jbh P T v=jov (P.underlying T) v:=nr rfl
@[simp] theorem jio (n:Nat) (e:TypeId) (a:Option Addr) (len c:Nat):jov (some (.array n e)) (.slice a len c)=if n≤len then some (.pointer a) else none:=nr rfl
def jj1 (u:Option TypeDesc) (v:Value):Option Value :=
 match u with
 | some .string=>match v with
  | .string s=>some (.int .i64 s.size)
  | _=>none
 | some (.array n _)=>some (.int .i64 n)
 | some (.slice _)=>match v with
  | .slice _ n _=>some (.int .i64 n)
  | _=>none
 | _=>none
@[simp] theorem jmr (T:TypeId) (v:Value):jcj P T v=jj1 (P.underlying T) v:=nr rfl
@[simp] theorem jj3 (s:ByteArray):jj1 (some .string) (.string s)=some (.int .i64 s.size):=nr rfl
@[simp] theorem jj2 (n:Nat) (e:TypeId) (v:Value):jj1 (some (.array n e)) v=some (.int .i64 n):=nr rfl
@[simp] theorem jci (e:TypeId) (a:Option Addr) (n c:Nat):jj1 (some (.slice e)) (.slice a n c)=some (.int .i64 n):=nr rfl
@[simp ↓] theorem jm5 (x:Operand) (T:TypeId):opX P G V yc ⟨dst,.call ⟨.builtin .len,#[x],#[T]⟩,type,pos,after,guard⟩ ts hp nk C=(okX ts hp x∧znc.unX' (jcj P T (gev ts x)) C):=by
 simp only [opX,ztr,zk1]
 simp
 intro _
 cases jcj P T (gev ts x)<;>rfl
@[simp] theorem jmv (k k':IntKind) (a c:Int):zqb true (.int k a) (.int k' c)=some (.int k (if a<c then c else a)):=nr rfl
@[simp] theorem jmu (k k':IntKind) (a c:Int):zqb false (.int k a) (.int k' c)=some (.int k (if c<a then c else a)):=nr rfl
def jpq (b:Bool) (z:Option Value) (l:List Value):Option Value :=
 match z with
 | some z=>zpe b z l
 | none=>none
@[simp] theorem jf8 (b:Bool) (z:Value) (l:List Value):jpq b (some z) l=zpe b z l:=nr rfl
@[simp] theorem jj9 (b:Bool) (k:IntKind) (a:Int):zpe b (.int k a) []=some (.int k a):=nr rfl
@[simp] theorem jf6 (b:Bool) (x y:Value) (l:List Value):zpe b x (y::l)=jpq b (zqb b x y) l:=nr rfl
@[simp] theorem jf7 (b:Bool) (x:Value) (l:List Value):zxo b (x::l)=zpe b x l:=nr rfl
@[simp ↓] theorem jm6 (l:List Operand) (T:Array TypeId):opX P G V yc ⟨dst,.call ⟨.builtin .max,l.toArray,T⟩,type,pos,after,guard⟩ ts hp nk C=((∀ x∈l,okX ts hp x)∧znc.unX' (zxo true (z0f ts l.toArray)) C):=by
 simp only [opX,ztr,zk1,z0f]
 cases zxo true (l.map (gev ts))<;>rfl
@[simp ↓] theorem jm7 (l:List Operand) (T:Array TypeId):opX P G V yc ⟨dst,.call ⟨.builtin .min,l.toArray,T⟩,type,pos,after,guard⟩ ts hp nk C=((∀ x∈l,okX ts hp x)∧znc.unX' (zxo false (z0f ts l.toArray)) C):=by
 simp only [opX,ztr,zk1,z0f]
 cases zxo false (l.map (gev ts))<;>rfl
def pnX (v:Value) (C:Eff→Prop):Prop :=
 match v with
 | .iface T u=>C ⟨zcj,[],[],[],some (.iface T u),false⟩
 | _=>False
@[simp ↓] theorem jgq (x:Operand):opX P G V yc ⟨dst,.panic x,type,pos,after,guard⟩ ts hp nk C=(okX ts hp x∧zav (gev ts x)=true∧pnX (gev ts x) C):=nr rfl
@[simp] theorem jg3 (T:TypeId) (u:Value):pnX (.iface T u) C=C ⟨zcj,[],[],[],some (.iface T u),false⟩:=nr rfl
@[congr] theorem jg2 {v v':Value} (h:v=v'):pnX v C=pnX v' C:=by rw [h]
@[simp] theorem jko (v:Value):(Out.ret v).eff=val v []:=nr rfl
@[simp] theorem jkn (v:Value):(Out.pan v).eff=⟨zcj,[],[],[],some v,false⟩:=nr rfl
@[simp ↓] theorem z6g (fn:Fn) (first cap:Array Operand):opX P G V yc ⟨dst,.makeFunc fn first cap,type,pos,after,guard⟩ ts hp nk C =
 ((∀ x∈first.toList,okX ts hp x∧zbj (gev ts x)=true)∧(∀ x∈cap.toList,okX ts hp x∧zbj (gev ts x)=true)∧C (val (.func fn (first.map (gev ts)) (cap.map (gev ts))) [])):=nr rfl
def z7n (P:Program) (v:Option Value) (o:Oper) (ts:Nat→Value) (hp:Hp) (C:Eff→Prop):Prop :=
 match v with
 | some v=>C (val v [])
 | none=>zuh P o ts hp fun v=>C (val v [])
@[simp] theorem jd3 (v:Value) (o:Oper):z7n P (some v) o ts hp C=C (val v []):=nr rfl
@[simp ↓] theorem jm3 (op:BinOp) (T yT:TypeId) (x y:Operand):opX P G V yc ⟨dst,.binOp op T x y yT,type,pos,after,guard⟩ ts hp nk C =
 (okX ts hp x∧okX ts hp y∧z7n P (zmc P op T (gev ts x) (gev ts y)) ⟨dst,.binOp op T x y yT,type,pos,after,guard⟩ ts hp C):=nr rfl
def unX (v:Option Value) (C:Eff→Prop):Prop :=
 match v with
 | some v=>C (val v [])
 | none=>False
@[simp] theorem jk9 (v:Value):unX (some v) C=C (val v []):=nr rfl
@[simp ↓] theorem jpw (op:UnOp) (T:TypeId) (x:Operand):opX P G V yc ⟨dst,.unOp op T x,type,pos,after,guard⟩ ts hp nk C=(okX ts hp x∧unX (un1 op (gev ts x)) C):=nr rfl
@[simp ↓] theorem jkj (S T:TypeId) (x:Operand):opX P G V yc ⟨dst,.convert S T x,type,pos,after,guard⟩ ts hp nk C=(okX ts hp x∧z7n P (zmg P S T (gev ts x)) ⟨dst,.convert S T x,type,pos,after,guard⟩ ts hp C):=nr rfl
@[simp] theorem jm0 (t:Tmp):okT ts (.tmp t)=nj (ts t):=nr rfl
@[simp] theorem jgh (v:Value):okT ts (.const v)=(zav v=true):=nr rfl
@[simp] theorem jkf (f:FuncId):okT ts (.func f)=True:=nr rfl
def zkr (b:Bool) (x y:Prop):Prop :=
 match b with
 | true=>x
 | false=>y
@[simp] theorem zue (x y:Prop):zkr true x y=x:=nr rfl
@[simp] theorem z9z (x y:Prop):zkr false x y=y:=nr rfl
@[congr] theorem z9y {b b':Bool} {x y:Prop} (h:b=b'):zkr b x y=zkr b' x y:=by rw [h]
def znm (l:List Value):Array Value:=l.toArray
@[simp] theorem jin (l:List Value):znm l=l.toArray:=nr rfl
def zjt (P:Program) (G:Hp) (V:XV) (nk yc:Nat) (ts:Nat→Value) (hp:Hp) (v:Value) (args:Array Operand) (C:Eff→Prop):Prop:=zig P G V nk yc ts hp v args C
@[congr] theorem z41 {v v':Value} {args:Array Operand} (h:v=v'):zjt P G V nk yc ts hp v args C=zjt P G V nk yc ts hp v' args C:=by rw [h]
def znp (P:Program) (G:Hp) (V:XV) (nk:Nat) (hp:Hp) (g:FuncId) (l:List Value) (cap:List Value) (C:Eff→Prop):Prop :=
 zkr (cap.isEmpty&&!V.pn.contains g&&l.all zav) (zkr (V.pn.contains (g+1000000)) (zps P G g (znm l) C) (za0 P G g (znm l) (z1d C))) (cap.all zbj=true∧zg7 P G g (znm (l++cap)) hp nk C)
@[congr] theorem z43 {g:FuncId} {l l' cap cap':List Value} (h:l=l') (h':cap=cap'):znp P G V nk hp g l cap C=znp P G V nk hp g l' cap' C:=by rw [h,h']
@[simp] theorem jd7 (g:FuncId) (l cap:List Value):znp P G V nk hp g l cap C=zkr (cap.isEmpty&&!V.pn.contains g&&l.all zav) (zkr (V.pn.contains (g+1000000)) (zps P G g (znm l) C) (za0 P G g (znm l) (z1d C))) (cap.all zbj=true∧zg7 P G g (znm (l++cap)) hp nk C):=nr rfl
@[simp] theorem z7t (g:FuncId) (args:List Operand) (capv:List Value):zjt P G V nk yc ts hp (.func (.func g) #[] capv.toArray) args.toArray C=((∀ x∈args,okX ts hp x)∧znp P G V nk hp g (z0f ts args.toArray) capv C):=by
 have e:(Array.map (gev ts) args.toArray)=(args.map (gev ts)).toArray:=by simp
 have ea:((args.map (gev ts)).toArray++capv.toArray)=(args.map (gev ts)++capv).toArray:=by simp
 unfold zjt zig znp z1d z0f znm
 simp only [e,ea,List.size_toArray,List.length_nil,true_and]
 congr 1
 by_cases h:capv=[]∧V.pn.contains g=false∧(args.map (gev ts)).all zav=true
 ·obtain ⟨h1,h2,h3⟩:=h
  subst h1
  have h4:(args.map (gev ts)).toArray.all zav=true:=by simpa using h3
  rw [if_pos ⟨rfl,h2,h4⟩]
  simp only [List.isEmpty_nil,h2,h3,Bool.not_false,Bool.and_self,zue]
  cases V.pn.contains (g+1000000)<;>simp [zkr]
 ·rw [if_neg (by
   rintro ⟨h1,h2,h3⟩
   exact h ⟨List.eq_nil_of_length_eq_zero h1,h2,by simpa using h3⟩)]
  have hb:(capv.isEmpty&&!V.pn.contains g&&(args.map (gev ts)).all zav)=false:=by
   cases hb:(capv.isEmpty&&!V.pn.contains g&&(args.map (gev ts)).all zav) with
   | false=>rfl
   | true =>
    simp only [Bool.and_eq_true,List.isEmpty_iff,Bool.not_eq_true'] at hb
    exact absurd ⟨hb.1.1,hb.1.2,hb.2⟩ h
  simp only [hb,zkr]
  simp
def zi4 (Y:Option YG) (yc l:Nat) (args:List Value) (C:Eff→Prop):Prop:=zl2 Y yc l args.toArray C
@[simp] theorem jbb (l':Nat) (xs:List (Array Value)) (st l:Nat) (args:List Value):zi4 (some ⟨l',xs,st,none⟩) yc l args C=(l=l'∧yc≤st∧xs[yc]? = some args.toArray∧C ⟨.bool (yc != st),[],[],[],none,true⟩):=by
 have:(YG.mk l' xs st none).pan yc=none:=by unfold YG.pan;split<;>rfl
 simp only [zi4,zl2,jba,this]
def ztc (b:Bool) (pv:Value):Eff:=if b then ⟨zcj,[],[],[],some pv,true⟩ else ⟨.bool true,[],[],[],none,true⟩
@[simp] theorem jli (pv:Value):ztc true pv=⟨zcj,[],[],[],some pv,true⟩:=nr rfl
@[simp] theorem jlh (pv:Value):ztc false pv=⟨.bool true,[],[],[],none,true⟩:=nr rfl
def yC (C:Eff→Prop) (b:Bool) (pv:Value):Prop:=C (ztc b pv)
@[congr] theorem jlg {b b':Bool} {pv:Value} (h:b=b'):yC C b pv=yC C b' pv:=by rw [h]
@[simp] theorem jup (pv:Value):yC C true pv=C ⟨zcj,[],[],[],some pv,true⟩:=nr rfl
@[simp] theorem juo (pv:Value):yC C false pv=C ⟨.bool true,[],[],[],none,true⟩:=nr rfl
@[simp] theorem jdr (l':Nat) (xs:List (Array Value)) (st l:Nat) (pv:Value) (args:List Value):zi4 (some ⟨l',xs,st,some pv⟩) yc l args C=(l=l'∧yc≤st∧xs[yc]? = some args.toArray∧yC C (yc==st) pv):=by
 simp only [zi4,zl2,jba,YG.pan,yC,ztc]
 by_cases h:yc=st
 ·simp [h]
 ·have e:(yc != st)=true:=by simpa using h
  simp [h,e]
@[congr] theorem z64 {Y Y':Option YG} {yc' l:Nat} {args args':List Value} (h0:Y=Y') (h1:yc=yc') (h:args=args'):zi4 Y yc l args C=zi4 Y' yc' l args' C:=by rw [h0,h1,h]
@[simp] theorem z42 (l:Nat) (args:List Operand):zjt P G V nk yc ts hp (.func (.yield l) #[] #[]) args.toArray C=((∀ x∈args,okT ts x∧zav (gev ts x)=true)∧zi4 V.Y yc l (z0f ts args.toArray) C):=by
 have e:(Array.map (gev ts) args.toArray)=(args.map (gev ts)).toArray:=by simp
 unfold zjt zig zi4 z0f
 simp only [e,List.size_toArray,List.length_nil,true_and]
@[simp ↓] theorem jki (f:Operand) (args:Array Operand) (argTypes:Array TypeId):opX P G V yc ⟨dst,.call ⟨.value f,args,argTypes⟩,type,pos,after,guard⟩ ts hp nk C=(okT ts f∧zjt P G V nk yc ts hp (gev ts f) args C):=nr rfl
@[congr] theorem z7s {f f':FuncId} {args args':Array Value} (hf:f=f') (h:args=args'):zps P G f args C=zps P G f' args' C:=by rw [hf,h]
@[congr] theorem z7r {f f':FuncId} {args args':Array Value} {K:Value→Prop} (hf:f=f') (h:args=args'):za0 P G f args K=za0 P G f' args' K:=by rw [hf,h]
@[simp ↓] theorem jgo (T:TypeId) (x:Operand):opX P G V yc ⟨dst,.makeInterface T x,type,pos,after,guard⟩ ts hp nk C=(okX ts hp x∧zbj (gev ts x)=true∧z5l (P.underlying T) T (gev ts x) C):=nr rfl
def bsX (o:Option (Array Value)) (e:TypeId) (len nk:Nat) (C:Eff→Prop):Prop :=
 match o with
 | some cs=>C ⟨.slice (some ⟨nk,0,none⟩) len len,[],[],[(nk,⟨cs,e⟩)],none,false⟩
 | none=>False
@[simp] theorem jiw (cs:Array Value) (e:TypeId) (len:Nat):bsX (some cs) e len nk C=C ⟨.slice (some ⟨nk,0,none⟩) len len,[],[],[(nk,⟨cs,e⟩)],none,false⟩:=nr rfl
def buX (pl:Option (List (Nat×Nat) ⊕ Nat)) (z:Value) (parts:List (Nat×Value)) (C:Eff→Prop):Prop :=
 match pl with
 | some pl=>unX ((zf4 pl z.cells parts).map .agg) C
 | none=>False
@[simp] theorem z1c (pl:List (Nat×Nat) ⊕ Nat) (z:Value) (parts:List (Nat×Value)):buX (some pl) z parts C=unX ((zf4 pl z.cells parts).map .agg) C:=nr rfl
def zno (P:Program) (T:TypeId) (z:Option Value) (parts:List (Nat×Value)) (C:Eff→Prop):Prop :=
 match z with
 | some z=>za2 z=true∧zav z=true∧buX (zbw P T) z parts C
 | none=>False
@[simp] theorem z7q (T:TypeId) (z:Value) (parts:List (Nat×Value)):zno P T (some z) parts C=(za2 z=true∧zav z=true∧buX (zbw P T) z parts C):=nr rfl
@[simp ↓] theorem jgl (T:TypeId) (parts:Array (Nat×Operand)):opX P G V yc ⟨dst,.build T parts,type,pos,after,guard⟩ ts hp nk C =
  ((∀ p∈parts.toList,okX ts hp p.2∧za2 (gev ts p.2)=true)∧zno P T (zbg P T) (zd7 ts parts) C):=by
 unfold opX zno
 simp only
 cases hz:zbg P T with
 | none=>rfl
 | some z =>
  simp only
  cases hp:zbw P T with
  | none=>rfl
  | some pl =>
   simp only [z1c]
   cases hf:zf4 pl z.cells (zd7 ts parts)<;>rfl
@[simp] theorem jgx (parts:Array (Nat×Operand)):zd7 ts parts=parts.toList.map fun p=>(p.1,gev ts p.2):=nr rfl
@[simp] theorem jkq (m i:Nat):z3a (.inr m) i=some (i*m,m):=nr rfl
@[simp] theorem jkp (l:List (Nat×Nat)) (i:Nat):z3a (.inl l) i=l[i]?:=nr rfl
@[simp] theorem jeq (pl:List (Nat×Nat) ⊕ Nat) (cells:Array Value):zf4 pl cells []=some cells:=nr rfl
def jer (pl:List (Nat×Nat) ⊕ Nat) (cells:Array Value) (os:Option (Nat×Nat)) (v:Value) (rest:List (Nat×Value)):Option (Array Value) :=
 match os with
 | none=>none
 | some (off,size)=>if v.cells.size=size∧off+v.cells.size≤cells.size then zf4 pl (zch cells off v.cells.toList) rest else none
@[simp] theorem jbp (pl:List (Nat×Nat) ⊕ Nat) (cells:Array Value) (off size:Nat) (v:Value) (rest:List (Nat×Value)):jer pl cells (some (off,size)) v rest=if v.cells.size=size∧off+v.cells.size≤cells.size then zf4 pl (zch cells off v.cells.toList) rest else none:=nr rfl
@[simp] theorem jbo (pl:List (Nat×Nat) ⊕ Nat) (cells:Array Value) (i:Nat) (v:Value) (rest:List (Nat×Value)):zf4 pl cells ((i,v)::rest)=jer pl cells (z3a pl i) v rest:=nr rfl

@[congr] theorem jck {base:Nat} {Q:QQ} {seen:List (Option Tmp)} {k k':Nat} {l:List Oper} {ts':Nat→Value} {hp':Hp} {tr tr':Tr} {yc':Nat} {wr wr' yd yd':Bool} (h1:k=k') (h2:ts=ts') (h3:hp=hp') (h4:tr=tr') (h5:yc=yc') (h6:wr=wr') (h7:yd=yd') :
  zic P G V base Q seen k l ts hp tr yc wr yd=zic P G V base Q seen k' l ts' hp' tr' yc' wr' yd':=by rw [h1,h2,h3,h4,h5,h6,h7]
@[congr] theorem z38 {seen:List (Option Tmp)} {k k':Nat} {o:Oper} (h1:k=k'):ze5 seen k o ts=ze5 seen k' o ts:=by rw [h1]
@[congr] theorem jgm {o:Oper} {ts':Nat→Value} {hp':Hp} {nk':Nat} (h2:ts=ts') (h3:hp=hp') (h4:nk=nk'):opX P G V yc o ts hp nk C=opX P G V yc o ts' hp' nk' C:=by rw [h2,h3,h4]
@[congr] theorem jdo {w w':Option Bool} {a b:Prop} (h:w=w'):jdn w a b=jdn w' a b:=by rw [h]
@[congr] theorem z90 {v v':Value} {x y:Operand} (h:v=v'):z29 ts hp v x y C=z29 ts hp v' x y C:=by rw [h]
@[congr] theorem z4v {z z':Option Value} {nk':Nat} {T:TypeId} (h:z=z') (h1:nk=nk'):zrm z nk T C=zrm z' nk' T C:=by rw [h,h1]
@[congr] theorem z53 {v v':Option Value} {k k':Nat} (h:v=v') (h1:k=k'):zoe v k C=zoe v' k' C:=by rw [h,h1]
@[congr] theorem z52 {T:TypeId} {b b':Option Blk} {k off k' off':Nat} (h:b=b') (h1:k=k') (h2:off=off'):zod P T b k off C=zod P T b' k' off' C:=by rw [h,h1,h2]
@[congr] theorem z89 {T:TypeId} {v v':Value} (h:v=v'):z2k P T hp v C=z2k P T hp v' C:=by rw [h]
@[congr] theorem z3v {T:TypeId} {b b':Option Blk} {k off k' off':Nat} {w w':Value} (h:b=b') (h1:k=k') (h2:off=off') (h3:w=w'):zki P T b k off w C=zki P T b' k' off' w' C:=by rw [h,h1,h2,h3]
@[congr] theorem z6y {T:TypeId} {v v' w w':Value} (h:v=v') (h1:w=w'):zs1 P T hp v w C=zs1 P T hp v' w' C:=by rw [h,h1]
@[congr] theorem zwn {v v':Option Value} (h:v=v'):zf3 v C=zf3 v' C:=by rw [h]
@[congr] theorem zz5 {v v':Value} {i:Nat} (h:v=v'):zjd v i C=zjd v' i C:=by rw [h]
@[congr] theorem z8o {s s':Option Nat} {k k' off off':Nat} {m m':Int} (h:s=s') (h1:k=k') (h2:off=off') (h3:m=m'):zp1 s k off m C=zp1 s' k' off' m' C:=by rw [h,h1,h2,h3]
@[congr] theorem z8p {v v':Value} {len:Nat} {e:TypeId} {m m':Int} (h:v=v') (h1:m=m'):zw1 P v len e m C=zw1 P v' len e m' C:=by rw [h,h1]
@[congr] theorem z8q {v v':Value} {e:TypeId} {m m':Int} (h:v=v') (h1:m=m'):zw2 P v e m C=zw2 P v' e m' C:=by rw [h,h1]
@[congr] theorem jb7 {u u':Option TypeDesc} {v v':Value} {m m':Int} (h0:u=u') (h:v=v') (h1:m=m'):jb4 P u v m C=jb4 P u' v' m' C:=by rw [h,h1,h0]
@[congr] theorem z8n {T:TypeId} {i i' v v':Value} (h:i=i') (h1:v=v'):z18 P T i v C=z18 P T i' v' C:=by rw [h,h1]
@[congr] theorem jbi {o:Oper} {v v':Option Value} (h:v=v'):z7n P v o ts hp C=z7n P v' o ts hp C:=by rw [h]
@[congr] theorem jh9 {v v':Option Value} (h:v=v'):unX v C=unX v' C:=by rw [h]
@[congr] theorem z8d {f:FuncId} {args args':Array Value} (h:args=args'):zg7 P G f args hp nk C=zg7 P G f args' hp nk C:=by rw [h]
@[congr] theorem jd4 {o o':Option (Array Value)} {e:TypeId} {len nk':Nat} (h:o=o') (h1:nk=nk'):bsX o e len nk C=bsX o' e len nk' C:=by rw [h,h1]
@[congr] theorem jd5 {pl pl':Option (List (Nat×Nat) ⊕ Nat)} {z z':Value} {parts parts':List (Nat×Value)} (h:pl=pl') (h1:z=z') (h2:parts=parts'):buX pl z parts C=buX pl' z' parts' C:=by rw [h,h1,h2]
@[congr] theorem z40 {T:TypeId} {z z':Option Value} {parts parts':List (Nat×Value)} (h1:z=z') (h2:parts=parts'):zno P T z parts C=zno P T z' parts' C:=by rw [h1,h2]

@[simp] theorem jiq (op:BinOp) (T:TypeId) (k k':IntKind) (a b:Int):zmc P op T (.int k a) (.int k' b)=zkq op k a k' b:=nr rfl
@[simp] theorem z07 (T:TypeId) (a b:Bool):zmc P .eql T (.bool a) (.bool b)=if zmd P T then some (.bool (a==b)) else none:=nr rfl
@[simp] theorem z08 (T:TypeId) (a b:Bool):zmc P .neq T (.bool a) (.bool b)=if zmd P T then some (.bool (a != b)) else none:=nr rfl
def zto (r:Option Bool) (neg:Bool):Option Value :=
 match r with
 | some r=>some (.bool (if neg then !r else r))
 | none=>none
@[simp] theorem jln (r:Bool):zto (some r) false=some (.bool r):=nr rfl
@[simp] theorem jlo (r:Bool):zto (some r) true=some (.bool !r):=nr rfl
@[simp] theorem z4w (T:TypeId) (a b:Array Value):zmc P .eql T (.agg a) (.agg b)=zto (z00 P T a b) false:=by unfold zmc zto;simp only;split<;>simp_all
@[simp] theorem z4x (T:TypeId) (a b:Array Value):zmc P .neq T (.agg a) (.agg b)=zto (z00 P T a b) true:=by unfold zmc zto;simp only;split<;>simp_all
@[simp] theorem jlk (T:TypeId) (xs ys:Array Value):z00 P T xs ys=ztj P T (zrn P T) (zkj P T) xs ys:=nr rfl
def jd1 (n:Option Nat) (xs ys:Array Value):Option Bool :=
 match n with
 | some n=>if xs.size=n∧ys.size=n then zvf xs.toList ys.toList else none
 | none=>none
@[simp] theorem jll (T:TypeId) (xs ys:Array Value):z06 P T xs ys=jd1 (zrn P T) xs ys:=nr rfl
@[simp] theorem jbg (n:Nat) (xs ys:Array Value):jd1 (some n) xs ys=if xs.size=n∧ys.size=n then zvf xs.toList ys.toList else none:=nr rfl
@[simp] theorem jbf (T:TypeId) (n:Nat) (st:Option (List (TypeId×Nat))) (xs ys:Array Value):ztj P T (some n) st xs ys=z06 P T xs ys:=nr rfl
@[simp] theorem jil (T:TypeId) (l:List (TypeId×Nat)) (xs ys:Array Value):ztj P T none (some l) xs ys=if (xs.all zbd&&ys.all zbd)=true then z1u P xs ys l else none:=nr rfl
def jo0 (a b:Option Bool):Option Bool :=
 match a,b with
 | some a,some b=>some (a&&b)
 | _,_=>none
@[simp] theorem jel (a b:Bool):jo0 (some a) (some b)=some (a&&b):=nr rfl
@[simp] theorem ji1 (xs ys:Array Value):z1u P xs ys []=some true:=nr rfl
@[simp] theorem jem (T off:Nat) (fs:List (TypeId×Nat)) (xs ys:Array Value):z1u P xs ys ((T,off)::fs)=jo0 (jez P T off xs ys) (z1u P xs ys fs):=nr rfl
def jl1 (P:Program) (T off:Nat) (n:Option Nat) (xs ys:Array Value):Option Bool :=
 match n with
 | some n=>if off+n≤xs.size∧off+n≤ys.size then z06 P T (xs.extract off (off+n)) (ys.extract off (off+n)) else none
 | none=>if z8u P T=true then match xs[off]?,ys[off]? with
   | some (.int k a),some (.int k' b)=>if k=k' then some (a==b) else none
   | _,_=>none
  else none
@[simp] theorem jl0 (T off:Nat) (xs ys:Array Value):jez P T off xs ys=jl1 P T off (zz0 P T) xs ys:=nr rfl
@[simp] theorem je1 (T off n:Nat) (xs ys:Array Value):jl1 P T off (some n) xs ys=if off+n≤xs.size∧off+n≤ys.size then z06 P T (xs.extract off (off+n)) (ys.extract off (off+n)) else none:=nr rfl
def jpm (a b:Option Value):Option Bool :=
 match a,b with
 | some (.int k a),some (.int k' b)=>if k=k' then some (a==b) else none
 | _,_=>none
@[simp] theorem jfm (k k':IntKind) (a b:Int):jpm (some (.int k a)) (some (.int k' b))=if k=k' then some (a==b) else none:=nr rfl
@[simp] theorem je0 (T off:Nat) (xs ys:Array Value):jl1 P T off none xs ys=if z8u P T=true then jpm xs[off]? ys[off]? else none:=nr rfl
@[simp] theorem z4y (T:TypeId) (p:Option Addr) (l c:Nat):zmc P .eql T (.slice p l c) (.slice none 0 0)=if zh8 P T=true then some (.bool p.isNone) else none:=nr rfl
@[simp] theorem z4z (T:TypeId) (p:Option Addr) (l c:Nat):zmc P .neq T (.slice p l c) (.slice none 0 0)=if zh8 P T=true then some (.bool (!p.isNone)) else none:=nr rfl
@[simp] theorem ji2:zvf [] []=some true:=nr rfl
def jos (b:Bool) (r:Option Bool):Option Bool :=
 match r with
 | some r=>some (b&&r)
 | none=>none
@[simp] theorem jd0 (b r:Bool):jos b (some r)=some (b&&r):=nr rfl
@[simp] theorem jen (k k':IntKind) (a b:Int) (xs ys:List Value):zvf (.int k a::xs) (.int k' b::ys)=if k=k' then jos (a==b) (zvf xs ys) else none:=nr rfl
@[simp] theorem jji (k k':IntKind) (a b:Int):zkq .add k a k' b=if k=k' then some (.int k (k.wrap (a+b))) else none:=nr rfl
@[simp] theorem jjv (k k':IntKind) (a b:Int):zkq .sub k a k' b=if k=k' then some (.int k (k.wrap (a - b))) else none:=nr rfl
@[simp] theorem jjp (k k':IntKind) (a b:Int):zkq .mul k a k' b=if k=k' then some (.int k (k.wrap (a*b))) else none:=nr rfl
@[simp] theorem jjr (k k':IntKind) (a b:Int):zkq .quo k a k' b=if k=k' then if b=0 then none else some (.int k (k.wrap (a.tdiv b))) else none:=nr rfl
@[simp] theorem jjs (k k':IntKind) (a b:Int):zkq .rem k a k' b=if k=k' then if b=0 then none else some (.int k (a.tmod b)) else none:=nr rfl
@[simp] theorem jjt (k k':IntKind) (a b:Int):zkq .shl k a k' b=if 0≤b then some (.int k (k.wrap (a*2^min b.toNat k.bits))) else none:=nr rfl
@[simp] theorem jju (k k':IntKind) (a b:Int):zkq .shr k a k' b=if 0≤b then some (.int k (a.fdiv (2^min b.toNat k.bits))) else none:=nr rfl
@[simp] theorem jjj (k k':IntKind) (a b:Int):zkq .and k a k' b=if k=k' then some (.int k (zdy .and k a b)) else none:=nr rfl
@[simp] theorem jme (k k':IntKind) (a b:Int):zkq .or k a k' b=if k=k' then some (.int k (zdy .or k a b)) else none:=nr rfl
@[simp] theorem jjw (k k':IntKind) (a b:Int):zkq .xor k a k' b=if k=k' then some (.int k (zdy .xor k a b)) else none:=nr rfl
@[simp] theorem z8t (k k':IntKind) (a b:Int):zkq .andNot k a k' b=if k=k' then some (.int k (zdy .andNot k a b)) else none:=nr rfl
@[simp] theorem jjk (k k':IntKind) (a b:Int):zkq .eql k a k' b=if k=k' then some (.bool (a==b)) else none:=nr rfl
@[simp] theorem jjq (k k':IntKind) (a b:Int):zkq .neq k a k' b=if k=k' then some (.bool (a != b)) else none:=nr rfl
@[simp] theorem jjo (k k':IntKind) (a b:Int):zkq .lss k a k' b=if k=k' then some (.bool (a<b)) else none:=nr rfl
@[simp] theorem jjn (k k':IntKind) (a b:Int):zkq .leq k a k' b=if k=k' then some (.bool (a≤b)) else none:=nr rfl
@[simp] theorem jjm (k k':IntKind) (a b:Int):zkq .gtr k a k' b=if k=k' then some (.bool (b<a)) else none:=nr rfl
@[simp] theorem jjl (k k':IntKind) (a b:Int):zkq .geq k a k' b=if k=k' then some (.bool (b≤a)) else none:=nr rfl
@[simp] theorem jn8 (k:IntKind) (a:Int):un1 .neg (.int k a)=some (.int k (k.wrap (0 - a))):=nr rfl
@[simp] theorem jn9 (b:Bool):un1 .not (.bool b)=some (.bool !b):=nr rfl
@[simp] theorem joa (k:IntKind) (a:Int):un1 .xor (.int k a)=some (.int k (zdy .xor k (if k.signed then -1 else k.max) a)):=nr rfl
def z7z (s t:Option TypeDesc) (n:Int):Option Value :=
 match s,t with
 | some _,some (.int k)=>some (.int k (k.wrap n))
 | _,_=>none
@[simp] theorem jeg (s:TypeDesc) (k:IntKind) (n:Int):z7z (some s) (some (.int k)) n=some (.int k (k.wrap n)):=nr rfl
@[simp] theorem jef (S T:TypeId) (k:IntKind) (n:Int):zmg P S T (.int k n)=z7z (P.underlying S) (P.underlying T) n:=by
 unfold zmg z7z
 cases hs:P.underlying S with
 | none=>rfl
 | some s =>
  cases ht:P.underlying T with
  | none=>rfl
  | some d=>cases d<;>rfl

@[simp] theorem jfo (l:List Oper) (ts:Nat→Value) (t:Nat):zhu l ts t=if l.any (fun o=>o.dst==some t) then zcj else ts t:=nr rfl
def z0n (v:Value):Option Value:=if zcw v then some v else none
def jku (v:Option Value):Option Value :=
 match v with
 | some v=>z0n v
 | none=>none
@[simp] theorem jhg (v:Value):jku (some v)=z0n v:=nr rfl
@[simp] theorem jhd (t:Tmp):zmx P ts hp (.tmp t)=z0n (ts t):=nr rfl
def z3l (P:Program) (T:TypeId) (b:Option Blk) (off:Nat):Option Value :=
 match b with
 | some b=>jku (zdk P T b off)
 | none=>none
@[simp] theorem jc3 (T:TypeId) (b:Blk) (off:Nat):z3l P T (some b) off=jku (zdk P T b off):=nr rfl
def jno (P:Program) (T:TypeId) (hp:Hp) (v:Value):Option Value :=
 match v with
 | .pointer (some ⟨k,off,none⟩)=>z3l P T (hp k) off
 | _=>none
@[simp] theorem jkt (T:TypeId) (k off:Nat):jno P T hp (.pointer (some ⟨k,off,none⟩))=z3l P T (hp k) off:=nr rfl
@[simp] theorem jc4 (t:Tmp) (T:TypeId):zmx P ts hp (.cell t T)=jno P T hp (ts t):=by
 unfold zmx jno
 simp only
 split
 ·unfold z3l
  split
  ·unfold jku z0n;split<;>simp_all
  ·simp_all
 ·simp_all
@[simp] theorem jhh (b:Bool):z0n (.bool b)=some (.bool b):=nr rfl
@[simp] theorem jkw (k:IntKind) (n:Int):z0n (.int k n)=some (.int k n):=nr rfl
@[simp] theorem jkv (cs:Array Value):z0n (.agg cs)=some (.agg cs):=nr rfl
@[simp] theorem jhi (f:Fn) (a b:Array Value):z0n (.func f a b)=some (.func f a b):=nr rfl
@[simp] theorem jc6 (a:Option Addr) (n c:Nat):z0n (.slice a n c)=some (.slice a n c):=nr rfl
@[simp] theorem jae (s:ByteArray):z0n (.string s)=some (.string s):=nr rfl
def jp7 (v:Option Value) (r:Option (List Value)):Option (List Value) :=
 match v,r with
 | some v,some vs=>some (v::vs)
 | _,_=>none
@[simp] theorem jhf (v:Value) (vs:List Value):jp7 (some v) (some vs)=some (v::vs):=nr rfl
@[simp] theorem jhe:zi7 P ts hp []=some []:=nr rfl
@[simp] theorem jc5 (x:ResultVar) (l:List ResultVar):zi7 P ts hp (x::l)=jp7 (zmx P ts hp x) (zi7 P ts hp l):=by
 simp only [zi7]
 cases h1:zmx P ts hp x with
 | none=>rfl
 | some v=>cases h2:zi7 P ts hp l<;>rfl
def z3m (l:Option (List Value)):Option Value :=
 match l with
 | some [v]=>some v
 | some vs=>some (.tuple vs.toArray)
 | none=>none
@[simp] theorem jns (v:Value):z3m (some [v])=some v:=nr rfl
@[simp] theorem jnt (v u:Value) (l:List Value):z3m (some (v::u::l))=some (.tuple (v::u::l).toArray):=nr rfl
@[simp] theorem jnr:z3m (some [])=some (.tuple #[]):=nr rfl
@[simp] theorem jnp (rs:List ResultVar):zmw P rs ts hp=z3m (zi7 P ts hp rs):=nr rfl
@[simp] theorem zdm (next:GS→Prop) (K:Exit→GS→Prop) (s:GS):zcq next K .normal s=next s:=nr rfl
@[simp] theorem zze (next:GS→Prop) (K:Exit→GS→Prop) (s:GS):zcq next K .ret s=K .ret s:=nr rfl
@[simp] theorem zu2 (next:GS→Prop) (K:Exit→GS→Prop) (i:Nat) (s:GS):zcq next K (.exit i) s=K (.exit i) s:=nr rfl
@[simp] theorem zu3 (next:GS→Prop) (K:Exit→GS→Prop) (i:Nat) (s:GS):zcq next K (.goto i) s=K (.goto i) s:=nr rfl
@[simp] theorem zkk (next:GS→Prop) (K:Exit→GS→Prop) (ch:List PanicEntry) (s:GS):zcq next K (.panic ch) s=K (.panic ch) s:=nr rfl
@[simp] theorem znn (i:Nat) (K:Exit→GS→Prop) (ch:List PanicEntry) (s:GS):zek i K (.panic ch) s=K (.panic ch) s:=nr rfl
@[simp] theorem zn9 (l:Nat) (J:GS→Prop) (K:Exit→GS→Prop) (s:GS):zht l J K .normal s=K .normal s:=nr rfl
@[simp] theorem zw8 (l:Nat) (J:GS→Prop) (K:Exit→GS→Prop) (s:GS):zht l J K .ret s=K .ret s:=nr rfl
@[simp] theorem zt5 (l i:Nat) (J:GS→Prop) (K:Exit→GS→Prop) (s:GS):zht l J K (.exit i) s=K (.exit i) s:=nr rfl
@[simp] theorem zp2 (l:Nat) (ch:List PanicEntry) (J:GS→Prop) (K:Exit→GS→Prop) (s:GS):zht l J K (.panic ch) s=K (.panic ch) s:=nr rfl
@[simp] theorem jcb (l l':Nat) (J:GS→Prop) (K:Exit→GS→Prop) (s:GS):zht l J K (.goto l') s=(l'=l∧J s):=nr rfl
@[simp] theorem zfh (i:Nat) (K:Exit→GS→Prop) (s:GS):zek i K .normal s=K .normal s:=nr rfl
@[simp] theorem ztm (i:Nat) (K:Exit→GS→Prop) (s:GS):zek i K .ret s=K .ret s:=nr rfl
@[simp] theorem zel (i j:Nat) (K:Exit→GS→Prop) (s:GS):zek i K (.exit j) s=if j=i then K .normal s else K (.exit j) s:=nr rfl
@[simp] theorem zpr (i j:Nat) (K:Exit→GS→Prop) (s:GS):zek i K (.goto j) s=K (.goto j) s:=nr rfl
theorem wN:(∀ (J:GS→Prop) (K:Exit→GS→Prop) (s:GS),zcq J K .normal s=J s)∧(∀ (J:GS→Prop) (K:Exit→GS→Prop) (s:GS),zcq J K .ret s=K .ret s)∧(∀ (J:GS→Prop) (K:Exit→GS→Prop) (i:Nat) (s:GS),zcq J K (.exit i) s=K (.exit i) s) ∧
  (∀ (J:GS→Prop) (K:Exit→GS→Prop) (i:Nat) (s:GS),zcq J K (.goto i) s=K (.goto i) s)∧(∀ (J:GS→Prop) (K:Exit→GS→Prop) (ch:List PanicEntry) (s:GS),zcq J K (.panic ch) s=K (.panic ch) s) ∧
  (∀ (i:Nat) (K:Exit→GS→Prop) (s:GS),zek i K .normal s=K .normal s)∧(∀ (i:Nat) (K:Exit→GS→Prop) (s:GS),zek i K .ret s=K .ret s)∧(∀ (i j:Nat) (K:Exit→GS→Prop) (s:GS),zek i K (.goto j) s=K (.goto j) s)∧(∀ (i:Nat) (K:Exit→GS→Prop) (ch:List PanicEntry) (s:GS),zek i K (.panic ch) s=K (.panic ch) s) ∧
  (∀ (l:Nat) (J:GS→Prop) (K:Exit→GS→Prop) (s:GS),zht l J K .normal s=K .normal s)∧(∀ (l:Nat) (J:GS→Prop) (K:Exit→GS→Prop) (s:GS),zht l J K .ret s=K .ret s)∧(∀ (l i:Nat) (J:GS→Prop) (K:Exit→GS→Prop) (s:GS),zht l J K (.exit i) s=K (.exit i) s)∧∀ (l:Nat) (ch:List PanicEntry) (J:GS→Prop) (K:Exit→GS→Prop) (s:GS),zht l J K (.panic ch) s=K (.panic ch) s :=
 ⟨zdm,zze,zu2,zu3,zkk,zfh,ztm,zpr,znn,zn9,zw8,zt5,zp2⟩
theorem wT:(∀ (a:Oper) (i:Nat) (l:List Oper),(a::l).take (i+1)=a::l.take i)∧(∀ l:List Oper,l.take 0=[])∧(∀ (a:Oper) (i:Nat) (l:List Oper),(a::l).drop (i+1)=l.drop i)∧(∀ l:List Oper,l.drop 0=l)∧∀ n:Nat,0+n=n:=⟨fun _ _ _=>rfl,fun _=>rfl,fun _ _ _=>rfl,fun _=>rfl,Nat.zero_add⟩
end

section
variable {P:Program}
theorem zdt {T:TypeId} {m:Nat} (h1:zg0 P T=some true) (h2:zat P T=some m) (c:Array Value) (off:Nat):zce P T c off=if off+m≤c.size then some (.agg (c.extract off (off+m))) else none:=by
 simp [zce,h1,h2]
def zkt (v:Option Value):Option Value :=
 match v with
 | some v=>if zh7 v then some v else none
 | none=>none
@[simp] theorem jhm (b:Bool):zkt (some (.bool b))=some (.bool b):=nr rfl
@[simp] theorem jky (k:IntKind) (n:Int):zkt (some (.int k n))=some (.int k n):=nr rfl
@[simp] theorem z6s (a:Option Addr):zkt (some (.pointer a))=some (.pointer a):=nr rfl
@[simp] theorem jdc (a:Option Addr) (n c:Nat):zkt (some (.slice a n c))=some (.slice a n c):=nr rfl
@[simp] theorem jhn (f:Fn) (a b:Array Value):zkt (some (.func f a b))=some (.func f a b):=nr rfl
@[simp] theorem z6r:zkt (some .nilFunc)=some .nilFunc:=nr rfl
@[simp] theorem jak (s:ByteArray):zkt (some (.string s))=some (.string s):=nr rfl
@[simp] theorem jdb (t:TypeId) (v:Value):zkt (some (.iface t v))=some (.iface t v):=nr rfl
@[simp] theorem z3r:zkt (some .nilIface)=some .nilIface:=nr rfl
theorem zdh {T:TypeId} (h1:zg0 P T=some false) (c:Array Value) (off:Nat):zce P T c off=zkt c[off]?:=by
 unfold zce zkt
 simp only [h1]
 rfl
theorem zbr {T:TypeId} {z:Value} (h:∀ w,(zeroValue T).run P w=.ok z w):zbg P T=some z:=by
 have h:=h default
 unfold zbg
 unfold zeroValue typeInfo at h
 cases hi:P.info? T with
 | none=>simp [hi,stuck] at h
 | some i =>
  simp [hi] at h
  cases hz:i.zero with
  | none=>simp [hz,unsupported] at h
  | some u=>simp [hz] at h;simp [hz,h]
theorem zal {T:TypeId} {m:Nat} (h:∀ w,(sizeOf T).run P w=.ok m w):zat P T=some m:=by
 have h:=h default
 unfold zat
 unfold sizeOf typeInfo at h
 cases hi:P.info? T with
 | none=>simp [hi,stuck] at h
 | some i=>simp [hi] at h;simp [h]
theorem zbl {T:TypeId} {b:Bool} (h:∀ w,(isAgg T).run P w=.ok b w):zg0 P T=some b:=by
 have h:=h default
 unfold zg0
 unfold isAgg underlying at h
 cases hi:P.underlying T with
 | none=>simp [hi,stuck] at h
 | some i=>cases i<;>simp_all
theorem zd8 {T e:TypeId} {n m:Nat} (hu:P.underlying T=some (.array n e)) (hs:zat P e=some m):zbw P T=some (.inr m):=by simp [zbw,hu,hs]
theorem zmb {T e:TypeId} {n:Nat} {k:IntKind} (hu:P.underlying T=some (.array n e)) (he:P.underlying e=some (.int k)) (hs:zat P e=some 1) (hg:P.eqGuardType P.depth T=false):zrn P T=some n:=by
 simp [zrn,hu,he,hs,hg]
theorem z1b {T:TypeId} (hu:P.underlying T=some .bool):zmd P T=true:=by simp [zmd,hu]
end

def tsL:List (Nat×Value)→Nat→Value
 | []=>fun _=>zcj
 | (k,v)::l=>upd (tsL l) k v
def hpL (G:Hp):List (Nat×Blk)→Hp
 | []=>G
 | (k,b)::m=>upd (hpL G m) k (some b)
@[simp] theorem jn6 (t:Nat):tsL [] t=zcj:=nr rfl
@[simp] theorem zm4 (k:Nat) (v:Value) (l:List (Nat×Value)) (t:Nat):tsL ((k,v)::l) t=if t=k then v else tsL l t:=nr rfl
@[simp] theorem za6 (G:Hp):hpL G []=G:=nr rfl
@[simp] theorem zam (G:Hp) (k:Nat) (b:Blk) (m:List (Nat×Blk)) (t:Nat):hpL G ((k,b)::m) t=if t=k then some b else hpL G m t:=nr rfl

theorem zfq:∀ {l:List (Nat×Value)} {t:Nat},tsL l t=zcj∨(t,tsL l t)∈l
 | [],_=>.inl rfl
 | (k,v)::l,t=>by
  rw [zm4]
  split
  ·rename_i e;subst e;exact .inr (by simp)
  ·rcases zfq (l:=l) (t:=t) with h|h
   ·exact .inl h
   ·exact .inr (List.mem_cons_of_mem _ h)
theorem za5 {G:Hp}:∀ {m:List (Nat×Blk)} {k:Nat} {b:Blk},hpL G m k=some b→(k,b)∈m∨G k=some b
 | [],_,_,h=>.inr h
 | (q,c)::m,k,b,h=>by
  rw [zam] at h
  split at h
  ·rename_i e;subst e;cases h;exact .inl (by simp)
  ·exact (za5 h).imp (List.mem_cons_of_mem _) id
theorem za4 {G:Hp}:∀ {m:List (Nat×Blk)} {k:Nat},(∀ p∈m,100≤p.1)→k<100→hpL G m k=G k
 | [],_,_,_=>rfl
 | (q,c)::m,k,h,hk=>by
  have:=h (q,c) (by simp)
  rw [zam,if_neg (by simp at this;omega)]
  exact za4 (fun p hp=>h p (List.mem_cons_of_mem _ hp)) hk
theorem zdj {G:Hp} (hGF:zbi G) {m:List (Nat×Blk)} {rs:List Nat} (h:∀ p∈m,p.1∈rs):rst (hpL G m) rs=hpL G m:=funext fun k=>by
 unfold rst
 split
 ·rfl
 ·rename_i hk
  cases hb:hpL G m k with
  | none=>rfl
  | some b =>
   rcases za5 hb with h1|h1
   ·exact absurd (.inr (h _ h1)) hk
   ·exact absurd (.inl (hGF k b h1).1) hk

theorem zbb {C:Ctx} {G:Hp} {s:GS} {m m0:List (Nat×Blk)} (l:List (Nat×Value)) (B:Nat) (hG:C.G=G) (hGF:zbi G) (h0:C.hp0=hpL G m0) (hB:100≤B) (hl:∀ p∈l,s.ts p.1=p.2∧zan (dom (hpL G m)) p.2)
  (hm:∀ p∈m,s.hp p.1=some p.2∧p.2.ids (dom (hpL G m))∧100≤p.1∧p.1<B) (hk:∀ p∈m0,100≤p.1∧hpL G m p.1=s.hp p.1):Weak C s ⟨tsL l,hpL G m,B,s.yc⟩ where
 ts t:=by
  rcases zfq (l:=l) (t:=t) with h|h
  ·exact .inl h
  ·exact .inr ⟨(hl _ h).1.symm,(hl _ h).2⟩
 hp k hk:=by
  dsimp only
  cases hb:hpL G m k with
  | none=>exact .inl rfl
  | some b =>
   rcases za5 hb with h|h
   ·exact .inr (hm _ h).1.symm
   ·have:=(hGF k b h).1;omega
 ids k b hb:=by
  rcases za5 hb with h|h
  ·exact (hm _ h).2.1
  ·exact Blk.flat_ids ((hGF k b h).2)
 keep k h1k hd:=by
  rw [h0] at hd
  dsimp only
  unfold dom at hd
  cases hb:hpL G m0 k with
  | none=>exact absurd hb hd
  | some b =>
   rcases za5 hb with h|h
   ·exact (hk _ h).2
   ·have hlt:=(hGF k b h).1;omega
 glob k hlt:=by rw [hG];exact za4 (fun p hp=>(hm p hp).2.2.1) hlt
 yc:=rfl
 free x hx:=by
  dsimp only at hx ⊢
  cases hb:hpL G m x with
  | none=>rfl
  | some b =>
   rcases za5 hb with h|h
   ·have:=(hm _ h).2.2.2;simp at this;omega
   ·have:=(hGF x b h).1;omega
 low:=hB

theorem zbv {P:Program} {G:Hp} {f:FuncId} {args:Array Value} {hp hp':Hp} {rs:List Nat} {res:Res} {nk:Nat} {K:Eff→Prop} (h:Fun P G f args hp' rs res) (h1:∀ k∈rs,hp' k=hp k) (h2:∀ k,k<100→hp' k=G k) (h3:res.at nk) (hk:K (res.eff rs)):zg7 P G f args hp nk K :=
 ⟨hp',rs,res,h1,h2,h,h3,hk⟩

@[simp] theorem jma (D:Nat→Prop) (b:Bool):zan D (.bool b)=True:=nr rfl
@[simp] theorem jpi (D:Nat→Prop) (k:IntKind) (n:Int):zan D (.int k n)=True:=nr rfl
@[simp] theorem jfg (D:Nat→Prop) (s:ByteArray):zan D (.string s)=True:=nr rfl
@[simp] theorem jbz (D:Nat→Prop):zan D .nilFunc=True:=nr rfl
@[simp] theorem z8i (D:Nat→Prop):zan D .nilIface=True:=nr rfl
@[simp] theorem jpj (D:Nat→Prop) (a:Addr):zan D (.pointer (some a))=D a.block:=nr rfl
@[simp] theorem jff (D:Nat→Prop):zan D (.pointer none)=True:=nr rfl
@[simp] theorem jjc (D:Nat→Prop) (a:Addr) (n c:Nat):zan D (.slice (some a) n c)=D a.block:=nr rfl
@[simp] theorem z8j (D:Nat→Prop) (n c:Nat):zan D (.slice none n c)=True:=nr rfl
@[simp] theorem jmb (D:Nat→Prop) (fn:Fn) (a b:Array Value):zan D (.func fn a b)=((∀ x∈a,zaj D x)∧∀ x∈b,zaj D x):=nr rfl
@[simp] theorem jjb (D:Nat→Prop) (t:TypeId) (v:Value):zan D (.iface t v)=zaj D v:=nr rfl
@[simp] theorem jph (D:Nat→Prop) (l:List Value):zan D (.agg l.toArray)↔∀ x∈l,zai D x:=by simp [zan,zay]
@[simp] theorem jjd (D:Nat→Prop):zan D undef=True:=by simp [undef,zan]
@[simp] theorem jl7 (D:Nat→Prop) (b:Bool):zaj D (.bool b)=True:=nr rfl
@[simp] theorem jpd (D:Nat→Prop) (k:IntKind) (n:Int):zaj D (.int k n)=True:=nr rfl
@[simp] theorem jfc (D:Nat→Prop) (s:ByteArray):zaj D (.string s)=True:=nr rfl
@[simp] theorem jpe (D:Nat→Prop) (a:Addr):zaj D (.pointer (some a))=D a.block:=nr rfl
@[simp] theorem jfb (D:Nat→Prop):zaj D (.pointer none)=True:=nr rfl
@[simp] theorem ji8 (D:Nat→Prop) (a:Addr) (n c:Nat):zaj D (.slice (some a) n c)=D a.block:=nr rfl
@[simp] theorem z8e (D:Nat→Prop) (n c:Nat):zaj D (.slice none n c)=True:=nr rfl
@[simp] theorem jl8 (D:Nat→Prop) (b:Bool):zai D (.bool b)=True:=nr rfl
@[simp] theorem jpf (D:Nat→Prop) (k:IntKind) (n:Int):zai D (.int k n)=True:=nr rfl
@[simp] theorem jfe (D:Nat→Prop) (s:ByteArray):zai D (.string s)=True:=nr rfl
@[simp] theorem jby (D:Nat→Prop):zai D .nilFunc=True:=nr rfl
@[simp] theorem jpg (D:Nat→Prop) (a:Addr):zai D (.pointer (some a))=D a.block:=nr rfl
@[simp] theorem jfd (D:Nat→Prop):zai D (.pointer none)=True:=nr rfl
@[simp] theorem jja (D:Nat→Prop) (a:Addr) (n c:Nat):zai D (.slice (some a) n c)=D a.block:=nr rfl
@[simp] theorem z8h (D:Nat→Prop) (n c:Nat):zai D (.slice none n c)=True:=nr rfl
@[simp] theorem jl9 (D:Nat→Prop) (fn:Fn) (a b:Array Value):zai D (.func fn a b)=((∀ x∈a,zaj D x)∧∀ x∈b,zaj D x):=nr rfl
@[simp] theorem ji9 (D:Nat→Prop) (t:TypeId) (v:Value):zai D (.iface t v)=zaj D v:=nr rfl
@[simp] theorem jip (l:List Value) (T:TypeId) (D:Nat→Prop):(Blk.mk l.toArray T).ids D↔∀ x∈l,zai D x:=by simp [Blk.ids]

theorem zoq (r ρ:Nat→Nat) (v:Value):zao r (zao ρ v)=zao (fun k=>r (ρ k)) v:=by
 cases v with
 | pointer p=>cases p<;>rfl
 | slice p _ _=>cases p<;>rfl
 | map p=>cases p<;>rfl
 | _=>rfl
theorem zgc (r ρ:Nat→Nat) (v:Value):zak r (zak ρ v)=zak (fun k=>r (ρ k)) v:=by
 cases v with
 | func f a b=>simp only [zak,Array.map_map];congr 1<;>(congr 1;funext x;exact zoq r ρ x)
 | iface t v=>simp only [zak,zoq]
 | pointer p=>cases p<;>rfl
 | slice p _ _=>cases p<;>rfl
 | map p=>cases p<;>rfl
 | _=>rfl
theorem zh3 (r ρ:Nat→Nat) (v:Value):zax r (zax ρ v)=zax (fun k=>r (ρ k)) v:=by
 cases v with
 | agg cs=>simp only [zax,Array.map_map];congr 2;funext x;exact zgc r ρ x
 | func f a b=>exact zgc r ρ (.func f a b)
 | iface t v=>exact zgc r ρ (.iface t v)
 | pointer p=>cases p<;>rfl
 | slice p _ _=>cases p<;>rfl
 | map p=>cases p<;>rfl
 | _=>rfl
theorem zcu (r ρ:Nat→Nat) (v:Value):ren r (ren ρ v)=ren (fun k=>r (ρ k)) v:=by
 cases v with
 | tuple vs=>simp only [ren,Array.map_map];congr 2;funext x;exact zh3 r ρ x
 | agg cs=>exact zh3 r ρ (.agg cs)
 | func f a b=>exact zh3 r ρ (.func f a b)
 | iface t v=>exact zh3 r ρ (.iface t v)
 | pointer p=>cases p<;>rfl
 | slice p _ _=>cases p<;>rfl
 | map p=>cases p<;>rfl
 | _=>rfl

section
variable {P:Program} {G:Hp}

theorem zoi {f:FuncId} {fn:Func} {c:Code} {args:Array Value} {hp:Hp} {rs:List Nat} {v:Value} {ns:List (Nat×Blk)} {B:Nat} (ρ:Nat→Nat) (hGF:zbi G) (hG:∀ k,k<100→hp k=G k) (hf:P.funcs[f]? = some fn) (hb:fn.body=some c) (hcall:∀ a w,(callFunc f a).run P w=.ok (.enter f a) w)
  (ha:∀ x∈args,zan (dom (rst hp rs)) x) (hcl:∀ k b,rst hp rs k=some b→b.ids (dom (rst hp rs))) (hfit:(Res.new v ns).fits hp rs) (hn:args.size≤fn.ntmps) (hB:100≤B) (hfree:∀ x,B≤x→rst hp rs x=none)
  (hρ0:∀ k,dom (rst hp rs) k→ρ k=k) (hρ:∀ p∈ns,¬dom (rst hp rs) (ρ p.1)∧100≤ρ p.1) (hinj:∀ p∈ns,∀ q∈ns,ρ p.1=ρ q.1→p.1=q.1) (hbl:∀ p∈ns,p.2.ids (dom (rst hp rs)))
  (h:∀ C:Ctx,C.G=G→C.hp0=rst hp rs→C.Y=none→GW P C fn.ntmps [] none c ⟨fun t=>args.getD t undef,rst hp rs,B,0⟩ fun e s=>(e=.normal∨e=.ret)∧zmw P fn.results.toList s.ts s.hp=some (ren ρ v) ∧
   (∀ p∈ns,s.hp (ρ p.1)=some p.2)∧∀ k,dom (rst hp rs) k→s.hp k=rst hp rs k):Fun P G f args hp rs (.new v ns):=by
 refine ⟨hcall,ha,hcl,hfit,fun r W hgok hsat hinjr hlow=>callsIn_of_wp_marks hf hb ⟨fn,hf⟩ ?_⟩
 have ltW:∀ k,dom (rst hp rs) k→r k<W.heap.size:=fun k hk=>by
  unfold dom at hk
  cases hb:rst hp rs k with
  | none=>exact absurd hb hk
  | some b=>exact (Array.getElem?_eq_some_iff.1 (hsat k b hb).1).1
 let im:Nat→Prop:=fun j=>∃ i,dom (rst hp rs) i∧r i=j
 let C:Ctx:=⟨ze1 W im,rst hp rs,r,G,none⟩
 have hi:GI P C fn.ntmps [] r ⟨fun t=>args.getD t undef,rst hp rs,B,0⟩ { tmps:=args.map (ren r)++Array.replicate (fn.ntmps - (args.map (ren r)).size) undef,defers:=[] } W:=by
  refine ⟨⟨by simp;omega,fun t=>?_,hsat,hinjr,⟨fun k=>k<W.heap.size∧¬im k,[],⟨fun _=>Iff.rfl,rfl,rfl,rfl,Nat.le_refl _,fun _ _=>rfl⟩,fun k hk=>hk.1,fun i hi _ hS=>hS.2 ⟨i,hi,rfl⟩,⟨rfl,List.nodup_nil⟩,by simp⟩,
   fun i hi=>⟨hi,rfl⟩,fun k hk=>?_,hlow⟩,hfree,hB,hGF,fun y hy=>by cases hy⟩
  ·right
   dsimp only
   by_cases ht:t<args.size
   ·have hm:args[t]∈args:=Array.getElem_mem ht
    have e:args.getD t undef=args[t]:=by simp [Array.getD,ht]
    rw [e]
    refine ⟨?_,ha _ hm⟩
    have:t<(args.map (ren r)).size:=by simpa using ht
    simp [Array.getElem?_append_left this,ht]
   ·have e:args.getD t undef=undef:=by simp [Array.getElem?_eq_none (Nat.le_of_not_lt ht)]
    rw [e]
    refine ⟨?_,zc4 _⟩
    rw [zcg]
    simp only [Array.getD_eq_getD_getElem?]
    rw [Array.getElem?_append_right (by simpa using Nat.le_of_not_lt ht),Array.getElem?_replicate]
    split<;>rfl
  ·show rst hp rs k=G k
   simp [rst,hk,hG k hk]
 refine wpIn_mono (h C rfl rfl rfl r _ W hi) ?_
 rintro e a' W' ⟨s',r',⟨he,hr,hns,hhp⟩,hi'⟩
 obtain ⟨S,ms,⟨hS,os,tape,output,size,hsame⟩,hS1,hS2,⟨hdef,hnd⟩,hms⟩:=hi'.ri.ext
 have hkeep:∀ i,dom (rst hp rs) i→dom s'.hp i∧r' i=r i:=hi'.ri.keep
 have mine:∀ W'':World,(∀ k,k∉ms→W''.heap[k]? = W'.heap[k]?)→∀ i b,s'.hp i=some b→W''.heap[r' i]? = some (b.obj r'):=fun W'' hW i b hb=>by
  rw [hW _ (fun hm=>hi'.ri.ne_mark (by unfold dom;rw [hb];simp) (hms _ hm).1 rfl)]
  exact (hi'.ri.sat i b hb).1
 have hend:∀ W'':World,W''.heap.size=W'.heap.size→W''.os=W'.os→W''.tape=W'.tape→W''.output=W'.output→(∀ k,k∉ms→W''.heap[k]? = W'.heap[k]?) →
   LeavesIn (Fw P none) 0 P fn a'.tmps ((Res.new v ns).holds r (dom (rst hp rs)) W) [] .returning W'':=fun W'' e1 e2 e3 e4 e5=>by
  have hsat':Sat r' (dom s'.hp) s'.hp W'':=fun k b hk=>⟨mine W'' e5 k b hk,(hi'.ri.sat k b hk).2⟩
  have hrun:=zea (fn:=fn) hi'.ri.rel hsat' hr
  rw [zcu] at hrun
  refine ⟨_,hrun,fun _=>⟨fun k=>r' (ρ k),fun k hk=>?_,rfl,?_⟩⟩
  ·simp only [hρ0 k hk];exact (hkeep k hk).2
  ·have hag:∀ k,dom (rst hp rs) k→r' (ρ k)=r' k:=fun k hk=>by rw [hρ0 k hk]
   refine ⟨e2.trans os,e3.trans tape,e4.trans output,by rw [e1];exact size,fun k hk _=>?_,fun p hp1=>?_,fun p hp1=>?_,fun p hp1 q hq1 hpq=>?_⟩
   ·by_cases hk':im k
    ·obtain ⟨i,hi1,rfl⟩:=hk'
     cases hb:rst hp rs i with
     | none=>exact absurd hb hi1
     | some b =>
      have e:s'.hp i=some b:=(hhp i hi1).trans hb
      have:=mine W'' e5 i b e
      rw [(hkeep i hi1).2,Blk.obj_congr (fun k hk=>(hkeep k hk).2) (hcl i b hb)] at this
      rw [this,(hsat i b hb).1]
    ·have hSk:S k:=(hS k).2 ⟨hk,hk'⟩
     rw [e5 k (fun hm=>(hms k hm).2.1 hSk)]
     exact hsame k hSk
   ·have hp1:p∈ns:=by simpa using hp1
    refine ⟨?_,Blk.ids_mono (fun k hk=>.inl hk) (hbl p hp1)⟩
    have:=mine W'' e5 _ _ (hns p hp1)
    rw [Blk.obj_congr (r:=r') hag (hbl p hp1)]
    exact this
   ·have hd:dom s'.hp (ρ p.1):=by unfold dom;rw [hns p hp1];simp
    have h1:=hS2 _ hd (hρ p hp1).2
    rw [hS] at h1
    refine Classical.byContradiction fun hlt=>h1 ⟨by omega,fun ⟨i,hi1,e⟩=>?_⟩
    have:=hi'.ri.inj i (ρ p.1) (hkeep i hi1).1 hd ((hkeep i hi1).2.trans e)
    exact (hρ p hp1).1 (this▸hi1)
   ·have hd:∀ x∈ns,dom s'.hp (ρ x.1):=fun x hx=>by unfold dom;rw [hns x hx];simp
    exact hinj p hp1 q hq1 (hi'.ri.inj _ _ (hd p hp1) (hd q hq1) hpq)
 rcases he with rfl|rfl
 ·show LeavesInM _ _ _ _ _ _ a'.defers _ _
  rw [hdef,List.append_nil]
  exact zds (by simp) ms W' hnd (fun D hD=>(hms D hD).1) hend
 ·show LeavesInM _ _ _ _ _ _ a'.defers _ _
  rw [hdef,List.append_nil]
  exact zds (by simp) ms W' hnd (fun D hD=>(hms D hD).1) hend

def Blk.rn (ρ:Nat→Nat) (b:Blk):Blk:=match b.T with
 | .ty t=>⟨b.c.map (zak ρ),.ty t⟩
 | .raw _ _=>b
 | .mp=>⟨b.c.map (zak ρ),.mp⟩
theorem Blk.rn_obj (r ρ:Nat→Nat) (b:Blk):(b.rn ρ).obj r=b.obj (fun k=>r (ρ k)):=by
 obtain ⟨c,T⟩:=b
 cases T with
 | raw t fr=>rfl
 | ty t =>
  simp only [Blk.rn,Blk.obj,Array.map_map]
  congr 2
  funext x
  exact zgc r ρ x
 | mp =>
  simp only [Blk.rn,Blk.obj,Array.map_map]
  congr 2
  funext x
  exact zgc r ρ x
theorem Blk.rn_flat {ρ:Nat→Nat} {b:Blk} (h:∀ x∈b.c,zbd x=true):b.rn ρ=b:=by
 obtain ⟨c,T⟩:=b
 cases T with
 | raw t fr=>rfl
 | ty t=>simp only [Blk.rn];rw [zbo (fun x hx=>zco (h x hx))]
 | mp=>simp only [Blk.rn];rw [zbo (fun x hx=>zco (h x hx))]
theorem zj1 {ρ:Nat→Nat} {D D':Nat→Prop} (h:∀ k,D k→D' (ρ k)) {v:Value} (hv:zaj D v):zaj D' (zao ρ v):=by
 cases v with
 | pointer p=>cases p<;>first|exact h _ hv|trivial
 | slice p _ _=>cases p<;>first|exact h _ hv|trivial
 | map p=>cases p<;>first|exact h _ hv|trivial
 | _=>trivial
theorem zj2 {ρ:Nat→Nat} {D D':Nat→Prop} (h:∀ k,D k→D' (ρ k)) {v:Value} (hv:zai D v):zai D' (zak ρ v):=by
 cases v with
 | func f a b =>
  refine ⟨fun x hx=>?_,fun x hx=>?_⟩
  ·obtain ⟨y,hy,rfl⟩:=Array.mem_map.1 hx;exact zj1 h (hv.1 y hy)
  ·obtain ⟨y,hy,rfl⟩:=Array.mem_map.1 hx;exact zj1 h (hv.2 y hy)
 | iface t v=>exact zj1 (v:=v) h hv
 | pointer p=>cases p<;>first|exact h _ hv|trivial
 | slice p _ _=>cases p<;>first|exact h _ hv|trivial
 | map p=>cases p<;>first|exact h _ hv|trivial
 | _=>trivial
theorem Blk.ids_rn {ρ:Nat→Nat} {D D':Nat→Prop} (h:∀ k,D k→D' (ρ k)) {b:Blk} (hb:b.ids D):(b.rn ρ).ids D':=by
 obtain ⟨c,T⟩:=b
 cases T with
 | raw t fr=>trivial
 | ty t =>
  intro x hx
  obtain ⟨y,hy,rfl⟩:=Array.mem_map.1 hx
  exact zj2 h (hb y hy)
 | mp =>
  intro x hx
  obtain ⟨y,hy,rfl⟩:=Array.mem_map.1 hx
  exact zj2 h (hb y hy)
structure Rn (ρ:Nat→Nat) (hp hp':Hp) (rs:List Nat):Prop where
 low:∀ k,k<100→ρ k=k∧hp' k=hp k
 big:∀ k∈rs,100≤k→100≤ρ k
 at':∀ k∈rs,100≤k→∃ b,hp k=some b∧hp' (ρ k)=some (b.rn ρ)
 inj:∀ k∈rs,∀ l∈rs,100≤k→100≤l→ρ k=ρ l→k=l
theorem Rn.dom1 {ρ:Nat→Nat} {hp hp':Hp} {rs:List Nat} (h:Rn ρ hp hp' rs) {k:Nat} (hk:dom (rst hp rs) k):dom (rst hp' (rs.map ρ)) (ρ k):=by
 unfold dom rst at *
 by_cases h1:k<100
 ·have:=h.low k h1
  rw [this.1]
  simp only [h1,true_or,if_true] at hk ⊢
  rw [this.2];exact hk
 ·have hm:k∈rs:=by
   by_cases hm:k∈rs
   ·exact hm
   ·simp [h1,hm] at hk
  obtain ⟨b,e1,e2⟩:=h.at' k hm (by omega)
  have:ρ k∈rs.map ρ:=List.mem_map.2 ⟨k,hm,rfl⟩
  simp [this,e2]
theorem IterX.rn {pn:Option Value} {f:FuncId} {caps:Array Value} {hp hp':Hp} {rs:List Nat} {xs:List (Array Value)} (ρ:Nat→Nat) (hGF:zbi G) (hG:∀ k,k<100→hp k=G k) (h:Rn ρ hp hp' rs) (hi:IterX pn P G f caps hp rs xs):IterX pn P G f (caps.map (zao ρ)) hp' (rs.map ρ) xs:=by
 have hpl:∀ x,zbj x=true→zbj (zao ρ x)=true:=fun x hx=>by
  cases x with
  | pointer p=>cases p<;>rfl
  | slice p _ _=>cases p<;>rfl
  | map p=>cases p<;>rfl
  | _=>exact hx
 have bflat:∀ k b,k<100→hp k=some b→b.rn ρ=b:=fun k b hk hb=>by
  have hg:G k=some b:=(hG k hk).symm.trans hb
  exact Blk.rn_flat (hGF k b hg).2
 have back:∀ k b,rst hp' (rs.map ρ) k=some b→∃ q c,rst hp rs q=some c∧ρ q=k∧b=c.rn ρ:=fun k b hb=>by
  unfold rst at hb
  by_cases h1:k<100
  ·simp only [h1,true_or,if_true] at hb
   have hl:=h.low k h1
   rw [hl.2] at hb
   exact ⟨k,b,by simp [rst,h1,hb],hl.1,(bflat k b h1 hb).symm⟩
  ·by_cases hm:k∈rs.map ρ
   ·obtain ⟨q,hq,rfl⟩:=List.mem_map.1 hm
    simp only [hm,or_true,if_true] at hb
    have hq1:100≤q:=by
     by_cases hq1:100≤q
     ·exact hq1
     ·exact absurd (by rw [(h.low q (by omega)).1];omega) h1
    obtain ⟨c,e1,e2⟩:=h.at' q hq hq1
    rw [e2] at hb;cases hb
    exact ⟨q,c,by simp [rst,hq,e1],rfl,rfl⟩
   ·simp [h1,hm] at hb
 refine ⟨hi.enter,fun x hx=>?_,fun k b hb=>?_,fun E l stop r S W hgok hsat hinj hlow hlen hR hX hS hdis=>?_⟩
 ·obtain ⟨y,hy,rfl⟩:=Array.mem_map.1 hx
  have:=hi.cids y hy
  exact ⟨hpl y this.1,(zb3 (hpl y this.1)).2 (zj1 (fun k hk=>h.dom1 hk) ((zb3 this.1).1 this.2))⟩
 ·obtain ⟨q,c,h1,rfl,rfl⟩:=back k b hb
  exact Blk.ids_rn (fun k hk=>h.dom1 hk) (hi.closed q c h1)
 ·have hcap:(caps.map (zao ρ)).map (ren r)=caps.map (ren fun k=>r (ρ k)):=by
   rw [Array.map_map]
   refine Array.map_congr_left fun x hx=>?_
   have:=(hi.cids x hx).1
   simp only [Function.comp]
   rw [←zcy (r:=ρ) this,zcu]
  rw [hcap]
  refine hi.run E l stop (fun k=>r (ρ k)) S W hgok (fun k b hk=>⟨?_,hi.closed k b hk⟩) (fun k l hk hl e=>?_) (fun k hk hd=>?_) hlen hR hX hS (fun i hd h1=>?_)
  ·have hd:dom (rst hp rs) k:=by unfold dom;rw [hk];simp
   have hd':=h.dom1 hd
   unfold dom at hd'
   cases hb:rst hp' (rs.map ρ) (ρ k) with
   | none=>exact absurd hb hd'
   | some b' =>
    have e:b'=b.rn ρ:=by
     unfold rst at hb hk
     by_cases h1:k<100
     ·have hl:=h.low k h1
      simp only [h1,true_or,if_true] at hk
      rw [hl.1] at hb
      simp only [h1,true_or,if_true] at hb
      rw [hl.2,hk] at hb
      cases hb
      exact (bflat k b h1 hk).symm
     ·have hm:k∈rs:=by
       by_cases hm:k∈rs
       ·exact hm
       ·simp [h1,hm] at hk
      simp only [hm,or_true,if_true] at hk
      obtain ⟨c,e1,e2⟩:=h.at' k hm (by omega)
      rw [hk] at e1;cases e1
      have hm':ρ k∈rs.map ρ:=List.mem_map.2 ⟨k,hm,rfl⟩
      simp only [hm',or_true,if_true] at hb
      rw [e2] at hb;cases hb;rfl
    have:=(hsat _ b' hb).1
    rw [e,Blk.rn_obj] at this
    exact this
  ·have e2:=hinj _ _ (h.dom1 hk) (h.dom1 hl) e
   have mem:∀ k,dom (rst hp rs) k→100≤k→k∈rs:=fun k hk h1=>by
    unfold dom rst at hk
    by_cases hm:k∈rs
    ·exact hm
    ·simp [hm] at hk;omega
   by_cases h1:k<100
   ·by_cases h2:l<100
    ·rw [(h.low k h1).1,(h.low l h2).1] at e2;exact e2
    ·have:=h.big l (mem l hl (by omega)) (by omega)
     rw [(h.low k h1).1] at e2;omega
   ·by_cases h2:l<100
    ·have:=h.big k (mem k hk (by omega)) (by omega)
     rw [(h.low l h2).1] at e2;omega
    ·exact h.inj k (mem k hk (by omega)) l (mem l hl (by omega)) (by omega) (by omega) e2
  ·show r (ρ k)=k
   have:=h.dom1 hd
   rw [(h.low k hk).1] at this ⊢
   exact hlow k hk this
  ·refine hdis _ (h.dom1 hd) (h.big i ?_ h1)
   unfold dom rst at hd
   by_cases hm:i∈rs
   ·exact hm
   ·simp [hm] at hd;omega
end
section
variable {P:Program} {C:Ctx} {n:Nat} {d:List Deferred} {ro:Option Nat} {s:GS} {K:Exit→GS→Prop}
structure WeakR (C:Ctx) (ρ:Nat→Nat) (s s':GS):Prop where
 ts:∀ t,s'.ts t=zcj∨(s.ts t=ren ρ (s'.ts t)∧s.ts t≠zcj∧zan (dom s'.hp) (s'.ts t))
 hp:∀ k b,s'.hp k=some b→100≤k→s.hp (ρ k)=some (b.rn ρ)∧100≤ρ k
 ids:∀ k b,s'.hp k=some b→b.ids (dom s'.hp)
 inj:∀ k l,dom s'.hp k→dom s'.hp l→ρ k=ρ l→k=l
 id:∀ k,k<100→ρ k=k
 rest:∀ k b,k<100→C.G k=some b→b.rn ρ=b
 keep:∀ k,100≤k→dom C.hp0 k→dom s'.hp k∧ρ k=k
 glob:∀ k,k<100→s'.hp k=C.G k
 yc:s'.yc=s.yc
 free:∀ x,s'.B≤x→s'.hp x=none
 low:100≤s'.B
theorem GI.rename {ρ:Nat→Nat} {r:Nat→Nat} {a:Act} {W:World} {s':GS} (h:GI P C n d r s a W) (hw:WeakR C ρ s s'):GI P C n d (fun k=>r (ρ k)) s' a W:=by
 have sub:∀ k b,s'.hp k=some b→s.hp (ρ k)=some (b.rn ρ):=fun k b hb=>by
  by_cases hk:100≤k
  ·exact (hw.hp k b hb hk).1
  ·have hg:C.G k=some b:=(hw.glob k (by omega)).symm.trans hb
   rw [hw.id k (by omega),hw.rest k b (by omega) hg,h.ri.glob k (by omega)]
   exact hg
 have subd:∀ k,dom s'.hp k→dom s.hp (ρ k):=fun k hk=>by
  unfold dom at hk
  cases hb:s'.hp k with
  | none=>exact absurd hb hk
  | some b=>unfold dom;rw [sub k b hb];simp
 refine ⟨{ h.ri with rel:=fun t=>?_,sat:=fun k b hb=>?_,inj:=fun k l hk hl e=>hw.inj k l hk hl (h.ri.inj _ _ (subd k hk) (subd l hl) e),ext:=?_,keep:=fun i hi=>?_,glob:=hw.glob,low:=fun k hk hd=>?_ },hw.free,hw.low,h.flat,h.rounds⟩
 ·rcases hw.ts t with e|⟨e,hne,hi⟩
  ·exact .inl e
  ·have e':=(h.ri.rel t).resolve_left hne
   refine .inr ⟨?_,hi⟩
   rw [e'.1,e,zcu]
 ·have hs:=(h.ri.sat _ _ (sub k b hb)).1
  rw [Blk.rn_obj] at hs
  exact ⟨hs,hw.ids k b hb⟩
 ·obtain ⟨S,ms,h1,h2,h3,h4⟩:=h.ri.ext
  refine ⟨S,ms,by rw [hw.yc];exact h1,h2,fun i hi hi1=>?_,h4⟩
  refine h3 _ (subd i hi) ?_
  unfold dom at hi
  cases hb:s'.hp i with
  | none=>exact absurd hb hi
  | some b=>exact (hw.hp i b hb hi1).2
 ·have hk:=h.ri.keep i hi
  by_cases h1:100≤i
  ·have hh:=hw.keep i h1 hi
   exact ⟨hh.1,by rw [hh.2];exact hk.2⟩
  ·refine ⟨?_,by rw [hw.id i (by omega)];exact hk.2⟩
   unfold dom;rw [hw.glob i (by omega),←h.ri.glob i (by omega)];exact hk.1
 ·have hd':=subd k hd
  rw [hw.id k hk] at hd' ⊢
  exact h.ri.low k hk hd'
theorem zl4 {c:Code} (I:Nat→GS→Prop) {m0:Nat} {s0:GS} (hw:Weak C s s0) (h0:I m0 s0)
  (round:∀ m s,I m s→GW P C n d ro c s (zcq (fun s'=>∃ ρ s'' m',WeakR C ρ s' s''∧I m' s''∧m'<m) K)):GW P C n d ro (.loop c) s K:=by
 have key:∀ (m:Nat) (s:GS),I m s→∀ r a W,GI P C n d r s a W→∀ (b:Frame) (k:List Item) (cs:List Frame),b.roundOf=ro →
   (Fs P).fn b.fn→∃ e a' w',(∃ s' r',K e s'∧GI P C n d r' s' a' w')∧ArrivesIn (Machine.fenced P (Fw P ro)) P (lone (b.atR a (.code c::.inLoop c::k)) cs W) b k cs e a' w':=by
  intro m
  induction m using Nat.strongRecOn with
  | _ m ih =>
   intro s hI r a W hi b k cs hro hfn
   obtain ⟨e,a₁,w₁,⟨s',r',hk,hi'⟩,harr⟩:=round m s hI r a W hi b (.inLoop c::k) cs hro hfn (zer P _)
   cases e with
   | normal =>
    obtain ⟨ρ,s'',m',hw'',hI'',hlt⟩:=hk
    obtain ⟨e₂,a₂,w₂,hq₂,harr₂⟩:=ih m' hlt s'' hI'' _ a₁ w₁ (hi'.rename hw'') b k cs hro hfn
    exact ⟨e₂,a₂,w₂,hq₂,.of_steps (StepsIn.trans harr (.one (fenced_calm (F:=Fw P ro) (n:=0) hfn (zer P _) rfl) stepR_inLoop)) harr₂⟩
   | exit id=>exact ⟨_,a₁,w₁,⟨s',r',hk,hi'⟩,.pass (x:=.inLoop c) rfl (fun _ _=>.inl (by simp)) harr⟩
   | goto l=>exact ⟨_,a₁,w₁,⟨s',r',hk,hi'⟩,.pass (x:=.inLoop c) rfl (fun _ _=>.inl (by simp)) harr⟩
   | ret=>exact ⟨_,a₁,w₁,⟨s',r',hk,hi'⟩,.pass (x:=.inLoop c) rfl (fun _ _=>.inl (by simp)) harr⟩
   | panic ch=>exact ⟨_,a₁,w₁,⟨s',r',hk,hi'⟩,.pass (x:=.inLoop c) rfl (fun _ _=>.inl (by simp)) harr⟩
   | outgrown=>exact ⟨_,a₁,w₁,⟨s',r',hk,hi'⟩,.pass (x:=.inLoop c) rfl (fun _ _=>.inl (by simp)) harr⟩
 intro r a W hi
 intro b k cs hro hb hr
 obtain ⟨e,a',w',hq,harr⟩:=key m0 s0 h0 r a W (hi.weak hw) b k cs hro hb
 exact ⟨e,a',w',hq,.of_steps (.one (fenced_calm hb hr rfl) stepR_loop) harr⟩
end
end Go.Gy
