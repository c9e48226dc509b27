/-
  Lemmas of this claim, in their order (GyF, GyR, GyV, GyS, GyT, GyK2).
  Conditions: those of each theorem.
-/
import Derived.Test.YtmnknnojkhkceaaGreatDoorGz00
set_option linter.unusedSimpArgs false
set_option linter.unusedVariables false
namespace Go.Gy
open Go Go.RowKit

abbrev Tr:=List (Nat×List Nat×List Nat)
def disj (xs ys:List Nat):Bool:=xs.all fun x=>!ys.contains x
def chk (md:Region.Mode) (ops:Array Oper):Tr→Bool
 | []=>true
 | (i,rd,wr)::tl=>(tl.all fun q=>(disj rd q.2.2&&disj wr q.2.1)||waitsB md ops i q.1)&&chk md ops tl
def tcons (k:Nat) (rd wr:List Nat) (tr:Tr):Tr :=
 match rd with
 | []=>match wr with
  | []=>tr
  | _::_=>(k,rd,wr)::tr
 | _::_=>(k,rd,wr)::tr

def lexX (P:Program) (G:Hp) (V:XV) (ops:Array Oper) (base:Nat) (Q:(Nat→Value)→Hp→Tr→Nat→Prop) (Qp:Value→Tr→Prop):Nat→List Oper→(Nat→Value)→Hp→Tr→Nat→Bool→Bool→Prop
 | _,[],ts,hp,tr,yc,_,_=>Q ts hp tr yc
 | k,o::rest,ts,hp,tr,yc,wr,yd=>match wantedG ops o ts with
  | some true=>opX P G V yc o ts hp (base+8*k) fun e=>(e.yl=true→yd=false)∧match e.pan with
   | none=>lexX P G V ops base Q Qp (k+1) rest (putT ts o.dst e.v) (updL hp (e.ws++e.ns)) (tcons k (e.rs++keys e.ns) (keys e.ws++keys e.ns) tr) (if e.yl then yc+1 else yc) (wr||!e.ws.isEmpty) (yd||e.yl)
   | some pv=>(V.dr=true→rest=[])∧(wr||!e.ws.isEmpty)=false∧Qp pv (tcons k (e.rs++keys e.ns) (keys e.ws++keys e.ns) tr)
  | some false=>unD o ts∧lexX P G V ops base Q Qp (k+1) rest (putT ts o.dst undef) hp tr yc wr yd
  | none=>False

theorem tcons_eq (k:Nat) (rd wr:List Nat) (tr:Tr):tcons k rd wr tr=(k,rd,wr)::tr∨(rd=[]∧wr=[]∧tcons k rd wr tr=tr):=by
 cases rd with
 | nil=>cases wr with
  | nil=>exact .inr ⟨rfl,rfl,rfl⟩
  | cons=>exact .inl rfl
 | cons=>exact .inl rfl

theorem chk_tcons {md:Region.Mode} {ops:Array Oper} {k:Nat} {rd wr:List Nat} {tr:Tr} (h:chk md ops (tcons k rd wr tr)=true) :
  chk md ops tr=true∧∀ q∈tr,((∀ x∈rd,x∉q.2.2)∧(∀ x∈wr,x∉q.2.1))∨waitsB md ops k q.1=true:=by
 rcases tcons_eq k rd wr tr with e|⟨h1,h2,e⟩
 ·rw [e] at h
  simp only [chk,Bool.and_eq_true,List.all_eq_true,Bool.or_eq_true] at h
  refine ⟨h.2,fun q hq=>(h.1 q hq).imp (fun h=>⟨fun x hx=>?_,fun x hx=>?_⟩) id⟩
  ·have:=List.all_eq_true.1 h.1 x hx;simpa using this
  ·have:=List.all_eq_true.1 h.2 x hx;simpa using this
 ·rw [e] at h;subst h1;subst h2
  exact ⟨h,fun q _=>.inl ⟨fun x hx=>(by cases hx),fun x hx=>(by cases hx)⟩⟩

section
variable {P:Program} {G:Hp} {V:XV}

def LogIn (lg:Nat→List Nat×List Nat) (tr:Tr):Prop :=
 ∀ j,lg j=([],[])∨∃ rd wr,(j,rd,wr)∈tr∧(∀ x∈(lg j).1,x∈rd)∧(∀ x∈(lg j).2,x∈wr)

theorem LogIn.step {lg:Nat→List Nat×List Nat} {tr:Tr} (h:LogIn lg tr) (k:Nat) (e:Eff):LogIn (upd lg k (e.rs,keys e.ws++keys e.ns)) (tcons k (e.rs++keys e.ns) (keys e.ws++keys e.ns) tr):=by
 intro j
 rcases tcons_eq k (e.rs++keys e.ns) (keys e.ws++keys e.ns) tr with e1|⟨h1,h2,e1⟩
 ·rw [e1]
  by_cases hj:j=k
  ·subst hj
   rw [upd_same]
   exact .inr ⟨_,_,List.mem_cons_self ..,fun x hx=>List.mem_append_left _ hx,fun x hx=>hx⟩
  ·rw [upd_other _ _ hj]
   exact (h j).imp id fun ⟨rd,wr,hm,a,b⟩=>⟨rd,wr,List.mem_cons_of_mem _ hm,a,b⟩
 ·rw [e1]
  by_cases hj:j=k
  ·subst hj
   rw [upd_same]
   have:e.rs=[]:=(List.append_eq_nil_iff.1 h1).1
   exact .inl (by rw [this,h2])
  ·rw [upd_other _ _ hj];exact h j

theorem lexX_chk {ops:Array Oper} {base:Nat} {K:(Nat→Value)→Hp→Nat→Prop} {Kp:Value→Prop} (hGF:GFlat G) (hb:100≤base):∀ (l:List Oper) (k:Nat) (ts:Nat→Value) (hp:Hp) (tr:Tr) (yc:Nat) (wr yd:Bool),(∀ x,x<100→hp x=G x) →
  lexX P G V ops base (fun ts hp tr yc=>chk .any ops tr=true∧K ts hp yc) (fun pv tr=>chk .any ops tr=true∧Kp pv) k l ts hp tr yc wr yd→chk .any ops tr=true
 | [],_,_,_,_,_,_,_,_,h=>h.1
 | o::l,k,ts,hp,tr,yc,wr,yd,hG,h=>by
  simp only [lexX] at h
  split at h
  ·obtain ⟨e,_,hs,_,h3⟩:=opX_sound hGF hG h
   split at h3
   ·refine (chk_tcons (lexX_chk hGF hb l _ _ _ _ _ _ _ (fun x hx=>?_) h3)).1
    rw [updL_other (fun hm=>?_)]
    ·exact hG x hx
    ·have:x∈keys e.ws∨x∈keys e.ns:=by simpa [keys] using hm
     rcases this with h|h
     ·have:=(hs.ws x h).2.2;omega
     ·have:=hs.ns x h;omega
   ·exact (chk_tcons h3.2.2.1).1
  ·exact lexX_chk hGF hb l _ _ _ _ _ _ _ hG h.2
  ·exact h.elim

def endK (Kn:(Nat→Value)→Hp→Nat→Prop) (Kp:Value→Prop) (B:Nat) (s:St):Prop :=
 (s.pn=none→Kn s.ts s.hp s.yc∧∀ x,B≤x→s.hp x=none)∧∀ pv,s.pn=some pv→s.wr=false∧Kp pv

theorem lexX_sound {ops:Array Oper} {base:Nat} {K:(Nat→Value)→Hp→Nat→Prop} {Kp:Value→Prop} (hGF:GFlat G) (hb:100≤base) (hdr:V.dr=true):∀ (l:List Oper) (k:Nat) (ts:Nat→Value) (hp:Hp) (tr:Tr) (yc:Nat) (wr yd:Bool) (lg:Nat→List Nat×List Nat),(∀ x,x<100→hp x=G x) →
  (∀ x,base+8*k≤x→hp x=none)→LogIn lg tr→(∀ j,k≤j→lg j=([],[]))→(∀ o∈l,unC P o) →
  lexX P G V ops base (fun ts hp tr yc=>chk .any ops tr=true∧K ts hp yc) (fun pv tr=>chk .any ops tr=true∧Kp pv) k l ts hp tr yc wr yd →
  wpLex (okp P V.Y) .any ops base (endK K Kp (base+8*(k+l.length))) k l ⟨ts,hp,lg,yc,yd,none,wr⟩
 | [],k,ts,hp,tr,yc,wr,yd,lg,hG,hn,hl,hz,hu,h=>⟨fun _=>⟨h.2,by simpa using hn⟩,fun _ h=>(by cases h)⟩
 | o::l,k,ts,hp,tr,yc,wr,yd,lg,hG,hn,hl,hz,hu,h=>by
  have hlen:k+(o::l).length=(k+1)+l.length:=by simp;omega
  rw [hlen]
  simp only [lexX] at h
  simp only [wpLex]
  cases hw:wantedG ops o ts with
  | none=>rw [hw] at h;exact h.elim
  | some b =>
   rw [hw] at h
   cases b with
   | true =>
    simp only at h ⊢
    obtain ⟨e,h1,hs,hyd,h3⟩:=opX_sound hGF hG h
    have big:∀ x∈keys (e.ws++e.ns),100≤x:=fun x hm=>by
     have:x∈keys e.ws∨x∈keys e.ns:=by simpa [keys] using hm
     rcases this with h|h
     ·exact (hs.ws x h).2.2
     ·have:=hs.ns x h;omega
    have hG':∀ x,x<100→updL hp (e.ws++e.ns) x=G x:=fun x hx=>by
     rw [updL_other (fun hm=>by have:=big x hm;omega)];exact hG x hx
    have hn':∀ x,base+8*(k+1)≤x→updL hp (e.ws++e.ns) x=none:=fun x hx=>by
     rw [updL_other (fun hm=>?_)]
     ·exact hn x (by omega)
     ·have:x∈keys e.ws∨x∈keys e.ns:=by simpa [keys] using hm
      rcases this with h|h
      ·exact (hs.ws x h).2.1 (hn x (by omega))
      ·have:=hs.ns x h;omega
    have fits:chk .any ops (tcons k (e.rs++keys e.ns) (keys e.ws++keys e.ns) tr)=true→Fits .any ops base k ⟨ts,hp,lg,yc,yd,none,wr⟩ e:=fun hc=>by
     have hc:=chk_tcons hc
     refine ⟨hs.ws,fun x hx=>?_,fun x hx=>?_,hs.once,fun j hj=>?_,hz k (Nat.le_refl _),fun _=>rfl,hyd⟩
     ·have:=hs.ns x hx;omega
     ·have:=hs.ns x hx;exact hn x (by omega)
     ·rcases hl j with h0|⟨rd,wr,hm,a,b⟩
      ·simp only [h0];exact ⟨fun _ _ h=>(by cases h),fun _ _ h=>(by cases h)⟩
      ·rcases hc.2 _ hm with ⟨c1,c2⟩|c
       ·exact ⟨fun x hx hm=>c1 x hx (b x hm),fun x hx hm=>c2 x hx (a x hm)⟩
       ·rw [hj] at c;cases c
    cases hpn:e.pan with
    | none =>
     rw [hpn] at h3
     simp only at h3
     refine ⟨e,h1,fits (lexX_chk hGF hb l _ _ _ _ _ _ _ hG' h3),?_⟩
     have:=lexX_sound hGF hb hdr l (k+1) _ _ _ _ _ _ _ hG' hn' (hl.step k e) (fun j hj=>by rw [upd_other _ _ (by omega)];exact hz j (by omega)) (fun o ho=>hu o (List.mem_cons_of_mem _ ho)) h3
     simpa [St.after,hpn] using this
    | some pv =>
     rw [hpn] at h3
     obtain ⟨hrest,hwr,hch,hkp⟩:=h3
     obtain rfl:=hrest hdr
     refine ⟨e,h1,fits hch,?_⟩
     simp only [wpLex,St.after,hpn]
     refine ⟨fun h=>?_,fun pv' h=>?_⟩
     ·simp at h
     ·simp at h;subst h;exact ⟨hwr,hkp⟩
   | false =>
    simp only at h ⊢
    exact ⟨⟨h.1,hu o (by simp)⟩,lexX_sound hGF hb hdr l (k+1) _ _ _ _ _ _ _ hG (fun x hx=>hn x (by omega)) hl (fun j hj=>hz j (by omega)) (fun o ho=>hu o (List.mem_cons_of_mem _ ho)) h.2⟩

def unOk (P:Program) (ops:List Oper):Bool:=ops.all fun o=>match o.op with
 | .call c=>match c.callee with
  | .value (.func f)=>decide (f<P.funcs.size)
  | _=>true
 | _=>true
theorem unOk_spec {ops:List Oper} (h:unOk P ops=true):∀ o∈ops,unC P o:=fun o ho=>by
 have:=List.all_eq_true.1 h o ho
 unfold unC
 split
 ·rename_i c hc
  simp only [hc] at this
  split
  ·rename_i f hcc
   simp only [hcc,decide_eq_true_eq] at this
   exact ⟨_,Array.getElem?_eq_getElem this⟩
  ·trivial
 ·trivial

structure GS where
 ts:Nat→Value
 hp:Hp
 B:Nat
 yc:Nat

structure GI (P:Program) (C:Ctx) (n:Nat) (d:List Deferred) (r:Nat→Nat) (s:GS) (a:Act) (W:World):Prop where
 ri:RI C n d r s.ts s.hp s.yc a W
 free:∀ x,s.B≤x→s.hp x=none
 low:100≤s.B
 flat:GFlat C.G
 rounds:∀ y,C.Y=some y→Rounds P C.G C.E y

def GW (P:Program) (C:Ctx) (n:Nat) (d:List Deferred) (ro:Option Nat) (c:Code) (s:GS) (K:Exit→GS→Prop):Prop :=
 ∀ r a W,GI P C n d r s a W→c.wpIn (Fw P ro) 0 P (fun e a' W'=>∃ s' r',K e s'∧GI P C n d r' s' a' W') a W

variable {C:Ctx} {n:Nat} {d:List Deferred} {ro:Option Nat} {s:GS} {K:Exit→GS→Prop} {yc:Nat}

def thenG (next:GS→Prop) (K:Exit→GS→Prop):Exit→GS→Prop
 | .normal,s=>next s
 | e,s=>K e s

theorem GW_mono {c:Code} {K':Exit→GS→Prop} (h:GW P C n d ro c s K) (hk:∀ e s,K e s→K' e s):GW P C n d ro c s K' :=
 fun r a W hi=>wpIn_mono (h r a W hi) fun _ _ _ ⟨s',r',k,i⟩=>⟨s',r',hk _ _ k,i⟩

theorem GW_seq {x y:Code} (h:GW P C n d ro x s (thenG (fun s'=>GW P C n d ro y s' K) K)):GW P C n d ro (.seq x y) s K:=by
 intro r a W hi
 refine wpIn_seq (wpIn_mono (h r a W hi) ?_)
 rintro e a' W' ⟨s',r',k,i⟩
 cases e with
 | normal=>exact k r' a' W' i
 | _=>exact ⟨s',r',k,i⟩

theorem GW_skip (h:K .normal s):GW P C n d ro .skip s K:=fun r _ _ hi=>wpIn_skip ⟨s,r,h,hi⟩
theorem GW_ret (h:K .ret s):GW P C n d ro .ret s K:=fun r _ _ hi=>wpIn_ret ⟨s,r,h,hi⟩
theorem GW_exit {id:Nat} (h:K (.exit id) s):GW P C n d ro (.exit id) s K:=fun r _ _ hi=>wpIn_exit ⟨s,r,h,hi⟩
theorem GW_goto {id:Nat} (h:K (.goto id) s):GW P C n d ro (.goto id) s K:=fun r _ _ hi=>wpIn_goto ⟨s,r,h,hi⟩
theorem GW_label {id:Nat} (h:K .normal s):GW P C n d ro (.label id) s K:=fun r _ _ hi=>wpIn_label ⟨s,r,h,hi⟩

theorem GW_cond {t:Tmp} {x y:Code} {b:Bool} (hb:s.ts t=.bool b) (ht:b=true→GW P C n d ro x s K) (hf:b=false→GW P C n d ro y s K):GW P C n d ro (.cond (.tmp t) x y) s K:=by
 intro r a W hi
 have he:a.eval (.tmp t)=.bool b:=by
  have:=(hi.ri.rel t).resolve_left (by rw [hb];simp [junk])
  rw [hb] at this
  exact this.1
 exact wpIn_cond_split he (fun h=>ht h r a W hi) (fun h=>hf h r a W hi)

def blockG (id:Nat) (K:Exit→GS→Prop):Exit→GS→Prop
 | .exit id',s=>if id'=id then K .normal s else K (.exit id') s
 | e,s=>K e s

theorem GW_block {id:Nat} {c:Code} (h:GW P C n d ro c s (blockG id K)):GW P C n d ro (.block id c) s K:=by
 intro r a W hi
 refine wpIn_block (wpIn_mono (h r a W hi) ?_)
 rintro e a' W' ⟨s',r',k,i⟩
 cases e with
 | exit id' =>
  simp only [Exit.inBlock,blockG] at k ⊢
  split
  ·rename_i h;rw [if_pos h] at k;exact ⟨s',r',k,i⟩
  ·rename_i h;rw [if_neg h] at k;exact ⟨s',r',k,i⟩
 | _=>exact ⟨s',r',k,i⟩

structure Weak (C:Ctx) (s s':GS):Prop where
 ts:∀ t,s'.ts t=junk∨(s'.ts t=s.ts t∧idsV (dom s'.hp) (s'.ts t))
 hp:∀ k,100≤k→s'.hp k=none∨s'.hp k=s.hp k
 ids:∀ k b,s'.hp k=some b→b.ids (dom s'.hp)
 keep:∀ k,100≤k→dom C.hp0 k→s'.hp k=s.hp k
 glob:∀ k,k<100→s'.hp k=C.G k
 yc:s'.yc=s.yc
 free:∀ x,s'.B≤x→s'.hp x=none
 low:100≤s'.B

theorem GI.weak {r:Nat→Nat} {a:Act} {W:World} {s':GS} (h:GI P C n d r s a W) (hw:Weak C s s'):GI P C n d r s' a W:=by
 have hhp:∀ k,s'.hp k=none∨s'.hp k=s.hp k:=fun k=>by
  by_cases hk:100≤k
  ·exact hw.hp k hk
  ·exact .inr ((hw.glob k (by omega)).trans (h.ri.glob k (by omega)).symm)
 have sub:∀ k,dom s'.hp k→dom s.hp k:=fun k hk=>by
  rcases hhp k with h|h
  ·exact absurd h hk
  ·unfold dom at *;rwa [←h]
 refine ⟨{ h.ri with rel:=fun t=>?_,sat:=fun k b hb=>?_,inj:=fun k l hk hl=>h.ri.inj k l (sub k hk) (sub l hl),ext:=?_,keep:=fun i hi=>?_,glob:=hw.glob,low:=fun k hk hd=>h.ri.low k hk (sub k hd) },hw.free,hw.low,h.flat,h.rounds⟩
 ·rcases hw.ts t with e|⟨e,hi⟩
  ·exact .inl e
  ·rcases h.ri.rel t with e'|e'
   ·exact .inl (e.trans e')
   ·exact .inr ⟨by rw [e];exact e'.1,hi⟩
 ·rcases hhp k with e|e
  ·rw [e] at hb;cases hb
  ·exact ⟨(h.ri.sat k b (by rw [←e];exact hb)).1,hw.ids k b hb⟩
 ·obtain ⟨S,ms,h1,h2,h3,h4⟩:=h.ri.ext
  exact ⟨S,ms,by rw [hw.yc];exact h1,h2,fun i hi=>h3 i (sub i hi),h4⟩
 ·have:=h.ri.keep i hi
  exact ⟨by unfold dom;rw [show s'.hp i=s.hp i by
   by_cases h1:100≤i
   ·exact hw.keep i h1 hi
   ·exact (hw.glob i (by omega)).trans (h.ri.glob i (by omega)).symm];exact this.1,this.2⟩

theorem GW_weak {c:Code} {s':GS} (hw:Weak C s s') (h:GW P C n d ro c s' K):GW P C n d ro c s K :=
 fun r a W hi=>h r a W (hi.weak hw)

theorem GW_loop {c:Code} (I:Nat→GS→Prop) {m0:Nat} {s0:GS} (hw:Weak C s s0) (h0:I m0 s0)
  (round:∀ m s,I m s→GW P C n d ro c s (thenG (fun s'=>∃ s'' m',Weak C s' s''∧I m' s''∧m'<m) K)):GW P C n d ro (.loop c) s K:=by
 have key:∀ (m:Nat) (s:GS),I m s→∀ r a W,GI P C n d r s a W→∀ (b:Frame) (k:List Item) (cs:List Frame),b.roundOf=ro →
   (Fs P).fn b.fn→∃ e a' w',(∃ s' r',K e s'∧GI P C n d r' s' a' w')∧ArrivesIn (Machine.fenced P (Fw P ro)) P (lone (b.atR a (.code c::.inLoop c::k)) cs W) b k cs e a' w':=by
  intro m
  induction m using Nat.strongRecOn with
  | _ m ih =>
   intro s hI r a W hi b k cs hro hfn
   obtain ⟨e,a₁,w₁,⟨s',r',hk,hi'⟩,harr⟩:=round m s hI r a W hi b (.inLoop c::k) cs hro hfn (room_Fs P _)
   cases e with
   | normal =>
    obtain ⟨s'',m',hw'',hI'',hlt⟩:=hk
    obtain ⟨e₂,a₂,w₂,hq₂,harr₂⟩:=ih m' hlt s'' hI'' r' a₁ w₁ (hi'.weak hw'') b k cs hro hfn
    exact ⟨e₂,a₂,w₂,hq₂,.of_steps (StepsIn.trans harr (.one (fenced_calm (F:=Fw P ro) (n:=0) hfn (room_Fs P _) rfl) stepR_inLoop)) harr₂⟩
   | exit id=>exact ⟨_,a₁,w₁,⟨s',r',hk,hi'⟩,.pass (x:=.inLoop c) rfl (fun _ _=>.inl (by simp)) harr⟩
   | goto l=>exact ⟨_,a₁,w₁,⟨s',r',hk,hi'⟩,.pass (x:=.inLoop c) rfl (fun _ _=>.inl (by simp)) harr⟩
   | ret=>exact ⟨_,a₁,w₁,⟨s',r',hk,hi'⟩,.pass (x:=.inLoop c) rfl (fun _ _=>.inl (by simp)) harr⟩
   | panic ch=>exact ⟨_,a₁,w₁,⟨s',r',hk,hi'⟩,.pass (x:=.inLoop c) rfl (fun _ _=>.inl (by simp)) harr⟩
   | outgrown=>exact ⟨_,a₁,w₁,⟨s',r',hk,hi'⟩,.pass (x:=.inLoop c) rfl (fun _ _=>.inl (by simp)) harr⟩
 intro r a W hi b k cs hro hb hr
 obtain ⟨e,a',w',hq,harr⟩:=key m0 s0 h0 r a W (hi.weak hw) b k cs hro hb
 exact ⟨e,a',w',hq,.of_steps (.one (fenced_calm hb hr rfl) stepR_loop) harr⟩

theorem GW_for {c:Code} (N:Nat) (St:Nat→GS) (hw:Weak C s (St 0)) (round:∀ i,i<N→GW P C n d ro c (St i) (thenG (fun s'=>Weak C s' (St (i+1))) K))
  (last:GW P C n d ro c (St N) (thenG (fun _=>False) K)):GW P C n d ro (.loop c) s K:=by
 refine GW_loop (m0:=N) (fun m s=>∃ i,i+m=N∧s=St i) hw ⟨0,by omega,rfl⟩ ?_
 rintro m _ ⟨i,hi,rfl⟩
 cases m with
 | zero =>
  obtain rfl:i=N:=by omega
  refine GW_mono last fun e s h=>?_
  cases e<;>first|exact h|exact h.elim
 | succ m =>
  refine GW_mono (round i (by omega)) fun e s h=>?_
  cases e<;>first|exact h|exact ⟨St (i+1),m,h,⟨i+1,by omega,rfl⟩,by omega⟩

theorem stepR_scope {b:Frame} {a:Act} {c:Code} {k:List Item} {cs:List Frame} {w:World}:step P (lone (b.atR a (.code (.scope c)::k)) cs w)=.next (lone (b.atR a (.code c::.inScope c::k)) cs w):=by
 exact step_lone_go (by simp [stepG,stepG.exec,Frame.atR])
theorem stepR_inScope {b:Frame} {a:Act} {c:Code} {k:List Item} {cs:List Frame} {w:World}:step P (lone (b.atR a (.inScope c::k)) cs w)=.next (lone (b.atR a k) cs w):=by
 exact step_lone_go (by simp [stepG,stepG.exec,Frame.atR])
def jumpG (l:Nat) (J:GS→Prop) (K:Exit→GS→Prop):Exit→GS→Prop
 | .goto l',s=>l'=l∧J s
 | e,s=>K e s
theorem GW_scope {c rest:Code} (l:Nat) (I:Nat→GS→Prop) (hfl:findLabel c l=some rest) (first:GW P C n d ro c s (jumpG l (fun s'=>∃ s'' m',Weak C s' s''∧I m' s'') K))
  (pass:∀ m s,I m s→GW P C n d ro rest s (jumpG l (fun s'=>∃ s'' m',Weak C s' s''∧I m' s''∧m'<m) K)):GW P C n d ro (.scope c) s K:=by
 intro r a W hi b k cs hro hb hr
 have hg:gotoIn l (.inScope c::k)=some (.code rest::.inScope c::k):=by simp [gotoIn,hfl]
 have sIn:∀ {a W},StepsIn (Machine.fenced P (Fw P ro)) P (lone (b.atR a (.inScope c::k)) cs W) (lone (b.atR a k) cs W):=fun {a W} =>
  .one (fenced_calm (F:=Fw P ro) (n:=0) hb (room_Fs P _) rfl) stepR_inScope
 have s0:StepsIn (Machine.fenced P (Fw P ro)) P (lone (b.atR a (.code (.scope c)::k)) cs W) (lone (b.atR a (.code c::.inScope c::k)) cs W) :=
  .one (fenced_calm (F:=Fw P ro) (n:=0) hb (room_Fs P _) rfl) stepR_scope
 have key:∀ (m:Nat) (s:GS),I m s→∀ r a W,GI P C n d r s a W →
   ∃ e a' w',(∃ s' r',K e s'∧GI P C n d r' s' a' w')∧ArrivesIn (Machine.fenced P (Fw P ro)) P (lone (b.atR a (.code rest::.inScope c::k)) cs W) b k cs e a' w':=by
  intro m
  induction m using Nat.strongRecOn with
  | _ m ih =>
   intro s hI r a W hi
   obtain ⟨e,a₁,w₁,⟨s',r',hk,hi'⟩,harr⟩:=pass m s hI r a W hi b (.inScope c::k) cs hro hb hr
   cases e with
   | normal=>exact ⟨.normal,a₁,w₁,⟨s',r',hk,hi'⟩,StepsIn.trans harr sIn⟩
   | goto l' =>
    obtain ⟨rfl,s'',m',hw,hI',hlt⟩:=hk
    obtain ⟨e₂,a₂,w₂,hq₂,harr₂⟩:=ih m' hlt s'' hI' r' a₁ w₁ (hi'.weak hw)
    exact ⟨e₂,a₂,w₂,hq₂,.of_steps (harr.1 _ hg) harr₂⟩
   | exit id=>exact ⟨_,a₁,w₁,⟨s',r',hk,hi'⟩,fun k' hk=>harr.1 k' (by simp [exitTo,hk]),fun hr' hk=>harr.2 hr' (by simpa [exitTo] using hk)⟩
   | ret=>exact ⟨_,a₁,w₁,⟨s',r',hk,hi'⟩,harr⟩
   | panic ch=>exact ⟨_,a₁,w₁,⟨s',r',hk,hi'⟩,harr⟩
   | outgrown=>exact ⟨_,a₁,w₁,⟨s',r',hk,hi'⟩,harr⟩
 obtain ⟨e,a₁,w₁,⟨s',r',hk,hi'⟩,harr⟩:=first r a W hi b (.inScope c::k) cs hro hb hr
 cases e with
 | normal=>exact ⟨.normal,a₁,w₁,⟨s',r',hk,hi'⟩,StepsIn.trans s0 (StepsIn.trans harr sIn)⟩
 | goto l' =>
  obtain ⟨rfl,s'',m',hw,hI'⟩:=hk
  obtain ⟨e₂,a₂,w₂,hq₂,harr₂⟩:=key m' s'' hI' r' a₁ w₁ (hi'.weak hw)
  exact ⟨e₂,a₂,w₂,hq₂,.of_steps (StepsIn.trans s0 (harr.1 _ hg)) harr₂⟩
 | exit id=>exact ⟨_,a₁,w₁,⟨s',r',hk,hi'⟩,.of_steps s0 (e:=.exit id) ⟨fun k' hk=>harr.1 k' (by simp [exitTo,hk]),fun hr' hk=>harr.2 hr' (by simpa [exitTo] using hk)⟩⟩
 | ret=>exact ⟨_,a₁,w₁,⟨s',r',hk,hi'⟩,.of_steps s0 harr⟩
 | panic ch=>exact ⟨_,a₁,w₁,⟨s',r',hk,hi'⟩,.of_steps s0 harr⟩
 | outgrown=>exact ⟨_,a₁,w₁,⟨s',r',hk,hi'⟩,.of_steps s0 harr⟩

def keepT (l:List Oper) (ts:Nat→Value):Nat→Value:=fun t=>if l.any (fun o=>o.dst==some t) then junk else ts t
theorem GI.panicked {l:List Oper} {r r':Nat→Nat} {a a':Act} {W W':World} {ts':Nat→Value} {hp':Hp} {yc':Nat} (h0:GI P C n d r s a W) (hs:∀ k b,s.hp k=some b→hp' k=some b) (hts:∀ t,(∀ o∈l,o.dst≠some t)→ts' t=s.ts t) (h:RI C n d r' ts' hp' yc' a' W') :
  GI P C n d r' ⟨keepT l s.ts,s.hp,s.B,yc'⟩ a' W':=by
 have sub:∀ k,dom s.hp k→dom hp' k:=fun k hk=>by
  unfold dom at *
  cases hb:s.hp k with
  | none=>exact absurd hb hk
  | some b=>rw [hs k b hb];simp
 exact ⟨{ h with
  rel:=fun t=>by
   show (if l.any (fun o=>o.dst==some t) then junk else s.ts t)=junk∨_
   cases hd:l.any (fun o=>o.dst==some t) with
   | true=>exact .inl rfl
   | false =>
    have ht:=hts t (fun o ho e=>by
     have:=List.any_eq_false.1 hd o ho
     rw [e] at this;simp at this)
    rcases h0.ri.rel t with e|e
    ·exact .inl e
    ·rcases h.rel t with e'|e'
     ·exact .inl (ht.symm.trans e')
     ·refine .inr ⟨?_,?_⟩
      ·rw [e'.1,ht];simp [keepT,hd]
      ·simp only [keepT,hd];exact e.2
  sat:=fun k b hk=>⟨(h.sat k b (hs k b hk)).1,(h0.ri.sat k b hk).2⟩
  inj:=fun k l hk hl=>h.inj k l (sub k hk) (sub l hl)
  ext:=by
   obtain ⟨S,ms,h1,h2,h3,h4⟩:=h.ext
   exact ⟨S,ms,h1,h2,fun i hi=>h3 i (sub i hi),h4⟩
  keep:=fun i hi=>⟨(h0.ri.keep i hi).1,(h.keep i hi).2⟩
  glob:=h0.ri.glob
  low:=fun k hk hd=>h.low k hk (sub k hd) },h0.free,h0.low,h0.flat,h0.rounds⟩

theorem GW_draw {id:Nat} {l:List Oper} (pn:List FuncId) (hm:P.follows .mixedOrders=true) (hB:Region.lexFrom .any l.toArray l.length 0 (Array.replicate l.length false)=true) (hdst:(dstOk n l&&unOk P l)=true)
  (h:∀ (Q:(Nat→Value)→Hp→Tr→Nat→Prop) (Qp:Value→Tr→Prop),(∀ ts hp tr yc,chk .any l.toArray tr=true→K .normal ⟨ts,hp,s.B+8*l.length,yc⟩→Q ts hp tr yc) →
   (∀ pv tr,chk .any l.toArray tr=true→(∀ yc,K (.panic [{ v:=pv,recovered:=false }]) ⟨keepT l s.ts,s.hp,s.B,yc⟩)→Qp pv tr)→lexX P C.G ⟨C.Y,pn,true⟩ l.toArray s.B Q Qp 0 l s.ts s.hp [] s.yc false false):GW P C n d ro (.region id l.toArray true) s K:=by
 intro r a W hi
 simp only [Bool.and_eq_true] at hdst
 replace h:=h (fun ts hp tr yc=>chk .any l.toArray tr=true∧K .normal ⟨ts,hp,s.B+8*l.length,yc⟩) (fun pv tr=>chk .any l.toArray tr=true∧∀ yc,K (.panic [{ v:=pv,recovered:=false }]) ⟨keepT l s.ts,s.hp,s.B,yc⟩) (fun _ _ _ _ a b=>⟨a,b⟩) (fun _ _ a b=>⟨a,b⟩)
 have hw:=lexX_sound (P:=P) (G:=C.G) (V:=⟨C.Y,pn,true⟩) (base:=s.B) (K:=fun ts hp yc=>K .normal ⟨ts,hp,s.B+8*l.length,yc⟩) (Kp:=fun pv=>∀ yc,K (.panic [{ v:=pv,recovered:=false }]) ⟨keepT l s.ts,s.hp,s.B,yc⟩) hi.flat hi.low rfl l 0 s.ts s.hp [] s.yc false false (fun _=>([],[])) hi.ri.glob (by simpa using hi.free) (fun _=>.inl rfl) (fun _ _=>rfl) (unOk_spec hdst.2) h
 refine region_draw (meets hi.flat hi.rounds) meetsU hm hB hdst.1 hi.ri hw ?_ ?_ ?_
 ·rintro s' hk hpn r' a' W' hi'
  obtain ⟨hk,hf⟩:=hk.1 hpn
  exact ⟨⟨s'.ts,s'.hp,s.B+8*l.length,s'.yc⟩,r',hk,hi',by simpa using hf,by have:=hi.low;simp;omega,hi.flat,hi.rounds⟩
 ·intro s' pv hk hpn _ r' a' W' ts' hp' yc' hs hts hi'
  exact ⟨_,r',(hk.2 pv hpn).2 yc',hi.panicked hs hts hi'⟩
 ·intro s' hk hpn
  cases hp:s'.pn with
  | none=>exact absurd hp hpn
  | some pv=>exact (hk.2 pv hp).1

theorem wpList_of_lexX {ops:Array Oper} {base:Nat} {pn:List FuncId} {Q:Exit→Act→World→Prop} {Kn:(Nat→Value)→Hp→Nat→Prop} {Kp:Value→Prop} {hp0:Hp} {ts0:Nat→Value} {l0:List Oper} (hGF:GFlat C.G) (hR:∀ y,C.Y=some y→Rounds P C.G C.E y) (hb:100≤base):∀ (l:List Oper) (k:Nat) (ts:Nat→Value) (hp:Hp) (tr:Tr) (yc:Nat) (wr yd:Bool) (r:Nat→Nat) (a:Act) (W:World),
  (∀ o∈l,(((∀ dd,o.dst=some dd→dd<n)∧∀ c,o.op≠.defer c)∧unC P o)∧o∈l0)→(∀ t,(∀ o∈l0,o.dst≠some t)→ts t=ts0 t)→RI C n d r ts hp yc a W→(∀ x,base+8*k≤x→hp x=none)→(wr=false→∀ k b,hp0 k=some b→hp k=some b) →
  (∀ ts hp yc r a W,Kn ts hp yc→RI C n d r ts hp yc a W→(∀ x,base+8*(k+l.length)≤x→hp x=none)→Q .normal a W) →
  (∀ pv ts hp yc r a W,Kp pv→(∀ k b,hp0 k=some b→hp k=some b)→(∀ t,(∀ o∈l0,o.dst≠some t)→ts t=ts0 t)→RI C n d r ts hp yc a W→Q (.panic [{ v:=pv,recovered:=false }]) a W) →
  lexX P C.G ⟨C.Y,pn,false⟩ ops base (fun ts hp _ yc=>Kn ts hp yc) (fun pv _=>Kp pv) k l ts hp tr yc wr yd→wpListIn (Fw P ro) 0 P ops Q l a W
 | [],k,ts,hp,tr,yc,wr,yd,r,a,W,_,_,hi,hn,_,hQ,_,h=>hQ ts hp yc r a W h hi (by simpa using hn)
 | o::l,k,ts,hp,tr,yc,wr,yd,r,a,W,hd,hts,hi,hn,hs0,hQ,hQp,h=>by
  have hlen:k+(o::l).length=(k+1)+l.length:=by simp;omega
  rw [hlen] at hQ
  refine wpListIn_step fun K hK=>?_
  simp only [lexX] at h
  cases hw:wantedG ops o ts with
  | none=>rw [hw] at h;exact h.elim
  | some b =>
   rw [hw] at h
   rw [wantedG_eq hi.rel hw]
   cases b with
   | true =>
    simp only at h
    simp only [if_true]
    obtain ⟨e,h1,hs,hyd,h3⟩:=opX_sound hGF hi.glob h
    have hs1:(wr||!e.ws.isEmpty)=false→∀ k b,hp0 k=some b→updL hp (e.ws++e.ns) k=some b:=fun hwr k' b hk'=>by
     simp only [Bool.or_eq_false_iff] at hwr
     have e0:e.ws=[]:=by have:=hwr.2;simpa using this
     have hh:=hs0 hwr.1 k' b hk'
     rw [e0,List.nil_append,updL_other (fun hm=>by have:=hs.ns k' hm;rw [hn k' (by omega)] at hh;cases hh)]
     exact hh
    refine meets hGF hR o e ts hp yc r a W 0 _ _ hi (hd o (by simp)).1.1 h1 (fun x hx=>(hs.ws x hx).2) (fun x hx=>?_) (fun r' a' W' hpn hi'=>hK _ _ ?_) (fun pv W' yc' hpn hi'=>?_)
    ·have:=hs.ns x hx;exact ⟨hn x (by omega),by omega⟩
    ·rw [hpn] at h3
     refine wpList_of_lexX hGF hR hb l (k+1) _ _ _ _ _ _ r' a' W' (fun o ho=>hd o (List.mem_cons_of_mem _ ho)) (fun t ht=>(putT_keep (ht o (hd o (by simp)).2)).trans (hts t ht)) hi' (fun x hx=>?_) hs1 hQ hQp h3
     rw [updL_other (fun hm=>?_)]
     ·exact hn x (by omega)
     ·have:x∈keys e.ws∨x∈keys e.ns:=by simpa [keys] using hm
      rcases this with h|h
      ·exact (hs.ws x h).2.1 (hn x (by omega))
      ·have:=hs.ns x h;omega
    ·rw [hpn] at h3
     obtain ⟨_,hwr,hkp⟩:=h3
     simp only [Bool.or_eq_false_iff] at hwr
     exact hQp pv ts hp yc' r a W' hkp (hs0 hwr.1) hts hi'
   | false =>
    simp only at h
    simp only [Bool.false_eq_true,if_false]
    exact ⟨meetsU (Y:=none) o ts r _ a W hi.rel ⟨h.1,(hd o (by simp)).1.2⟩,hK _ _ (wpList_of_lexX hGF hR hb l (k+1) _ _ _ _ _ _ r _ W (fun o ho=>hd o (List.mem_cons_of_mem _ ho)) (fun t ht=>(putT_keep (ht o (hd o (by simp)).2)).trans (hts t ht)) (hi.put_undef (hd o (by simp)).1.1.1) (fun x hx=>hn x (by omega)) hs0 hQ hQp h.2)⟩

theorem GW_region {id:Nat} {l:List Oper} (pn:List FuncId) (hdst:(dstOk n l&&unOk P l)=true) (h:∀ (Q:(Nat→Value)→Hp→Tr→Nat→Prop) (Qp:Value→Tr→Prop),(∀ ts hp tr yc,K .normal ⟨ts,hp,s.B+8*l.length,yc⟩→Q ts hp tr yc) →
   (∀ pv tr,(∀ yc,K (.panic [{ v:=pv,recovered:=false }]) ⟨keepT l s.ts,s.hp,s.B,yc⟩)→Qp pv tr)→lexX P C.G ⟨C.Y,pn,false⟩ l.toArray s.B Q Qp 0 l s.ts s.hp [] s.yc false false):GW P C n d ro (.region id l.toArray false) s K:=by
 intro r a W hi
 simp only [Bool.and_eq_true] at hdst
 replace h:=h (fun ts hp _ yc=>K .normal ⟨ts,hp,s.B+8*l.length,yc⟩) (fun pv _=>∀ yc,K (.panic [{ v:=pv,recovered:=false }]) ⟨keepT l s.ts,s.hp,s.B,yc⟩) (fun _ _ _ _ a=>a) (fun _ _ a=>a)
 refine wpIn_region_lit (wpList_of_lexX (Kn:=fun ts hp yc=>K .normal ⟨ts,hp,s.B+8*l.length,yc⟩) (Kp:=fun pv=>∀ yc,K (.panic [{ v:=pv,recovered:=false }]) ⟨keepT l s.ts,s.hp,s.B,yc⟩) (hp0:=s.hp) (ts0:=s.ts) (l0:=l) hi.flat hi.rounds hi.low l 0 s.ts s.hp [] s.yc false false r a W (fun o ho=>⟨⟨dstOk_spec hdst.1 ho,unOk_spec hdst.2 o ho⟩,ho⟩) (fun _ _=>rfl) hi.ri (by simpa using hi.free) (fun _ _ _ h=>h) ?_ ?_ h)
 ·intro ts hp yc r' a' W' hk hi' hf
  exact ⟨⟨ts,hp,s.B+8*l.length,yc⟩,r',hk,hi',by simpa using hf,by have:=hi.low;simp;omega,hi.flat,hi.rounds⟩
 ·intro pv ts hp yc r' a' W' hk hs hts hi'
  exact ⟨_,r',hk yc,hi.panicked hs hts hi'⟩

def resG1 (P:Program) (ts:Nat→Value) (hp:Hp):ResultVar→Option Value
 | .tmp t=>if notTup (ts t) then some (ts t) else none
 | .cell t T=>match ts t with
  | .pointer (some ⟨k,off,none⟩)=>match hp k with
   | some b=>match loadK P T b off with
    | some v=>if notTup v then some v else none
    | none=>none
   | none=>none
  | _=>none
def resGL (P:Program) (ts:Nat→Value) (hp:Hp):List ResultVar→Option (List Value)
 | []=>some []
 | x::l=>match resG1 P ts hp x with
  | some v=>match resGL P ts hp l with
   | some vs=>some (v::vs)
   | none=>none
  | none=>none
def resG (P:Program) (rs:List ResultVar) (ts:Nat→Value) (hp:Hp):Option Value :=
 match resGL P ts hp rs with
 | some [v]=>some v
 | some vs=>some (.tuple vs.toArray)
 | none=>none

def resRun (tmps:Array Value):ResultVar→Sem Value
 | .tmp t=>pure (tmps.getD t undef)
 | .cell a t=>do loadVar t (←asAddr (tmps.getD a undef))
theorem results_eq (fn:Func) (tmps:Array Value):results fn tmps=(do let vs ←fn.results.mapM (resRun tmps);pure (if h:vs.size=1 then vs[0] else .tuple vs)):=by
 unfold results
 congr 2

theorem run_resG1 {r:Nat→Nat} {D:Nat→Prop} {ts:Nat→Value} {hp:Hp} {a:Act} {W:World} (h:Rel r D ts a) (hs:Sat r D hp W) {x:ResultVar} {v:Value} (hv:resG1 P ts hp x=some v) :
  (resRun a.tmps x).run P W=.ok (ren r v) W∧notTup v=true:=by
 cases x with
 | tmp t =>
  simp only [resG1] at hv
  split at hv
  ·rename_i hn
   cases hv
   have:=(h t).resolve_left (by intro e;rw [e] at hn;simp [notTup,junk] at hn)
   exact ⟨by simp only [resRun,Sem.run_pure,this.1],hn⟩
  ·cases hv
 | cell t T =>
  simp only [resG1] at hv
  split at hv
  ·rename_i k off hg
   split at hv
   ·rename_i b hb
    split at hv
    ·rename_i u hu
     split at hv
     ·rename_i hn
      cases hv
      have h1:=(h t).resolve_left (by rw [hg];simp [junk])
      rw [hg] at h1
      have h3:a.tmps.getD t undef=.pointer (some ⟨r k,off,none⟩):=h1.1
      refine ⟨?_,hn⟩
      simp only [resRun,h3,asAddr]
      have:=run_loadVar_K hu (hs k b hb).1
      simpa using this
     ·cases hv
    ·cases hv
   ·cases hv
  ·cases hv

theorem run_resGL {r:Nat→Nat} {D:Nat→Prop} {ts:Nat→Value} {hp:Hp} {a:Act} {W:World} (h:Rel r D ts a) (hs:Sat r D hp W):∀ (l:List ResultVar) (vs:List Value),resGL P ts hp l=some vs →
  (l.mapM (resRun a.tmps)).run P W=.ok (vs.map (ren r)) W∧∀ v∈vs,notTup v=true
 | [],vs,hv=>by simp only [resGL,Option.some.injEq] at hv;subst hv;simp
 | x::l,vs,hv=>by
  simp only [resGL] at hv
  split at hv
  ·rename_i v h1
   split at hv
   ·rename_i us h2
    cases hv
    have e1:=run_resG1 h hs h1
    have e2:=run_resGL h hs l us h2
    refine ⟨?_,fun u hu=>?_⟩
    ·rw [List.mapM_cons,Sem.run_bind,e1.1]
     simp only [Result.andThen_ok,Sem.run_bind,e2.1,Sem.run_pure,List.map_cons]
    ·rcases List.mem_cons.1 hu with rfl|hu
     ·exact e1.2
     ·exact e2.2 u hu
   ·cases hv
  ·cases hv

theorem ren_notTup {r:Nat→Nat} {v:Value} (h:notTup v=true):ren r v=renA r v:=by cases v<;>simp_all [notTup,ren]

theorem run_resG' {fn:Func} {r:Nat→Nat} {D:Nat→Prop} {ts:Nat→Value} {hp:Hp} {a:Act} {W:World} (h:Rel r D ts a) (hs:Sat r D hp W) {v:Value} (hv:resG P fn.results.toList ts hp=some v):(results fn a.tmps).run P W=.ok (ren r v) W:=by
 unfold resG at hv
 have key:∀ vs,resGL P ts hp fn.results.toList=some vs→(results fn a.tmps).run P W=.ok (if h:(vs.map (ren r)).toArray.size=1 then (vs.map (ren r)).toArray[0] else .tuple (vs.map (ren r)).toArray) W∧∀ v∈vs,notTup v=true:=fun vs hvs=>by
  have e:=run_resGL h hs _ _ hvs
  refine ⟨?_,e.2⟩
  rw [results_eq,Array.mapM_eq_mapM_toList]
  simp only [Sem.run_bind,Sem.run_map,e.1,Result.andThen_ok,Sem.run_pure]
 split at hv
 ·rename_i u hu
  cases hv
  have:=(key _ hu).1
  simpa using this
 ·rename_i vs hn hu
  cases hv
  have e:=key _ hu
  rw [e.1]
  have hlen:vs.length≠1:=fun hl=>by
   match vs,hl with
   | [u],_=>exact hn u rfl
  rw [dif_neg (by simpa using hlen)]
  simp only [ren]
  congr 2
  apply Array.ext'
  simp only [Array.toList_map]
  exact List.map_congr_left fun v hv=>ren_notTup (e.2 v hv)
 ·cases hv

theorem leavesM {n:Nat} {fn:Func} {tmps:Array Value} {R:Ending→World→Prop} {u:FrameMode} (hu:u≠.run):∀ (ms:List Nat) (W:World),ms.Nodup→(∀ D∈ms,W.heap[D]? = some (.deferred (some []))) →
  (∀ W':World,W'.heap.size=W.heap.size→W'.os=W.os→W'.tape=W.tape→W'.output=W.output→(∀ k,k∉ms→W'.heap[k]? = W.heap[k]?)→LeavesIn (Fw P none) n P fn tmps R [] u W')→LeavesInM (Fw P none) n P fn tmps R (ms.map mark) u W
 | [],W,_,_,h=>h W rfl rfl rfl rfl fun _ _=>rfl
 | D::ms,W,hn,hd,h=>by
  have hD:=hd D (by simp)
  have hn':=List.nodup_cons.1 hn
  refine ⟨hu,.inl ⟨D,_,rfl,run_takeDeferred hD,leavesM hu ms _ hn'.2 (fun E hE=>?_) fun W' e1 e2 e3 e4 e5=>h W' ?_ e2 e3 e4 fun k hk=>?_⟩⟩
  ·rw [World.putObj_heap_other (fun e=>hn'.1 (by rw [←e];exact hE))];exact hd E (List.mem_cons_of_mem _ hE)
  ·rw [e1,putObj_size]
  ·simp only [List.mem_cons,not_or] at hk
   rw [e5 k hk.2,World.putObj_heap_other (fun e=>hk.1 e)]

def callE (W:World) (D:Nat→Prop):Ext where
 X _ S W':=(∀ k,S k↔k<W.heap.size∧¬D k)∧W'.os=W.os∧W'.tape=W.tape∧W'.output=W.output∧W.heap.size≤W'.heap.size∧∀ k,S k→W'.heap[k]? = W.heap[k]?
 ok _ _ _ _ h hs os tape output size:=⟨h.1,os.trans h.2.1,tape.trans h.2.2.1,output.trans h.2.2.2.1,Nat.le_trans h.2.2.2.2.1 size,fun k hk=>(hs k hk).trans (h.2.2.2.2.2 k hk)⟩

def resP (P:Program) (fn:Func) (hp:Hp) (res:Res) (e:Exit) (s:GS):Prop :=
 match res with
 | .ret v ws=>(e=.normal∨e=.ret)∧resG P fn.results.toList s.ts s.hp=some v∧∀ k,dom hp k→s.hp k=updL hp ws k
 | .pan v=>e=.panic [{ v:=v,recovered:=false }]∧∀ k,dom hp k→s.hp k=hp k
 | .new _ _=>False

theorem updL_once:∀ {ws:List (Nat×Blk)} {hp:Hp} {p:Nat×Blk},p∈ws→(∀ k b c,(k,b)∈ws→(k,c)∈ws→b=c)→updL hp ws p.1=some p.2:=fun {ws hp p} hp1 ho=>by
 have hd:dom (updL hp ws) p.1:=updL_dom.2 (.inr (mem_keys.2 ⟨p,hp1,rfl⟩))
 unfold dom at hd
 cases hb:updL hp ws p.1 with
 | none=>exact absurd hb hd
 | some b =>
  rcases updL_mem hb with ⟨_,h2⟩|h2
  ·exact absurd (mem_keys.2 ⟨p,hp1,rfl⟩) h2
  ·rw [ho p.1 b p.2 h2 hp1]

theorem fun_of {f:FuncId} {fn:Func} {c:Code} {args:Array Value} {hp:Hp} {rs:List Nat} {res:Res} {B:Nat} (hGF:GFlat G) (hG:∀ k,k<100→hp k=G k) (hf:P.funcs[f]? = some fn) (hb:fn.body=some c) (hcall:∀ a w,(callFunc f a).run P w=.ok (.enter f a) w)
  (ha:∀ x∈args,idsV (dom (rst hp rs)) x) (hcl:∀ k b,rst hp rs k=some b→b.ids (dom (rst hp rs))) (hfit:res.fits hp rs) (hn:args.size≤fn.ntmps) (hB:100≤B) (hfree:∀ x,B≤x→rst hp rs x=none)
  (h:∀ C:Ctx,C.G=G→C.hp0=rst hp rs→C.Y=none→GW P C fn.ntmps [] none c ⟨fun t=>args.getD t undef,rst hp rs,B,0⟩ (resP P fn (rst hp rs) res)):Fun P G f args hp rs res:=by
 refine ⟨hcall,ha,hcl,hfit,fun r W hgok hsat hinj hlow=>callsIn_of_wp_marks hf hb ⟨fn,hf⟩ ?_⟩
 have ltW:∀ k,dom (rst hp rs) k→r k<W.heap.size:=fun k hk=>by
  unfold dom at hk
  cases hb:rst hp rs k with
  | none=>exact absurd hb hk
  | some b=>exact (Array.getElem?_eq_some_iff.1 (hsat k b hb).1).1
 let im:Nat→Prop:=fun j=>∃ i,dom (rst hp rs) i∧r i=j
 let C:Ctx:=⟨callE W im,rst hp rs,r,G,none⟩
 have hi:GI P C fn.ntmps [] r ⟨fun t=>args.getD t undef,rst hp rs,B,0⟩ { tmps:=args.map (ren r)++Array.replicate (fn.ntmps - (args.map (ren r)).size) undef,defers:=[] } W:=by
  refine ⟨⟨by simp;omega,fun t=>?_,hsat,hinj,⟨fun k=>k<W.heap.size∧¬im k,[],⟨fun _=>Iff.rfl,rfl,rfl,rfl,Nat.le_refl _,fun _ _=>rfl⟩,fun k hk=>hk.1,fun i hi _ hS=>hS.2 ⟨i,hi,rfl⟩,⟨rfl,List.nodup_nil⟩,by simp⟩,
   fun i hi=>⟨hi,rfl⟩,fun k hk=>?_,hlow⟩,hfree,hB,hGF,fun y hy=>by cases hy⟩
  ·right
   dsimp only
   by_cases ht:t<args.size
   ·have hm:args[t]∈args:=Array.getElem_mem ht
    have e:args.getD t undef=args[t]:=by simp [Array.getD,ht]
    rw [e]
    refine ⟨?_,ha _ hm⟩
    have:t<(args.map (ren r)).size:=by simpa using ht
    simp [Array.getElem?_append_left this,ht]
   ·have e:args.getD t undef=undef:=by simp [Array.getElem?_eq_none (Nat.le_of_not_lt ht)]
    rw [e]
    refine ⟨?_,ids_undef _⟩
    rw [ren_undef]
    simp only [Array.getD_eq_getD_getElem?]
    rw [Array.getElem?_append_right (by simpa using Nat.le_of_not_lt ht),Array.getElem?_replicate]
    split<;>rfl
  ·show rst hp rs k=G k
   simp [rst,hk,hG k hk]
 refine wpIn_mono (h C rfl rfl rfl r _ W hi) ?_
 rintro e a' W' ⟨s',r',hres,hi'⟩
 obtain ⟨S,ms,⟨hS,os,tape,output,size,hsame⟩,hS1,hS2,⟨hdef,hnd⟩,hms⟩:=hi'.ri.ext
 have hkeep:∀ i,dom (rst hp rs) i→dom s'.hp i∧r' i=r i:=hi'.ri.keep
 have hobj:∀ b:Blk,b.ids (dom (rst hp rs))→b.obj r'=b.obj r:=fun b hb=>Blk.obj_congr (fun k hk=>(hkeep k hk).2) hb
 -- the blocks of what was there
 have old:∀ W'':World,(∀ k,k∉ms→W''.heap[k]? = W'.heap[k]?)→∀ k,k<W.heap.size→¬im k→W''.heap[k]? = W.heap[k]?:=fun W'' hW k hk hi=>by
  have hSk:S k:=(hS k).2 ⟨hk,hi⟩
  rw [hW k (fun hm=>(hms k hm).2.1 hSk)]
  exact hsame k hSk
 have mine:∀ W'':World,(∀ k,k∉ms→W''.heap[k]? = W'.heap[k]?)→∀ i b,s'.hp i=some b→W''.heap[r' i]? = some (b.obj r'):=fun W'' hW i b hb=>by
  rw [hW _ (fun hm=>hi'.ri.ne_mark (by unfold dom;rw [hb];simp) (hms _ hm).1 rfl)]
  exact (hi'.ri.sat i b hb).1
 cases res with
 | ret v ws =>
  obtain ⟨he,hr,hhp⟩:=hres
  have hend:∀ W'':World,W''.heap.size=W'.heap.size→W''.os=W'.os→W''.tape=W'.tape→W''.output=W'.output→(∀ k,k∉ms→W''.heap[k]? = W'.heap[k]?) →
    LeavesIn (Fw P none) 0 P fn a'.tmps ((Res.ret v ws).holds r (dom (rst hp rs)) W) [] .returning W'':=fun W'' e1 e2 e3 e4 e5=>by
   have hsat':Sat r' (dom s'.hp) s'.hp W'':=fun k b hk=>⟨mine W'' e5 k b hk,(hi'.ri.sat k b hk).2⟩
   have hrun:=run_resG' (fn:=fn) hi'.ri.rel hsat' hr
   rw [ren_congr (fun k hk=>(hkeep k hk).2) hfit.1] at hrun
   refine ⟨_,hrun,rfl,?_⟩
   refine ⟨e2.trans os,e3.trans tape,e4.trans output,by rw [e1];exact size,fun k hk hnw=>?_,fun p hp1=>?_,by simp,by simp⟩
   ·by_cases hk':im k
    ·obtain ⟨i,hi1,rfl⟩:=hk'
     have hiw:i∉keys ws:=fun hm=>by obtain ⟨p,hp1,rfl⟩:=mem_keys.1 hm;exact hnw p hp1 rfl
     cases hb:rst hp rs i with
     | none=>exact absurd hb hi1
     | some b =>
      have e:s'.hp i=some b:=by rw [hhp i hi1,updL_other hiw];exact hb
      have:=mine W'' e5 i b e
      rw [(hkeep i hi1).2,hobj b (hcl i b hb)] at this
      rw [this,(hsat i b hb).1]
    ·exact old W'' e5 k hk hk'
   ·simp only [List.append_nil] at hp1
    have hk:=hfit.2.1 p.1 (mem_keys.2 ⟨p,hp1,rfl⟩)
    have hdm:dom (rst hp rs) p.1:=by unfold dom rst at *;simp [hk.1];exact hk.2.1
    have e:s'.hp p.1=some p.2:=by rw [hhp _ hdm];exact updL_once hp1 hfit.2.2.1
    have:=mine W'' e5 _ _ e
    have hid:=hfit.2.2.2 p hp1
    rw [(hkeep _ hdm).2,hobj _ hid] at this
    exact ⟨this,Blk.ids_mono (fun k hk=>.inl hk) hid⟩
  rcases he with rfl|rfl
  ·show LeavesInM _ _ _ _ _ _ a'.defers _ _
   rw [hdef,List.append_nil]
   exact leavesM (by simp) ms W' hnd (fun D hD=>(hms D hD).1) hend
  ·show LeavesInM _ _ _ _ _ _ a'.defers _ _
   rw [hdef,List.append_nil]
   exact leavesM (by simp) ms W' hnd (fun D hD=>(hms D hD).1) hend
 | new v ns=>exact hres.elim
 | pan v =>
  obtain ⟨rfl,hhp⟩:=hres
  show LeavesInM _ _ _ _ _ _ a'.defers _ _
  rw [hdef,List.append_nil]
  refine leavesM (by simp) ms W' hnd (fun D hD=>(hms D hD).1) fun W'' e1 e2 e3 e4 e5=>?_
  refine ⟨rfl,e2.trans os,e3.trans tape,e4.trans output,by rw [e1];exact size,fun k hk=>?_⟩
  by_cases hk':im k
  ·obtain ⟨i,hi1,rfl⟩:=hk'
   cases hb:rst hp rs i with
   | none=>exact absurd hb hi1
   | some b =>
    have e:s'.hp i=some b:=by rw [hhp i hi1];exact hb
    have:=mine W'' e5 i b e
    rw [(hkeep i hi1).2,hobj b (hcl i b hb)] at this
    rw [this,(hsat i b hb).1]
  ·exact old W'' e5 k hk hk'

theorem rst_G (hGF:GFlat G) (rs:List Nat):rst G rs=G:=funext fun k=>by
 unfold rst
 split
 ·rfl
 ·rename_i hk
  cases hg:G k with
  | none=>rfl
  | some b=>exact absurd (.inl (hGF k b hg).1) hk

theorem gok_sat (hGF:GFlat G) {W:World} (h:GOK G W):Sat id (dom G) G W:=fun k b hk=>by
 obtain ⟨_,hfl⟩:=hGF k b hk
 refine ⟨?_,Blk.flat_ids hfl⟩
 rw [id,h k b hk]
 rw [Blk.obj_flat (fun x hx=>hfl x hx)]

theorem ret_of_fun {f:FuncId} {args:Array Value} {v:Value} (hGF:GFlat G) (hv:flatV v=true) (ha:∀ x∈args,flatV x=true) (h:Fun P G f args G [] (.ret v [])):Ret P G f args v:=by
 refine ⟨hv,ha,h.enter,fun W hW=>?_⟩
 have hrun:=h.run id W hW (by rw [rst_G hGF];exact gok_sat hGF hW) (fun _ _ _ _ e=>e) (fun _ _ _=>rfl)
 rw [map_eq_self (fun x hx=>flatV_ren (ha x hx))] at hrun
 refine hrun.mono fun e W' ⟨he,ht⟩=>?_
 rw [flatV_ren hv] at he
 exact ⟨he,ht.os,ht.tape,ht.output,ht.size,fun k hk=>ht.same k hk (by simp)⟩

theorem ret_of {f:FuncId} {fn:Func} {c:Code} {args:Array Value} {v:Value} (hGF:GFlat G) (hf:P.funcs[f]? = some fn) (hb:fn.body=some c) (hcall:∀ a w,(callFunc f a).run P w=.ok (.enter f a) w)
  (hv:flatV v=true) (ha:∀ x∈args,flatV x=true) (hn:args.size≤fn.ntmps)
  (h:∀ C:Ctx,C.G=G→C.hp0=G→C.Y=none→GW P C fn.ntmps [] none c ⟨fun t=>args.getD t undef,G,200,0⟩ (fun e s=>(e=.normal∨e=.ret)∧resG P fn.results.toList s.ts s.hp=some v)):Ret P G f args v:=by
 refine ret_of_fun hGF hv ha (fun_of (B:=200) hGF (fun _ _=>rfl) hf hb hcall (fun x hx=>flatV_ids (ha x hx)) (fun k b hk=>?_) ⟨flatV_ids hv,by simp [keys],by simp,by simp⟩ hn (by omega) (fun x hx=>?_) fun C h1 h2 h3=>?_)
 ·rw [rst_G hGF] at hk ⊢
  exact Blk.flat_ids ((hGF k b hk).2)
 ·rw [rst_G hGF]
  cases hg:G x with
  | none=>rfl
  | some b=>have:=(hGF x b hg).1;omega
 ·rw [rst_G hGF] at h2 ⊢
  intro r a W hi
  refine wpIn_mono (h C h1 h2 h3 r a W hi) ?_
  rintro e a' W' ⟨s',r',⟨he,hr⟩,hi'⟩
  refine ⟨s',r',⟨he,hr,fun k hk=>?_⟩,hi'⟩
  have hlt:k<100:=by
   unfold dom at hk
   cases hg:G k with
   | none=>exact absurd hg hk
   | some b=>exact (hGF k b hg).1
  simp only [updL]
  rw [hi'.ri.glob k hlt,h1]

theorem retp_of {f:FuncId} {fn:Func} {c:Code} {args:Array Value} {oc:Out} (hGF:GFlat G) (hf:P.funcs[f]? = some fn) (hb:fn.body=some c) (hcall:∀ a w,(callFunc f a).run P w=.ok (.enter f a) w)
  (hv:∀ v,oc=.ret v→flatV v=true) (ha:∀ x∈args,flatV x=true) (hn:args.size≤fn.ntmps)
  (h:∀ C:Ctx,C.G=G→C.hp0=G→C.Y=none→GW P C fn.ntmps [] none c ⟨fun t=>args.getD t undef,G,200,0⟩ (fun e s=>match oc with
   | .ret v=>(e=.normal∨e=.ret)∧resG P fn.results.toList s.ts s.hp=some v
   | .pan v=>e=.panic [{ v:=v,recovered:=false }])):RetP P G f args oc:=by
 refine ⟨hv,ha,hcall,fun W hW=>?_⟩
 have low:∀ k,dom G k→k<100:=fun k hk=>by
  unfold dom at hk
  cases hg:G k with
  | none=>exact absurd hg hk
  | some b=>exact (hGF k b hg).1
 cases oc with
 | ret v =>
  have hr:=ret_of (v:=v) hGF hf hb hcall (hv v rfl) ha hn h
  exact hr.2.2.2 W hW
 | pan v =>
  have hfun:Fun P G f args G [] (.pan v):=by
   refine fun_of (B:=200) hGF (fun _ _=>rfl) hf hb hcall (fun x hx=>flatV_ids (ha x hx)) (fun k b hk=>?_) trivial hn (by omega) (fun x hx=>?_) fun C h1 h2 h3=>?_
   ·rw [rst_G hGF] at hk ⊢
    exact Blk.flat_ids ((hGF k b hk).2)
   ·rw [rst_G hGF]
    cases hg:G x with
    | none=>rfl
    | some b=>have:=(hGF x b hg).1;omega
   ·rw [rst_G hGF] at h2 ⊢
    intro r a W hi
    refine wpIn_mono (h C h1 h2 h3 r a W hi) ?_
    rintro e a' W' ⟨s',r',he,hi'⟩
    exact ⟨s',r',⟨he,fun k hk=>by rw [hi'.ri.glob k (low k hk),h1]⟩,hi'⟩
  have hrun:=hfun.run id W hW (by rw [rst_G hGF];exact gok_sat hGF hW) (fun _ _ _ _ e=>e) (fun _ _ _=>rfl)
  rw [map_eq_self (fun x hx=>flatV_ren (ha x hx))] at hrun
  exact hrun

theorem Ret.unique {f:FuncId} {args:Array Value} {v u:Value} (hW:∃ W,GOK G W) (hi:P.inits.idxOf? f=none) (h:Ret P G f args v) (h':Ret P G f args u):v=u:=by
 obtain ⟨W,hW⟩:=hW
 have mk:∀ {v:Value},Ret P G f args v→∃ k w',runN P k (lone (Frame.enter P f args .normal) [] W)=.ended (.done v) w':=fun {v} h=>by
  have:=(h.2.2.2 W hW).calls.mono (R':=fun | .returned x,_=>x=v|_,_=>False) (fun e w' ⟨he,_⟩=>by subst he;rfl)
  obtain ⟨k,x,w',h1,h2⟩:=this.done hi
  exact ⟨k,w',by rw [h1];cases h2;rfl⟩
 obtain ⟨k,w1,h1⟩:=mk h
 obtain ⟨l,w2,h2⟩:=mk h'
 have more:∀ {k:Nat} {x:Value} {w:World},runN P k (lone (Frame.enter P f args .normal) [] W)=.ended (.done x) w→∀ m,runN P (k+m) (lone (Frame.enter P f args .normal) [] W)=.ended (.done x) w:=fun {k x w} hk m=>by
  rw [runN_add,hk]
 have e1:=more h1 l
 have e2:=more h2 k
 rw [Nat.add_comm] at e2
 rw [e1] at e2
 injection e2 with e2
 injection e2

theorem callK_iff {f:FuncId} {args:Array Value} {v:Value} {K:Value→Prop} (hW:∃ W,GOK G W) (hi:P.inits.idxOf? f=none) (h:Ret P G f args v):callK P G f args K↔K v:=by
 refine ⟨fun ⟨u,hu,hk⟩=>?_,fun hk=>⟨v,.inl h,hk⟩⟩
 rcases hu with hu|hu
 ·exact Ret.unique hW hi h hu▸hk
 ·have:=h.2.2.1 args default
  rw [hu.2.2 default] at this
  cases this
theorem callK_iffV {f:FuncId} {args:Array Value} {v:Value} {K:Value→Prop} (h:RetV P f args v):callK P G f args K↔K v:=by
 refine ⟨fun ⟨u,hu,hk⟩=>?_,fun hk=>⟨v,.inr h,hk⟩⟩
 rcases hu with hu|hu
 ·have:=hu.2.2.1 args default
  rw [h.2.2 default] at this
  cases this
 ·have:=hu.2.2 default
  rw [h.2.2 default] at this
  injection this with this
  injection this with this
  subst this
  exact hk

end

section
variable {P:Program} {G:Hp}

structure IterX (pn:Option Value) (P:Program) (G:Hp) (f:FuncId) (caps:Array Value) (hp:Hp) (rs:List Nat) (xs:List (Array Value)):Prop where
 enter:∀ a w,(callFunc f a).run P w=.ok (.enter f a) w
 cids:∀ x∈caps,plain0 x=true∧idsV (dom (rst hp rs)) x
 closed:∀ k b,rst hp rs k=some b→b.ids (dom (rst hp rs))
 run:∀ (E:Ext) (l stop:Nat) r S W,GOK G W→Sat r (dom (rst hp rs)) (rst hp rs) W→Inj r (dom (rst hp rs))→(∀ k,k<100→dom (rst hp rs) k→r k=k)→(pn≠none→stop<xs.length)→Rounds P G E ⟨l,xs,stop,pn⟩→E.X 0 S W→(∀ k,S k→k<W.heap.size) →
  (∀ i,dom (rst hp rs) i→100≤i→¬S (r i)) →
  CallsS P f (#[Value.func (.yield l) #[] #[]]++caps.map (ren r)) W fun e W'=>match pn with
   | none=>(∃ v,e=.returned v)∧∃ S',E.X (min (stop+1) xs.length) S' W'
   | some pv=>e=.panicked [{ v:=pv,recovered:=false }]∧∃ c S',E.X c S' W'
abbrev IterG (P:Program) (G:Hp) (f:FuncId) (caps:Array Value) (hp:Hp) (rs:List Nat) (xs:List (Array Value)):Prop:=IterX none P G f caps hp rs xs
abbrev IterP (P:Program) (G:Hp) (f:FuncId) (caps:Array Value) (hp:Hp) (rs:List Nat) (xs:List (Array Value)):Prop:=∀ pv,IterX (some pv) P G f caps hp rs xs

theorem iterx_of (pn:Option Value) {f:FuncId} {fn:Func} {c:Code} {caps:Array Value} {hp:Hp} {rs:List Nat} {xs:List (Array Value)} {B:Nat} {v:Value} (hGF:GFlat G) (hG:∀ k,k<100→hp k=G k) (hf:P.funcs[f]? = some fn) (hb:fn.body=some c) (hcall:∀ a w,(callFunc f a).run P w=.ok (.enter f a) w)
  (ha:∀ x∈caps,plain0 x=true∧idsV (dom (rst hp rs)) x) (hcl:∀ k b,rst hp rs k=some b→b.ids (dom (rst hp rs))) (hn:caps.size+1≤fn.ntmps) (hB:100≤B) (hfree:∀ x,B≤x→rst hp rs x=none)
  (h:∀ (C:Ctx) (l stop:Nat),C.G=G→C.hp0=rst hp rs→(pn≠none→stop<xs.length)→C.Y=some ⟨l,xs,stop,pn⟩→GW P C fn.ntmps [] none c ⟨fun t=>(#[Value.func (.yield l) #[] #[]]++caps).getD t undef,rst hp rs,B,0⟩
   (fun e s=>match pn with
    | none=>(e=.normal∨e=.ret)∧resG P fn.results.toList s.ts s.hp=some v∧s.yc=min (stop+1) xs.length
    | some pv=>e=.panic [{ v:=pv,recovered:=false }])):IterX pn P G f caps hp rs xs:=by
 refine ⟨hcall,ha,hcl,fun E l stop r S W hgok hsat hinj hlow hlen hR hX hS hdis=>callsIn_of_wp_marks hf hb ⟨fn,hf⟩ ?_⟩
 let C:Ctx:=⟨E,rst hp rs,r,G,some ⟨l,xs,stop,pn⟩⟩
 have hi:GI P C fn.ntmps [] r ⟨fun t=>(#[Value.func (.yield l) #[] #[]]++caps).getD t undef,rst hp rs,B,0⟩
   { tmps:=(#[Value.func (.yield l) #[] #[]]++caps.map (ren r))++Array.replicate (fn.ntmps - (#[Value.func (.yield l) #[] #[]]++caps.map (ren r)).size) undef,defers:=[] } W:=by
  have hsz:(#[Value.func (.yield l) #[] #[]]++caps.map (ren r)).size=(#[Value.func (.yield l) #[] #[]]++caps).size:=by simp
  have hmap:#[Value.func (.yield l) #[] #[]]++caps.map (ren r)=(#[Value.func (.yield l) #[] #[]]++caps).map (ren r):=by simp [ren,renA,renF]
  refine ⟨⟨?_,fun t=>?_,hsat,hinj,⟨S,[],hX,hS,fun i hi h1=>hdis i hi h1,⟨rfl,List.nodup_nil⟩,by simp⟩,fun i hi=>⟨hi,rfl⟩,fun k hk=>?_,hlow⟩,hfree,hB,hGF,fun y hy=>by cases hy;exact hR⟩
  ·simp only [Array.size_append,Array.size_replicate,hsz]
   simp
   omega
  ·right
   dsimp only
   rw [hmap]
   generalize hA:#[Value.func (.yield l) #[] #[]]++caps=A
   have hAi:∀ x∈A,idsV (dom (rst hp rs)) x:=fun x hx=>by
    rw [←hA] at hx
    rcases Array.mem_append.1 hx with hx|hx
    ·simp at hx;subst hx;simp [idsV,idsA,idsF]
    ·exact (ha x hx).2
   by_cases ht:t<A.size
   ·have hm:A[t]∈A:=Array.getElem_mem ht
    have e:A.getD t undef=A[t]:=by simp [Array.getD,ht]
    rw [e]
    refine ⟨?_,hAi _ hm⟩
    have:t<(A.map (ren r)).size:=by simpa using ht
    simp [Array.getElem?_append_left this,ht]
   ·have e:A.getD t undef=undef:=by simp [Array.getElem?_eq_none (Nat.le_of_not_lt ht)]
    rw [e]
    refine ⟨?_,ids_undef _⟩
    rw [ren_undef]
    simp only [Array.getD_eq_getD_getElem?]
    rw [Array.getElem?_append_right (by simpa using Nat.le_of_not_lt ht),Array.getElem?_replicate]
    split<;>rfl
  ·show rst hp rs k=G k
   simp [rst,hk,hG k hk]
 refine wpIn_mono (h C l stop rfl rfl hlen rfl r _ W hi) ?_
 rintro e a' W' ⟨s',r',hres,hi'⟩
 obtain ⟨S',ms,hX',hS1,hS2,⟨hdef,hnd⟩,hms⟩:=hi'.ri.ext
 cases pn with
 | none =>
  obtain ⟨he,hr,hy⟩:=hres
  have hend:∀ W'':World,W''.heap.size=W'.heap.size→W''.os=W'.os→W''.tape=W'.tape→W''.output=W'.output→(∀ k,k∉ms→W''.heap[k]? = W'.heap[k]?) →
    LeavesIn (Fw P none) 0 P fn a'.tmps (fun e W'=>(∃ v,e=.returned v)∧∃ S',E.X (min (stop+1) xs.length) S' W') [] .returning W'':=fun W'' e1 e2 e3 e4 e5=>by
   have hsat':Sat r' (dom s'.hp) s'.hp W'':=fun k b hk=>⟨by
    rw [e5 _ (fun hm=>hi'.ri.ne_mark (by unfold dom;rw [hk];simp) (hms _ hm).1 rfl)]
    exact (hi'.ri.sat k b hk).1,(hi'.ri.sat k b hk).2⟩
   refine ⟨_,run_resG' (fn:=fn) hi'.ri.rel hsat' hr,⟨_,rfl⟩,S',?_⟩
   rw [←hy]
   exact E.ok _ _ _ _ hX' (fun k hk=>e5 k fun hm=>(hms k hm).2.1 hk) e2 e3 e4 (by rw [e1];exact Nat.le_refl _)
  rcases he with rfl|rfl
  ·show LeavesInM _ _ _ _ _ _ a'.defers _ _
   rw [hdef,List.append_nil]
   exact leavesM (by simp) ms W' hnd (fun D hD=>(hms D hD).1) hend
  ·show LeavesInM _ _ _ _ _ _ a'.defers _ _
   rw [hdef,List.append_nil]
   exact leavesM (by simp) ms W' hnd (fun D hD=>(hms D hD).1) hend
 | some pv =>
  subst hres
  show LeavesInM _ _ _ _ _ _ a'.defers _ _
  rw [hdef,List.append_nil]
  refine leavesM (by simp) ms W' hnd (fun D hD=>(hms D hD).1) fun W'' e1 e2 e3 e4 e5=>?_
  exact ⟨rfl,_,S',E.ok _ _ _ _ hX' (fun k hk=>e5 k fun hm=>(hms k hm).2.1 hk) e2 e3 e4 (by rw [e1];exact Nat.le_refl _)⟩
theorem iter_of {f:FuncId} {fn:Func} {c:Code} {caps:Array Value} {hp:Hp} {rs:List Nat} {xs:List (Array Value)} {B:Nat} {v:Value} (hGF:GFlat G) (hG:∀ k,k<100→hp k=G k) (hf:P.funcs[f]? = some fn) (hb:fn.body=some c) (hcall:∀ a w,(callFunc f a).run P w=.ok (.enter f a) w)
  (ha:∀ x∈caps,plain0 x=true∧idsV (dom (rst hp rs)) x) (hcl:∀ k b,rst hp rs k=some b→b.ids (dom (rst hp rs))) (hn:caps.size+1≤fn.ntmps) (hB:100≤B) (hfree:∀ x,B≤x→rst hp rs x=none)
  (h:∀ (C:Ctx) (l stop:Nat),C.G=G→C.hp0=rst hp rs→C.Y=some ⟨l,xs,stop,none⟩→GW P C fn.ntmps [] none c ⟨fun t=>(#[Value.func (.yield l) #[] #[]]++caps).getD t undef,rst hp rs,B,0⟩
   (fun e s=>(e=.normal∨e=.ret)∧resG P fn.results.toList s.ts s.hp=some v∧s.yc=min (stop+1) xs.length)):IterG P G f caps hp rs xs :=
 iterx_of none (v:=v) hGF hG hf hb hcall ha hcl hn hB hfree fun C l stop h1 h2 _ h3=>h C l stop h1 h2 h3
theorem iterp_of {f:FuncId} {fn:Func} {c:Code} {caps:Array Value} {hp:Hp} {rs:List Nat} {xs:List (Array Value)} {B:Nat} (hGF:GFlat G) (hG:∀ k,k<100→hp k=G k) (hf:P.funcs[f]? = some fn) (hb:fn.body=some c) (hcall:∀ a w,(callFunc f a).run P w=.ok (.enter f a) w)
  (ha:∀ x∈caps,plain0 x=true∧idsV (dom (rst hp rs)) x) (hcl:∀ k b,rst hp rs k=some b→b.ids (dom (rst hp rs))) (hn:caps.size+1≤fn.ntmps) (hB:100≤B) (hfree:∀ x,B≤x→rst hp rs x=none)
  (h:∀ (pv:Value) (C:Ctx) (l stop:Nat),C.G=G→C.hp0=rst hp rs→stop<xs.length→C.Y=some ⟨l,xs,stop,some pv⟩→GW P C fn.ntmps [] none c ⟨fun t=>(#[Value.func (.yield l) #[] #[]]++caps).getD t undef,rst hp rs,B,0⟩
   (fun e _=>e=.panic [{ v:=pv,recovered:=false }])):IterP P G f caps hp rs xs:=fun pv =>
 iterx_of (some pv) (v:=undef) hGF hG hf hb hcall ha hcl hn hB hfree fun C l stop h1 h2 hl h3=>h pv C l stop h1 h2 (hl (by simp)) h3

def roundTs (ps:List Tmp) (x:List Value) (ts:Nat→Value):Nat→Value:=(ps.zip x).foldl (fun ts p=>upd ts p.1 p.2) ts

def outCode:Exit→Option Code
 | .ret=>some .ret
 | .exit id=>some (.exit id)
 | .goto l=>some (.goto l)
 | _=>none

variable {C:Ctx} {n:Nat} {d:List Deferred} {s:GS} {K:Exit→GS→Prop}

theorem Weak.ctx {C C':Ctx} {s s':GS} (h:C.hp0=C'.hp0) (hG:C.G=C'.G) (hw:Weak C s s'):Weak C' s s':=⟨hw.ts,hw.hp,hw.ids,by rw [←h];exact hw.keep,by rw [←hG];exact hw.glob,hw.yc,hw.free,hw.low⟩

def Supp (S:Nat→Prop) (W:World) (Φ:World→Prop):Prop :=
 ∀ W':World,(∀ k,S k→W'.heap[k]? = W.heap[k]?)→W'.os=W.os→W'.tape=W.tape→W'.output=W.output→W.heap.size≤W'.heap.size→Φ W'
theorem Supp.trans {S S':Nat→Prop} {W W':World} {Φ:World→Prop} (h:Supp S W Φ) (hs:∀ k,S k→S' k) (h1:∀ k,S k→W'.heap[k]? = W.heap[k]?) (h2:W'.os=W.os) (h3:W'.tape=W.tape) (h4:W'.output=W.output) (h5:W.heap.size≤W'.heap.size):Supp S' W' Φ :=
 fun W'' k1 k2 k3 k4 k5=>h W'' (fun k hk=>(k1 k (hs k hk)).trans (h1 k hk)) (k2.trans h2) (k3.trans h3) (k4.trans h4) (Nat.le_trans h5 k5)
theorem Supp.here {S:Nat→Prop} {W:World} {Φ:World→Prop} (h:Supp S W Φ):Φ W:=h W (fun _ _=>rfl) rfl rfl rfl (Nat.le_refl _)

structure Own0 (C:Ctx) (d:List Deferred) (So:Nat→Prop) (ms:List Nat) (yc:Nat) (a:Act) (r:Nat→Nat) (ts:Nat→Value) (hp:Hp) (V:World):Prop where
 ri:Rel r (dom hp) ts a
 sat:Sat r (dom hp) hp V
 inj:Inj r (dom hp)
 X:C.E.X yc So V
 sep:∀ i,dom hp i→100≤i→¬So (r i)
 mks:∀ D∈ms,V.heap[D]? = some (.deferred (some []))
 keep:∀ i,dom C.hp0 i→dom hp i∧r i=C.r0 i
 glob:∀ k,k<100→hp k=C.G k
 low:∀ k,k<100→dom hp k→r k=k

theorem Own0.supp {So:Nat→Prop} {ms:List Nat} {yc:Nat} {a:Act} {r:Nat→Nat} {ts:Nat→Value} {hp:Hp} {V:World} {S:Nat→Prop} (h:Own0 C d So ms yc a r ts hp V) (h1:∀ k,So k→S k) (h2:∀ i,dom hp i→S (r i)) (h3:∀ D∈ms,S D):Supp S V (Own0 C d So ms yc a r ts hp) :=
 fun W' k1 k2 k3 k4 k5=>⟨h.ri,fun k b hk=>⟨(k1 _ (h2 k (by unfold dom;rw [hk];simp))).trans (h.sat k b hk).1,(h.sat k b hk).2⟩,h.inj,C.E.ok _ _ _ _ h.X (fun k hk=>k1 k (h1 k hk)) k2 k3 k4 k5,h.sep,fun D hD=>(k1 D (h3 D hD)).trans (h.mks D hD),h.keep,h.glob,h.low⟩

theorem foldl_set_size:∀ (l:List (Tmp×Value)) (A:Array Value),(l.foldl (fun t (p:Tmp×Value)=>t.setIfInBounds p.1 p.2) A).size=A.size
 | [],_=>rfl
 | p::l,A=>by rw [List.foldl_cons,foldl_set_size l];simp

theorem roundRel {r:Nat→Nat} {D:Nat→Prop}:∀ (l:List (Tmp×Value)) (ts:Nat→Value) (A:Array Value),(∀ p∈l,p.1<A.size∧flatV p.2=true)→Rel r D ts { tmps:=A,defers:=[] } →
  Rel r D (l.foldl (fun ts p=>upd ts p.1 p.2) ts) { tmps:=l.foldl (fun t (p:Tmp×Value)=>t.setIfInBounds p.1 p.2) A,defers:=[] }
 | [],_,_,_,h=>h
 | p::l,ts,A,hl,h=>by
  have hp:=hl p (by simp)
  refine roundRel l (upd ts p.1 p.2) (A.setIfInBounds p.1 p.2) (fun q hq=>by simpa using hl q (List.mem_cons_of_mem _ hq)) ?_
  have:=h.put (dst:=some p.1) (fun d hd=>by cases hd;exact hp.1) (flatV_ids (D:=D) hp.2)
  rw [flatV_ren hp.2] at this
  exact this

def imO (r:Nat→Nat) (hp:Hp):Nat→Prop:=fun j=>∃ i,dom hp i∧r i=j

theorem RI.not_loop {C:Ctx} {r:Nat→Nat} {ts:Nat→Value} {hp:Hp} {yc:Nat} {a:Act} {V:World} (h:RI C n d r ts hp yc a V) {l:Nat} {L:Loop} (hl:V.heap[l]? = some (.loop L)):¬imO r hp l:=by
 rintro ⟨i,hd,rfl⟩
 unfold dom at hd
 cases hb:hp i with
 | none=>exact hd hb
 | some b=>have:=(h.sat i b hb).1;rw [hl] at this;exact (Blk.obj_loop this).elim

theorem round_end {d0:List Deferred} {So S:Nat→Prop} {ms:List Nat} {yc y1 y2 n0:Nat} {a a1 a2:Act} {V V1 V2:World} {rc r1 r2:Nat→Nat} {tsE ts1 ts2:Nat→Value} {hpc hp1 hp2:Hp} {l:Nat} {L0 L1 L2:Loop} (hGF:GFlat C.G)
  (hown:Own0 C d0 So ms yc a rc tsE hpc V) (hSol:¬So l) (hSV:∀ k,S k→k<V.heap.size) (kSo:∀ k,So k→S k) (kms:∀ D∈ms,S D) (hrcS:∀ i,dom hpc i→S (rc i)) (hl:V.heap[l]? = some (.loop L0))
  (ri1:RI ⟨callE V (imO rc hpc),hpc,rc,C.G,none⟩ n0 [] r1 ts1 hp1 y1 a1 V1)
  {D1:Nat→Prop} (hD1:∀ k,k<V.heap.size→D1 k→imO r1 hp1 k) (hD1l:¬D1 l) (ri2:RI ⟨callE (V1.putObj l (.loop L1)) D1,hpc,rc,C.G,none⟩ n0 [] r2 ts2 hp2 y2 a2 V2) :
  V1.heap[l]? = some (.loop L0)∧V2.heap[l]? = some (.loop L1)∧Own0 C d0 So ms yc a r2 tsE hp2 (V2.putObj l (.loop L2))∧(∀ i,dom hp2 i→V.heap.size≤r2 i∨S (r2 i))∧V.heap.size≤V2.heap.size ∧
   (∀ k,k<V.heap.size→¬imO rc hpc k→k≠l→(V2.putObj l (.loop L2)).heap[k]? = V.heap[k]?)∧GOK C.G (V2.putObj l (.loop L2)):=by
 obtain ⟨T1,m1,⟨hT1,os1,tp1,ou1,sz1,sm1⟩,hT1s,sep1,_,_⟩:=ri1.ext
 obtain ⟨T2,m2,⟨hT2,os2,tp2,ou2,sz2,sm2⟩,hT2s,sep2,_,_⟩:=ri2.ext
 have hlV:l<V.heap.size:=(Array.getElem?_eq_some_iff.1 hl).1
 have hl0:¬imO rc hpc l:=by
  rintro ⟨i,hd,rfl⟩
  unfold dom at hd
  cases hb:hpc i with
  | none=>exact hd hb
  | some b=>have:=(hown.sat i b hb).1;rw [hl] at this;exact (Blk.obj_loop this).elim
 have hl1:V1.heap[l]? = some (.loop L0):=(sm1 l ((hT1 l).2 ⟨hlV,hl0⟩)).trans hl
 have hl1i:¬imO r1 hp1 l:=ri1.not_loop hl1
 have hlt1:l<V1.heap.size:=(Array.getElem?_eq_some_iff.1 hl1).1
 have szp:(V1.putObj l (.loop L1)).heap.size=V1.heap.size:=putObj_size _ _ _
 have hl2:V2.heap[l]? = some (.loop L1):=(sm2 l ((hT2 l).2 ⟨by rw [szp];exact hlt1,hD1l⟩)).trans (World.putObj_heap_same hlt1)
 have size:V.heap.size≤V2.heap.size:=by rw [szp] at sz2;omega
 have g1:∀ k,k<100→hp1 k=C.G k:=ri1.glob
 have g2:∀ k,k<100→hp2 k=C.G k:=ri2.glob
 have gc:=hown.glob
 have eqd:∀ {h h':Hp} {k:Nat},h k=h' k→dom h k→dom h' k:=fun {h h' k} e hd=>by unfold dom at *;rw [←e];exact hd
 -- an old place of a new state is an old place of an old state
 have im1:∀ k,k<V.heap.size→imO r1 hp1 k→imO rc hpc k:=fun k hk ⟨i,hd,e⟩=>by
  by_cases h1:100≤i
  ·have:=sep1 i hd h1
   rw [hT1,e] at this
   exact Classical.byContradiction fun hc=>this ⟨hk,hc⟩
  ·have hd':dom hpc i:=eqd ((g1 i (by omega)).trans (gc i (by omega)).symm) hd
   exact ⟨i,hd',by rw [←e,ri1.low i (by omega) hd,hown.low i (by omega) hd']⟩
 have im2:∀ k,k<V.heap.size→imO r2 hp2 k→imO rc hpc k:=fun k hk ⟨i,hd,e⟩=>by
  by_cases h1:100≤i
  ·have:=sep2 i hd h1
   rw [hT2,e,szp] at this
   exact im1 k hk (hD1 k hk (Classical.byContradiction fun hc=>this ⟨by omega,hc⟩))
  ·have hd':dom hpc i:=eqd ((g2 i (by omega)).trans (gc i (by omega)).symm) hd
   exact ⟨i,hd',by rw [←e,ri2.low i (by omega) hd,hown.low i (by omega) hd']⟩
 have keep2:∀ i,dom hpc i→dom hp2 i∧r2 i=rc i:=ri2.keep
 have old:∀ i,dom hp2 i→r2 i<V.heap.size→dom hpc i∧r2 i=rc i:=fun i hd hlt=>by
  obtain ⟨q,hq,e⟩:=im2 _ hlt ⟨i,hd,rfl⟩
  have:=keep2 q hq
  have e2:q=i:=ri2.inj q i this.1 hd (this.2.trans e)
  subst e2
  exact ⟨hq,this.2⟩
 have frame:∀ k,k<V.heap.size→¬imO rc hpc k→k≠l→(V2.putObj l (.loop L2)).heap[k]? = V.heap[k]?:=fun k hk hi hne=>by
  rw [World.putObj_heap_other hne,sm2 k ((hT2 k).2 ⟨by rw [szp];omega,fun hc=>hi (im1 k hk (hD1 k hk hc))⟩),World.putObj_heap_other hne,sm1 k ((hT1 k).2 ⟨hk,hi⟩)]
 have sat2:Sat r2 (dom hp2) hp2 (V2.putObj l (.loop L2)):=fun k b hk=>by
  have h:=ri2.sat k b hk
  exact ⟨(World.putObj_heap_other (fun e=>ri2.not_loop hl2 ⟨k,by unfold dom;rw [hk];simp,e⟩)).trans h.1,h.2⟩
 have gok:∀ {r:Nat→Nat} {h:Hp} {W:World},Sat r (dom h) h W→(∀ k,k<100→h k=C.G k)→(∀ k,k<100→dom h k→r k=k)→GOK C.G W:=fun {r h W} h1 h2 h3 k b hk=>by
  obtain ⟨hlt,hfl⟩:=hGF k b hk
  have hb:h k=some b:=(h2 k hlt).trans hk
  have h9:=(h1 k b hb).1
  rw [h3 k hlt (by unfold dom;rw [hb];simp)] at h9
  rw [h9]
  rw [Blk.obj_flat (fun x hx=>hfl x hx)]
 have gok2:=gok sat2 g2 ri2.low
 have gokV:=gok hown.sat gc hown.low
 refine ⟨hl1,hl2,⟨hown.ri.mono (fun k hk=>(keep2 k hk).1) (fun k hk=>(keep2 k hk).2),sat2,ri2.inj,?_,fun i hd h1 hS=>?_,fun D hD=>?_,fun i hi=>?_,g2,ri2.low⟩,fun i hd=>?_,size,frame,gok2⟩
 ·refine C.E.ok _ _ _ _ hown.X (fun k hk=>?_) (os2.trans os1) (tp2.trans tp1) (ou2.trans ou1) (by rw [putObj_size];exact size)
  by_cases hi:imO rc hpc k
  ·obtain ⟨i,hd,rfl⟩:=hi
   by_cases h1:100≤i
   ·exact absurd hk (hown.sep i hd h1)
   ·have e:=hown.low i (by omega) hd
    rw [e]
    have hg:C.G i≠none:=by rw [←gc i (by omega)];exact hd
    cases hb:C.G i with
    | none=>exact absurd hb hg
    | some b=>rw [gok2 i b hb,gokV i b hb]
  ·by_cases hkl:k=l
   ·exact absurd (hkl▸hk) hSol
   ·exact frame k (hSV k (kSo k hk)) hi hkl
 ·have hlt:=hSV _ (kSo _ hS)
  have:=old i hd hlt
  exact hown.sep i this.1 h1 (this.2▸hS)
 ·have hD':=hown.mks D hD
  rw [frame D (hSV D (kms D hD)) (fun ⟨i,hd,e⟩=>?_) (fun e=>by rw [e,hl] at hD';cases hD')]
  ·exact hD'
  ·unfold dom at hd
   cases hb:hpc i with
   | none=>exact hd hb
   | some b=>have:=(hown.sat i b hb).1;rw [e,hD'] at this;exact (Blk.obj_def this).elim
 ·have:=hown.keep i hi
  have k2:=keep2 i this.1
  exact ⟨k2.1,k2.2.trans this.2⟩
 ·by_cases hlt:r2 i<V.heap.size
  ·have:=old i hd hlt
   exact .inr (by rw [this.2];exact hrcS i this.1)
  ·exact .inl (by omega)

theorem putObj_id {W:World} {l:Nat} {ob:Obj} (h:W.heap[l]? = some ob):W.putObj l ob=W:=by
 unfold World.putObj
 congr 1
 apply Array.ext_getElem?
 intro i
 rw [Array.getElem?_setIfInBounds]
 split
 ·rename_i e;subst e
  rw [h]
  obtain ⟨hlt,_⟩:=Array.getElem?_eq_some_iff.1 h
  simp [hlt]
 ·rfl

def roundPostP (F:Fence) (m:Nat) (P:Program) (fn:Func) (l:Nat) (R:Ending→World→Prop):Exit→Act→World→Prop
 | .panic chain,a,w=>LeavesInM F m P fn a.tmps (fun e w'=>(∃ ch,e=.panicked ch)∧R e w') a.defers (.panicking chain) w
 | e,a,w=>roundPost P l R e a w
theorem roundIn_of_wpInP {F:Fence} {m:Nat} {l:Nat} {f:FuncId} {fn:Func} {tmps:Array Value} {assign body:Code} {w:World} {R:Ending→World→Prop} (hF:F.fn f) (hfn:P.funcs[f]? = some fn)
  (h:assign.wpIn (F.inRound l) m P (Exit.then (fun a₁ w₁=>∃ w₂,(Instr.beginRound l).run P w₁=.ok () w₂∧body.wpIn (F.inRound l) m P (roundPostP F m P fn l R) a₁ w₂) (fun _ _ _=>False))
   { tmps:=tmps,defers:=[] } w) :
  RoundIn F m P l f tmps assign body w R:=by
 refine ⟨hF,fun c cs hr=>?_⟩
 let b:Frame:={ (default:Frame) with fn:=f,kind:=.normal,roundOf:=some l }
 have hb0:Frame.round l f tmps assign body .normal=b.atR { tmps:=tmps,defers:=[] } [.code assign,.beginRound,.code body]:=by
  simp [Frame.round,Frame.atR,b]
 have hr':(F.inRound l).room ((c::cs).length+1+m):=hr
 have hF':(F.inRound l).fn b.fn:=hF
 obtain ⟨e,a₁,w₁,hq,harr⟩:=h b [.beginRound,.code body] (c::cs) rfl hF' hr'
 rw [←hb0] at harr
 cases e with
 | normal =>
  obtain ⟨w₂,hbr,hbody⟩:=hq
  have s1:StepsIn (Machine.fenced P (F.inRound l)) P (lone (b.atR a₁ [.beginRound,.code body]) (c::cs) w₁) (lone (b.atR a₁ [.code body]) (c::cs) w₂) :=
   .one (fenced_calm (fr:=b.atR a₁ [.beginRound,.code body]) hF' hr' rfl) (stepR_beginRound rfl hbr)
  obtain ⟨e₂,a₂,w₃,hq₂,harr₂⟩:=hbody b [] (c::cs) rfl hF' hr'
  cases e₂ with
  | normal =>
   obtain ⟨v,w₄,hend,hR⟩:=hq₂
   exact ⟨.returned v,w₄,hR,(StepsIn.trans harr s1).trans (StepsIn.trans harr₂ (.one (fenced_calm (fr:=b.atR a₂ []) hF' hr' rfl) (stepR_round_end rfl rfl hend)))⟩
  | ret =>
   obtain ⟨v,w₄,hend,hR⟩:=hq₂
   obtain ⟨k₁,hs⟩:=harr₂.2 rfl
   exact ⟨.returned v,w₄,hR,(StepsIn.trans harr s1).trans (StepsIn.trans hs (.one (fenced_calm (fr:=b.atR a₂ (.code .ret::k₁)) hF' hr' rfl) (stepR_round_ret rfl rfl hend)))⟩
  | exit id =>
   obtain ⟨v,w₄,hend,hR⟩:=hq₂
   obtain ⟨k₁,hk,hs⟩:=harr₂.2 rfl rfl
   exact ⟨.returned v,w₄,hR,(StepsIn.trans harr s1).trans (StepsIn.trans hs (.one (fenced_calm (fr:=b.atR a₂ (.code (.exit id)::k₁)) hF' hr' rfl) (stepR_round_exit rfl rfl hk hend)))⟩
  | goto t =>
   obtain ⟨v,w₄,hend,hR⟩:=hq₂
   obtain ⟨k₁,hk,hs⟩:=harr₂.2 rfl rfl
   exact ⟨.returned v,w₄,hR,(StepsIn.trans harr s1).trans (StepsIn.trans hs (.one (fenced_calm (fr:=b.atR a₂ (.code (.goto t)::k₁)) hF' hr' rfl) (stepR_round_goto rfl rfl hk hend)))⟩
  | panic chain =>
   obtain ⟨todo,hs⟩:=harr₂
   obtain ⟨e',w₄,fr',⟨⟨ch,rfl⟩,hR⟩,hs',hfn',hl⟩:=leaves_stepsInM a₂.defers (.panicking chain) w₃ { b.atR a₂ todo with mode:=.panicking chain } (c::cs) rfl rfl rfl hfn rfl hF hr hq₂
   refine ⟨.panicked ch,w₄,hR,(StepsIn.trans harr s1).trans (StepsIn.trans hs (StepsIn.trans hs' (.one (fenced_leaving (n:=m) (hfn'▸hF) hr hl) (step_leave_panicked hl))))⟩
  | outgrown=>exact hq₂.elim
 | exit id=>exact hq.elim
 | goto t=>exact hq.elim
 | ret=>exact hq.elim
 | panic chain=>exact hq.elim
 | outgrown=>exact hq.elim

theorem GW_rangeX (pn:Option Value) {t:Tmp} {ps:Array Tmp} {assign body:Code} {f:FuncId} {caps:Array Value} {rs:List Nat} {xs:List (Array Value)} (hg:s.ts t=.func (.func f) #[] caps) (hit:IterX pn P C.G f caps s.hp rs xs)
  (hxs:∀ x∈xs,x.size=ps.size∧∀ v∈x,flatV v=true) (hps:∀ p∈ps,p<n) (tsE:Nat→Value) (hp:Nat→Hp) (B:Nat) (N:Nat) (hN:N≤xs.length)
  (hw:Weak C s ⟨tsE,hp 0,B,s.yc⟩) (hdis:∀ k∈rs,hp 0 k=none∧dom s.hp k) (hids:∀ i,i≤N→∀ t,idsV (dom (hp i)) (tsE t))
  (rounds:∀ i x,i<N→xs[i]? = some x→∀ (C1:Ctx) (l:Nat),C1.G=C.G→C1.hp0=hp i→C1.Y=none→GW P C1 n [] (some l) assign ⟨roundTs ps.toList x.toList tsE,hp i,B,0⟩
   (thenG (fun s1=>∀ C2:Ctx,C2.G=C.G→C2.hp0=hp i→C2.Y=none→GW P C2 n [] (some l) body s1 (thenG (fun s2=>Weak C1 s2 ⟨fun _=>junk,hp (i+1),B,s2.yc⟩) (fun _ _=>False))) (fun _ _=>False)))
  (fin:match pn with
   | none=>(N=xs.length∧K .normal ⟨tsE,hp N,B,s.yc⟩)∨∃ x,xs[N]? = some x∧∀ (C1:Ctx) (l:Nat),C1.G=C.G→C1.hp0=hp N→C1.Y=none→GW P C1 n [] (some l) assign ⟨roundTs ps.toList x.toList tsE,hp N,B,0⟩
    (thenG (fun s1=>∀ C2:Ctx,C2.G=C.G→C2.hp0=hp N→C2.Y=none→GW P C2 n [] (some l) body s1 (fun e s2=>(outCode e).isSome=true∧(∀ t,idsV (dom s2.hp) (tsE t))∧K e ⟨tsE,s2.hp,s2.B,s.yc⟩)) (fun _ _=>False))
   | some pv=>(∀ c,c≤N→K (.panic [{ v:=pv,recovered:=false }]) ⟨tsE,hp c,B,s.yc⟩)∧∃ x,xs[N]? = some x∧∀ (C1:Ctx) (l:Nat),C1.G=C.G→C1.hp0=hp N→C1.Y=none→GW P C1 n [] (some l) assign ⟨roundTs ps.toList x.toList tsE,hp N,B,0⟩
    (thenG (fun s1=>∀ C2:Ctx,C2.G=C.G→C2.hp0=hp N→C2.Y=none→GW P C2 n [] (some l) body s1 (fun e s2=>e=.panic [{ v:=pv,recovered:=false }]∧(∀ t,idsV (dom s2.hp) (tsE t))∧K e ⟨tsE,s2.hp,s2.B,s.yc⟩)) (fun _ _=>False))) (hYn:C.Y≠some .still:=by first|assumption|(intro h;simp_all [YG.still])) :
  GW P C n d none (.rangeFunc (.tmp t) ps assign body) s K:=by
 intro r a W hi0
 have hi:=hi0.weak hw
 obtain ⟨So,ms,hX0,hSo,hsep,⟨hdef,hnd⟩,hms⟩:=hi0.ri.ext
 have hcapv:a.eval (.tmp t)=.func (.func f) #[] (caps.map (ren0 r)):=by
  have:=((hi0.ri.rel t).resolve_left (by rw [hg];simp [junk])).1
  rw [hg] at this
  simpa [ren,renA,renF,Act.eval] using this
 have hcap:caps.map (ren0 r)=caps.map (ren r):=Array.map_congr_left fun x hx=>(ren_plain0 (hit.cids x hx).1).symm
 rw [hcap] at hcapv
 refine wpIn_rangeFunc ?_
 rintro fn ⟨fnn,hfnn⟩
 obtain ⟨rec,hrec⟩:∃ rec:LoopState→Option Code→Loop,rec=fun st pe=>{ state:=st,pending:=pe,fn,tmps:=a.tmps,params:=ps,assign,body,defers:=W.heap.size }:=⟨_,rfl⟩
 obtain ⟨W1,hW1⟩:∃ W1,(W.alloc (.deferred (some []))).alloc (.loop (rec .ready none))=W1:=⟨_,rfl⟩
 have hL1:W1.heap[W.heap.size+1]? = some (.loop (rec .ready none)):=by
  rw [←hW1];have:=World.alloc_heap_new (W.alloc (.deferred (some []))) (.loop (rec .ready none));rwa [World.size_alloc] at this
 have hK1:W1.heap[W.heap.size]? = some (.deferred (some [])):=by
  rw [←hW1];exact (Below.heap_alloc _ _ _ (by simp)).trans (World.alloc_heap_new W _)
 have hsz1:W1.heap.size=W.heap.size+2:=by rw [←hW1];simp
 have hb1:Below W.heap.size W W1:=by
  rw [←hW1];exact (((Below.refl _ W).alloc (Nat.le_refl _) _).alloc (by simp) _)
 let l:=W.heap.size+1
 let D0:=W.heap.size
 let capd:Nat→Prop:=fun j=>∃ i,i∈rs∧100≤i∧r i=j
 -- what is said between two rounds
 let Lv:LoopState→Option Code→World→Prop:=fun st pe V=>V.heap[l]? = some (.loop (rec st pe))∧V.heap[D0]? = some (.deferred (some []))
 let XX:Nat→(Nat→Prop)→World→Prop:=fun c S V=>(∀ k,So k→S k)∧(∀ D∈ms,S D)∧S l∧S D0 ∧
  ((c≤N∧(∀ x,B≤x→hp c x=none)∧∃ rc,(∀ i,dom (hp c) i→S (rc i))∧Supp S V (fun V'=>Own0 C d So ms s.yc a rc tsE (hp c) V'∧Lv .ready none V')) ∨
  (c=N+1∧∃ e hpE BE rc,((pn=none∧(outCode e).isSome=true)∨∃ pv,pn=some pv∧e=.panic [{ v:=pv,recovered:=false }])∧K e ⟨tsE,hpE,BE,s.yc⟩∧(∀ x,BE≤x→hpE x=none)∧100≤BE∧(∀ i,dom hpE i→S (rc i))∧Supp S V (fun V'=>Own0 C d So ms s.yc a rc tsE hpE V'∧V'.heap[D0]? = some (.deferred (some []))∧∀ j,outCode e=some j→Lv .done (some j) V')))
 let E:Ext:=⟨XX,fun c S V V' h hs os tape output size=>⟨h.1,h.2.1,h.2.2.1,h.2.2.2.1,h.2.2.2.2.imp (fun ⟨hc,hf,rc,h1,h2⟩=>⟨hc,hf,rc,h1,h2.trans (fun _ h=>h) hs os tape output size⟩)
  (fun ⟨hc,e,hpE,BE,rc,h1,h2,h3,h4,h5,h6⟩=>⟨hc,e,hpE,BE,rc,h1,h2,h3,h4,h5,h6.trans (fun _ h=>h) hs os tape output size⟩)⟩⟩
 have sub:∀ i,dom (hp 0) i→dom s.hp i:=fun i hd=>by
  have hhp:hp 0 i=none∨hp 0 i=s.hp i:=by
   by_cases hk:100≤i
   ·exact hw.hp i hk
   ·exact .inr ((hw.glob i (by omega)).trans (hi0.ri.glob i (by omega)).symm)
  rcases hhp with e|e
  ·exact absurd e hd
  ·have e:hp 0 i=s.hp i:=e
   unfold dom at *;rw [←e];exact hd
 have own0:Own0 C d So ms s.yc a r tsE (hp 0) W1:=⟨hi.ri.rel,fun k b hk=>⟨(hb1.block _ (hi.ri.lt (k:=k) (by unfold dom;show hp 0 k≠none;rw [hk];simp))).trans (hi.ri.sat k b hk).1,(hi.ri.sat k b hk).2⟩,hi.ri.inj,
  C.E.ok _ _ _ _ hX0 (fun k hk=>hb1.block k (hSo k hk)) hb1.os hb1.tape hb1.output hb1.size,fun i hd h1=>hsep i (sub i hd) h1,
  fun D hD=>(hb1.block D (Array.getElem?_eq_some_iff.1 (hms D hD).1).1).trans (hms D hD).1,hi.ri.keep,hi.ri.glob,hi.ri.low⟩
 have incap:∀ i,dom s.hp i→capd (r i)→i∈rs:=fun i hd ⟨j,hj,_,e⟩=>by
  have:=hi0.ri.inj j i (hdis j hj).2 hd e
  exact this▸hj
 let S1:Nat→Prop:=fun k=>k<W1.heap.size∧¬capd k
 have capSmall:∀ k,capd k→k<W.heap.size:=fun k ⟨i,hi1,_,e⟩=>e▸hi0.ri.lt (hdis i hi1).2
 have s1So:∀ k,So k→S1 k:=fun k hk=>⟨by have:=hSo k hk;omega,fun ⟨i,hi1,h1,e⟩=>hsep i (hdis i hi1).2 h1 (e▸hk)⟩
 have s1ms:∀ D∈ms,S1 D:=fun D hD=>⟨by have:=(Array.getElem?_eq_some_iff.1 (hms D hD).1).1;omega,fun ⟨i,hi1,_,e⟩=>hi0.ri.ne_mark (hdis i hi1).2 (hms D hD).1 e⟩
 have s1l:S1 l:=⟨by omega,fun hc=>by have:=capSmall _ hc;omega⟩
 have s1D:S1 D0:=⟨by omega,fun hc=>by have:=capSmall _ hc;omega⟩
 have s1hp:∀ i,dom (hp 0) i→S1 (r i):=fun i hd=>⟨by have:=hi0.ri.lt (sub i hd);omega,fun hc=>hd (hdis i (incap i (sub i hd) hc)).1⟩
 have X0:XX 0 S1 W1:=⟨s1So,s1ms,s1l,s1D,.inl ⟨Nat.zero_le _,hw.free,r,s1hp,fun V k1 k2 k3 k4 k5=>⟨own0.supp s1So s1hp s1ms V k1 k2 k3 k4 k5,(k1 l s1l).trans hL1,(k1 D0 s1D).trans hK1⟩⟩⟩
 have gokOf:∀ {rc:Nat→Nat} {hpc:Hp} {V:World},Sat rc (dom hpc) hpc V→(∀ k,k<100→hpc k=C.G k)→(∀ k,k<100→dom hpc k→rc k=k)→GOK C.G V:=fun {rc hpc V} h1 h2 h3 k b hk=>by
  obtain ⟨hlt,hfl⟩:=hi0.flat k b hk
  have hb:hpc k=some b:=(h2 k hlt).trans hk
  have h9:=(h1 k b hb).1
  rw [h3 k hlt (by unfold dom;rw [hb];simp)] at h9
  rw [h9]
  rw [Blk.obj_flat (fun x hx=>hfl x hx)]
 -- one round
 have hround:Rounds P C.G E ⟨l,xs,N,pn⟩:=by
  intro c x S V hgok hx hc hXc hSV
  obtain ⟨kSo,kms,kl,kD,hcase⟩:=hXc
  have hcN:c≤N:=hc
  obtain ⟨hc',hfreeC,rc,hrcS,hsupp⟩:c≤N∧(∀ x,B≤x→hp c x=none)∧∃ rc,(∀ i,dom (hp c) i→S (rc i))∧Supp S V (fun V'=>Own0 C d So ms s.yc a rc tsE (hp c) V'∧Lv .ready none V'):=by
   rcases hcase with h|h
   ·exact h
   ·omega
  obtain ⟨hown,hl,hD⟩:=hsupp.here
  have hxm:=hxs x (List.mem_of_getElem? hx)
  have hy:=run_yield (P:=P) (args:=x) hl (by rw [hrec];exact hxm.1)
  rw [hrec] at hy
  refine ⟨fn,_,assign,body,hy,roundIn_of_wpInP ⟨fnn,hfnn⟩ hfnn ?_⟩
  have hrel:=roundRel (r:=rc) (D:=dom (hp c)) (ps.toList.zip x.toList) tsE a.tmps (fun p hp1=>⟨by rw [hi0.ri.size];exact hps _ (by simpa using (List.of_mem_zip hp1).1),hxm.2 _ (by simpa using (List.of_mem_zip hp1).2)⟩) hown.ri
  have htm:(ps.zip x).foldl (fun t (p:Tmp×Value)=>t.setIfInBounds p.1 p.2) a.tmps=(ps.toList.zip x.toList).foldl (fun t (p:Tmp×Value)=>t.setIfInBounds p.1 p.2) a.tmps:=by
   rw [←Array.foldl_toList,Array.toList_zip]
  have hsize:((ps.zip x).foldl (fun t (p:Tmp×Value)=>t.setIfInBounds p.1 p.2) a.tmps).size=n:=by
   rw [htm,foldl_set_size,hi0.ri.size]
  let im:Nat→Prop:=imO rc (hp c)
  let RR:Ending→World→Prop:=fun e W'=>(match (YG.mk l xs N pn).pan c with|none=>e=.returned (.bool (c != N))|some pv=>e=.panicked [{ v:=pv,recovered:=false }])∧GOK C.G W'∧V.heap.size≤W'.heap.size∧(∀ k,k<V.heap.size→¬S k→W'.heap[k]? = V.heap[k]?) ∧
      ∃ S',XX (c+1) S' W'∧(∀ k,S' k→k<W'.heap.size)∧∀ k,S' k→k<V.heap.size→S k
  -- the assignment to the loop's variables
  let C1:Ctx:=⟨callE V im,hp c,rc,C.G,none⟩
  have ltV:∀ i,dom (hp c) i→rc i<V.heap.size:=fun i hd=>hSV _ (hrcS i hd)
  have gi1:GI P C1 n [] rc ⟨roundTs ps.toList x.toList tsE,hp c,B,0⟩ { tmps:=(ps.zip x).foldl (fun t (p:Tmp×Value)=>t.setIfInBounds p.1 p.2) a.tmps,defers:=[] } V:=by
   refine ⟨⟨hsize,?_,hown.sat,hown.inj,⟨fun k=>k<V.heap.size∧¬im k,[],⟨fun _=>Iff.rfl,rfl,rfl,rfl,Nat.le_refl _,fun _ _=>rfl⟩,fun k hk=>hk.1,fun i hd _ hS=>hS.2 ⟨i,hd,rfl⟩,⟨rfl,List.nodup_nil⟩,by simp⟩,fun i hd=>⟨hd,rfl⟩,hown.glob,hown.low⟩,hfreeC,hw.low,hi0.flat,fun y hy=>by cases hy⟩
   rw [htm];exact hrel
  have hSol:¬So l:=fun h=>by have:=hSo _ h;omega
  -- a round's frame,from its assignment on
  have both:∀ (Kb:Exit→GS→Prop),GW P C1 n [] (some l) assign ⟨roundTs ps.toList x.toList tsE,hp c,B,0⟩ (thenG (fun s1=>∀ C2:Ctx,C2.G=C.G→C2.hp0=hp c→C2.Y=none→GW P C2 n [] (some l) body s1 Kb) (fun _ _=>False)) →
    (∀ e s2 (r2:Nat→Nat) (V1 V2:World) (a1 a2:Act) (r1:Nat→Nat) (ts1:Nat→Value) (hp1:Hp) (y1:Nat) (D1:Nat→Prop),(∀ k,k<V.heap.size→D1 k→imO r1 hp1 k)→¬D1 l→Kb e s2→RI ⟨callE V im,hp c,rc,C.G,none⟩ n [] r1 ts1 hp1 y1 a1 V1 →
     GI P ⟨callE (V1.putObj l (.loop (rec .busy none))) D1,hp c,rc,C.G,none⟩ n [] r2 s2 a2 V2→roundPostP (Fs P) 0 P fnn l RR e a2 V2) →
    assign.wpIn ((Fs P).inRound l) 0 P (Exit.then (fun a₁ w₁=>∃ w₂,(Instr.beginRound l).run P w₁=.ok () w₂∧body.wpIn ((Fs P).inRound l) 0 P (roundPostP (Fs P) 0 P fnn l RR) a₁ w₂) (fun _ _ _=>False))
     { tmps:=(ps.zip x).foldl (fun t (p:Tmp×Value)=>t.setIfInBounds p.1 p.2) a.tmps,defers:=[] } V:=fun Kb hgw hend=>by
   refine wpIn_mono (hgw rc _ V gi1) ?_
   rintro e a1 V1 ⟨s1,r1,hk1,gi⟩
   cases e with
   | normal =>
    obtain ⟨T1,m1,⟨hT1,os1,tp1,ou1,sz1,sm1⟩,hT1s,sep1,df1,dm1⟩:=gi.ri.ext
    have hl1:V1.heap[l]? = some (.loop (rec .ready none)):=by
     rw [sm1 l ((hT1 l).2 ⟨hSV l kl,?_⟩)]
     ·exact hl
     ·rintro ⟨i,hd,e⟩
      unfold dom at hd
      cases hb:hp c i with
      | none=>exact hd hb
      | some b=>have:=(hown.sat i b hb).1;rw [e,hl] at this;exact (Blk.obj_loop this).elim
    refine ⟨_,run_beginRound hl1 (by rw [hrec]),?_⟩
    have hrb:{ rec .ready none with state:=.busy }=rec .busy none:=by rw [hrec]
    rw [hrb]
    have hlt1:l<V1.heap.size:=(Array.getElem?_eq_some_iff.1 hl1).1
    let D1:Nat→Prop:=fun k=>imO r1 s1.hp k∨k∈m1
    let C2:Ctx:=⟨callE (V1.putObj l (.loop (rec .busy none))) D1,hp c,rc,C.G,none⟩
    have gi2:GI P C2 n [] r1 s1 a1 (V1.putObj l (.loop (rec .busy none))):=by
     refine ⟨⟨gi.ri.size,gi.ri.rel,fun k b hk=>⟨(World.putObj_heap_other (fun e=>gi.ri.not_loop hl1 ⟨k,by unfold dom;rw [hk];simp,e⟩)).trans (gi.ri.sat k b hk).1,(gi.ri.sat k b hk).2⟩,gi.ri.inj,
      ⟨fun k=>k<(V1.putObj l (.loop (rec .busy none))).heap.size∧¬D1 k,m1,⟨fun _=>Iff.rfl,rfl,rfl,rfl,Nat.le_refl _,fun _ _=>rfl⟩,fun k hk=>hk.1,fun i hd _ hS=>hS.2 (.inl ⟨i,hd,rfl⟩),df1,fun D hD=>⟨?_,(fun hS=>hS.2 (.inr hD)),fun h=>nomatch h⟩⟩,
      fun i hd=>gi.ri.keep i hd,gi.ri.glob,gi.ri.low⟩,gi.free,gi.low,gi.flat,fun y hy=>by cases hy⟩
     rw [World.putObj_heap_other (fun e=>?_)]
     ·exact (dm1 D hD).1
     ·have:=(dm1 D hD).1;rw [e,hl1] at this;cases this
    refine wpIn_mono (hk1 C2 rfl rfl rfl r1 a1 _ gi2) ?_
    rintro e2 a2 V2 ⟨s2,r2,hk2,gi3⟩
    refine hend e2 s2 r2 V1 V2 a1 a2 r1 s1.ts s1.hp s1.yc D1 (fun k hk hD=>?_) (fun hD=>?_) hk2 gi.ri gi3
    ·rcases hD with h|h
     ·exact h
     ·have h2:=(dm1 k h).2.1
      rw [hT1] at h2
      obtain ⟨i,hd,e⟩:=Classical.byContradiction fun hc=>h2 ⟨hk,hc⟩
      have h3:=(dm1 k h).1
      by_cases h100:100≤i
      ·have:dom s1.hp i∧r1 i=rc i:=gi.ri.keep i hd
       exact ⟨i,this.1,this.2.trans e⟩
      ·have:dom s1.hp i∧r1 i=rc i:=gi.ri.keep i hd
       exact ⟨i,this.1,this.2.trans e⟩
    ·rcases hD with h|h
     ·exact gi.ri.not_loop hl1 h
     ·have:=(dm1 l h).1;rw [hl1] at this;cases this
   | _=>exact hk1.elim
  -- what a round leaves,put together
  have post:∀ (st:LoopState) (pe:Option Code) (r2:Nat→Nat) (V1 V2:World) (a1 a2:Act) (r1:Nat→Nat) (ts1 ts2:Nat→Value) (hp1 hp2:Hp) (y1 y2:Nat) (D1:Nat→Prop),(∀ k,k<V.heap.size→D1 k→imO r1 hp1 k)→¬D1 l→RI ⟨callE V im,hp c,rc,C.G,none⟩ n [] r1 ts1 hp1 y1 a1 V1 →
    RI ⟨callE (V1.putObj l (.loop (rec .busy none))) D1,hp c,rc,C.G,none⟩ n [] r2 ts2 hp2 y2 a2 V2 →
    V2.heap[l]? = some (.loop (rec .busy none))∧GOK C.G (V2.putObj l (.loop (rec st pe)))∧V.heap.size≤(V2.putObj l (.loop (rec st pe))).heap.size∧(∀ k,k<V.heap.size→¬S k→(V2.putObj l (.loop (rec st pe))).heap[k]? = V.heap[k]?) ∧
    ∃ S':Nat→Prop,(∀ k,So k→S' k)∧(∀ D∈ms,S' D)∧S' l∧S' D0∧(∀ i,dom hp2 i→S' (r2 i))∧Supp S' (V2.putObj l (.loop (rec st pe))) (fun V'=>Own0 C d So ms s.yc a r2 tsE hp2 V'∧Lv st pe V') ∧
     (∀ k,S' k→k<(V2.putObj l (.loop (rec st pe))).heap.size)∧∀ k,S' k→k<V.heap.size→S k:=fun st pe r2 V1 V2 a1 a2 r1 ts1 ts2 hp1 hp2 y1 y2 D1 hD1 hD1l ri1 ri2=>by
   obtain ⟨_,q1,q2,q3,q4,q5,q6⟩:=round_end (L2:=rec st pe) hi0.flat hown hSol hSV kSo kms hrcS hl ri1 hD1 hD1l ri2
   have sz:(V2.putObj l (.loop (rec st pe))).heap.size=V2.heap.size:=putObj_size _ _ _
   have hnim:∀ k,¬S k→¬imO rc (hp c) k:=fun k hk ⟨i,hd,e⟩=>hk (e▸hrcS i hd)
   refine ⟨q1,q6,by rw [sz];exact q4,fun k hk hnS=>q5 k hk (hnim k hnS) (fun e=>hnS (e▸kl)),fun k=>S k∨(V.heap.size≤k∧k<V2.heap.size),fun k hk=>.inl (kSo k hk),fun D hD=>.inl (kms D hD),.inl kl,.inl kD,fun i hd=>?_,?_,fun k hk=>?_,fun k hk hlt=>?_⟩
   ·rcases q3 i hd with h|h
    ·exact .inr ⟨h,by
      unfold dom at hd
      cases hb:hp2 i with
      | none=>exact absurd hb hd
      | some b=>have:=(Array.getElem?_eq_some_iff.1 (q2.sat i b hb).1).1;rwa [sz] at this⟩
    ·exact .inl h
   ·have hD0:(V2.putObj l (.loop (rec st pe))).heap[D0]? = some (.deferred (some [])):=by
     rw [q5 D0 (hSV D0 kD) (fun ⟨i,hd',e⟩=>by
      unfold dom at hd'
      cases hb:hp c i with
      | none=>exact hd' hb
      | some b=>have:=(hown.sat i b hb).1;rw [e,hD] at this;exact (Blk.obj_def this).elim) (by omega)]
     exact hD
    have hlt2:l<V2.heap.size:=(Array.getElem?_eq_some_iff.1 q1).1
    refine fun V' k1 k2 k3 k4 k5=>⟨q2.supp (S:=fun k=>S k∨(V.heap.size≤k∧k<V2.heap.size)) (fun k hk=>.inl (kSo k hk)) (fun i hd=>?_) (fun D hD=>.inl (kms D hD)) V' k1 k2 k3 k4 k5,(k1 l (.inl kl)).trans (World.putObj_heap_same hlt2),(k1 D0 (.inl kD)).trans hD0⟩
    rcases q3 i hd with h|h
    ·exact .inr ⟨h,by
      unfold dom at hd
      cases hb:hp2 i with
      | none=>exact absurd hb hd
      | some b=>have:=(Array.getElem?_eq_some_iff.1 (q2.sat i b hb).1).1;rwa [sz] at this⟩
    ·exact .inl h
   ·rw [sz]
    rcases hk with h|h
    ·exact Nat.lt_of_lt_of_le (hSV k h) q4
    ·exact h.2
   ·exact hk.resolve_right (by omega)
  by_cases hcn:c<N
  ·refine both _ (rounds c x hcn hx C1 l rfl rfl rfl) ?_
   intro e s2 r2 V1 V2 a1 a2 r1 ts1 hp1 y1 D1 hD1 hD1l hk ri1 gi2
   cases e with
   | normal =>
    have gi3:=gi2.weak (Weak.ctx (C:=C1) rfl rfl hk)
    obtain ⟨p1,p2,p3,p4,S',p5,p6,p7,p8,p9,p10,p11,p12⟩:=post .ready none r2 V1 V2 a1 a2 r1 ts1 _ hp1 _ y1 _ D1 hD1 hD1l ri1 gi3.ri
    have hend:=run_endRound (P:=P) none p1
    rw [hrec] at hend p2 p3 p4 p10 p11
    refine ⟨_,_,hend,?_,p2,p3,p4,S',⟨p5,p6,p7,p8,.inl ⟨hcn,gi3.free,r2,p9,?_⟩⟩,p11,p12⟩
    ·have h1:(YG.mk l xs N pn).pan c=none:=by
      show (if c=N then pn else none)=none
      rw [if_neg (by omega)]
     have h2:(c != N)=true:=by simp;omega
     rw [h1,h2];rfl
    ·simpa [hrec] using p10
   | _=>exact hk.elim
  ·obtain rfl:c=N:=by omega
   have hpanN:(YG.mk l xs c pn).pan c=pn:=by
    show (if c=c then pn else none)=pn
    rw [if_pos rfl]
   cases pn with
   | none =>
    rcases fin with ⟨e,_⟩|⟨x',hx',hfin⟩
    ·obtain ⟨h9,_⟩:=List.getElem?_eq_some_iff.1 hx;have h9:c<xs.length:=h9;omega
    ·have hx:xs[c]? = some x:=hx
     rw [hx] at hx';cases hx'
     refine both _ (hfin C1 l rfl rfl rfl) ?_
     intro e s2 r2 V1 V2 a1 a2 r1 ts1 hp1 y1 D1 hD1 hD1l hk ri1 gi2
     obtain ⟨hk1,hk2,hk3⟩:=hk
     cases ho:outCode e with
     | none=>rw [ho] at hk1;cases hk1
     | some j =>
      obtain ⟨p1,p2,p3,p4,S',p5,p6,p7,p8,p9,p10,p11,p12⟩:=post .done (some j) r2 V1 V2 a1 a2 r1 ts1 _ hp1 _ y1 _ D1 hD1 hD1l ri1 gi2.ri
      have hend:=run_endRound (P:=P) (some j) p1
      rw [hrec] at hend p2 p3 p4 p10 p11
      have hR:∃ v w',(Instr.endRound l (some j)).run P V2=.ok v w'∧RR (.returned v) w':=by
       refine ⟨_,_,hend,?_,p2,p3,p4,S',⟨p5,p6,p7,p8,.inr ⟨rfl,e,s2.hp,s2.B,r2,.inl ⟨rfl,hk1⟩,hk3,gi2.free,gi2.low,p9,?_⟩⟩,p11,p12⟩
       ·rw [hpanN];simp
       ·intro V' k1 k2 k3 k4 k5
        obtain ⟨q1,q2⟩:=p10 V' k1 k2 k3 k4 k5
        refine ⟨q1,q2.2,fun j' hj'=>?_⟩
        rw [ho] at hj';cases hj'
        simpa [hrec] using q2
      cases e<;>simp only [outCode,Option.some.injEq,reduceCtorEq] at ho
      ·subst ho;exact hR
      ·subst ho;exact hR
      ·subst ho;exact hR
   | some pv =>
    obtain ⟨_,x',hx',hfin⟩:=fin
    have hx:xs[c]? = some x:=hx
    rw [hx] at hx';cases hx'
    refine both _ (hfin C1 l rfl rfl rfl) ?_
    intro e s2 r2 V1 V2 a1 a2 r1 ts1 hp1 y1 D1 hD1 hD1l hk ri1 gi2
    obtain ⟨rfl,hk2,hk3⟩:=hk
    obtain ⟨p1,p2,p3,p4,S',p5,p6,p7,p8,p9,p10,p11,p12⟩:=post .busy none r2 V1 V2 a1 a2 r1 ts1 _ hp1 _ y1 _ D1 hD1 hD1l ri1 gi2.ri
    have hid:V2.putObj l (.loop (rec .busy none))=V2:=putObj_id p1
    rw [hid] at p2 p3 p4 p10 p11
    obtain ⟨T2,m2,⟨hT2,os2,tp2,ou2,sz2,sm2⟩,hT2s,sep2,⟨df2,nd2⟩,dm2⟩:=gi2.ri.ext
    have lt1:V.heap.size≤(V1.putObj l (.loop (rec .busy none))).heap.size:=by
     rw [putObj_size]
     obtain ⟨_,_,⟨_,_,_,_,z1,_⟩,_⟩:=ri1.ext
     exact z1
    -- a mark of the round's own lies behind what was there
    have mnew:∀ D∈m2,V.heap.size≤D:=fun D hD=>by
     have h1:=(dm2 D hD).1
     have h2:=(dm2 D hD).2.1
     refine Classical.byContradiction fun hlt=>?_
     have hlt:D<V.heap.size:=by omega
     rw [hT2] at h2
     have hD1D:D1 D:=Classical.byContradiction fun hc=>h2 ⟨by omega,hc⟩
     obtain ⟨i,hd,e⟩:=hD1 D hlt hD1D
     by_cases hz:100≤i
     ·obtain ⟨T1,m1,⟨hT1,_⟩,_,sep1,_⟩:=ri1.ext
      have h3:=sep1 i hd hz
      rw [hT1,e] at h3
      obtain ⟨q,hq,e2⟩:=Classical.byContradiction fun hc=>h3 ⟨hlt,hc⟩
      have hk5:dom s2.hp q∧r2 q=rc q:=gi2.ri.keep q hq
      exact gi2.ri.ne_mark hk5.1 h1 (hk5.2.trans e2)
     ·have e3:hp1 i=C.G i:=ri1.glob i (by omega)
      have e4:s2.hp i=C.G i:=gi2.ri.glob i (by omega)
      have hd2:dom s2.hp i:=by unfold dom at *;rw [e4,←e3];exact hd
      exact gi2.ri.ne_mark hd2 h1 (by rw [gi2.ri.low i (by omega) hd2,←e,ri1.low i (by omega) hd])
    show LeavesInM _ _ _ _ _ _ a2.defers _ _
    rw [df2,List.append_nil]
    refine leavesM (by simp) m2 V2 nd2 (fun D hD=>(dm2 D hD).1) fun W'' e1 e2 e3 e4 e5=>?_
    refine ⟨⟨_,rfl⟩,?_⟩
    have sgok:GOK C.G W'':=fun k b hk=>by
     rw [e5 k (fun hm=>by have:=(dm2 k hm).1;rw [p2 k b hk] at this;exact (Blk.obj0_def this.symm).elim)]
     exact p2 k b hk
    refine ⟨?_,sgok,by rw [e1];exact p3,fun k hk hnS=>?_,fun k=>S' k∧k∉m2,⟨fun k hk=>⟨p5 k hk,fun hm=>?_⟩,fun D hD=>⟨p6 D hD,fun hm=>?_⟩,⟨p7,fun hm=>?_⟩,⟨p8,fun hm=>?_⟩,.inr ⟨rfl,_,s2.hp,s2.B,r2,.inr ⟨pv,rfl,rfl⟩,hk3,gi2.free,gi2.low,fun i hd=>⟨p9 i hd,fun hm=>?_⟩,?_⟩⟩,fun k hk=>?_,fun k hk hlt=>p12 k hk.1 hlt⟩
    ·rw [hpanN]
    ·rw [e5 k (fun hm=>by have:=mnew k hm;omega)];exact p4 k hk hnS
    ·have:=mnew k hm;have:=hSV k (kSo k hk);omega
    ·have:=mnew D hm;have:=hSV D (kms D hD);omega
    ·have:=(dm2 l hm).1;rw [p1] at this;cases this
    ·have:=mnew D0 hm;have:=hSV D0 kD;omega
    ·exact gi2.ri.ne_mark hd (dm2 _ hm).1 rfl
    ·intro V' k1 k2 k3 k4 k5
     have hh:=fun k (hk:S' k∧k∉m2)=>(k1 k hk).trans (e5 k hk.2)
     have hsupp2:Supp (fun k=>S' k∧k∉m2) W'' (fun V'=>Own0 C d So ms s.yc a r2 tsE s2.hp V'∧V'.heap[D0]? = some (.deferred (some []))):=by
      obtain ⟨own2,_,hD2⟩:=p10.here
      have own3:Own0 C d So ms s.yc a r2 tsE s2.hp W'':=own2.supp (S:=fun k=>S' k∧k∉m2) (fun k hk=>⟨p5 k hk,fun hm=>by have:=mnew k hm;have:=hSV k (kSo k hk);omega⟩) (fun i hd=>⟨p9 i hd,fun hm=>gi2.ri.ne_mark hd (dm2 _ hm).1 rfl⟩) (fun D hD=>⟨p6 D hD,fun hm=>by have:=mnew D hm;have:=hSV D (kms D hD);omega⟩) W'' (fun k hk=>e5 k hk.2) e2 e3 e4 (by rw [e1];exact Nat.le_refl _)
      have hD3:W''.heap[D0]? = some (.deferred (some [])):=(e5 D0 (fun hm=>by have:=mnew D0 hm;have:=hSV D0 kD;omega)).trans hD2
      exact fun V' k1 k2 k3 k4 k5=>⟨own3.supp (S:=fun k=>S' k∧k∉m2) (fun k hk=>⟨p5 k hk,fun hm=>by have:=mnew k hm;have:=hSV k (kSo k hk);omega⟩) (fun i hd=>⟨p9 i hd,fun hm=>gi2.ri.ne_mark hd (dm2 _ hm).1 rfl⟩) (fun D hD=>⟨p6 D hD,fun hm=>by have:=mnew D hm;have:=hSV D (kms D hD);omega⟩) V' k1 k2 k3 k4 k5,(k1 D0 ⟨p8,fun hm=>by have:=mnew D0 hm;have:=hSV D0 kD;omega⟩).trans hD3⟩
     obtain ⟨q1,q2⟩:=hsupp2 V' k1 k2 k3 k4 k5
     exact ⟨q1,q2,fun j hj=>by simp [outCode] at hj⟩
    ·rw [e1];exact p11 k hk.1
 -- behind the iterator
 refine ⟨l,[mark D0],W1,{ target:=.fn (.func f) (caps.map (ren r)),args:=#[.func (.yield l) #[] #[]] },W1,f,#[Value.func (.yield l) #[] #[]]++caps.map (ren r),W1,?_,?_,fun f' hf'=>?_,?_,fun h=>(by cases h),?_⟩
 ·rw [←hW1,hrec];exact run_enterLoop_outer _ _ _ _ _
 ·simp only [resolve,hcapv]
  simp [go_sem,Act.eval]
 ·simp [Target.leads] at hf'
  subst hf'
  exact callFunc_ok (hit.enter #[] default)
 ·simp [invoke,go_sem,hit.enter]
 ·have hsat1:Sat r (dom (rst s.hp rs)) (rst s.hp rs) W1:=fun k b hk=>⟨(hb1.block _ (hi0.ri.lt (k:=k) (by unfold dom;rw [rst_sub hk];simp))).trans (hi0.ri.sat k b (rst_sub hk)).1,hit.closed k b hk⟩
  have hsubr:∀ k,dom (rst s.hp rs) k→dom s.hp k:=fun k hk=>by
   unfold dom at *
   cases hb:rst s.hp rs k with
   | none=>exact absurd hb hk
   | some b=>rw [rst_sub hb];simp
  have hlen:pn≠none→N<xs.length:=fun hp1=>by
   cases pn with
   | none=>exact absurd rfl hp1
   | some pv =>
    obtain ⟨_,x',hx',_⟩:=fin
    exact (List.getElem?_eq_some_iff.1 hx').1
  have hcalls:=hit.run E l N r S1 W1 (gokOf own0.sat own0.glob own0.low) hsat1 (fun k l' hk hl=>hi0.ri.inj k l' (hsubr k hk) (hsubr l' hl)) (fun k hk hd=>hi0.ri.low k hk (hsubr k hd)) hlen hround X0 (fun k hk=>hk.1) (fun i hd h1 hS=>hS.2 ?_)
  ·refine CallsIn.mono (hcalls:CallsIn (Fw P none) 0 P _ _ _ _) ?_
   -- the owner's activation,behind it all
   have giV:∀ (rc:Nat→Nat) (hpE:Hp) (BE:Nat) (V:World),(∀ x,BE≤x→hpE x=none)→100≤BE→Own0 C d So ms s.yc a rc tsE hpE V→V.heap[D0]? = some (.deferred (some []))→W.heap.size≤V.heap.size →
     GI P C n d rc ⟨tsE,hpE,BE,s.yc⟩ { a with defers:=[mark D0]++a.defers } V:=fun rc hpE BE V hfree hBE hown hD hsz =>
    ⟨⟨hi0.ri.size,hown.ri,hown.sat,hown.inj,
     ⟨So,D0::ms,hown.X,fun k hk=>Nat.lt_of_lt_of_le (hSo k hk) hsz,hown.sep,⟨by simp [hdef],List.nodup_cons.2 ⟨fun hm=>by have:=(Array.getElem?_eq_some_iff.1 (hms D0 hm).1).1;omega,hnd⟩⟩,fun D hDm=>by
      rcases List.mem_cons.1 hDm with rfl|hDm
      ·exact ⟨hD,(fun hS=>by have:=hSo _ hS;omega),hYn⟩
      ·exact ⟨hown.mks D hDm,(hms D hDm).2⟩⟩,
     hown.keep,hown.glob,hown.low⟩,hfree,hBE,hi0.flat,hi0.rounds⟩
   have szOf:∀ {S:Nat→Prop} {V:World} {c:Nat},XX c S V→(∀ V,XX c S V→S l→True)→V.heap[D0]? = some (.deferred (some []))→W.heap.size≤V.heap.size:=fun {S V c} _ _ h=>by
    have:=(Array.getElem?_eq_some_iff.1 h).1;omega
   cases pn with
   | some pv =>
    rintro e V ⟨rfl,c,S',hX⟩
    obtain ⟨kSo,kms,kl,kD,hcase⟩:=hX
    obtain ⟨hbefore,_⟩:=fin
    rcases hcase with ⟨hc',hfree,rc,hrcS,hsupp⟩|⟨hc',e,hpE,BE,rc,ho,hk,hfree,hBE,hrcS,hsupp⟩
    ·obtain ⟨hown,hl,hD⟩:=hsupp.here
     exact ⟨_,rc,hbefore c hc',giV rc _ B V hfree hw.low hown hD (by have:=(Array.getElem?_eq_some_iff.1 hD).1;omega)⟩
    ·obtain ⟨hown,hD,_⟩:=hsupp.here
     rcases ho with ⟨h1,_⟩|⟨pv',h1,rfl⟩
     ·cases h1
     ·cases h1
      exact ⟨_,rc,hk,giV rc _ BE V hfree hBE hown hD (by have:=(Array.getElem?_eq_some_iff.1 hD).1;omega)⟩
   | none =>
   rintro e V ⟨⟨v,rfl⟩,S',hX⟩
   obtain ⟨kSo,kms,kl,kD,hcase⟩:=hX
   have fini:∀ (st:LoopState) (pe:Option Code) (rc:Nat→Nat) (hpE:Hp) (BE:Nat),st≠.busy→(∀ x,BE≤x→hpE x=none)→100≤BE→Own0 C d So ms s.yc a rc tsE hpE V→Lv st pe V →
     (Instr.endLoop l).run P V=.ok pe (V.putObj l (.loop { rec st pe with state:=.exhausted }))∧GI P C n d rc ⟨tsE,hpE,BE,s.yc⟩ { a with defers:=[mark D0]++a.defers } (V.putObj l (.loop { rec st pe with state:=.exhausted })):=fun st pe rc hpE BE hst hfree hBE hown ⟨hl,hD⟩=>by
    have hend:=run_endLoop (P:=P) hl (by rw [hrec];exact hst)
    refine ⟨by rw [hrec] at hend ⊢;exact hend,?_⟩
    have hlt:l<V.heap.size:=(Array.getElem?_eq_some_iff.1 hl).1
    have szV:∀ ob,(V.putObj l ob).heap.size=V.heap.size:=fun ob=>putObj_size _ _ _
    refine ⟨⟨hi0.ri.size,hown.ri,fun k b hk=>⟨(World.putObj_heap_other (fun e=>?_)).trans (hown.sat k b hk).1,(hown.sat k b hk).2⟩,hown.inj,
     ⟨So,D0::ms,C.E.ok _ _ _ _ hown.X (fun k hk=>World.putObj_heap_other (fun e=>by have:=hSo k hk;omega)) rfl rfl rfl (by rw [szV];exact Nat.le_refl _),fun k hk=>by rw [szV];have:=hSo k hk;omega,hown.sep,⟨by simp [hdef],List.nodup_cons.2 ⟨fun hm=>?_,hnd⟩⟩,fun D hDm=>?_⟩,
     hown.keep,hown.glob,hown.low⟩,hfree,hBE,hi0.flat,hi0.rounds⟩
    ·have:=(hown.sat k b hk).1;rw [e,hl] at this;exact (Blk.obj_loop this).elim
    ·have:=(Array.getElem?_eq_some_iff.1 (hms D0 hm).1).1;omega
    ·rcases List.mem_cons.1 hDm with rfl|hDm
     ·exact ⟨(World.putObj_heap_other (by omega)).trans hD,(fun hS=>by have:=hSo _ hS;omega),hYn⟩
     ·exact ⟨(World.putObj_heap_other (fun e=>by have:=hown.mks D hDm;rw [e,hl] at this;cases this)).trans (hown.mks D hDm),(hms D hDm).2⟩
   rcases hcase with ⟨hc',hfree,rc,hrcS,hsupp⟩|⟨hc',e,hpE,BE,rc,ho,hk,hfree,hBE,hrcS,hsupp⟩
   ·obtain ⟨hown,hLv⟩:=hsupp.here
    have hNl:N=xs.length:=by omega
    have hmin:min (N+1) xs.length=N:=by omega
    rw [hmin] at hfree hown
    obtain ⟨f1,f2⟩:=fini .ready none rc (hp N) B (by simp) hfree hw.low hown hLv
    rcases fin with ⟨_,hK⟩|⟨x',hx',_⟩
    ·exact ⟨none,_,f1,_,rc,hK,f2⟩
    ·obtain ⟨h9,_⟩:=List.getElem?_eq_some_iff.1 hx';omega
   ·obtain ⟨hown,_,hLv⟩:=hsupp.here
    rcases ho with ⟨_,ho⟩|⟨pv,h1,_⟩
    ·cases hoj:outCode e with
     | none=>rw [hoj] at ho;cases ho
     | some j =>
      obtain ⟨f1,f2⟩:=fini .done (some j) rc hpE BE (by simp) hfree hBE hown (hLv j hoj)
      refine ⟨some j,_,f1,?_⟩
      cases e<;>simp only [outCode,Option.some.injEq,reduceCtorEq] at hoj
      ·subst hoj;exact wpIn_exit ⟨_,rc,hk,f2⟩
      ·subst hoj;exact wpIn_goto ⟨_,rc,hk,f2⟩
      ·subst hoj;exact wpIn_ret ⟨_,rc,hk,f2⟩
    ·cases h1
  ·refine ⟨i,?_,h1,rfl⟩
   unfold dom rst at hd
   split at hd
   ·rename_i h;exact h.resolve_left (by omega)
   ·exact absurd rfl hd

theorem GW_range {t:Tmp} {ps:Array Tmp} {assign body:Code} {f:FuncId} {caps:Array Value} {rs:List Nat} {xs:List (Array Value)} (hg:s.ts t=.func (.func f) #[] caps) (hit:IterG P C.G f caps s.hp rs xs)
  (hxs:∀ x∈xs,x.size=ps.size∧∀ v∈x,flatV v=true) (hps:∀ p∈ps,p<n) (tsE:Nat→Value) (hp:Nat→Hp) (B:Nat) (N:Nat) (hN:N≤xs.length)
  (hw:Weak C s ⟨tsE,hp 0,B,s.yc⟩) (hdis:∀ k∈rs,hp 0 k=none∧dom s.hp k) (hids:∀ i,i≤N→∀ t,idsV (dom (hp i)) (tsE t))
  (rounds:∀ i x,i<N→xs[i]? = some x→∀ (C1:Ctx) (l:Nat),C1.G=C.G→C1.hp0=hp i→C1.Y=none→GW P C1 n [] (some l) assign ⟨roundTs ps.toList x.toList tsE,hp i,B,0⟩
   (thenG (fun s1=>∀ C2:Ctx,C2.G=C.G→C2.hp0=hp i→C2.Y=none→GW P C2 n [] (some l) body s1 (thenG (fun s2=>Weak C1 s2 ⟨fun _=>junk,hp (i+1),B,s2.yc⟩) (fun _ _=>False))) (fun _ _=>False)))
  (fin:(N=xs.length∧K .normal ⟨tsE,hp N,B,s.yc⟩)∨∃ x,xs[N]? = some x∧∀ (C1:Ctx) (l:Nat),C1.G=C.G→C1.hp0=hp N→C1.Y=none→GW P C1 n [] (some l) assign ⟨roundTs ps.toList x.toList tsE,hp N,B,0⟩
   (thenG (fun s1=>∀ C2:Ctx,C2.G=C.G→C2.hp0=hp N→C2.Y=none→GW P C2 n [] (some l) body s1 (fun e s2=>(outCode e).isSome=true∧(∀ t,idsV (dom s2.hp) (tsE t))∧K e ⟨tsE,s2.hp,s2.B,s.yc⟩)) (fun _ _=>False))) (hYn:C.Y≠some .still:=by first|assumption|(intro h;simp_all [YG.still])) :
  GW P C n d none (.rangeFunc (.tmp t) ps assign body) s K :=
 GW_rangeX none hg hit hxs hps tsE hp B N hN hw hdis hids rounds fin hYn
theorem GW_rangeP (pv:Value) {t:Tmp} {ps:Array Tmp} {assign body:Code} {f:FuncId} {caps:Array Value} {rs:List Nat} {xs:List (Array Value)} (hg:s.ts t=.func (.func f) #[] caps) (hit:IterP P C.G f caps s.hp rs xs)
  (hxs:∀ x∈xs,x.size=ps.size∧∀ v∈x,flatV v=true) (hps:∀ p∈ps,p<n) (tsE:Nat→Value) (hp:Nat→Hp) (B:Nat) (N:Nat) (hN:N≤xs.length)
  (hw:Weak C s ⟨tsE,hp 0,B,s.yc⟩) (hdis:∀ k∈rs,hp 0 k=none∧dom s.hp k) (hids:∀ i,i≤N→∀ t,idsV (dom (hp i)) (tsE t))
  (rounds:∀ i x,i<N→xs[i]? = some x→∀ (C1:Ctx) (l:Nat),C1.G=C.G→C1.hp0=hp i→C1.Y=none→GW P C1 n [] (some l) assign ⟨roundTs ps.toList x.toList tsE,hp i,B,0⟩
   (thenG (fun s1=>∀ C2:Ctx,C2.G=C.G→C2.hp0=hp i→C2.Y=none→GW P C2 n [] (some l) body s1 (thenG (fun s2=>Weak C1 s2 ⟨fun _=>junk,hp (i+1),B,s2.yc⟩) (fun _ _=>False))) (fun _ _=>False)))
  (before:∀ c,c≤N→K (.panic [{ v:=pv,recovered:=false }]) ⟨tsE,hp c,B,s.yc⟩)
  (fin:∃ x,xs[N]? = some x∧∀ (C1:Ctx) (l:Nat),C1.G=C.G→C1.hp0=hp N→C1.Y=none→GW P C1 n [] (some l) assign ⟨roundTs ps.toList x.toList tsE,hp N,B,0⟩
   (thenG (fun s1=>∀ C2:Ctx,C2.G=C.G→C2.hp0=hp N→C2.Y=none→GW P C2 n [] (some l) body s1 (fun e s2=>e=.panic [{ v:=pv,recovered:=false }]∧(∀ t,idsV (dom s2.hp) (tsE t))∧K e ⟨tsE,s2.hp,s2.B,s.yc⟩)) (fun _ _=>False))) (hYn:C.Y≠some .still:=by first|assumption|(intro h;simp_all [YG.still])) :
  GW P C n d none (.rangeFunc (.tmp t) ps assign body) s K :=
 GW_rangeX (some pv) hg (hit pv) hxs hps tsE hp B N hN hw hdis hids rounds ⟨before,fin⟩ hYn
end

theorem nr {α:Sort _} {a b:α} (h:a=b):a=b:=h
section
variable {P:Program} {G:Hp} {V:XV} {yc:Nat} {ts:Nat→Value} {hp:Hp} {nk:Nat} {C:Eff→Prop} {dst:Option Tmp} {type:TypeId} {pos:String} {after:Array Edge} {guard:Option (Nat×Bool)}

@[simp] theorem nj_bool (b:Bool):nj (.bool b)=True:=nr rfl
@[simp] theorem nj_int (k:IntKind) (n:Int):nj (.int k n)=True:=nr rfl
@[simp] theorem nj_string (s:ByteArray):nj (.string s)=True:=nr rfl
@[simp] theorem nj_pointer (a:Option Addr):nj (.pointer a)=True:=nr rfl
@[simp] theorem nj_slice (a:Option Addr) (n c:Nat):nj (.slice a n c)=True:=nr rfl
@[simp] theorem nj_map (a:Option Nat):nj (.map a)=True:=nr rfl
@[simp] theorem nj_func (f:Fn) (a b:Array Value):nj (.func f a b)=True:=nr rfl
@[simp] theorem nj_nilFunc:nj .nilFunc=True:=nr rfl
@[simp] theorem nj_iface (t:TypeId) (v:Value):nj (.iface t v)=True:=nr rfl
@[simp] theorem nj_nilIface:nj .nilIface=True:=nr rfl
@[simp] theorem nj_agg (cs:Array Value):nj (.agg cs)=True:=nr rfl
@[simp] theorem nj_tuple (cs:Array Value):nj (.tuple cs)=True:=nr rfl

@[simp] theorem okX_tmp (t:Tmp):okX ts hp (.tmp t)=nj (ts t):=nr rfl
@[simp] theorem okX_const (v:Value):okX ts hp (.const v)=(flatV v=true):=nr rfl
@[simp] theorem okX_global (g:Nat):okX ts hp (.global g)=(g<100∧(hp g).isSome=true):=nr rfl
@[simp] theorem okX_func (f:FuncId):okX ts hp (.func f)=True:=nr rfl
@[simp] theorem gev_tmp (t:Tmp):gev ts (.tmp t)=ts t:=nr rfl
@[simp] theorem gev_const (v:Value):gev ts (.const v)=v:=nr rfl
@[simp] theorem gev_global (g:Nat):gev ts (.global g)=.pointer (some ⟨g,0,none⟩):=nr rfl
@[simp] theorem gev_func (f:FuncId):gev ts (.func f)=.func (.func f) #[] #[]:=nr rfl

@[simp] theorem flat0_bool (b:Bool):flat0 (.bool b)=true:=nr rfl
@[simp] theorem flat0_int (k:IntKind) (n:Int):flat0 (.int k n)=true:=nr rfl
@[simp] theorem flat0_string (s:ByteArray):flat0 (.string s)=true:=nr rfl
@[simp] theorem flat0_nilFunc:flat0 .nilFunc=true:=nr rfl
@[simp] theorem flat0_nilIface:flat0 .nilIface=true:=nr rfl
@[simp] theorem flat0_nilPtr:flat0 (.pointer none)=true:=nr rfl
@[simp] theorem flat0_nilSlice (n c:Nat):flat0 (.slice none n c)=true:=nr rfl
@[simp] theorem flatF_bool (b:Bool):flatF (.bool b)=true:=nr rfl
@[simp] theorem flatF_int (k:IntKind) (n:Int):flatF (.int k n)=true:=nr rfl
@[simp] theorem flatF_string (s:ByteArray):flatF (.string s)=true:=nr rfl
@[simp] theorem flatF_nilFunc:flatF .nilFunc=true:=nr rfl
@[simp] theorem flatF_nilIface:flatF .nilIface=true:=nr rfl
@[simp] theorem flatF_nilPtr:flatF (.pointer none)=true:=nr rfl
@[simp] theorem flatF_nilSlice (n c:Nat):flatF (.slice none n c)=true:=nr rfl
@[simp] theorem flatF_iface (t:TypeId) (v:Value):flatF (.iface t v)=flat0 v:=nr rfl
@[simp] theorem flatA_bool (b:Bool):flatA (.bool b)=true:=nr rfl
@[simp] theorem flatA_int (k:IntKind) (n:Int):flatA (.int k n)=true:=nr rfl
@[simp] theorem flatA_string (s:ByteArray):flatA (.string s)=true:=nr rfl
@[simp] theorem flatA_nilFunc:flatA .nilFunc=true:=nr rfl
@[simp] theorem flatA_nilIface:flatA .nilIface=true:=nr rfl
@[simp] theorem flatA_nilPtr:flatA (.pointer none)=true:=nr rfl
@[simp] theorem flatA_nilSlice (n c:Nat):flatA (.slice none n c)=true:=nr rfl
@[simp] theorem flatA_iface (t:TypeId) (v:Value):flatA (.iface t v)=flat0 v:=nr rfl
@[simp] theorem flatA_agg (cs:Array Value):flatA (.agg cs)=cs.all flatF:=nr rfl
@[simp] theorem flatV_bool (b:Bool):flatV (.bool b)=true:=nr rfl
@[simp] theorem flatV_int (k:IntKind) (n:Int):flatV (.int k n)=true:=nr rfl
@[simp] theorem flatV_string (s:ByteArray):flatV (.string s)=true:=nr rfl
@[simp] theorem flatV_nilFunc:flatV .nilFunc=true:=nr rfl
@[simp] theorem flatV_nilIface:flatV .nilIface=true:=nr rfl
@[simp] theorem flatV_nilPtr:flatV (.pointer none)=true:=nr rfl
@[simp] theorem flatV_nilSlice (n c:Nat):flatV (.slice none n c)=true:=nr rfl
@[simp] theorem flatV_iface (t:TypeId) (v:Value):flatV (.iface t v)=flat0 v:=nr rfl
@[simp] theorem flatV_agg (cs:Array Value):flatV (.agg cs)=cs.all flatF:=nr rfl
@[simp] theorem flatV_tuple (cs:Array Value):flatV (.tuple cs)=cs.all flatA:=nr rfl

@[simp] theorem scal_bool (b:Bool):scal (.bool b)=true:=nr rfl
@[simp] theorem scal_int (k:IntKind) (n:Int):scal (.int k n)=true:=nr rfl
@[simp] theorem scal_string (s:ByteArray):scal (.string s)=true:=nr rfl
@[simp] theorem scal_pointer (a:Option Addr):scal (.pointer a)=true:=nr rfl
@[simp] theorem scal_slice (a:Option Addr) (n c:Nat):scal (.slice a n c)=true:=nr rfl
@[simp] theorem scal_func (f:Fn) (a b:Array Value):scal (.func f a b)=true:=nr rfl
@[simp] theorem scal_nilFunc:scal .nilFunc=true:=nr rfl
@[simp] theorem scal_iface (t:TypeId) (v:Value):scal (.iface t v)=true:=nr rfl
@[simp] theorem scal_nilIface:scal .nilIface=true:=nr rfl

@[simp] theorem okCells_bool (b:Bool):okCells (.bool b)=true:=nr rfl
@[simp] theorem okCells_int (k:IntKind) (n:Int):okCells (.int k n)=true:=nr rfl
@[simp] theorem okCells_string (s:ByteArray):okCells (.string s)=true:=nr rfl
@[simp] theorem okCells_pointer (a:Option Addr):okCells (.pointer a)=true:=nr rfl
@[simp] theorem okCells_slice (a:Option Addr) (n c:Nat):okCells (.slice a n c)=true:=nr rfl
@[simp] theorem okCells_func (f:Fn) (a b:Array Value):okCells (.func f a b)=true:=nr rfl
@[simp] theorem okCells_nilFunc:okCells .nilFunc=true:=nr rfl
@[simp] theorem okCells_iface (t:TypeId) (v:Value):okCells (.iface t v)=true:=nr rfl
@[simp] theorem okCells_nilIface:okCells .nilIface=true:=nr rfl
@[simp] theorem okCells_agg (cs:Array Value):okCells (.agg cs)=cs.all scal:=nr rfl

@[simp] theorem notTup_bool (b:Bool):notTup (.bool b)=true:=nr rfl
@[simp] theorem notTup_int (k:IntKind) (n:Int):notTup (.int k n)=true:=nr rfl
@[simp] theorem notTup_string (s:ByteArray):notTup (.string s)=true:=nr rfl
@[simp] theorem notTup_pointer (a:Option Addr):notTup (.pointer a)=true:=nr rfl
@[simp] theorem notTup_slice (a:Option Addr) (n c:Nat):notTup (.slice a n c)=true:=nr rfl
@[simp] theorem notTup_func (f:Fn) (a b:Array Value):notTup (.func f a b)=true:=nr rfl
@[simp] theorem notTup_nilFunc:notTup .nilFunc=true:=nr rfl
@[simp] theorem notTup_iface (t:TypeId) (v:Value):notTup (.iface t v)=true:=nr rfl
@[simp] theorem notTup_nilIface:notTup .nilIface=true:=nr rfl
@[simp] theorem notTup_agg (cs:Array Value):notTup (.agg cs)=true:=nr rfl

@[simp] theorem plain0_bool (b:Bool):plain0 (.bool b)=true:=nr rfl
@[simp] theorem plain0_int (k:IntKind) (n:Int):plain0 (.int k n)=true:=nr rfl
@[simp] theorem plain0_string (s:ByteArray):plain0 (.string s)=true:=nr rfl
@[simp] theorem plain0_pointer (a:Option Addr):plain0 (.pointer a)=true:=nr rfl
@[simp] theorem plain0_slice (a:Option Addr) (n c:Nat):plain0 (.slice a n c)=true:=nr rfl
@[simp] theorem plain0_nilFunc:plain0 .nilFunc=true:=nr rfl

@[simp] theorem cells_bool (b:Bool):(Value.bool b).cells=#[.bool b]:=nr rfl
@[simp] theorem cells_int (k:IntKind) (n:Int):(Value.int k n).cells=#[.int k n]:=nr rfl
@[simp] theorem cells_string (s:ByteArray):(Value.string s).cells=#[.string s]:=nr rfl
@[simp] theorem cells_pointer (a:Option Addr):(Value.pointer a).cells=#[.pointer a]:=nr rfl
@[simp] theorem cells_slice (a:Option Addr) (n c:Nat):(Value.slice a n c).cells=#[.slice a n c]:=nr rfl
@[simp] theorem cells_func (f:Fn) (a b:Array Value):(Value.func f a b).cells=#[.func f a b]:=nr rfl
@[simp] theorem cells_nilFunc:Value.nilFunc.cells=#[.nilFunc]:=nr rfl
@[simp] theorem cells_iface (t:TypeId) (v:Value):(Value.iface t v).cells=#[.iface t v]:=nr rfl
@[simp] theorem cells_nilIface:Value.nilIface.cells=#[.nilIface]:=nr rfl
@[simp] theorem cells_agg (cs:Array Value):(Value.agg cs).cells=cs:=nr rfl

@[simp] theorem upd_app {α:Type} (f:Nat→α) (k:Nat) (v:α) (j:Nat):upd f k v j=if j=k then v else f j:=nr rfl
@[simp] theorem updL_nil:updL hp []=hp:=nr rfl
@[simp] theorem updL_cons (k:Nat) (b:Blk) (l:List (Nat×Blk)):updL hp ((k,b)::l)=updL (upd hp k (some b)) l:=nr rfl
@[simp] theorem putT_some (d:Tmp) (v:Value):putT ts (some d) v=upd ts d v:=nr rfl
@[simp] theorem putT_none (v:Value):putT ts none v=ts:=nr rfl
@[simp] theorem keys_nil:keys []=[]:=nr rfl
@[simp] theorem keys_cons (k:Nat) (b:Blk) (l:List (Nat×Blk)):keys ((k,b)::l)=k::keys l:=nr rfl
@[simp] theorem tcons_0 (k:Nat) (tr:Tr):tcons k [] [] tr=tr:=nr rfl
@[simp] theorem tcons_1 (k x:Nat) (l wr:List Nat) (tr:Tr):tcons k (x::l) wr tr=(k,x::l,wr)::tr:=nr rfl
@[simp] theorem tcons_2 (k x:Nat) (l:List Nat) (tr:Tr):tcons k [] (x::l) tr=(k,[],x::l)::tr:=nr rfl
@[simp] theorem val_v (v:Value) (rs:List Nat):(val v rs).v=v:=nr rfl
@[simp] theorem val_rs (v:Value) (rs:List Nat):(val v rs).rs=rs:=nr rfl
@[simp] theorem val_ws (v:Value) (rs:List Nat):(val v rs).ws=[]:=nr rfl
@[simp] theorem val_ns (v:Value) (rs:List Nat):(val v rs).ns=[]:=nr rfl
@[simp] theorem val_pan (v:Value) (rs:List Nat):(val v rs).pan=none:=nr rfl
@[simp] theorem val_yl (v:Value) (rs:List Nat):(val v rs).yl=false:=nr rfl
@[simp] theorem effr_eq (rs:List Nat) (v:Value) (ws:List (Nat×Blk)):(Res.ret v ws).eff rs=⟨v,rs,ws,[],none,false⟩:=nr rfl
@[simp] theorem effn_eq (rs:List Nat) (v:Value) (ns:List (Nat×Blk)):(Res.new v ns).eff rs=⟨v,rs,[],ns,none,false⟩:=nr rfl
@[simp] theorem effp_eq (rs:List Nat) (v:Value):(Res.pan v).eff rs=⟨junk,rs,[],[],some v,false⟩:=nr rfl
@[simp] theorem gptr_eq (k:Nat):gptr k=.pointer (some ⟨k,0,none⟩):=nr rfl
@[simp] theorem splice_nil (c:Array Value) (o:Nat):splice c o []=c:=nr rfl
@[simp] theorem splice_cons (c:Array Value) (o:Nat) (v:Value) (l:List Value):splice c o (v::l)=splice (c.setIfInBounds o v) (o+1) l:=nr rfl

def wantV (v:Value) (w:Bool):Option Bool :=
 match v with
 | .bool b=>some (b==w)
 | .tuple _=>some false
 | _=>none
@[simp] theorem wantV_bool (b w:Bool):wantV (.bool b) w=some (b==w):=nr rfl
@[simp] theorem wantV_undef (w:Bool):wantV undef w=some false:=nr rfl
@[simp] theorem wanted_none (ops:Array Oper) (op:Op):wantedG ops ⟨dst,op,type,pos,after,none⟩ ts=some true:=nr rfl
def wantO (d:Option Tmp) (w:Bool) (ts:Nat→Value):Option Bool :=
 match d with
 | some d=>wantV (ts d) w
 | none=>some false
@[simp] theorem wantO_some (d:Tmp) (w:Bool):wantO (some d) w ts=wantV (ts d) w:=nr rfl
@[simp] theorem wanted_some (ops:Array Oper) (op:Op) (j:Nat) (w:Bool):wantedG ops ⟨dst,op,type,pos,after,some (j,w)⟩ ts=wantO ((ops[j]?).bind (·.dst)) w ts:=by
 unfold wantedG wantO wantV
 rfl

def wayG (w:Option Bool) (a b:Prop):Prop :=
 match w with
 | some true=>a
 | some false=>b
 | none=>False
@[simp] theorem wayG_true (a b:Prop):wayG (some true) a b=a:=nr rfl
@[simp] theorem wayG_false (a b:Prop):wayG (some false) a b=b:=nr rfl
def wantedS (seen:List (Option Tmp)) (k:Nat) (o:Oper) (ts:Nat→Value):Option Bool :=
 match o.guard with
 | none=>some true
 | some (j,w)=>if j<k then wantO ((seen[k - 1 - j]?).bind id) w ts else none
@[simp] theorem wantedS_none (seen:List (Option Tmp)) (k:Nat) (op:Op):wantedS seen k ⟨dst,op,type,pos,after,none⟩ ts=some true:=nr rfl
@[simp] theorem wantedS_some (seen:List (Option Tmp)) (k:Nat) (op:Op) (j:Nat) (w:Bool):wantedS seen k ⟨dst,op,type,pos,after,some (j,w)⟩ ts=if j<k then wantO ((seen[k - 1 - j]?).bind id) w ts else none:=nr rfl
structure QQ where
 q:(Nat→Value)→Hp→Tr→Nat→Prop
 p:Value→Tr→Prop
def panX (pan:Option Value) (a:Prop) (b:Value→Prop):Prop :=
 match pan with
 | none=>a
 | some v=>b v
@[simp] theorem panX_none (a:Prop) (b:Value→Prop):panX none a b=a:=nr rfl
@[simp] theorem panX_some (a:Prop) (b:Value→Prop) (v:Value):panX (some v) a b=b v:=nr rfl
@[congr] theorem panX_congr {pan pan':Option Value} {a:Prop} {b:Value→Prop} (h:pan=pan'):panX pan a b=panX pan' a b:=by rw [h]
def lexS (P:Program) (G:Hp) (V:XV) (base:Nat) (Q:QQ):List (Option Tmp)→Nat→List Oper→(Nat→Value)→Hp→Tr→Nat→Bool→Bool→Prop
 | _,_,[],ts,hp,tr,yc,_,_=>Q.q ts hp tr yc
 | seen,k,o::rest,ts,hp,tr,yc,wr,yd=>wayG (wantedS seen k o ts) (opX P G V yc o ts hp (base+8*k) fun e=>(e.yl=true→yd=false)∧panX e.pan
    (lexS P G V base Q (o.dst::seen) (k+1) rest (putT ts o.dst e.v) (updL hp (e.ws++e.ns)) (tcons k (e.rs++keys e.ns) (keys e.ws++keys e.ns) tr) (if e.yl then yc+1 else yc) (wr||!e.ws.isEmpty) (yd||e.yl))
    (fun pv=>(V.dr=true→rest.isEmpty=true)∧(wr||!e.ws.isEmpty)=false∧Q.p pv (tcons k (e.rs++keys e.ns) (keys e.ws++keys e.ns) tr)))
   (unD o ts∧lexS P G V base Q (o.dst::seen) (k+1) rest (putT ts o.dst undef) hp tr yc wr yd)
theorem wantedS_eq {ops:Array Oper} {seen:List (Option Tmp)} {k:Nat} {o:Oper} {b:Bool} (hs:∀ j,j<k→(seen[k - 1 - j]?).bind id=(ops[j]?).bind (·.dst)) (h:wantedS seen k o ts=some b):wantedG ops o ts=some b:=by
 obtain ⟨dst,op,type,pos,after,guard⟩:=o
 cases guard with
 | none=>exact h
 | some p =>
  obtain ⟨j,w⟩:=p
  rw [wantedS_some] at h
  rw [wanted_some]
  split at h
  ·rename_i hj;rw [hs j hj] at h;exact h
  ·cases h
theorem insX_mono {C':Eff→Prop} (hc:∀ e,C e→C' e) {m k v:Value} (h:insX hp m k v C):insX hp m k v C':=by
 unfold insX insX1 at *
 repeat' split at h
 all_goals first|exact h.elim|exact ⟨h.1,h.2.1,hc _ h.2.2⟩
theorem lkX_mono {C':Eff→Prop} (hc:∀ e,C e→C' e) {m k:Value} (h:lkX hp m k C):lkX hp m k C':=by
 unfold lkX lkX1 at *
 repeat' split at h
 all_goals first|exact h.elim|exact ⟨h.1,hc _ h.2⟩
theorem ncX_mono {v:Value} {C C':Eff→Prop} (hc:∀ e,C e→C' e) (h:ncX v C):ncX v C':=by
 unfold ncX at *
 split at h
 ·exact hc _ h
 ·exact h.elim
theorem msU_mono {u:Option TypeDesc} {v w:Value} {C C':Eff→Prop} (hc:∀ e,C e→C' e) (h:msU P nk u v w C):msU P nk u v w C':=by
 unfold msU msM msZ at *
 repeat' split at h
 all_goals first|exact h.elim|exact ⟨h.1,h.2.1,h.2.2.1,h.2.2.2.1,h.2.2.2.2.1,h.2.2.2.2.2.1,hc _ h.2.2.2.2.2.2⟩
theorem opX_mono {o:Oper} {C':Eff→Prop} (hc:∀ e,C e→C' e) (h:opX P G V yc o ts hp nk C):opX P G V yc o ts hp nk C':=by
 have hi:=@insX_mono hp C C' hc
 have hl:=@lkX_mono hp C C' hc
 have hn:=@ncX_mono (C:=C) (C':=C') (hc:=hc)
 have hq:=@msU_mono P nk (C:=C) (C':=C') (hc:=hc)
 unfold opX callX calleeX callK callP heapK yieldK pureV at *
 repeat' split at h
 all_goals first|exact h.elim|exact ⟨h.1,h.2.1,h.2.2.1,h.2.2.2.1,h.2.2.2.2.1,hi h.2.2.2.2.2⟩|exact ⟨h.1,h.2.1,h.2.2.1,h.2.2.2.1,hl h.2.2.2.2⟩|exact ⟨h.1,hn h.2⟩|exact ⟨h.1,h.2.1,hq h.2.2⟩|skip
 all_goals grind
theorem lexX_of_lexS {ops:Array Oper} {base:Nat} {Q:QQ}:∀ (l:List Oper) (seen:List (Option Tmp)) (k:Nat) (ts:Nat→Value) (hp:Hp) (tr:Tr) (yc:Nat) (wr yd:Bool),(∀ j,j<k→(seen[k - 1 - j]?).bind id=(ops[j]?).bind (·.dst))→(∀ i,l[i]? = ops[k+i]?) →
  lexS P G V base Q seen k l ts hp tr yc wr yd→lexX P G V ops base Q.q Q.p k l ts hp tr yc wr yd
 | [],_,_,_,_,_,_,_,_,_,_,h=>h
 | o::l,seen,k,ts,hp,tr,yc,wr,yd,hs,hl,h=>by
  have ho:ops[k]? = some o:=by have:=hl 0;simpa using this.symm
  have hs':∀ j,j<k+1→((o.dst::seen)[k+1 - 1 - j]?).bind id=(ops[j]?).bind (·.dst):=fun j hj=>by
   by_cases e:j=k
   ·subst e;simp [ho]
   ·have:k+1 - 1 - j=(k - 1 - j)+1:=by omega
    rw [this,List.getElem?_cons_succ];exact hs j (by omega)
  have hl':∀ i,l[i]? = ops[k+1+i]?:=fun i=>by
   have:=hl (i+1)
   rw [List.getElem?_cons_succ] at this
   rw [this];congr 1;omega
  simp only [lexS] at h
  simp only [lexX]
  cases hw:wantedS seen k o ts with
  | none=>rw [hw] at h;exact h.elim
  | some b =>
   rw [hw] at h
   rw [wantedS_eq hs hw]
   cases b with
   | true =>
    rw [wayG_true] at h
    refine opX_mono (fun e he=>⟨he.1,?_⟩) h
    have he:=he.2
    cases hpn:e.pan with
    | none=>rw [hpn] at he;exact lexX_of_lexS l _ _ _ _ _ _ _ _ hs' hl' he
    | some pv=>rw [hpn] at he;exact ⟨fun hd=>by simpa using he.1 hd,he.2⟩
   | false=>exact ⟨h.1,lexX_of_lexS l _ _ _ _ _ _ _ _ hs' hl' h.2⟩
theorem GW_draw' {Ct:Ctx} {n:Nat} {d:List Deferred} {ro:Option Nat} {s:GS} {K:Exit→GS→Prop} {id:Nat} {l:List Oper} (pn:List FuncId) (hm:P.follows .mixedOrders=true) (hB:Region.lexFrom .any l.toArray l.length 0 (Array.replicate l.length false)=true) (hdst:(dstOk n l&&unOk P l)=true)
  (h:∀ (Q:QQ),(∀ ts hp tr yc,chk .any l.toArray tr=true→K .normal ⟨ts,hp,s.B+8*l.length,yc⟩→Q.q ts hp tr yc) →
   (∀ pv tr,chk .any l.toArray tr=true→(∀ yc,K (.panic [{ v:=pv,recovered:=false }]) ⟨keepT l s.ts,s.hp,s.B,yc⟩)→Q.p pv tr)→lexS P Ct.G ⟨Ct.Y,pn,true⟩ s.B Q [] 0 l s.ts s.hp [] s.yc false false):GW P Ct n d ro (.region id l.toArray true) s K :=
 GW_draw pn hm hB hdst fun Q Qp hQ hQp=>lexX_of_lexS (Q:=⟨Q,Qp⟩) l [] 0 _ _ _ _ _ _ (fun j hj=>absurd hj (Nat.not_lt_zero j)) (fun i=>by simp) (h ⟨Q,Qp⟩ hQ hQp)
theorem GW_region' {Ct:Ctx} {n:Nat} {d:List Deferred} {ro:Option Nat} {s:GS} {K:Exit→GS→Prop} {id:Nat} {l:List Oper} (pn:List FuncId) (hdst:(dstOk n l&&unOk P l)=true)
  (h:∀ (Q:QQ),(∀ ts hp tr yc,K .normal ⟨ts,hp,s.B+8*l.length,yc⟩→Q.q ts hp tr yc) →
   (∀ pv tr,(∀ yc,K (.panic [{ v:=pv,recovered:=false }]) ⟨keepT l s.ts,s.hp,s.B,yc⟩)→Q.p pv tr)→lexS P Ct.G ⟨Ct.Y,pn,false⟩ s.B Q [] 0 l s.ts s.hp [] s.yc false false):GW P Ct n d ro (.region id l.toArray false) s K :=
 GW_region pn hdst fun Q Qp hQ hQp=>lexX_of_lexS (Q:=⟨Q,Qp⟩) l [] 0 _ _ _ _ _ _ (fun j hj=>absurd hj (Nat.not_lt_zero j)) (fun i=>by simp) (h ⟨Q,Qp⟩ hQ hQp)

def callC (C:Eff→Prop) (v:Value):Prop:=C (val v [])
@[simp] theorem callC_app (v:Value):callC C v=C (val v []):=nr rfl
def contX (P:Program) (G:Hp) (V:XV) (base:Nat) (Q:QQ) (seen:List (Option Tmp)) (k:Nat) (rest:List Oper) (dst:Option Tmp) (ts:Nat→Value) (hp:Hp) (tr:Tr) (yc:Nat) (wr yd:Bool) (e:Eff):Prop :=
 (e.yl=true→yd=false)∧panX e.pan
    (lexS P G V base Q (dst::seen) (k+1) rest (putT ts dst e.v) (updL hp (e.ws++e.ns)) (tcons k (e.rs++keys e.ns) (keys e.ws++keys e.ns) tr) (if e.yl then yc+1 else yc) (wr||!e.ws.isEmpty) (yd||e.yl))
    (fun pv=>(V.dr=true→rest.isEmpty=true)∧(wr||!e.ws.isEmpty)=false∧Q.p pv (tcons k (e.rs++keys e.ns) (keys e.ws++keys e.ns) tr))
@[simp] theorem contX_val (base:Nat) (Q:QQ) (seen:List (Option Tmp)) (k:Nat) (rest:List Oper) (tr:Tr) (wr yd:Bool) (v:Value) (rs:List Nat):contX P G V base Q seen k rest dst ts hp tr yc wr yd (val v rs) =
 lexS P G V base Q (dst::seen) (k+1) rest (putT ts dst v) hp (tcons k rs [] tr) yc wr yd:=by simp [contX]
@[simp] theorem contX_mk (base:Nat) (Q:QQ) (seen:List (Option Tmp)) (k:Nat) (rest:List Oper) (tr:Tr) (wr yd:Bool) (v:Value) (rs:List Nat) (ws ns:List (Nat×Blk)):contX P G V base Q seen k rest dst ts hp tr yc wr yd ⟨v,rs,ws,ns,none,false⟩ =
 lexS P G V base Q (dst::seen) (k+1) rest (putT ts dst v) (updL hp (ws++ns)) (tcons k (rs++keys ns) (keys ws++keys ns) tr) yc (wr||!ws.isEmpty) yd:=by simp [contX]
@[simp] theorem contX_yl (base:Nat) (Q:QQ) (seen:List (Option Tmp)) (k:Nat) (rest:List Oper) (tr:Tr) (wr yd:Bool) (v:Value):contX P G V base Q seen k rest dst ts hp tr yc wr yd ⟨v,[],[],[],none,true⟩ =
 (yd=false∧lexS P G V base Q (dst::seen) (k+1) rest (putT ts dst v) hp tr (yc+1) wr true):=by simp [contX]
@[simp] theorem contX_pan (base:Nat) (Q:QQ) (seen:List (Option Tmp)) (k:Nat) (rest:List Oper) (tr:Tr) (wr yd:Bool) (v pv:Value) (rs:List Nat):contX P G V base Q seen k rest dst ts hp tr yc wr yd ⟨v,rs,[],[],some pv,false⟩ =
 ((V.dr=true→rest.isEmpty=true)∧wr=false∧Q.p pv (tcons k rs [] tr)):=by simp [contX]
@[simp] theorem contX_pny (base:Nat) (Q:QQ) (seen:List (Option Tmp)) (k:Nat) (rest:List Oper) (tr:Tr) (wr yd:Bool) (v pv:Value):contX P G V base Q seen k rest dst ts hp tr yc wr yd ⟨v,[],[],[],some pv,true⟩ =
 (yd=false∧(V.dr=true→rest.isEmpty=true)∧wr=false∧Q.p pv tr):=by simp [contX]
@[simp] theorem lexS_nil (base:Nat) (Q:QQ) (seen:List (Option Tmp)) (k:Nat) (tr:Tr) (wr yd:Bool):lexS P G V base Q seen k [] ts hp tr yc wr yd=Q.q ts hp tr yc:=nr rfl
@[simp] theorem lexS_cons (base:Nat) (Q:QQ) (seen:List (Option Tmp)) (k:Nat) (tr:Tr) (wr yd:Bool) (op:Op) (rest:List Oper):lexS P G V base Q seen k (⟨dst,op,type,pos,after,guard⟩::rest) ts hp tr yc wr yd =
  wayG (wantedS seen k ⟨dst,op,type,pos,after,guard⟩ ts) (opX P G V yc ⟨dst,op,type,pos,after,guard⟩ ts hp (base+8*k) (contX P G V base Q seen k rest dst ts hp tr yc wr yd))
   (unD ⟨dst,op,type,pos,after,guard⟩ ts∧lexS P G V base Q (dst::seen) (k+1) rest (putT ts dst undef) hp tr yc wr yd):=nr rfl

@[simp] theorem unD_move (x:Operand):unD ⟨dst,.move x,type,pos,after,guard⟩ ts=True:=nr rfl
@[simp] theorem unD_assign (x:Operand):unD ⟨dst,.assign x,type,pos,after,guard⟩ ts=True:=nr rfl
@[simp] theorem unD_pick (c:Operand) (x:Operand) (y:Operand):unD ⟨dst,.pick c x y,type,pos,after,guard⟩ ts=True:=nr rfl
@[simp] theorem unD_alloc (T:TypeId):unD ⟨dst,.alloc T,type,pos,after,guard⟩ ts=True:=nr rfl
@[simp] theorem unD_box (T:TypeId) (x:Operand):unD ⟨dst,.box T x,type,pos,after,guard⟩ ts=True:=nr rfl
@[simp] theorem unD_build (T:TypeId) (ps:Array (Nat×Operand)):unD ⟨dst,.build T ps,type,pos,after,guard⟩ ts=True:=nr rfl
@[simp] theorem unD_buildSlice (T:TypeId) (n:Nat) (ps:Array (Nat×Operand)):unD ⟨dst,.buildSlice T n ps,type,pos,after,guard⟩ ts=True:=nr rfl
@[simp] theorem unD_load (T:TypeId) (x:Operand):unD ⟨dst,.load T x,type,pos,after,guard⟩ ts=True:=nr rfl
@[simp] theorem unD_store (T:TypeId) (x:Operand) (y:Operand):unD ⟨dst,.store T x y,type,pos,after,guard⟩ ts=True:=nr rfl
@[simp] theorem unD_nilCheck (x:Operand):unD ⟨dst,.nilCheck x,type,pos,after,guard⟩ ts=True:=nr rfl
@[simp] theorem unD_binOp (b:BinOp) (T:TypeId) (x:Operand) (y:Operand) (T2:TypeId):unD ⟨dst,.binOp b T x y T2,type,pos,after,guard⟩ ts=True:=nr rfl
@[simp] theorem unD_unOp (u:UnOp) (T:TypeId) (x:Operand):unD ⟨dst,.unOp u T x,type,pos,after,guard⟩ ts=True:=nr rfl
@[simp] theorem unD_convert (S:TypeId) (T:TypeId) (x:Operand):unD ⟨dst,.convert S T x,type,pos,after,guard⟩ ts=True:=nr rfl
@[simp] theorem unD_sliceToArrayPointer (T:TypeId) (x:Operand):unD ⟨dst,.sliceToArrayPointer T x,type,pos,after,guard⟩ ts=True:=nr rfl
@[simp] theorem unD_makeInterface (T:TypeId) (x:Operand):unD ⟨dst,.makeInterface T x,type,pos,after,guard⟩ ts=True:=nr rfl
@[simp] theorem unD_makeFunc (f:Fn) (a:Array Operand) (b:Array Operand):unD ⟨dst,.makeFunc f a b,type,pos,after,guard⟩ ts=True:=nr rfl
@[simp] theorem unD_makeSlice (T:TypeId) (x:Operand) (y:Operand):unD ⟨dst,.makeSlice T x y,type,pos,after,guard⟩ ts=True:=nr rfl
@[simp] theorem unD_slice (T:TypeId) (x:Operand) (lo:Option Operand) (hi:Option Operand) (mx:Option Operand):unD ⟨dst,.slice T x lo hi mx,type,pos,after,guard⟩ ts=True:=nr rfl
@[simp] theorem unD_fieldAddr (T:TypeId) (x:Operand) (f:Nat):unD ⟨dst,.fieldAddr T x f,type,pos,after,guard⟩ ts=True:=nr rfl
@[simp] theorem unD_field (T:TypeId) (x:Operand) (f:Nat):unD ⟨dst,.field T x f,type,pos,after,guard⟩ ts=True:=nr rfl
@[simp] theorem unD_indexAddr (T:TypeId) (x:Operand) (i:Operand):unD ⟨dst,.indexAddr T x i,type,pos,after,guard⟩ ts=True:=nr rfl
@[simp] theorem unD_index (T:TypeId) (x:Operand) (i:Operand):unD ⟨dst,.index T x i,type,pos,after,guard⟩ ts=True:=nr rfl
@[simp] theorem unD_lookup (T:TypeId) (x:Operand) (i:Operand) (ok:Bool):unD ⟨dst,.lookup T x i ok,type,pos,after,guard⟩ ts=True:=nr rfl
@[simp] theorem unD_typeAssert (x:Operand) (S:TypeId) (T:TypeId) (ok:Bool):unD ⟨dst,.typeAssert x S T ok,type,pos,after,guard⟩ ts=True:=nr rfl
@[simp] theorem unD_extract (x:Operand) (i:Nat):unD ⟨dst,.extract x i,type,pos,after,guard⟩ ts=True:=nr rfl
@[simp] theorem unD_panic (x:Operand):unD ⟨dst,.panic x,type,pos,after,guard⟩ ts=True:=nr rfl
@[simp] theorem unD_makeMap (T:TypeId) (r:Option Operand):unD ⟨dst,.makeMap T r,type,pos,after,guard⟩ ts=True:=nr rfl
@[simp] theorem unD_insert (T:TypeId) (a:Operand) (b:Operand) (c2:Operand):unD ⟨dst,.insert T a b c2,type,pos,after,guard⟩ ts=True:=nr rfl
@[simp] theorem unD_mapUpdate (T:TypeId) (a:Operand) (b:Operand) (c2:Operand):unD ⟨dst,.mapUpdate T a b c2,type,pos,after,guard⟩ ts=True:=nr rfl
@[simp] theorem unD_callt (t:Tmp) (a:Array Operand) (T:Array TypeId):unD ⟨dst,.call ⟨.value (.tmp t),a,T⟩,type,pos,after,guard⟩ ts=(ts t=undef):=nr rfl
@[simp] theorem unD_callf (f:FuncId) (a:Array Operand) (T:Array TypeId):unD ⟨dst,.call ⟨.value (.func f),a,T⟩,type,pos,after,guard⟩ ts=True:=nr rfl
@[simp] theorem unD_callb (b:Builtin) (a:Array Operand) (T:Array TypeId):unD ⟨dst,.call ⟨.builtin b,a,T⟩,type,pos,after,guard⟩ ts=True:=nr rfl

def ifaceX (u:Option TypeDesc) (T:TypeId) (v:Value) (C:Eff→Prop):Prop :=
 match u with
 | some (.interface _)=>False
 | some _=>C (val (.iface T v) [])
 | none=>False
@[simp ↓] theorem opX_move (x:Operand):opX P G V yc ⟨dst,.move x,type,pos,after,guard⟩ ts hp nk C=(okX ts hp x∧C (val (gev ts x) [])):=nr rfl
@[simp ↓] theorem opX_assign (x:Operand):opX P G V yc ⟨dst,.assign x,type,pos,after,guard⟩ ts hp nk C=(okX ts hp x∧C (val (gev ts x) [])):=nr rfl
def pickX (ts:Nat→Value) (hp:Hp) (v:Value) (x y:Operand) (C:Eff→Prop):Prop :=
 match v with
 | .bool b=>(b=true→okX ts hp x)∧(b=false→okX ts hp y)∧C (val (if b then gev ts x else gev ts y) [])
 | _=>False
@[simp] theorem pickX_bool (b:Bool) (x y:Operand):pickX ts hp (.bool b) x y C=((b=true→okX ts hp x)∧(b=false→okX ts hp y)∧C (val (if b then gev ts x else gev ts y) [])):=nr rfl
@[simp ↓] theorem opX_pick (c x y:Operand):opX P G V yc ⟨dst,.pick c x y,type,pos,after,guard⟩ ts hp nk C=(okX ts hp c∧pickX ts hp (gev ts c) x y C):=nr rfl
def allocX (z:Option Value) (nk:Nat) (T:TypeId) (C:Eff→Prop):Prop :=
 match z with
 | some z=>okCells z=true∧flatV z=true∧C ⟨gptr nk,[],[],[(nk,⟨z.cells,T⟩)],none,false⟩
 | none=>False
@[simp] theorem allocX_some (z:Value) (T:TypeId):allocX (some z) nk T C=(okCells z=true∧flatV z=true∧C ⟨gptr nk,[],[],[(nk,⟨z.cells,T⟩)],none,false⟩):=nr rfl
@[simp ↓] theorem opX_alloc (T:TypeId):opX P G V yc ⟨dst,.alloc T,type,pos,after,guard⟩ ts hp nk C=allocX (tyZero P T) nk T C:=nr rfl
@[simp ↓] theorem opX_box (T:TypeId) (x:Operand):opX P G V yc ⟨dst,.box T x,type,pos,after,guard⟩ ts hp nk C=(okX ts hp x∧okCells (gev ts x)=true∧C ⟨gptr nk,[],[],[(nk,⟨(gev ts x).cells,T⟩)],none,false⟩):=nr rfl
def loadX2 (v:Option Value) (k:Nat) (C:Eff→Prop):Prop :=
 match v with
 | some v=>C (val v [k])
 | none=>False
@[simp] theorem loadX2_some (v:Value) (k:Nat):loadX2 (some v) k C=C (val v [k]):=nr rfl
def loadX1 (P:Program) (T:TypeId) (b:Option Blk) (k off:Nat) (C:Eff→Prop):Prop :=
 match b with
 | some b=>loadX2 (loadK P T b off) k C
 | none=>False
@[simp] theorem loadK_ty (T t:TypeId) (c:Array Value) (off:Nat):loadK P T ⟨c,.ty t⟩ off=loadB P T c off:=nr rfl
@[simp] theorem loadX1_some (T:TypeId) (b:Blk) (k off:Nat):loadX1 P T (some b) k off C=loadX2 (loadK P T b off) k C:=nr rfl
def loadX (P:Program) (T:TypeId) (hp:Hp) (v:Value) (C:Eff→Prop):Prop :=
 match v with
 | .pointer (some ⟨k,off,none⟩)=>loadX1 P T (hp k) k off C
 | _=>False
@[simp] theorem loadX_ptr (T:TypeId) (k off:Nat):loadX P T hp (.pointer (some ⟨k,off,none⟩)) C=loadX1 P T (hp k) k off C:=nr rfl
@[simp ↓] theorem opX_load (T:TypeId) (x:Operand):opX P G V yc ⟨dst,.load T x,type,pos,after,guard⟩ ts hp nk C=(okX ts hp x∧loadX P T hp (gev ts x) C):=nr rfl
def storeX1 (P:Program) (T:TypeId) (b:Option Blk) (k off:Nat) (w:Value) (C:Eff→Prop):Prop :=
 match b with
 | some b=>b.T.own=true∧okCells w=true∧tySize P T=some w.cells.size∧off+w.cells.size≤b.c.size∧100≤k∧C ⟨undef,[k],[(k,⟨splice b.c off w.cells.toList,b.T⟩)],[],none,false⟩
 | none=>False
@[simp] theorem storeX1_some (T:TypeId) (c:Array Value) (T':BTy) (k off:Nat) (w:Value):storeX1 P T (some ⟨c,T'⟩) k off w C=(BTy.own T'=true∧okCells w=true∧tySize P T=some w.cells.size∧off+w.cells.size≤c.size∧100≤k∧C ⟨undef,[k],[(k,⟨splice c off w.cells.toList,T'⟩)],[],none,false⟩):=nr rfl
def storeX (P:Program) (T:TypeId) (hp:Hp) (v w:Value) (C:Eff→Prop):Prop :=
 match v with
 | .pointer (some ⟨k,off,none⟩)=>storeX1 P T (hp k) k off w C
 | _=>False
@[simp] theorem storeX_ptr (T:TypeId) (k off:Nat) (w:Value):storeX P T hp (.pointer (some ⟨k,off,none⟩)) w C=storeX1 P T (hp k) k off w C:=nr rfl
@[simp ↓] theorem opX_store (T:TypeId) (x y:Operand):opX P G V yc ⟨dst,.store T x y,type,pos,after,guard⟩ ts hp nk C=(okX ts hp x∧okX ts hp y∧storeX P T hp (gev ts x) (gev ts y) C):=nr rfl
@[simp ↓] theorem opX_makeMap (T:TypeId) (y:Option Operand):opX P G V yc ⟨dst,.makeMap T y,type,pos,after,guard⟩ ts hp nk C=(y.isNone=true∧C ⟨.map (some nk),[],[],[(nk,mpB [])],none,false⟩):=nr rfl
@[simp] theorem fnV_func (f:Fn) (a b:Array Value):fnV (.func f a b)=true:=nr rfl
@[simp] theorem insX1_some (l:List (ByteArray×Value)) (k:Nat) (s:ByteArray) (v:Value):insX1 (some (mpB l)) k s v C=(findL s l=none∧100≤k∧C ⟨undef,[k],[(k,mpB (l++[(s,v)]))],[],none,false⟩):=by simp [insX1,mpOf_mpB]
@[simp] theorem insX_map (q:Nat) (s:ByteArray) (v:Value):insX hp (.map (some q)) (.string s) v C=insX1 (hp q) q s v C:=nr rfl
@[simp ↓] theorem opX_insert (T:TypeId) (m k x:Operand):opX P G V yc ⟨dst,.insert T m k x,type,pos,after,guard⟩ ts hp nk C=(okX ts hp m∧okX ts hp k∧okX ts hp x∧strMap P T=true∧fnV (gev ts x)=true∧insX hp (gev ts m) (gev ts k) (gev ts x) C):=nr rfl
def lkX2 (v:Option Value) (k:Nat) (C:Eff→Prop):Prop:=match v with
 | some v=>fnV v=true∧C (val v [k])
 | none=>False
@[simp] theorem lkX2_some (v:Value) (k:Nat):lkX2 (some v) k C=(fnV v=true∧C (val v [k])):=nr rfl
@[simp] theorem lkX1_some (l:List (ByteArray×Value)) (k:Nat) (s:ByteArray):lkX1 (some (mpB l)) k s C=lkX2 (findL s l) k C:=by unfold lkX1 lkX2;rw [Option.bind_some,mpOf_mpB];rfl
@[simp] theorem lkX_map (q:Nat) (s:ByteArray):lkX hp (.map (some q)) (.string s) C=lkX1 (hp q) q s C:=nr rfl
@[simp ↓] theorem opX_lookup (T:TypeId) (x i:Operand) (ok:Bool):opX P G V yc ⟨dst,.lookup T x i ok,type,pos,after,guard⟩ ts hp nk C=(okX ts hp x∧okX ts hp i∧ok=false∧strMap P T=true∧lkX hp (gev ts x) (gev ts i) C):=nr rfl
def extractX1 (v:Option Value) (C:Eff→Prop):Prop :=
 match v with
 | some v=>notTup v=true∧C (val v [])
 | none=>False
@[simp] theorem extractX1_some (v:Value):extractX1 (some v) C=(notTup v=true∧C (val v [])):=nr rfl
def extractX (v:Value) (i:Nat) (C:Eff→Prop):Prop :=
 match v with
 | .tuple vs=>extractX1 vs[i]? C
 | _=>False
@[simp] theorem extractX_tuple (vs:Array Value) (i:Nat):extractX (.tuple vs) i C=extractX1 vs[i]? C:=nr rfl
@[simp ↓] theorem opX_extract (x:Operand) (i:Nat):opX P G V yc ⟨dst,.extract x i,type,pos,after,guard⟩ ts hp nk C=(okX ts hp x∧extractX (gev ts x) i C):=nr rfl
def idxX1 (s:Option Nat) (k off:Nat) (m:Int) (C:Eff→Prop):Prop :=
 match s with
 | some s=>C (val (.pointer (some ⟨k,off+m.toNat*s,none⟩)) [])
 | none=>False
@[simp] theorem idxX1_some (s k off:Nat) (m:Int):idxX1 (some s) k off m C=C (val (.pointer (some ⟨k,off+m.toNat*s,none⟩)) []):=nr rfl
def idxXA (P:Program) (v:Value) (len:Nat) (e:TypeId) (m:Int) (C:Eff→Prop):Prop :=
 match v with
 | .pointer (some ⟨k,off,none⟩)=>(0≤m∧m<len)∧idxX1 (tySize P e) k off m C
 | _=>False
@[simp] theorem idxXA_ptr (k off len:Nat) (e:TypeId) (m:Int):idxXA P (.pointer (some ⟨k,off,none⟩)) len e m C=((0≤m∧m<len)∧idxX1 (tySize P e) k off m C):=nr rfl
def idxXS (P:Program) (v:Value) (e:TypeId) (m:Int) (C:Eff→Prop):Prop :=
 match v with
 | .slice (some ⟨k,off,none⟩) len _=>(0≤m∧m<len)∧idxX1 (tySize P e) k off m C
 | _=>False
@[simp] theorem idxXS_slice (k off len cap:Nat) (e:TypeId) (m:Int):idxXS P (.slice (some ⟨k,off,none⟩) len cap) e m C=((0≤m∧m<len)∧idxX1 (tySize P e) k off m C):=nr rfl
def idxX (P:Program) (u:Option TypeDesc) (v:Value) (m:Int) (C:Eff→Prop):Prop :=
 match u with
 | some (.array len e)=>idxXA P v len e m C
 | some (.slice e)=>idxXS P v e m C
 | _=>False
@[simp] theorem idxX_array (len:Nat) (e:TypeId) (v:Value) (m:Int):idxX P (some (.array len e)) v m C=idxXA P v len e m C:=nr rfl
@[simp] theorem idxX_slice (e:TypeId) (v:Value) (m:Int):idxX P (some (.slice e)) v m C=idxXS P v e m C:=nr rfl
def idxX0 (P:Program) (T:TypeId) (i v:Value) (C:Eff→Prop):Prop :=
 match i with
 | .int _ m=>idxX P (P.underlying T) v m C
 | _=>False
@[simp] theorem idxX0_int (T:TypeId) (k:IntKind) (m:Int) (v:Value):idxX0 P T (.int k m) v C=idxX P (P.underlying T) v m C:=nr rfl
@[simp ↓] theorem opX_index (T:TypeId) (x i:Operand):opX P G V yc ⟨dst,.indexAddr T x i,type,pos,after,guard⟩ ts hp nk C=(okX ts hp x∧okX ts hp i∧idxX0 P T (gev ts i) (gev ts x) C):=nr rfl
def gevs (ts:Nat→Value) (args:Array Operand):List Value:=args.toList.map (gev ts)
@[simp] theorem gevs_eq (l:List Operand):gevs ts l.toArray=l.map (gev ts):=by simp [gevs]
def idvX (P:Program) (e:TypeId) (s:Option Nat) (v:Value) (m:Int) (C:Eff→Prop):Prop :=
 match s with
 | some s=>match v with
  | .agg cs=>unX' (loadB P e cs (m.toNat*s)) C
  | _=>False
 | none=>False
where unX' (v:Option Value) (C:Eff→Prop):Prop :=
 match v with
 | some v=>C (val v [])
 | none=>False
@[simp] theorem idvX_some (e:TypeId) (s:Nat) (cs:Array Value) (m:Int):idvX P e (some s) (.agg cs) m C=idvX.unX' (loadB P e cs (m.toNat*s)) C:=nr rfl
@[simp] theorem idvX_un (v:Value):idvX.unX' (some v) C=C (val v []):=nr rfl
@[congr] theorem idvX_un_congr {v v':Option Value} (h:v=v'):idvX.unX' v C=idvX.unX' v' C:=by rw [h]
@[congr] theorem idvX_congr {e:TypeId} {s s':Option Nat} {v v':Value} {m m':Int} (h1:s=s') (h2:v=v') (h3:m=m'):idvX P e s v m C=idvX P e s' v' m' C:=by rw [h1,h2,h3]
def idvS (s:ByteArray) (m:Int) (C:Eff→Prop):Prop :=
 match (if 0≤m then s[m.toNat]? else none) with
 | some b=>C (val (.int .u8 b.toNat) [])
 | none=>False
def idvSV (v:Value) (m:Int) (C:Eff→Prop):Prop :=
 match v with
 | .string s=>idvS s m C
 | _=>False
@[simp] theorem idvSV_str (s:ByteArray) (m:Int):idvSV (.string s) m C=idvS s m C:=nr rfl
@[congr] theorem idvSV_congr {v v':Value} {m m':Int} (h1:v=v') (h2:m=m'):idvSV v m C=idvSV v' m' C:=by rw [h1,h2]
@[congr] theorem idvS_congr {s s':ByteArray} {m m':Int} (h1:s=s') (h2:m=m'):idvS s m C=idvS s' m' C:=by rw [h1,h2]
theorem idvS_at {s:ByteArray} {m:Int} {b:UInt8} (h0:0≤m) (h:s[m.toNat]? = some b):idvS s m C=C (val (.int .u8 b.toNat) []):=by simp [idvS,h0,h]
def idvA (P:Program) (u:Option TypeDesc) (v:Value) (m:Int) (C:Eff→Prop):Prop :=
 match u with
 | some (.array len e)=>(0≤m∧m<len)∧idvX P e (tySize P e) v m C
 | some .string=>idvSV v m C
 | _=>False
@[simp] theorem idvA_str (v:Value) (m:Int):idvA P (some .string) v m C=idvSV v m C:=nr rfl
@[simp] theorem idvA_arr (len:Nat) (e:TypeId) (v:Value) (m:Int):idvA P (some (.array len e)) v m C=((0≤m∧m<len)∧idvX P e (tySize P e) v m C):=nr rfl
@[congr] theorem idvA_congr {u u':Option TypeDesc} {v v':Value} {m m':Int} (h1:u=u') (h2:v=v') (h3:m=m'):idvA P u v m C=idvA P u' v' m' C:=by rw [h1,h2,h3]
def idv0 (P:Program) (T:TypeId) (i v:Value) (C:Eff→Prop):Prop :=
 match i with
 | .int _ m=>idvA P (P.underlying T) v m C
 | _=>False
@[simp] theorem idv0_int (T:TypeId) (k:IntKind) (m:Int) (v:Value):idv0 P T (.int k m) v C=idvA P (P.underlying T) v m C:=nr rfl
@[congr] theorem idv0_congr {T:TypeId} {i i' v v':Value} (h1:i=i') (h2:v=v'):idv0 P T i v C=idv0 P T i' v' C:=by rw [h1,h2]
@[simp ↓] theorem opX_indexv (T:TypeId) (x i:Operand):opX P G V yc ⟨dst,.index T x i,type,pos,after,guard⟩ ts hp nk C=(okX ts hp x∧okX ts hp i∧idv0 P T (gev ts i) (gev ts x) C):=by
 simp only [opX,idv0]
 congr 2
 cases gev ts i<;>first|rfl|skip
 unfold idvA
 simp only
 cases hu:P.underlying T with
 | none=>rfl
 | some u =>
  cases u<;>first|rfl|skip
  ·simp only
   unfold idvX
   cases hg:gev ts x<;>cases hs:tySize P _<;>first|rfl|(simp;done)|skip
   all_goals (simp only [idvX.unX'];cases loadB P _ _ _<;>rfl)
  all_goals (simp only;unfold idvSV idvS;cases gev ts x<;>rfl)
def fldX (P:Program) (f:Option (TypeId×Nat)) (v:Value) (C:Eff→Prop):Prop :=
 match f with
 | some (t,off)=>match v with
  | .agg cs=>idvX.unX' (loadB P t cs off) C
  | _=>False
 | none=>False
@[simp] theorem fldX_some (t:TypeId) (off:Nat) (cs:Array Value):fldX P (some (t,off)) (.agg cs) C=idvX.unX' (loadB P t cs off) C:=nr rfl
@[congr] theorem fldX_congr {f f':Option (TypeId×Nat)} {v v':Value} (h1:f=f') (h2:v=v'):fldX P f v C=fldX P f' v' C:=by rw [h1,h2]
@[simp ↓] theorem opX_field (T:TypeId) (x:Operand) (f:Nat):opX P G V yc ⟨dst,.field T x f,type,pos,after,guard⟩ ts hp nk C=(okX ts hp x∧fldX P (fdX P T f) (gev ts x) C):=by
 simp only [opX,fldX]
 congr 1
def fdaX (f:Option (TypeId×Nat)) (v:Value) (C:Eff→Prop):Prop :=
 match f with
 | some (_,off)=>match v with
  | .pointer (some ⟨k,o,none⟩)=>C (val (.pointer (some ⟨k,o+off,none⟩)) [])
  | _=>False
 | none=>False
@[simp] theorem fdaX_some (t:TypeId) (off k o:Nat):fdaX (some (t,off)) (.pointer (some ⟨k,o,none⟩)) C=C (val (.pointer (some ⟨k,o+off,none⟩)) []):=nr rfl
@[congr] theorem fdaX_congr {f f':Option (TypeId×Nat)} {v v':Value} (h1:f=f') (h2:v=v'):fdaX f v C=fdaX f' v' C:=by rw [h1,h2]
@[simp] theorem ncX_p (k o:Nat):ncX (.pointer (some ⟨k,o,none⟩)) C=C (val (.pointer (some ⟨k,o,none⟩)) []):=nr rfl
@[congr] theorem ncX_congr {v v':Value} (h:v=v'):ncX v C=ncX v' C:=by rw [h]
@[simp ↓] theorem opX_nilCheck (x:Operand):opX P G V yc ⟨dst,.nilCheck x,type,pos,after,guard⟩ ts hp nk C=(okX ts hp x∧ncX (gev ts x) C):=nr rfl
@[simp ↓] theorem opX_fieldAddr (T:TypeId) (x:Operand) (f:Nat):opX P G V yc ⟨dst,.fieldAddr T x f,type,pos,after,guard⟩ ts hp nk C=(okX ts hp x∧fdaX (fdX P T f) (gev ts x) C):=nr rfl
def gevO (ts:Nat→Value) (o:Option Operand):Option Value:=o.map (gev ts)
@[simp] theorem gevO_some (x:Operand):gevO ts (some x)=some (gev ts x):=nr rfl
@[simp] theorem gevO_none:gevO ts none=none:=nr rfl
@[simp ↓] theorem opX_slice (T:TypeId) (x:Operand) (lo hi mx:Option Operand):opX P G V yc ⟨dst,.slice T x lo hi mx,type,pos,after,guard⟩ ts hp nk C =
 (okX ts hp x∧(∀ y∈lo.toList,okX ts hp y)∧(∀ y∈hi.toList,okX ts hp y)∧mx.isNone=true∧idvX.unX' (slX P T (gev ts x) (gevO ts lo) (gevO ts hi)) C):=by
 simp only [opX,gevO]
 cases slX P T (gev ts x) (lo.map (gev ts)) (hi.map (gev ts))<;>rfl
def slU (P:Program) (u:Option TypeDesc) (v:Value) (lo hi:Option Value):Option Value :=
 match u with
 | some (.array n e)=>match v with
  | .pointer (some ⟨k,off,none⟩)=>match tySize P e with
   | some s=>slV (some (k,off)) s n (sliceG n n lo hi)
   | none=>none
  | _=>none
 | some (.slice e)=>match v with
  | .slice (some ⟨k,off,none⟩) n c=>match tySize P e with
   | some s=>slV (some (k,off)) s c (sliceG n c lo hi)
   | none=>none
  | .slice none n c=>match tySize P e with
   | some s=>slV none s c (sliceG n c lo hi)
   | none=>none
  | _=>none
 | some .string=>match v with
  | .string s=>slS s (sliceG s.size s.size lo hi)
  | _=>none
 | _=>none
@[simp] theorem slX_eq (T:TypeId) (v:Value) (lo hi:Option Value):slX P T v lo hi=slU P (P.underlying T) v lo hi:=nr rfl
def slZ (a:Option (Nat×Nat)) (s:Option Nat) (c:Nat) (p:Option (Nat×Nat)):Option Value :=
 match s with
 | some s=>slV a s c p
 | none=>none
@[simp] theorem slZ_some (a:Option (Nat×Nat)) (s c:Nat) (p:Option (Nat×Nat)):slZ a (some s) c p=slV a s c p:=nr rfl
@[simp] theorem slU_arr (n:Nat) (e:TypeId) (k off:Nat) (lo hi:Option Value):slU P (some (.array n e)) (.pointer (some ⟨k,off,none⟩)) lo hi=slZ (some (k,off)) (tySize P e) n (sliceG n n lo hi):=nr rfl
@[simp] theorem slU_slice (e:TypeId) (k off n c:Nat) (lo hi:Option Value):slU P (some (.slice e)) (.slice (some ⟨k,off,none⟩) n c) lo hi=slZ (some (k,off)) (tySize P e) c (sliceG n c lo hi):=nr rfl
@[simp] theorem slU_nil (e:TypeId) (n c:Nat) (lo hi:Option Value):slU P (some (.slice e)) (.slice none n c) lo hi=slZ none (tySize P e) c (sliceG n c lo hi):=nr rfl
@[simp] theorem slU_str (s:ByteArray) (lo hi:Option Value):slU P (some .string) (.string s) lo hi=slS s (sliceG s.size s.size lo hi):=nr rfl
@[simp] theorem slV_some (k off s c l h:Nat):slV (some (k,off)) s c (some (l,h))=some (.slice (some ⟨k,if c=l then off else off+l*s,none⟩) (h - l) (c - l)):=nr rfl
@[simp] theorem slV_none (s c l h:Nat):slV none s c (some (l,h))=some (.slice none (h - l) (c - l)):=nr rfl
@[simp] theorem slS_some (s:ByteArray) (l h:Nat):slS s (some (l,h))=some (.string (s.extract l h)):=nr rfl
@[simp] theorem hiG_none (len cap:Nat):hiG len cap none=some len:=nr rfl
@[simp] theorem hiG_some (len cap:Nat) (k:IntKind) (m:Int):hiG len cap (some (.int k m))=if 0≤m∧m≤cap then some m.toNat else none:=nr rfl
@[simp] theorem loG_none (h:Nat):loG h none=some 0:=nr rfl
@[simp] theorem loG_some (h:Nat) (k:IntKind) (m:Int):loG h (some (.int k m))=if 0≤m∧m≤h then some m.toNat else none:=nr rfl
def sliceH (lo:Option Value) (h:Option Nat):Option (Nat×Nat) :=
 match h with
 | none=>none
 | some h=>(loG h lo).map fun l=>(l,h)
@[simp] theorem sliceG_eq (len cap:Nat) (lo hi:Option Value):sliceG len cap lo hi=sliceH lo (hiG len cap hi):=nr rfl
@[simp] theorem sliceH_some (lo:Option Value) (h:Nat):sliceH lo (some h)=(loG h lo).map fun l=>(l,h):=nr rfl
@[simp ↓] theorem opX_arr (T:TypeId) (x:Operand):opX P G V yc ⟨dst,.sliceToArrayPointer T x,type,pos,after,guard⟩ ts hp nk C=(okX ts hp x∧idvX.unX' (arrX P T (gev ts x)) C):=by
 simp only [opX]
 cases arrX P T (gev ts x)<;>rfl
def arrU (u:Option TypeDesc) (v:Value):Option Value :=
 match u with
 | some (.array n _)=>match v with
  | .slice a len _=>if n≤len then some (.pointer a) else none
  | _=>none
 | _=>none
@[simp] theorem arrX_eq (T:TypeId) (v:Value):arrX P T v=arrU (P.underlying T) v:=nr rfl
@[simp] theorem arrU_arr (n:Nat) (e:TypeId) (a:Option Addr) (len c:Nat):arrU (some (.array n e)) (.slice a len c)=if n≤len then some (.pointer a) else none:=nr rfl
def lenU (u:Option TypeDesc) (v:Value):Option Value :=
 match u with
 | some .string=>match v with
  | .string s=>some (.int .i64 s.size)
  | _=>none
 | some (.array n _)=>some (.int .i64 n)
 | some (.slice _)=>match v with
  | .slice _ n _=>some (.int .i64 n)
  | _=>none
 | _=>none
@[simp] theorem lenX_eq (T:TypeId) (v:Value):lenX P T v=lenU (P.underlying T) v:=nr rfl
@[simp] theorem lenU_str (s:ByteArray):lenU (some .string) (.string s)=some (.int .i64 s.size):=nr rfl
@[simp] theorem lenU_arr (n:Nat) (e:TypeId) (v:Value):lenU (some (.array n e)) v=some (.int .i64 n):=nr rfl
@[simp] theorem lenU_slice (e:TypeId) (a:Option Addr) (n c:Nat):lenU (some (.slice e)) (.slice a n c)=some (.int .i64 n):=nr rfl
@[simp ↓] theorem opX_len (x:Operand) (T:TypeId):opX P G V yc ⟨dst,.call ⟨.builtin .len,#[x],#[T]⟩,type,pos,after,guard⟩ ts hp nk C=(okX ts hp x∧idvX.unX' (lenX P T (gev ts x)) C):=by
 simp only [opX,callX,builtX]
 simp
 intro _
 cases lenX P T (gev ts x)<;>rfl
@[simp] theorem max2G_t (k k':IntKind) (a c:Int):max2G true (.int k a) (.int k' c)=some (.int k (if a<c then c else a)):=nr rfl
@[simp] theorem max2G_f (k k':IntKind) (a c:Int):max2G false (.int k a) (.int k' c)=some (.int k (if c<a then c else a)):=nr rfl
def maxO (b:Bool) (z:Option Value) (l:List Value):Option Value :=
 match z with
 | some z=>maxF b z l
 | none=>none
@[simp] theorem maxO_some (b:Bool) (z:Value) (l:List Value):maxO b (some z) l=maxF b z l:=nr rfl
@[simp] theorem maxF_nil (b:Bool) (k:IntKind) (a:Int):maxF b (.int k a) []=some (.int k a):=nr rfl
@[simp] theorem maxF_cons (b:Bool) (x y:Value) (l:List Value):maxF b x (y::l)=maxO b (max2G b x y) l:=nr rfl
@[simp] theorem maxG_cons (b:Bool) (x:Value) (l:List Value):maxG b (x::l)=maxF b x l:=nr rfl
@[simp ↓] theorem opX_max (l:List Operand) (T:Array TypeId):opX P G V yc ⟨dst,.call ⟨.builtin .max,l.toArray,T⟩,type,pos,after,guard⟩ ts hp nk C=((∀ x∈l,okX ts hp x)∧idvX.unX' (maxG true (gevs ts l.toArray)) C):=by
 simp only [opX,callX,builtX,gevs]
 cases maxG true (l.map (gev ts))<;>rfl
@[simp ↓] theorem opX_min (l:List Operand) (T:Array TypeId):opX P G V yc ⟨dst,.call ⟨.builtin .min,l.toArray,T⟩,type,pos,after,guard⟩ ts hp nk C=((∀ x∈l,okX ts hp x)∧idvX.unX' (maxG false (gevs ts l.toArray)) C):=by
 simp only [opX,callX,builtX,gevs]
 cases maxG false (l.map (gev ts))<;>rfl
def pnX (v:Value) (C:Eff→Prop):Prop :=
 match v with
 | .iface T u=>C ⟨junk,[],[],[],some (.iface T u),false⟩
 | _=>False
@[simp ↓] theorem opX_panic (x:Operand):opX P G V yc ⟨dst,.panic x,type,pos,after,guard⟩ ts hp nk C=(okX ts hp x∧flatV (gev ts x)=true∧pnX (gev ts x) C):=nr rfl
@[simp] theorem pnX_iface (T:TypeId) (u:Value):pnX (.iface T u) C=C ⟨junk,[],[],[],some (.iface T u),false⟩:=nr rfl
@[congr] theorem pnX_congr {v v':Value} (h:v=v'):pnX v C=pnX v' C:=by rw [h]
@[simp] theorem outr_eff (v:Value):(Out.ret v).eff=val v []:=nr rfl
@[simp] theorem outp_eff (v:Value):(Out.pan v).eff=⟨junk,[],[],[],some v,false⟩:=nr rfl
@[simp ↓] theorem opX_makeFunc (fn:Fn) (first cap:Array Operand):opX P G V yc ⟨dst,.makeFunc fn first cap,type,pos,after,guard⟩ ts hp nk C =
 ((∀ x∈first.toList,okX ts hp x∧plain0 (gev ts x)=true)∧(∀ x∈cap.toList,okX ts hp x∧plain0 (gev ts x)=true)∧C (val (.func fn (first.map (gev ts)) (cap.map (gev ts))) [])):=nr rfl
def binX (P:Program) (v:Option Value) (o:Oper) (ts:Nat→Value) (hp:Hp) (C:Eff→Prop):Prop :=
 match v with
 | some v=>C (val v [])
 | none=>pureV P o ts hp fun v=>C (val v [])
@[simp] theorem binX_some (v:Value) (o:Oper):binX P (some v) o ts hp C=C (val v []):=nr rfl
@[simp ↓] theorem opX_bin (op:BinOp) (T yT:TypeId) (x y:Operand):opX P G V yc ⟨dst,.binOp op T x y yT,type,pos,after,guard⟩ ts hp nk C =
 (okX ts hp x∧okX ts hp y∧binX P (bin2 P op T (gev ts x) (gev ts y)) ⟨dst,.binOp op T x y yT,type,pos,after,guard⟩ ts hp C):=nr rfl
def unX (v:Option Value) (C:Eff→Prop):Prop :=
 match v with
 | some v=>C (val v [])
 | none=>False
@[simp] theorem unX_some (v:Value):unX (some v) C=C (val v []):=nr rfl
@[simp ↓] theorem opX_un (op:UnOp) (T:TypeId) (x:Operand):opX P G V yc ⟨dst,.unOp op T x,type,pos,after,guard⟩ ts hp nk C=(okX ts hp x∧unX (un1 op (gev ts x)) C):=nr rfl
@[simp ↓] theorem opX_conv (S T:TypeId) (x:Operand):opX P G V yc ⟨dst,.convert S T x,type,pos,after,guard⟩ ts hp nk C=(okX ts hp x∧binX P (conv1 P S T (gev ts x)) ⟨dst,.convert S T x,type,pos,after,guard⟩ ts hp C):=nr rfl
@[simp] theorem okT_tmp (t:Tmp):okT ts (.tmp t)=nj (ts t):=nr rfl
@[simp] theorem okT_const (v:Value):okT ts (.const v)=(flatV v=true):=nr rfl
@[simp] theorem okT_func (f:FuncId):okT ts (.func f)=True:=nr rfl
def pickK (b:Bool) (x y:Prop):Prop :=
 match b with
 | true=>x
 | false=>y
@[simp] theorem pickK_true (x y:Prop):pickK true x y=x:=nr rfl
@[simp] theorem pickK_false (x y:Prop):pickK false x y=y:=nr rfl
@[congr] theorem pickK_congr {b b':Bool} {x y:Prop} (h:b=b'):pickK b x y=pickK b' x y:=by rw [h]
def argsK (l:List Value):Array Value:=l.toArray
@[simp] theorem argsK_eq (l:List Value):argsK l=l.toArray:=nr rfl
def callX2 (P:Program) (G:Hp) (V:XV) (nk yc:Nat) (ts:Nat→Value) (hp:Hp) (v:Value) (args:Array Operand) (C:Eff→Prop):Prop:=calleeX P G V nk yc ts hp v args C
@[congr] theorem callX2_congr {v v':Value} {args:Array Operand} (h:v=v'):callX2 P G V nk yc ts hp v args C=callX2 P G V nk yc ts hp v' args C:=by rw [h]
def callX3 (P:Program) (G:Hp) (V:XV) (nk:Nat) (hp:Hp) (g:FuncId) (l:List Value) (cap:List Value) (C:Eff→Prop):Prop :=
 pickK (cap.isEmpty&&!V.pn.contains g&&l.all flatV) (pickK (V.pn.contains (g+1000000)) (callP P G g (argsK l) C) (callK P G g (argsK l) (callC C))) (cap.all plain0=true∧heapK P G g (argsK (l++cap)) hp nk C)
@[congr] theorem callX3_congr {g:FuncId} {l l' cap cap':List Value} (h:l=l') (h':cap=cap'):callX3 P G V nk hp g l cap C=callX3 P G V nk hp g l' cap' C:=by rw [h,h']
@[simp] theorem callX3_eq (g:FuncId) (l cap:List Value):callX3 P G V nk hp g l cap C=pickK (cap.isEmpty&&!V.pn.contains g&&l.all flatV) (pickK (V.pn.contains (g+1000000)) (callP P G g (argsK l) C) (callK P G g (argsK l) (callC C))) (cap.all plain0=true∧heapK P G g (argsK (l++cap)) hp nk C):=nr rfl
@[simp] theorem callX2_func (g:FuncId) (args:List Operand) (capv:List Value):callX2 P G V nk yc ts hp (.func (.func g) #[] capv.toArray) args.toArray C=((∀ x∈args,okX ts hp x)∧callX3 P G V nk hp g (gevs ts args.toArray) capv C):=by
 have e:(Array.map (gev ts) args.toArray)=(args.map (gev ts)).toArray:=by simp
 have ea:((args.map (gev ts)).toArray++capv.toArray)=(args.map (gev ts)++capv).toArray:=by simp
 unfold callX2 calleeX callX3 callC gevs argsK
 simp only [e,ea,List.size_toArray,List.length_nil,true_and]
 congr 1
 by_cases h:capv=[]∧V.pn.contains g=false∧(args.map (gev ts)).all flatV=true
 ·obtain ⟨h1,h2,h3⟩:=h
  subst h1
  have h4:(args.map (gev ts)).toArray.all flatV=true:=by simpa using h3
  rw [if_pos ⟨rfl,h2,h4⟩]
  simp only [List.isEmpty_nil,h2,h3,Bool.not_false,Bool.and_self,pickK_true]
  cases V.pn.contains (g+1000000)<;>simp [pickK]
 ·rw [if_neg (by
   rintro ⟨h1,h2,h3⟩
   exact h ⟨List.eq_nil_of_length_eq_zero h1,h2,by simpa using h3⟩)]
  have hb:(capv.isEmpty&&!V.pn.contains g&&(args.map (gev ts)).all flatV)=false:=by
   cases hb:(capv.isEmpty&&!V.pn.contains g&&(args.map (gev ts)).all flatV) with
   | false=>rfl
   | true =>
    simp only [Bool.and_eq_true,List.isEmpty_iff,Bool.not_eq_true'] at hb
    exact absurd ⟨hb.1.1,hb.1.2,hb.2⟩ h
  simp only [hb,pickK]
  simp
def yieldX (Y:Option YG) (yc l:Nat) (args:List Value) (C:Eff→Prop):Prop:=yieldK Y yc l args.toArray C
@[simp] theorem yieldX_some (l':Nat) (xs:List (Array Value)) (st l:Nat) (args:List Value):yieldX (some ⟨l',xs,st,none⟩) yc l args C=(l=l'∧yc≤st∧xs[yc]? = some args.toArray∧C ⟨.bool (yc != st),[],[],[],none,true⟩):=by
 have:(YG.mk l' xs st none).pan yc=none:=by unfold YG.pan;split<;>rfl
 simp only [yieldX,yieldK,yEff,this]
def yieldE (b:Bool) (pv:Value):Eff:=if b then ⟨junk,[],[],[],some pv,true⟩ else ⟨.bool true,[],[],[],none,true⟩
@[simp] theorem yieldE_t (pv:Value):yieldE true pv=⟨junk,[],[],[],some pv,true⟩:=nr rfl
@[simp] theorem yieldE_f (pv:Value):yieldE false pv=⟨.bool true,[],[],[],none,true⟩:=nr rfl
def yC (C:Eff→Prop) (b:Bool) (pv:Value):Prop:=C (yieldE b pv)
@[congr] theorem yC_congr {b b':Bool} {pv:Value} (h:b=b'):yC C b pv=yC C b' pv:=by rw [h]
@[simp] theorem yC_t (pv:Value):yC C true pv=C ⟨junk,[],[],[],some pv,true⟩:=nr rfl
@[simp] theorem yC_f (pv:Value):yC C false pv=C ⟨.bool true,[],[],[],none,true⟩:=nr rfl
@[simp] theorem yieldX_pan (l':Nat) (xs:List (Array Value)) (st l:Nat) (pv:Value) (args:List Value):yieldX (some ⟨l',xs,st,some pv⟩) yc l args C=(l=l'∧yc≤st∧xs[yc]? = some args.toArray∧yC C (yc==st) pv):=by
 simp only [yieldX,yieldK,yEff,YG.pan,yC,yieldE]
 by_cases h:yc=st
 ·simp [h]
 ·have e:(yc != st)=true:=by simpa using h
  simp [h,e]
@[congr] theorem yieldX_congr {Y Y':Option YG} {yc' l:Nat} {args args':List Value} (h0:Y=Y') (h1:yc=yc') (h:args=args'):yieldX Y yc l args C=yieldX Y' yc' l args' C:=by rw [h0,h1,h]
@[simp] theorem callX2_yield (l:Nat) (args:List Operand):callX2 P G V nk yc ts hp (.func (.yield l) #[] #[]) args.toArray C=((∀ x∈args,okT ts x∧flatV (gev ts x)=true)∧yieldX V.Y yc l (gevs ts args.toArray) C):=by
 have e:(Array.map (gev ts) args.toArray)=(args.map (gev ts)).toArray:=by simp
 unfold callX2 calleeX yieldX gevs
 simp only [e,List.size_toArray,List.length_nil,true_and]
@[simp ↓] theorem opX_call (f:Operand) (args:Array Operand) (argTypes:Array TypeId):opX P G V yc ⟨dst,.call ⟨.value f,args,argTypes⟩,type,pos,after,guard⟩ ts hp nk C=(okT ts f∧callX2 P G V nk yc ts hp (gev ts f) args C):=nr rfl
@[congr] theorem callP_congr {f f':FuncId} {args args':Array Value} (hf:f=f') (h:args=args'):callP P G f args C=callP P G f' args' C:=by rw [hf,h]
@[congr] theorem callK_congr {f f':FuncId} {args args':Array Value} {K:Value→Prop} (hf:f=f') (h:args=args'):callK P G f args K=callK P G f' args' K:=by rw [hf,h]
@[simp ↓] theorem opX_iface (T:TypeId) (x:Operand):opX P G V yc ⟨dst,.makeInterface T x,type,pos,after,guard⟩ ts hp nk C=(okX ts hp x∧plain0 (gev ts x)=true∧ifaceX (P.underlying T) T (gev ts x) C):=nr rfl
def bsX (o:Option (Array Value)) (e:TypeId) (len nk:Nat) (C:Eff→Prop):Prop :=
 match o with
 | some cs=>C ⟨.slice (some ⟨nk,0,none⟩) len len,[],[],[(nk,⟨cs,e⟩)],none,false⟩
 | none=>False
@[simp] theorem bsX_some (cs:Array Value) (e:TypeId) (len:Nat):bsX (some cs) e len nk C=C ⟨.slice (some ⟨nk,0,none⟩) len len,[],[],[(nk,⟨cs,e⟩)],none,false⟩:=nr rfl
def buX (pl:Option (List (Nat×Nat) ⊕ Nat)) (z:Value) (parts:List (Nat×Value)) (C:Eff→Prop):Prop :=
 match pl with
 | some pl=>unX ((fillG pl z.cells parts).map .agg) C
 | none=>False
@[simp] theorem buX_some (pl:List (Nat×Nat) ⊕ Nat) (z:Value) (parts:List (Nat×Value)):buX (some pl) z parts C=unX ((fillG pl z.cells parts).map .agg) C:=nr rfl
def buildX (P:Program) (T:TypeId) (z:Option Value) (parts:List (Nat×Value)) (C:Eff→Prop):Prop :=
 match z with
 | some z=>okCells z=true∧flatV z=true∧buX (placesOf P T) z parts C
 | none=>False
@[simp] theorem buildX_some (T:TypeId) (z:Value) (parts:List (Nat×Value)):buildX P T (some z) parts C=(okCells z=true∧flatV z=true∧buX (placesOf P T) z parts C):=nr rfl
@[simp ↓] theorem opX_build (T:TypeId) (parts:Array (Nat×Operand)):opX P G V yc ⟨dst,.build T parts,type,pos,after,guard⟩ ts hp nk C =
  ((∀ p∈parts.toList,okX ts hp p.2∧okCells (gev ts p.2)=true)∧buildX P T (tyZero P T) (partsG ts parts) C):=by
 unfold opX buildX
 simp only
 cases hz:tyZero P T with
 | none=>rfl
 | some z =>
  simp only
  cases hp:placesOf P T with
  | none=>rfl
  | some pl =>
   simp only [buX_some]
   cases hf:fillG pl z.cells (partsG ts parts)<;>rfl
@[simp] theorem partsG_eq (parts:Array (Nat×Operand)):partsG ts parts=parts.toList.map fun p=>(p.1,gev ts p.2):=nr rfl
@[simp] theorem plAt_inr (m i:Nat):plAt (.inr m) i=some (i*m,m):=nr rfl
@[simp] theorem plAt_inl (l:List (Nat×Nat)) (i:Nat):plAt (.inl l) i=l[i]?:=nr rfl
@[simp] theorem fillG_nil (pl:List (Nat×Nat) ⊕ Nat) (cells:Array Value):fillG pl cells []=some cells:=nr rfl
def fillS (pl:List (Nat×Nat) ⊕ Nat) (cells:Array Value) (os:Option (Nat×Nat)) (v:Value) (rest:List (Nat×Value)):Option (Array Value) :=
 match os with
 | none=>none
 | some (off,size)=>if v.cells.size=size∧off+v.cells.size≤cells.size then fillG pl (splice cells off v.cells.toList) rest else none
@[simp] theorem fillS_some (pl:List (Nat×Nat) ⊕ Nat) (cells:Array Value) (off size:Nat) (v:Value) (rest:List (Nat×Value)):fillS pl cells (some (off,size)) v rest=if v.cells.size=size∧off+v.cells.size≤cells.size then fillG pl (splice cells off v.cells.toList) rest else none:=nr rfl
@[simp] theorem fillG_cons (pl:List (Nat×Nat) ⊕ Nat) (cells:Array Value) (i:Nat) (v:Value) (rest:List (Nat×Value)):fillG pl cells ((i,v)::rest)=fillS pl cells (plAt pl i) v rest:=nr rfl

@[congr] theorem lexS_congr {base:Nat} {Q:QQ} {seen:List (Option Tmp)} {k k':Nat} {l:List Oper} {ts':Nat→Value} {hp':Hp} {tr tr':Tr} {yc':Nat} {wr wr' yd yd':Bool} (h1:k=k') (h2:ts=ts') (h3:hp=hp') (h4:tr=tr') (h5:yc=yc') (h6:wr=wr') (h7:yd=yd') :
  lexS P G V base Q seen k l ts hp tr yc wr yd=lexS P G V base Q seen k' l ts' hp' tr' yc' wr' yd':=by rw [h1,h2,h3,h4,h5,h6,h7]
@[congr] theorem wantedS_congr {seen:List (Option Tmp)} {k k':Nat} {o:Oper} (h1:k=k'):wantedS seen k o ts=wantedS seen k' o ts:=by rw [h1]
@[congr] theorem opX_congr {o:Oper} {ts':Nat→Value} {hp':Hp} {nk':Nat} (h2:ts=ts') (h3:hp=hp') (h4:nk=nk'):opX P G V yc o ts hp nk C=opX P G V yc o ts' hp' nk' C:=by rw [h2,h3,h4]
@[congr] theorem wayG_congr {w w':Option Bool} {a b:Prop} (h:w=w'):wayG w a b=wayG w' a b:=by rw [h]
@[congr] theorem pickX_congr {v v':Value} {x y:Operand} (h:v=v'):pickX ts hp v x y C=pickX ts hp v' x y C:=by rw [h]
@[congr] theorem allocX_congr {z z':Option Value} {nk':Nat} {T:TypeId} (h:z=z') (h1:nk=nk'):allocX z nk T C=allocX z' nk' T C:=by rw [h,h1]
@[congr] theorem loadX2_congr {v v':Option Value} {k k':Nat} (h:v=v') (h1:k=k'):loadX2 v k C=loadX2 v' k' C:=by rw [h,h1]
@[congr] theorem loadX1_congr {T:TypeId} {b b':Option Blk} {k off k' off':Nat} (h:b=b') (h1:k=k') (h2:off=off'):loadX1 P T b k off C=loadX1 P T b' k' off' C:=by rw [h,h1,h2]
@[congr] theorem loadX_congr {T:TypeId} {v v':Value} (h:v=v'):loadX P T hp v C=loadX P T hp v' C:=by rw [h]
@[congr] theorem storeX1_congr {T:TypeId} {b b':Option Blk} {k off k' off':Nat} {w w':Value} (h:b=b') (h1:k=k') (h2:off=off') (h3:w=w'):storeX1 P T b k off w C=storeX1 P T b' k' off' w' C:=by rw [h,h1,h2,h3]
@[congr] theorem storeX_congr {T:TypeId} {v v' w w':Value} (h:v=v') (h1:w=w'):storeX P T hp v w C=storeX P T hp v' w' C:=by rw [h,h1]
@[congr] theorem extractX1_congr {v v':Option Value} (h:v=v'):extractX1 v C=extractX1 v' C:=by rw [h]
@[congr] theorem extractX_congr {v v':Value} {i:Nat} (h:v=v'):extractX v i C=extractX v' i C:=by rw [h]
@[congr] theorem idxX1_congr {s s':Option Nat} {k k' off off':Nat} {m m':Int} (h:s=s') (h1:k=k') (h2:off=off') (h3:m=m'):idxX1 s k off m C=idxX1 s' k' off' m' C:=by rw [h,h1,h2,h3]
@[congr] theorem idxXA_congr {v v':Value} {len:Nat} {e:TypeId} {m m':Int} (h:v=v') (h1:m=m'):idxXA P v len e m C=idxXA P v' len e m' C:=by rw [h,h1]
@[congr] theorem idxXS_congr {v v':Value} {e:TypeId} {m m':Int} (h:v=v') (h1:m=m'):idxXS P v e m C=idxXS P v' e m' C:=by rw [h,h1]
@[congr] theorem idxX_congr {u u':Option TypeDesc} {v v':Value} {m m':Int} (h0:u=u') (h:v=v') (h1:m=m'):idxX P u v m C=idxX P u' v' m' C:=by rw [h,h1,h0]
@[congr] theorem idxX0_congr {T:TypeId} {i i' v v':Value} (h:i=i') (h1:v=v'):idxX0 P T i v C=idxX0 P T i' v' C:=by rw [h,h1]
@[congr] theorem binX_congr {o:Oper} {v v':Option Value} (h:v=v'):binX P v o ts hp C=binX P v' o ts hp C:=by rw [h]
@[congr] theorem unX_congr {v v':Option Value} (h:v=v'):unX v C=unX v' C:=by rw [h]
@[congr] theorem heapK_congr {f:FuncId} {args args':Array Value} (h:args=args'):heapK P G f args hp nk C=heapK P G f args' hp nk C:=by rw [h]
@[congr] theorem bsX_congr {o o':Option (Array Value)} {e:TypeId} {len nk':Nat} (h:o=o') (h1:nk=nk'):bsX o e len nk C=bsX o' e len nk' C:=by rw [h,h1]
@[congr] theorem buX_congr {pl pl':Option (List (Nat×Nat) ⊕ Nat)} {z z':Value} {parts parts':List (Nat×Value)} (h:pl=pl') (h1:z=z') (h2:parts=parts'):buX pl z parts C=buX pl' z' parts' C:=by rw [h,h1,h2]
@[congr] theorem buildX_congr {T:TypeId} {z z':Option Value} {parts parts':List (Nat×Value)} (h1:z=z') (h2:parts=parts'):buildX P T z parts C=buildX P T z' parts' C:=by rw [h1,h2]

@[simp] theorem bin2_int (op:BinOp) (T:TypeId) (k k':IntKind) (a b:Int):bin2 P op T (.int k a) (.int k' b)=int2 op k a k' b:=nr rfl
@[simp] theorem bin2_bool_eql (T:TypeId) (a b:Bool):bin2 P .eql T (.bool a) (.bool b)=if boolT P T then some (.bool (a==b)) else none:=nr rfl
@[simp] theorem bin2_bool_neq (T:TypeId) (a b:Bool):bin2 P .neq T (.bool a) (.bool b)=if boolT P T then some (.bool (a != b)) else none:=nr rfl
def boolO (r:Option Bool) (neg:Bool):Option Value :=
 match r with
 | some r=>some (.bool (if neg then !r else r))
 | none=>none
@[simp] theorem boolO_f (r:Bool):boolO (some r) false=some (.bool r):=nr rfl
@[simp] theorem boolO_t (r:Bool):boolO (some r) true=some (.bool !r):=nr rfl
@[simp] theorem bin2_agg_eql (T:TypeId) (a b:Array Value):bin2 P .eql T (.agg a) (.agg b)=boolO (agg2 P T a b) false:=by unfold bin2 boolO;simp only;split<;>simp_all
@[simp] theorem bin2_agg_neq (T:TypeId) (a b:Array Value):bin2 P .neq T (.agg a) (.agg b)=boolO (agg2 P T a b) true:=by unfold bin2 boolO;simp only;split<;>simp_all
@[simp] theorem agg2_eq (T:TypeId) (xs ys:Array Value):agg2 P T xs ys=agg2S P T (arrT P T) (structT P T) xs ys:=nr rfl
def arr2O (n:Option Nat) (xs ys:Array Value):Option Bool :=
 match n with
 | some n=>if xs.size=n∧ys.size=n then eqIA xs.toList ys.toList else none
 | none=>none
@[simp] theorem arr2_eq (T:TypeId) (xs ys:Array Value):arr2 P T xs ys=arr2O (arrT P T) xs ys:=nr rfl
@[simp] theorem arr2O_some (n:Nat) (xs ys:Array Value):arr2O (some n) xs ys=if xs.size=n∧ys.size=n then eqIA xs.toList ys.toList else none:=nr rfl
@[simp] theorem agg2S_some (T:TypeId) (n:Nat) (st:Option (List (TypeId×Nat))) (xs ys:Array Value):agg2S P T (some n) st xs ys=arr2 P T xs ys:=nr rfl
@[simp] theorem agg2S_st (T:TypeId) (l:List (TypeId×Nat)) (xs ys:Array Value):agg2S P T none (some l) xs ys=if (xs.all flatF&&ys.all flatF)=true then eqFs P xs ys l else none:=nr rfl
def eqFo (a b:Option Bool):Option Bool :=
 match a,b with
 | some a,some b=>some (a&&b)
 | _,_=>none
@[simp] theorem eqFo_some (a b:Bool):eqFo (some a) (some b)=some (a&&b):=nr rfl
@[simp] theorem eqFs_nil (xs ys:Array Value):eqFs P xs ys []=some true:=nr rfl
@[simp] theorem eqFs_cons (T off:Nat) (fs:List (TypeId×Nat)) (xs ys:Array Value):eqFs P xs ys ((T,off)::fs)=eqFo (fldE P T off xs ys) (eqFs P xs ys fs):=nr rfl
def fldO (P:Program) (T off:Nat) (n:Option Nat) (xs ys:Array Value):Option Bool :=
 match n with
 | some n=>if off+n≤xs.size∧off+n≤ys.size then arr2 P T (xs.extract off (off+n)) (ys.extract off (off+n)) else none
 | none=>if intF P T=true then match xs[off]?,ys[off]? with
   | some (.int k a),some (.int k' b)=>if k=k' then some (a==b) else none
   | _,_=>none
  else none
@[simp] theorem fldE_eq (T off:Nat) (xs ys:Array Value):fldE P T off xs ys=fldO P T off (arrF P T) xs ys:=nr rfl
@[simp] theorem fldO_some (T off n:Nat) (xs ys:Array Value):fldO P T off (some n) xs ys=if off+n≤xs.size∧off+n≤ys.size then arr2 P T (xs.extract off (off+n)) (ys.extract off (off+n)) else none:=nr rfl
def intO (a b:Option Value):Option Bool :=
 match a,b with
 | some (.int k a),some (.int k' b)=>if k=k' then some (a==b) else none
 | _,_=>none
@[simp] theorem intO_some (k k':IntKind) (a b:Int):intO (some (.int k a)) (some (.int k' b))=if k=k' then some (a==b) else none:=nr rfl
@[simp] theorem fldO_none (T off:Nat) (xs ys:Array Value):fldO P T off none xs ys=if intF P T=true then intO xs[off]? ys[off]? else none:=nr rfl
@[simp] theorem bin2_nil_eql (T:TypeId) (p:Option Addr) (l c:Nat):bin2 P .eql T (.slice p l c) (.slice none 0 0)=if sliceT P T=true then some (.bool p.isNone) else none:=nr rfl
@[simp] theorem bin2_nil_neq (T:TypeId) (p:Option Addr) (l c:Nat):bin2 P .neq T (.slice p l c) (.slice none 0 0)=if sliceT P T=true then some (.bool (!p.isNone)) else none:=nr rfl
@[simp] theorem eqIA_nil:eqIA [] []=some true:=nr rfl
def andO (b:Bool) (r:Option Bool):Option Bool :=
 match r with
 | some r=>some (b&&r)
 | none=>none
@[simp] theorem andO_some (b r:Bool):andO b (some r)=some (b&&r):=nr rfl
@[simp] theorem eqIA_cons (k k':IntKind) (a b:Int) (xs ys:List Value):eqIA (.int k a::xs) (.int k' b::ys)=if k=k' then andO (a==b) (eqIA xs ys) else none:=nr rfl
@[simp] theorem int2_add (k k':IntKind) (a b:Int):int2 .add k a k' b=if k=k' then some (.int k (k.wrap (a+b))) else none:=nr rfl
@[simp] theorem int2_sub (k k':IntKind) (a b:Int):int2 .sub k a k' b=if k=k' then some (.int k (k.wrap (a - b))) else none:=nr rfl
@[simp] theorem int2_mul (k k':IntKind) (a b:Int):int2 .mul k a k' b=if k=k' then some (.int k (k.wrap (a*b))) else none:=nr rfl
@[simp] theorem int2_quo (k k':IntKind) (a b:Int):int2 .quo k a k' b=if k=k' then if b=0 then none else some (.int k (k.wrap (a.tdiv b))) else none:=nr rfl
@[simp] theorem int2_rem (k k':IntKind) (a b:Int):int2 .rem k a k' b=if k=k' then if b=0 then none else some (.int k (a.tmod b)) else none:=nr rfl
@[simp] theorem int2_shl (k k':IntKind) (a b:Int):int2 .shl k a k' b=if 0≤b then some (.int k (k.wrap (a*2^min b.toNat k.bits))) else none:=nr rfl
@[simp] theorem int2_shr (k k':IntKind) (a b:Int):int2 .shr k a k' b=if 0≤b then some (.int k (a.fdiv (2^min b.toNat k.bits))) else none:=nr rfl
@[simp] theorem int2_and (k k':IntKind) (a b:Int):int2 .and k a k' b=if k=k' then some (.int k (bitI .and k a b)) else none:=nr rfl
@[simp] theorem int2_or (k k':IntKind) (a b:Int):int2 .or k a k' b=if k=k' then some (.int k (bitI .or k a b)) else none:=nr rfl
@[simp] theorem int2_xor (k k':IntKind) (a b:Int):int2 .xor k a k' b=if k=k' then some (.int k (bitI .xor k a b)) else none:=nr rfl
@[simp] theorem int2_andNot (k k':IntKind) (a b:Int):int2 .andNot k a k' b=if k=k' then some (.int k (bitI .andNot k a b)) else none:=nr rfl
@[simp] theorem int2_eql (k k':IntKind) (a b:Int):int2 .eql k a k' b=if k=k' then some (.bool (a==b)) else none:=nr rfl
@[simp] theorem int2_neq (k k':IntKind) (a b:Int):int2 .neq k a k' b=if k=k' then some (.bool (a != b)) else none:=nr rfl
@[simp] theorem int2_lss (k k':IntKind) (a b:Int):int2 .lss k a k' b=if k=k' then some (.bool (a<b)) else none:=nr rfl
@[simp] theorem int2_leq (k k':IntKind) (a b:Int):int2 .leq k a k' b=if k=k' then some (.bool (a≤b)) else none:=nr rfl
@[simp] theorem int2_gtr (k k':IntKind) (a b:Int):int2 .gtr k a k' b=if k=k' then some (.bool (b<a)) else none:=nr rfl
@[simp] theorem int2_geq (k k':IntKind) (a b:Int):int2 .geq k a k' b=if k=k' then some (.bool (b≤a)) else none:=nr rfl
@[simp] theorem un1_neg (k:IntKind) (a:Int):un1 .neg (.int k a)=some (.int k (k.wrap (0 - a))):=nr rfl
@[simp] theorem un1_not (b:Bool):un1 .not (.bool b)=some (.bool !b):=nr rfl
@[simp] theorem un1_xor (k:IntKind) (a:Int):un1 .xor (.int k a)=some (.int k (bitI .xor k (if k.signed then -1 else k.max) a)):=nr rfl
def conv2 (s t:Option TypeDesc) (n:Int):Option Value :=
 match s,t with
 | some _,some (.int k)=>some (.int k (k.wrap n))
 | _,_=>none
@[simp] theorem conv2_int (s:TypeDesc) (k:IntKind) (n:Int):conv2 (some s) (some (.int k)) n=some (.int k (k.wrap n)):=nr rfl
@[simp] theorem conv1_int (S T:TypeId) (k:IntKind) (n:Int):conv1 P S T (.int k n)=conv2 (P.underlying S) (P.underlying T) n:=by
 unfold conv1 conv2
 cases hs:P.underlying S with
 | none=>rfl
 | some s =>
  cases ht:P.underlying T with
  | none=>rfl
  | some d=>cases d<;>rfl

@[simp] theorem keepT_app (l:List Oper) (ts:Nat→Value) (t:Nat):keepT l ts t=if l.any (fun o=>o.dst==some t) then junk else ts t:=nr rfl
def resT (v:Value):Option Value:=if notTup v then some v else none
def resO (v:Option Value):Option Value :=
 match v with
 | some v=>resT v
 | none=>none
@[simp] theorem resO_some (v:Value):resO (some v)=resT v:=nr rfl
@[simp] theorem resG1_tmp (t:Tmp):resG1 P ts hp (.tmp t)=resT (ts t):=nr rfl
def resC2 (P:Program) (T:TypeId) (b:Option Blk) (off:Nat):Option Value :=
 match b with
 | some b=>resO (loadK P T b off)
 | none=>none
@[simp] theorem resC2_some (T:TypeId) (b:Blk) (off:Nat):resC2 P T (some b) off=resO (loadK P T b off):=nr rfl
def resC (P:Program) (T:TypeId) (hp:Hp) (v:Value):Option Value :=
 match v with
 | .pointer (some ⟨k,off,none⟩)=>resC2 P T (hp k) off
 | _=>none
@[simp] theorem resC_ptr (T:TypeId) (k off:Nat):resC P T hp (.pointer (some ⟨k,off,none⟩))=resC2 P T (hp k) off:=nr rfl
@[simp] theorem resG1_cell (t:Tmp) (T:TypeId):resG1 P ts hp (.cell t T)=resC P T hp (ts t):=by
 unfold resG1 resC
 simp only
 split
 ·unfold resC2
  split
  ·unfold resO resT;split<;>simp_all
  ·simp_all
 ·simp_all
@[simp] theorem resT_bool (b:Bool):resT (.bool b)=some (.bool b):=nr rfl
@[simp] theorem resT_int (k:IntKind) (n:Int):resT (.int k n)=some (.int k n):=nr rfl
@[simp] theorem resT_agg (cs:Array Value):resT (.agg cs)=some (.agg cs):=nr rfl
@[simp] theorem resT_func (f:Fn) (a b:Array Value):resT (.func f a b)=some (.func f a b):=nr rfl
@[simp] theorem resT_slice (a:Option Addr) (n c:Nat):resT (.slice a n c)=some (.slice a n c):=nr rfl
@[simp] theorem resT_string (s:ByteArray):resT (.string s)=some (.string s):=nr rfl
def resK (v:Option Value) (r:Option (List Value)):Option (List Value) :=
 match v,r with
 | some v,some vs=>some (v::vs)
 | _,_=>none
@[simp] theorem resK_some (v:Value) (vs:List Value):resK (some v) (some vs)=some (v::vs):=nr rfl
@[simp] theorem resGL_nil:resGL P ts hp []=some []:=nr rfl
@[simp] theorem resGL_cons (x:ResultVar) (l:List ResultVar):resGL P ts hp (x::l)=resK (resG1 P ts hp x) (resGL P ts hp l):=by
 simp only [resGL]
 cases h1:resG1 P ts hp x with
 | none=>rfl
 | some v=>cases h2:resGL P ts hp l<;>rfl
def resTu (l:Option (List Value)):Option Value :=
 match l with
 | some [v]=>some v
 | some vs=>some (.tuple vs.toArray)
 | none=>none
@[simp] theorem resTu_1 (v:Value):resTu (some [v])=some v:=nr rfl
@[simp] theorem resTu_2 (v u:Value) (l:List Value):resTu (some (v::u::l))=some (.tuple (v::u::l).toArray):=nr rfl
@[simp] theorem resTu_0:resTu (some [])=some (.tuple #[]):=nr rfl
@[simp] theorem resG_eq (rs:List ResultVar):resG P rs ts hp=resTu (resGL P ts hp rs):=nr rfl
@[simp] theorem thenG_normal (next:GS→Prop) (K:Exit→GS→Prop) (s:GS):thenG next K .normal s=next s:=nr rfl
@[simp] theorem thenG_ret (next:GS→Prop) (K:Exit→GS→Prop) (s:GS):thenG next K .ret s=K .ret s:=nr rfl
@[simp] theorem thenG_exit (next:GS→Prop) (K:Exit→GS→Prop) (i:Nat) (s:GS):thenG next K (.exit i) s=K (.exit i) s:=nr rfl
@[simp] theorem thenG_goto (next:GS→Prop) (K:Exit→GS→Prop) (i:Nat) (s:GS):thenG next K (.goto i) s=K (.goto i) s:=nr rfl
@[simp] theorem thenG_panic (next:GS→Prop) (K:Exit→GS→Prop) (ch:List PanicEntry) (s:GS):thenG next K (.panic ch) s=K (.panic ch) s:=nr rfl
@[simp] theorem blockG_panic (i:Nat) (K:Exit→GS→Prop) (ch:List PanicEntry) (s:GS):blockG i K (.panic ch) s=K (.panic ch) s:=nr rfl
@[simp] theorem jumpG_normal (l:Nat) (J:GS→Prop) (K:Exit→GS→Prop) (s:GS):jumpG l J K .normal s=K .normal s:=nr rfl
@[simp] theorem jumpG_ret (l:Nat) (J:GS→Prop) (K:Exit→GS→Prop) (s:GS):jumpG l J K .ret s=K .ret s:=nr rfl
@[simp] theorem jumpG_exit (l i:Nat) (J:GS→Prop) (K:Exit→GS→Prop) (s:GS):jumpG l J K (.exit i) s=K (.exit i) s:=nr rfl
@[simp] theorem jumpG_panic (l:Nat) (ch:List PanicEntry) (J:GS→Prop) (K:Exit→GS→Prop) (s:GS):jumpG l J K (.panic ch) s=K (.panic ch) s:=nr rfl
@[simp] theorem jumpG_goto (l l':Nat) (J:GS→Prop) (K:Exit→GS→Prop) (s:GS):jumpG l J K (.goto l') s=(l'=l∧J s):=nr rfl
@[simp] theorem blockG_normal (i:Nat) (K:Exit→GS→Prop) (s:GS):blockG i K .normal s=K .normal s:=nr rfl
@[simp] theorem blockG_ret (i:Nat) (K:Exit→GS→Prop) (s:GS):blockG i K .ret s=K .ret s:=nr rfl
@[simp] theorem blockG_exit (i j:Nat) (K:Exit→GS→Prop) (s:GS):blockG i K (.exit j) s=if j=i then K .normal s else K (.exit j) s:=nr rfl
@[simp] theorem blockG_goto (i j:Nat) (K:Exit→GS→Prop) (s:GS):blockG i K (.goto j) s=K (.goto j) s:=nr rfl
theorem wN:(∀ (J:GS→Prop) (K:Exit→GS→Prop) (s:GS),thenG J K .normal s=J s)∧(∀ (J:GS→Prop) (K:Exit→GS→Prop) (s:GS),thenG J K .ret s=K .ret s)∧(∀ (J:GS→Prop) (K:Exit→GS→Prop) (i:Nat) (s:GS),thenG J K (.exit i) s=K (.exit i) s) ∧
  (∀ (J:GS→Prop) (K:Exit→GS→Prop) (i:Nat) (s:GS),thenG J K (.goto i) s=K (.goto i) s)∧(∀ (J:GS→Prop) (K:Exit→GS→Prop) (ch:List PanicEntry) (s:GS),thenG J K (.panic ch) s=K (.panic ch) s) ∧
  (∀ (i:Nat) (K:Exit→GS→Prop) (s:GS),blockG i K .normal s=K .normal s)∧(∀ (i:Nat) (K:Exit→GS→Prop) (s:GS),blockG i K .ret s=K .ret s)∧(∀ (i j:Nat) (K:Exit→GS→Prop) (s:GS),blockG i K (.goto j) s=K (.goto j) s)∧(∀ (i:Nat) (K:Exit→GS→Prop) (ch:List PanicEntry) (s:GS),blockG i K (.panic ch) s=K (.panic ch) s) ∧
  (∀ (l:Nat) (J:GS→Prop) (K:Exit→GS→Prop) (s:GS),jumpG l J K .normal s=K .normal s)∧(∀ (l:Nat) (J:GS→Prop) (K:Exit→GS→Prop) (s:GS),jumpG l J K .ret s=K .ret s)∧(∀ (l i:Nat) (J:GS→Prop) (K:Exit→GS→Prop) (s:GS),jumpG l J K (.exit i) s=K (.exit i) s)∧∀ (l:Nat) (ch:List PanicEntry) (J:GS→Prop) (K:Exit→GS→Prop) (s:GS),jumpG l J K (.panic ch) s=K (.panic ch) s :=
 ⟨thenG_normal,thenG_ret,thenG_exit,thenG_goto,thenG_panic,blockG_normal,blockG_ret,blockG_goto,blockG_panic,jumpG_normal,jumpG_ret,jumpG_exit,jumpG_panic⟩
theorem wT:(∀ (a:Oper) (i:Nat) (l:List Oper),(a::l).take (i+1)=a::l.take i)∧(∀ l:List Oper,l.take 0=[])∧(∀ (a:Oper) (i:Nat) (l:List Oper),(a::l).drop (i+1)=l.drop i)∧(∀ l:List Oper,l.drop 0=l)∧∀ n:Nat,0+n=n:=⟨fun _ _ _=>rfl,fun _=>rfl,fun _ _ _=>rfl,fun _=>rfl,Nat.zero_add⟩
end

section
variable {P:Program}
theorem loadB_agg {T:TypeId} {m:Nat} (h1:tyAgg P T=some true) (h2:tySize P T=some m) (c:Array Value) (off:Nat):loadB P T c off=if off+m≤c.size then some (.agg (c.extract off (off+m))) else none:=by
 simp [loadB,h1,h2]
def selB (v:Option Value):Option Value :=
 match v with
 | some v=>if scal v then some v else none
 | none=>none
@[simp] theorem selB_bool (b:Bool):selB (some (.bool b))=some (.bool b):=nr rfl
@[simp] theorem selB_int (k:IntKind) (n:Int):selB (some (.int k n))=some (.int k n):=nr rfl
@[simp] theorem selB_pointer (a:Option Addr):selB (some (.pointer a))=some (.pointer a):=nr rfl
@[simp] theorem selB_slice (a:Option Addr) (n c:Nat):selB (some (.slice a n c))=some (.slice a n c):=nr rfl
@[simp] theorem selB_func (f:Fn) (a b:Array Value):selB (some (.func f a b))=some (.func f a b):=nr rfl
@[simp] theorem selB_nilFunc:selB (some .nilFunc)=some .nilFunc:=nr rfl
@[simp] theorem selB_string (s:ByteArray):selB (some (.string s))=some (.string s):=nr rfl
@[simp] theorem selB_iface (t:TypeId) (v:Value):selB (some (.iface t v))=some (.iface t v):=nr rfl
@[simp] theorem selB_nilIface:selB (some .nilIface)=some .nilIface:=nr rfl
theorem loadB_one {T:TypeId} (h1:tyAgg P T=some false) (c:Array Value) (off:Nat):loadB P T c off=selB c[off]?:=by
 unfold loadB selB
 simp only [h1]
 rfl
theorem tyZero_of {T:TypeId} {z:Value} (h:∀ w,(zeroValue T).run P w=.ok z w):tyZero P T=some z:=by
 have h:=h default
 unfold tyZero
 unfold zeroValue typeInfo at h
 cases hi:P.info? T with
 | none=>simp [hi,stuck] at h
 | some i =>
  simp [hi] at h
  cases hz:i.zero with
  | none=>simp [hz,unsupported] at h
  | some u=>simp [hz] at h;simp [hz,h]
theorem tySize_of {T:TypeId} {m:Nat} (h:∀ w,(sizeOf T).run P w=.ok m w):tySize P T=some m:=by
 have h:=h default
 unfold tySize
 unfold sizeOf typeInfo at h
 cases hi:P.info? T with
 | none=>simp [hi,stuck] at h
 | some i=>simp [hi] at h;simp [h]
theorem tyAgg_of {T:TypeId} {b:Bool} (h:∀ w,(isAgg T).run P w=.ok b w):tyAgg P T=some b:=by
 have h:=h default
 unfold tyAgg
 unfold isAgg underlying at h
 cases hi:P.underlying T with
 | none=>simp [hi,stuck] at h
 | some i=>cases i<;>simp_all
theorem placesOf_arr {T e:TypeId} {n m:Nat} (hu:P.underlying T=some (.array n e)) (hs:tySize P e=some m):placesOf P T=some (.inr m):=by simp [placesOf,hu,hs]
theorem arrT_of {T e:TypeId} {n:Nat} {k:IntKind} (hu:P.underlying T=some (.array n e)) (he:P.underlying e=some (.int k)) (hs:tySize P e=some 1) (hg:P.eqGuardType P.depth T=false):arrT P T=some n:=by
 simp [arrT,hu,he,hs,hg]
theorem boolT_of {T:TypeId} (hu:P.underlying T=some .bool):boolT P T=true:=by simp [boolT,hu]
end

def tsL:List (Nat×Value)→Nat→Value
 | []=>fun _=>junk
 | (k,v)::l=>upd (tsL l) k v
def hpL (G:Hp):List (Nat×Blk)→Hp
 | []=>G
 | (k,b)::m=>upd (hpL G m) k (some b)
@[simp] theorem tsL_nil (t:Nat):tsL [] t=junk:=nr rfl
@[simp] theorem tsL_cons (k:Nat) (v:Value) (l:List (Nat×Value)) (t:Nat):tsL ((k,v)::l) t=if t=k then v else tsL l t:=nr rfl
@[simp] theorem hpL_nil (G:Hp):hpL G []=G:=nr rfl
@[simp] theorem hpL_cons (G:Hp) (k:Nat) (b:Blk) (m:List (Nat×Blk)) (t:Nat):hpL G ((k,b)::m) t=if t=k then some b else hpL G m t:=nr rfl

theorem tsL_mem:∀ {l:List (Nat×Value)} {t:Nat},tsL l t=junk∨(t,tsL l t)∈l
 | [],_=>.inl rfl
 | (k,v)::l,t=>by
  rw [tsL_cons]
  split
  ·rename_i e;subst e;exact .inr (by simp)
  ·rcases tsL_mem (l:=l) (t:=t) with h|h
   ·exact .inl h
   ·exact .inr (List.mem_cons_of_mem _ h)
theorem hpL_mem {G:Hp}:∀ {m:List (Nat×Blk)} {k:Nat} {b:Blk},hpL G m k=some b→(k,b)∈m∨G k=some b
 | [],_,_,h=>.inr h
 | (q,c)::m,k,b,h=>by
  rw [hpL_cons] at h
  split at h
  ·rename_i e;subst e;cases h;exact .inl (by simp)
  ·exact (hpL_mem h).imp (List.mem_cons_of_mem _) id
theorem hpL_low {G:Hp}:∀ {m:List (Nat×Blk)} {k:Nat},(∀ p∈m,100≤p.1)→k<100→hpL G m k=G k
 | [],_,_,_=>rfl
 | (q,c)::m,k,h,hk=>by
  have:=h (q,c) (by simp)
  rw [hpL_cons,if_neg (by simp at this;omega)]
  exact hpL_low (fun p hp=>h p (List.mem_cons_of_mem _ hp)) hk
theorem hpL_rst {G:Hp} (hGF:GFlat G) {m:List (Nat×Blk)} {rs:List Nat} (h:∀ p∈m,p.1∈rs):rst (hpL G m) rs=hpL G m:=funext fun k=>by
 unfold rst
 split
 ·rfl
 ·rename_i hk
  cases hb:hpL G m k with
  | none=>rfl
  | some b =>
   rcases hpL_mem hb with h1|h1
   ·exact absurd (.inr (h _ h1)) hk
   ·exact absurd (.inl (hGF k b h1).1) hk

theorem weakL {C:Ctx} {G:Hp} {s:GS} {m m0:List (Nat×Blk)} (l:List (Nat×Value)) (B:Nat) (hG:C.G=G) (hGF:GFlat G) (h0:C.hp0=hpL G m0) (hB:100≤B) (hl:∀ p∈l,s.ts p.1=p.2∧idsV (dom (hpL G m)) p.2)
  (hm:∀ p∈m,s.hp p.1=some p.2∧p.2.ids (dom (hpL G m))∧100≤p.1∧p.1<B) (hk:∀ p∈m0,100≤p.1∧hpL G m p.1=s.hp p.1):Weak C s ⟨tsL l,hpL G m,B,s.yc⟩ where
 ts t:=by
  rcases tsL_mem (l:=l) (t:=t) with h|h
  ·exact .inl h
  ·exact .inr ⟨(hl _ h).1.symm,(hl _ h).2⟩
 hp k hk:=by
  dsimp only
  cases hb:hpL G m k with
  | none=>exact .inl rfl
  | some b =>
   rcases hpL_mem hb with h|h
   ·exact .inr (hm _ h).1.symm
   ·have:=(hGF k b h).1;omega
 ids k b hb:=by
  rcases hpL_mem hb with h|h
  ·exact (hm _ h).2.1
  ·exact Blk.flat_ids ((hGF k b h).2)
 keep k h1k hd:=by
  rw [h0] at hd
  dsimp only
  unfold dom at hd
  cases hb:hpL G m0 k with
  | none=>exact absurd hb hd
  | some b =>
   rcases hpL_mem hb with h|h
   ·exact (hk _ h).2
   ·have hlt:=(hGF k b h).1;omega
 glob k hlt:=by rw [hG];exact hpL_low (fun p hp=>(hm p hp).2.2.1) hlt
 yc:=rfl
 free x hx:=by
  dsimp only at hx ⊢
  cases hb:hpL G m x with
  | none=>rfl
  | some b =>
   rcases hpL_mem hb with h|h
   ·have:=(hm _ h).2.2.2;simp at this;omega
   ·have:=(hGF x b h).1;omega
 low:=hB

theorem heapK_of {P:Program} {G:Hp} {f:FuncId} {args:Array Value} {hp hp':Hp} {rs:List Nat} {res:Res} {nk:Nat} {K:Eff→Prop} (h:Fun P G f args hp' rs res) (h1:∀ k∈rs,hp' k=hp k) (h2:∀ k,k<100→hp' k=G k) (h3:res.at nk) (hk:K (res.eff rs)):heapK P G f args hp nk K :=
 ⟨hp',rs,res,h1,h2,h,h3,hk⟩

@[simp] theorem iV_bool (D:Nat→Prop) (b:Bool):idsV D (.bool b)=True:=nr rfl
@[simp] theorem iV_int (D:Nat→Prop) (k:IntKind) (n:Int):idsV D (.int k n)=True:=nr rfl
@[simp] theorem iV_string (D:Nat→Prop) (s:ByteArray):idsV D (.string s)=True:=nr rfl
@[simp] theorem iV_nilFunc (D:Nat→Prop):idsV D .nilFunc=True:=nr rfl
@[simp] theorem iV_nilIface (D:Nat→Prop):idsV D .nilIface=True:=nr rfl
@[simp] theorem iV_ptr (D:Nat→Prop) (a:Addr):idsV D (.pointer (some a))=D a.block:=nr rfl
@[simp] theorem iV_nilptr (D:Nat→Prop):idsV D (.pointer none)=True:=nr rfl
@[simp] theorem iV_slice (D:Nat→Prop) (a:Addr) (n c:Nat):idsV D (.slice (some a) n c)=D a.block:=nr rfl
@[simp] theorem iV_nilslice (D:Nat→Prop) (n c:Nat):idsV D (.slice none n c)=True:=nr rfl
@[simp] theorem iV_func (D:Nat→Prop) (fn:Fn) (a b:Array Value):idsV D (.func fn a b)=((∀ x∈a,ids0 D x)∧∀ x∈b,ids0 D x):=nr rfl
@[simp] theorem iV_iface (D:Nat→Prop) (t:TypeId) (v:Value):idsV D (.iface t v)=ids0 D v:=nr rfl
@[simp] theorem iV_agg (D:Nat→Prop) (l:List Value):idsV D (.agg l.toArray)↔∀ x∈l,idsF D x:=by simp [idsV,idsA]
@[simp] theorem iV_undef (D:Nat→Prop):idsV D undef=True:=by simp [undef,idsV]
@[simp] theorem i0_bool (D:Nat→Prop) (b:Bool):ids0 D (.bool b)=True:=nr rfl
@[simp] theorem i0_int (D:Nat→Prop) (k:IntKind) (n:Int):ids0 D (.int k n)=True:=nr rfl
@[simp] theorem i0_string (D:Nat→Prop) (s:ByteArray):ids0 D (.string s)=True:=nr rfl
@[simp] theorem i0_ptr (D:Nat→Prop) (a:Addr):ids0 D (.pointer (some a))=D a.block:=nr rfl
@[simp] theorem i0_nilptr (D:Nat→Prop):ids0 D (.pointer none)=True:=nr rfl
@[simp] theorem i0_slice (D:Nat→Prop) (a:Addr) (n c:Nat):ids0 D (.slice (some a) n c)=D a.block:=nr rfl
@[simp] theorem i0_nilslice (D:Nat→Prop) (n c:Nat):ids0 D (.slice none n c)=True:=nr rfl
@[simp] theorem iF_bool (D:Nat→Prop) (b:Bool):idsF D (.bool b)=True:=nr rfl
@[simp] theorem iF_int (D:Nat→Prop) (k:IntKind) (n:Int):idsF D (.int k n)=True:=nr rfl
@[simp] theorem iF_string (D:Nat→Prop) (s:ByteArray):idsF D (.string s)=True:=nr rfl
@[simp] theorem iF_nilFunc (D:Nat→Prop):idsF D .nilFunc=True:=nr rfl
@[simp] theorem iF_ptr (D:Nat→Prop) (a:Addr):idsF D (.pointer (some a))=D a.block:=nr rfl
@[simp] theorem iF_nilptr (D:Nat→Prop):idsF D (.pointer none)=True:=nr rfl
@[simp] theorem iF_slice (D:Nat→Prop) (a:Addr) (n c:Nat):idsF D (.slice (some a) n c)=D a.block:=nr rfl
@[simp] theorem iF_nilslice (D:Nat→Prop) (n c:Nat):idsF D (.slice none n c)=True:=nr rfl
@[simp] theorem iF_func (D:Nat→Prop) (fn:Fn) (a b:Array Value):idsF D (.func fn a b)=((∀ x∈a,ids0 D x)∧∀ x∈b,ids0 D x):=nr rfl
@[simp] theorem iF_iface (D:Nat→Prop) (t:TypeId) (v:Value):idsF D (.iface t v)=ids0 D v:=nr rfl
@[simp] theorem bids_lit (l:List Value) (T:TypeId) (D:Nat→Prop):(Blk.mk l.toArray T).ids D↔∀ x∈l,idsF D x:=by simp [Blk.ids]

theorem ren0_comp (r ρ:Nat→Nat) (v:Value):ren0 r (ren0 ρ v)=ren0 (fun k=>r (ρ k)) v:=by
 cases v with
 | pointer p=>cases p<;>rfl
 | slice p _ _=>cases p<;>rfl
 | map p=>cases p<;>rfl
 | _=>rfl
theorem renF_comp (r ρ:Nat→Nat) (v:Value):renF r (renF ρ v)=renF (fun k=>r (ρ k)) v:=by
 cases v with
 | func f a b=>simp only [renF,Array.map_map];congr 1<;>(congr 1;funext x;exact ren0_comp r ρ x)
 | iface t v=>simp only [renF,ren0_comp]
 | pointer p=>cases p<;>rfl
 | slice p _ _=>cases p<;>rfl
 | map p=>cases p<;>rfl
 | _=>rfl
theorem renA_comp (r ρ:Nat→Nat) (v:Value):renA r (renA ρ v)=renA (fun k=>r (ρ k)) v:=by
 cases v with
 | agg cs=>simp only [renA,Array.map_map];congr 2;funext x;exact renF_comp r ρ x
 | func f a b=>exact renF_comp r ρ (.func f a b)
 | iface t v=>exact renF_comp r ρ (.iface t v)
 | pointer p=>cases p<;>rfl
 | slice p _ _=>cases p<;>rfl
 | map p=>cases p<;>rfl
 | _=>rfl
theorem ren_comp (r ρ:Nat→Nat) (v:Value):ren r (ren ρ v)=ren (fun k=>r (ρ k)) v:=by
 cases v with
 | tuple vs=>simp only [ren,Array.map_map];congr 2;funext x;exact renA_comp r ρ x
 | agg cs=>exact renA_comp r ρ (.agg cs)
 | func f a b=>exact renA_comp r ρ (.func f a b)
 | iface t v=>exact renA_comp r ρ (.iface t v)
 | pointer p=>cases p<;>rfl
 | slice p _ _=>cases p<;>rfl
 | map p=>cases p<;>rfl
 | _=>rfl

section
variable {P:Program} {G:Hp}

theorem new_of {f:FuncId} {fn:Func} {c:Code} {args:Array Value} {hp:Hp} {rs:List Nat} {v:Value} {ns:List (Nat×Blk)} {B:Nat} (ρ:Nat→Nat) (hGF:GFlat G) (hG:∀ k,k<100→hp k=G k) (hf:P.funcs[f]? = some fn) (hb:fn.body=some c) (hcall:∀ a w,(callFunc f a).run P w=.ok (.enter f a) w)
  (ha:∀ x∈args,idsV (dom (rst hp rs)) x) (hcl:∀ k b,rst hp rs k=some b→b.ids (dom (rst hp rs))) (hfit:(Res.new v ns).fits hp rs) (hn:args.size≤fn.ntmps) (hB:100≤B) (hfree:∀ x,B≤x→rst hp rs x=none)
  (hρ0:∀ k,dom (rst hp rs) k→ρ k=k) (hρ:∀ p∈ns,¬dom (rst hp rs) (ρ p.1)∧100≤ρ p.1) (hinj:∀ p∈ns,∀ q∈ns,ρ p.1=ρ q.1→p.1=q.1) (hbl:∀ p∈ns,p.2.ids (dom (rst hp rs)))
  (h:∀ C:Ctx,C.G=G→C.hp0=rst hp rs→C.Y=none→GW P C fn.ntmps [] none c ⟨fun t=>args.getD t undef,rst hp rs,B,0⟩ fun e s=>(e=.normal∨e=.ret)∧resG P fn.results.toList s.ts s.hp=some (ren ρ v) ∧
   (∀ p∈ns,s.hp (ρ p.1)=some p.2)∧∀ k,dom (rst hp rs) k→s.hp k=rst hp rs k):Fun P G f args hp rs (.new v ns):=by
 refine ⟨hcall,ha,hcl,hfit,fun r W hgok hsat hinjr hlow=>callsIn_of_wp_marks hf hb ⟨fn,hf⟩ ?_⟩
 have ltW:∀ k,dom (rst hp rs) k→r k<W.heap.size:=fun k hk=>by
  unfold dom at hk
  cases hb:rst hp rs k with
  | none=>exact absurd hb hk
  | some b=>exact (Array.getElem?_eq_some_iff.1 (hsat k b hb).1).1
 let im:Nat→Prop:=fun j=>∃ i,dom (rst hp rs) i∧r i=j
 let C:Ctx:=⟨callE W im,rst hp rs,r,G,none⟩
 have hi:GI P C fn.ntmps [] r ⟨fun t=>args.getD t undef,rst hp rs,B,0⟩ { tmps:=args.map (ren r)++Array.replicate (fn.ntmps - (args.map (ren r)).size) undef,defers:=[] } W:=by
  refine ⟨⟨by simp;omega,fun t=>?_,hsat,hinjr,⟨fun k=>k<W.heap.size∧¬im k,[],⟨fun _=>Iff.rfl,rfl,rfl,rfl,Nat.le_refl _,fun _ _=>rfl⟩,fun k hk=>hk.1,fun i hi _ hS=>hS.2 ⟨i,hi,rfl⟩,⟨rfl,List.nodup_nil⟩,by simp⟩,
   fun i hi=>⟨hi,rfl⟩,fun k hk=>?_,hlow⟩,hfree,hB,hGF,fun y hy=>by cases hy⟩
  ·right
   dsimp only
   by_cases ht:t<args.size
   ·have hm:args[t]∈args:=Array.getElem_mem ht
    have e:args.getD t undef=args[t]:=by simp [Array.getD,ht]
    rw [e]
    refine ⟨?_,ha _ hm⟩
    have:t<(args.map (ren r)).size:=by simpa using ht
    simp [Array.getElem?_append_left this,ht]
   ·have e:args.getD t undef=undef:=by simp [Array.getElem?_eq_none (Nat.le_of_not_lt ht)]
    rw [e]
    refine ⟨?_,ids_undef _⟩
    rw [ren_undef]
    simp only [Array.getD_eq_getD_getElem?]
    rw [Array.getElem?_append_right (by simpa using Nat.le_of_not_lt ht),Array.getElem?_replicate]
    split<;>rfl
  ·show rst hp rs k=G k
   simp [rst,hk,hG k hk]
 refine wpIn_mono (h C rfl rfl rfl r _ W hi) ?_
 rintro e a' W' ⟨s',r',⟨he,hr,hns,hhp⟩,hi'⟩
 obtain ⟨S,ms,⟨hS,os,tape,output,size,hsame⟩,hS1,hS2,⟨hdef,hnd⟩,hms⟩:=hi'.ri.ext
 have hkeep:∀ i,dom (rst hp rs) i→dom s'.hp i∧r' i=r i:=hi'.ri.keep
 have mine:∀ W'':World,(∀ k,k∉ms→W''.heap[k]? = W'.heap[k]?)→∀ i b,s'.hp i=some b→W''.heap[r' i]? = some (b.obj r'):=fun W'' hW i b hb=>by
  rw [hW _ (fun hm=>hi'.ri.ne_mark (by unfold dom;rw [hb];simp) (hms _ hm).1 rfl)]
  exact (hi'.ri.sat i b hb).1
 have hend:∀ W'':World,W''.heap.size=W'.heap.size→W''.os=W'.os→W''.tape=W'.tape→W''.output=W'.output→(∀ k,k∉ms→W''.heap[k]? = W'.heap[k]?) →
   LeavesIn (Fw P none) 0 P fn a'.tmps ((Res.new v ns).holds r (dom (rst hp rs)) W) [] .returning W'':=fun W'' e1 e2 e3 e4 e5=>by
  have hsat':Sat r' (dom s'.hp) s'.hp W'':=fun k b hk=>⟨mine W'' e5 k b hk,(hi'.ri.sat k b hk).2⟩
  have hrun:=run_resG' (fn:=fn) hi'.ri.rel hsat' hr
  rw [ren_comp] at hrun
  refine ⟨_,hrun,fun _=>⟨fun k=>r' (ρ k),fun k hk=>?_,rfl,?_⟩⟩
  ·simp only [hρ0 k hk];exact (hkeep k hk).2
  ·have hag:∀ k,dom (rst hp rs) k→r' (ρ k)=r' k:=fun k hk=>by rw [hρ0 k hk]
   refine ⟨e2.trans os,e3.trans tape,e4.trans output,by rw [e1];exact size,fun k hk _=>?_,fun p hp1=>?_,fun p hp1=>?_,fun p hp1 q hq1 hpq=>?_⟩
   ·by_cases hk':im k
    ·obtain ⟨i,hi1,rfl⟩:=hk'
     cases hb:rst hp rs i with
     | none=>exact absurd hb hi1
     | some b =>
      have e:s'.hp i=some b:=(hhp i hi1).trans hb
      have:=mine W'' e5 i b e
      rw [(hkeep i hi1).2,Blk.obj_congr (fun k hk=>(hkeep k hk).2) (hcl i b hb)] at this
      rw [this,(hsat i b hb).1]
    ·have hSk:S k:=(hS k).2 ⟨hk,hk'⟩
     rw [e5 k (fun hm=>(hms k hm).2.1 hSk)]
     exact hsame k hSk
   ·have hp1:p∈ns:=by simpa using hp1
    refine ⟨?_,Blk.ids_mono (fun k hk=>.inl hk) (hbl p hp1)⟩
    have:=mine W'' e5 _ _ (hns p hp1)
    rw [Blk.obj_congr (r:=r') hag (hbl p hp1)]
    exact this
   ·have hd:dom s'.hp (ρ p.1):=by unfold dom;rw [hns p hp1];simp
    have h1:=hS2 _ hd (hρ p hp1).2
    rw [hS] at h1
    refine Classical.byContradiction fun hlt=>h1 ⟨by omega,fun ⟨i,hi1,e⟩=>?_⟩
    have:=hi'.ri.inj i (ρ p.1) (hkeep i hi1).1 hd ((hkeep i hi1).2.trans e)
    exact (hρ p hp1).1 (this▸hi1)
   ·have hd:∀ x∈ns,dom s'.hp (ρ x.1):=fun x hx=>by unfold dom;rw [hns x hx];simp
    exact hinj p hp1 q hq1 (hi'.ri.inj _ _ (hd p hp1) (hd q hq1) hpq)
 rcases he with rfl|rfl
 ·show LeavesInM _ _ _ _ _ _ a'.defers _ _
  rw [hdef,List.append_nil]
  exact leavesM (by simp) ms W' hnd (fun D hD=>(hms D hD).1) hend
 ·show LeavesInM _ _ _ _ _ _ a'.defers _ _
  rw [hdef,List.append_nil]
  exact leavesM (by simp) ms W' hnd (fun D hD=>(hms D hD).1) hend

def Blk.rn (ρ:Nat→Nat) (b:Blk):Blk:=match b.T with
 | .ty t=>⟨b.c.map (renF ρ),.ty t⟩
 | .raw _ _=>b
 | .mp=>⟨b.c.map (renF ρ),.mp⟩
theorem Blk.rn_obj (r ρ:Nat→Nat) (b:Blk):(b.rn ρ).obj r=b.obj (fun k=>r (ρ k)):=by
 obtain ⟨c,T⟩:=b
 cases T with
 | raw t fr=>rfl
 | ty t =>
  simp only [Blk.rn,Blk.obj,Array.map_map]
  congr 2
  funext x
  exact renF_comp r ρ x
 | mp =>
  simp only [Blk.rn,Blk.obj,Array.map_map]
  congr 2
  funext x
  exact renF_comp r ρ x
theorem Blk.rn_flat {ρ:Nat→Nat} {b:Blk} (h:∀ x∈b.c,flatF x=true):b.rn ρ=b:=by
 obtain ⟨c,T⟩:=b
 cases T with
 | raw t fr=>rfl
 | ty t=>simp only [Blk.rn];rw [map_eq_self (fun x hx=>flatF_ren (h x hx))]
 | mp=>simp only [Blk.rn];rw [map_eq_self (fun x hx=>flatF_ren (h x hx))]
theorem ids0_rn {ρ:Nat→Nat} {D D':Nat→Prop} (h:∀ k,D k→D' (ρ k)) {v:Value} (hv:ids0 D v):ids0 D' (ren0 ρ v):=by
 cases v with
 | pointer p=>cases p<;>first|exact h _ hv|trivial
 | slice p _ _=>cases p<;>first|exact h _ hv|trivial
 | map p=>cases p<;>first|exact h _ hv|trivial
 | _=>trivial
theorem idsF_rn {ρ:Nat→Nat} {D D':Nat→Prop} (h:∀ k,D k→D' (ρ k)) {v:Value} (hv:idsF D v):idsF D' (renF ρ v):=by
 cases v with
 | func f a b =>
  refine ⟨fun x hx=>?_,fun x hx=>?_⟩
  ·obtain ⟨y,hy,rfl⟩:=Array.mem_map.1 hx;exact ids0_rn h (hv.1 y hy)
  ·obtain ⟨y,hy,rfl⟩:=Array.mem_map.1 hx;exact ids0_rn h (hv.2 y hy)
 | iface t v=>exact ids0_rn (v:=v) h hv
 | pointer p=>cases p<;>first|exact h _ hv|trivial
 | slice p _ _=>cases p<;>first|exact h _ hv|trivial
 | map p=>cases p<;>first|exact h _ hv|trivial
 | _=>trivial
theorem Blk.ids_rn {ρ:Nat→Nat} {D D':Nat→Prop} (h:∀ k,D k→D' (ρ k)) {b:Blk} (hb:b.ids D):(b.rn ρ).ids D':=by
 obtain ⟨c,T⟩:=b
 cases T with
 | raw t fr=>trivial
 | ty t =>
  intro x hx
  obtain ⟨y,hy,rfl⟩:=Array.mem_map.1 hx
  exact idsF_rn h (hb y hy)
 | mp =>
  intro x hx
  obtain ⟨y,hy,rfl⟩:=Array.mem_map.1 hx
  exact idsF_rn h (hb y hy)
structure Rn (ρ:Nat→Nat) (hp hp':Hp) (rs:List Nat):Prop where
 low:∀ k,k<100→ρ k=k∧hp' k=hp k
 big:∀ k∈rs,100≤k→100≤ρ k
 at':∀ k∈rs,100≤k→∃ b,hp k=some b∧hp' (ρ k)=some (b.rn ρ)
 inj:∀ k∈rs,∀ l∈rs,100≤k→100≤l→ρ k=ρ l→k=l
theorem Rn.dom1 {ρ:Nat→Nat} {hp hp':Hp} {rs:List Nat} (h:Rn ρ hp hp' rs) {k:Nat} (hk:dom (rst hp rs) k):dom (rst hp' (rs.map ρ)) (ρ k):=by
 unfold dom rst at *
 by_cases h1:k<100
 ·have:=h.low k h1
  rw [this.1]
  simp only [h1,true_or,if_true] at hk ⊢
  rw [this.2];exact hk
 ·have hm:k∈rs:=by
   by_cases hm:k∈rs
   ·exact hm
   ·simp [h1,hm] at hk
  obtain ⟨b,e1,e2⟩:=h.at' k hm (by omega)
  have:ρ k∈rs.map ρ:=List.mem_map.2 ⟨k,hm,rfl⟩
  simp [this,e2]
theorem IterX.rn {pn:Option Value} {f:FuncId} {caps:Array Value} {hp hp':Hp} {rs:List Nat} {xs:List (Array Value)} (ρ:Nat→Nat) (hGF:GFlat G) (hG:∀ k,k<100→hp k=G k) (h:Rn ρ hp hp' rs) (hi:IterX pn P G f caps hp rs xs):IterX pn P G f (caps.map (ren0 ρ)) hp' (rs.map ρ) xs:=by
 have hpl:∀ x,plain0 x=true→plain0 (ren0 ρ x)=true:=fun x hx=>by
  cases x with
  | pointer p=>cases p<;>rfl
  | slice p _ _=>cases p<;>rfl
  | map p=>cases p<;>rfl
  | _=>exact hx
 have bflat:∀ k b,k<100→hp k=some b→b.rn ρ=b:=fun k b hk hb=>by
  have hg:G k=some b:=(hG k hk).symm.trans hb
  exact Blk.rn_flat (hGF k b hg).2
 have back:∀ k b,rst hp' (rs.map ρ) k=some b→∃ q c,rst hp rs q=some c∧ρ q=k∧b=c.rn ρ:=fun k b hb=>by
  unfold rst at hb
  by_cases h1:k<100
  ·simp only [h1,true_or,if_true] at hb
   have hl:=h.low k h1
   rw [hl.2] at hb
   exact ⟨k,b,by simp [rst,h1,hb],hl.1,(bflat k b h1 hb).symm⟩
  ·by_cases hm:k∈rs.map ρ
   ·obtain ⟨q,hq,rfl⟩:=List.mem_map.1 hm
    simp only [hm,or_true,if_true] at hb
    have hq1:100≤q:=by
     by_cases hq1:100≤q
     ·exact hq1
     ·exact absurd (by rw [(h.low q (by omega)).1];omega) h1
    obtain ⟨c,e1,e2⟩:=h.at' q hq hq1
    rw [e2] at hb;cases hb
    exact ⟨q,c,by simp [rst,hq,e1],rfl,rfl⟩
   ·simp [h1,hm] at hb
 refine ⟨hi.enter,fun x hx=>?_,fun k b hb=>?_,fun E l stop r S W hgok hsat hinj hlow hlen hR hX hS hdis=>?_⟩
 ·obtain ⟨y,hy,rfl⟩:=Array.mem_map.1 hx
  have:=hi.cids y hy
  exact ⟨hpl y this.1,(ids_plain0 (hpl y this.1)).2 (ids0_rn (fun k hk=>h.dom1 hk) ((ids_plain0 this.1).1 this.2))⟩
 ·obtain ⟨q,c,h1,rfl,rfl⟩:=back k b hb
  exact Blk.ids_rn (fun k hk=>h.dom1 hk) (hi.closed q c h1)
 ·have hcap:(caps.map (ren0 ρ)).map (ren r)=caps.map (ren fun k=>r (ρ k)):=by
   rw [Array.map_map]
   refine Array.map_congr_left fun x hx=>?_
   have:=(hi.cids x hx).1
   simp only [Function.comp]
   rw [←ren_plain0 (r:=ρ) this,ren_comp]
  rw [hcap]
  refine hi.run E l stop (fun k=>r (ρ k)) S W hgok (fun k b hk=>⟨?_,hi.closed k b hk⟩) (fun k l hk hl e=>?_) (fun k hk hd=>?_) hlen hR hX hS (fun i hd h1=>?_)
  ·have hd:dom (rst hp rs) k:=by unfold dom;rw [hk];simp
   have hd':=h.dom1 hd
   unfold dom at hd'
   cases hb:rst hp' (rs.map ρ) (ρ k) with
   | none=>exact absurd hb hd'
   | some b' =>
    have e:b'=b.rn ρ:=by
     unfold rst at hb hk
     by_cases h1:k<100
     ·have hl:=h.low k h1
      simp only [h1,true_or,if_true] at hk
      rw [hl.1] at hb
      simp only [h1,true_or,if_true] at hb
      rw [hl.2,hk] at hb
      cases hb
      exact (bflat k b h1 hk).symm
     ·have hm:k∈rs:=by
       by_cases hm:k∈rs
       ·exact hm
       ·simp [h1,hm] at hk
      simp only [hm,or_true,if_true] at hk
      obtain ⟨c,e1,e2⟩:=h.at' k hm (by omega)
      rw [hk] at e1;cases e1
      have hm':ρ k∈rs.map ρ:=List.mem_map.2 ⟨k,hm,rfl⟩
      simp only [hm',or_true,if_true] at hb
      rw [e2] at hb;cases hb;rfl
    have:=(hsat _ b' hb).1
    rw [e,Blk.rn_obj] at this
    exact this
  ·have e2:=hinj _ _ (h.dom1 hk) (h.dom1 hl) e
   have mem:∀ k,dom (rst hp rs) k→100≤k→k∈rs:=fun k hk h1=>by
    unfold dom rst at hk
    by_cases hm:k∈rs
    ·exact hm
    ·simp [hm] at hk;omega
   by_cases h1:k<100
   ·by_cases h2:l<100
    ·rw [(h.low k h1).1,(h.low l h2).1] at e2;exact e2
    ·have:=h.big l (mem l hl (by omega)) (by omega)
     rw [(h.low k h1).1] at e2;omega
   ·by_cases h2:l<100
    ·have:=h.big k (mem k hk (by omega)) (by omega)
     rw [(h.low l h2).1] at e2;omega
    ·exact h.inj k (mem k hk (by omega)) l (mem l hl (by omega)) (by omega) (by omega) e2
  ·show r (ρ k)=k
   have:=h.dom1 hd
   rw [(h.low k hk).1] at this ⊢
   exact hlow k hk this
  ·refine hdis _ (h.dom1 hd) (h.big i ?_ h1)
   unfold dom rst at hd
   by_cases hm:i∈rs
   ·exact hm
   ·simp [hm] at hd;omega
end
section
variable {P:Program} {C:Ctx} {n:Nat} {d:List Deferred} {ro:Option Nat} {s:GS} {K:Exit→GS→Prop}
structure WeakR (C:Ctx) (ρ:Nat→Nat) (s s':GS):Prop where
 ts:∀ t,s'.ts t=junk∨(s.ts t=ren ρ (s'.ts t)∧s.ts t≠junk∧idsV (dom s'.hp) (s'.ts t))
 hp:∀ k b,s'.hp k=some b→100≤k→s.hp (ρ k)=some (b.rn ρ)∧100≤ρ k
 ids:∀ k b,s'.hp k=some b→b.ids (dom s'.hp)
 inj:∀ k l,dom s'.hp k→dom s'.hp l→ρ k=ρ l→k=l
 id:∀ k,k<100→ρ k=k
 rest:∀ k b,k<100→C.G k=some b→b.rn ρ=b
 keep:∀ k,100≤k→dom C.hp0 k→dom s'.hp k∧ρ k=k
 glob:∀ k,k<100→s'.hp k=C.G k
 yc:s'.yc=s.yc
 free:∀ x,s'.B≤x→s'.hp x=none
 low:100≤s'.B
theorem GI.rename {ρ:Nat→Nat} {r:Nat→Nat} {a:Act} {W:World} {s':GS} (h:GI P C n d r s a W) (hw:WeakR C ρ s s'):GI P C n d (fun k=>r (ρ k)) s' a W:=by
 have sub:∀ k b,s'.hp k=some b→s.hp (ρ k)=some (b.rn ρ):=fun k b hb=>by
  by_cases hk:100≤k
  ·exact (hw.hp k b hb hk).1
  ·have hg:C.G k=some b:=(hw.glob k (by omega)).symm.trans hb
   rw [hw.id k (by omega),hw.rest k b (by omega) hg,h.ri.glob k (by omega)]
   exact hg
 have subd:∀ k,dom s'.hp k→dom s.hp (ρ k):=fun k hk=>by
  unfold dom at hk
  cases hb:s'.hp k with
  | none=>exact absurd hb hk
  | some b=>unfold dom;rw [sub k b hb];simp
 refine ⟨{ h.ri with rel:=fun t=>?_,sat:=fun k b hb=>?_,inj:=fun k l hk hl e=>hw.inj k l hk hl (h.ri.inj _ _ (subd k hk) (subd l hl) e),ext:=?_,keep:=fun i hi=>?_,glob:=hw.glob,low:=fun k hk hd=>?_ },hw.free,hw.low,h.flat,h.rounds⟩
 ·rcases hw.ts t with e|⟨e,hne,hi⟩
  ·exact .inl e
  ·have e':=(h.ri.rel t).resolve_left hne
   refine .inr ⟨?_,hi⟩
   rw [e'.1,e,ren_comp]
 ·have hs:=(h.ri.sat _ _ (sub k b hb)).1
  rw [Blk.rn_obj] at hs
  exact ⟨hs,hw.ids k b hb⟩
 ·obtain ⟨S,ms,h1,h2,h3,h4⟩:=h.ri.ext
  refine ⟨S,ms,by rw [hw.yc];exact h1,h2,fun i hi hi1=>?_,h4⟩
  refine h3 _ (subd i hi) ?_
  unfold dom at hi
  cases hb:s'.hp i with
  | none=>exact absurd hb hi
  | some b=>exact (hw.hp i b hb hi1).2
 ·have hk:=h.ri.keep i hi
  by_cases h1:100≤i
  ·have hh:=hw.keep i h1 hi
   exact ⟨hh.1,by rw [hh.2];exact hk.2⟩
  ·refine ⟨?_,by rw [hw.id i (by omega)];exact hk.2⟩
   unfold dom;rw [hw.glob i (by omega),←h.ri.glob i (by omega)];exact hk.1
 ·have hd':=subd k hd
  rw [hw.id k hk] at hd' ⊢
  exact h.ri.low k hk hd'
theorem GW_loopR {c:Code} (I:Nat→GS→Prop) {m0:Nat} {s0:GS} (hw:Weak C s s0) (h0:I m0 s0)
  (round:∀ m s,I m s→GW P C n d ro c s (thenG (fun s'=>∃ ρ s'' m',WeakR C ρ s' s''∧I m' s''∧m'<m) K)):GW P C n d ro (.loop c) s K:=by
 have key:∀ (m:Nat) (s:GS),I m s→∀ r a W,GI P C n d r s a W→∀ (b:Frame) (k:List Item) (cs:List Frame),b.roundOf=ro →
   (Fs P).fn b.fn→∃ e a' w',(∃ s' r',K e s'∧GI P C n d r' s' a' w')∧ArrivesIn (Machine.fenced P (Fw P ro)) P (lone (b.atR a (.code c::.inLoop c::k)) cs W) b k cs e a' w':=by
  intro m
  induction m using Nat.strongRecOn with
  | _ m ih =>
   intro s hI r a W hi b k cs hro hfn
   obtain ⟨e,a₁,w₁,⟨s',r',hk,hi'⟩,harr⟩:=round m s hI r a W hi b (.inLoop c::k) cs hro hfn (room_Fs P _)
   cases e with
   | normal =>
    obtain ⟨ρ,s'',m',hw'',hI'',hlt⟩:=hk
    obtain ⟨e₂,a₂,w₂,hq₂,harr₂⟩:=ih m' hlt s'' hI'' _ a₁ w₁ (hi'.rename hw'') b k cs hro hfn
    exact ⟨e₂,a₂,w₂,hq₂,.of_steps (StepsIn.trans harr (.one (fenced_calm (F:=Fw P ro) (n:=0) hfn (room_Fs P _) rfl) stepR_inLoop)) harr₂⟩
   | exit id=>exact ⟨_,a₁,w₁,⟨s',r',hk,hi'⟩,.pass (x:=.inLoop c) rfl (fun _ _=>.inl (by simp)) harr⟩
   | goto l=>exact ⟨_,a₁,w₁,⟨s',r',hk,hi'⟩,.pass (x:=.inLoop c) rfl (fun _ _=>.inl (by simp)) harr⟩
   | ret=>exact ⟨_,a₁,w₁,⟨s',r',hk,hi'⟩,.pass (x:=.inLoop c) rfl (fun _ _=>.inl (by simp)) harr⟩
   | panic ch=>exact ⟨_,a₁,w₁,⟨s',r',hk,hi'⟩,.pass (x:=.inLoop c) rfl (fun _ _=>.inl (by simp)) harr⟩
   | outgrown=>exact ⟨_,a₁,w₁,⟨s',r',hk,hi'⟩,.pass (x:=.inLoop c) rfl (fun _ _=>.inl (by simp)) harr⟩
 intro r a W hi
 intro b k cs hro hb hr
 obtain ⟨e,a',w',hq,harr⟩:=key m0 s0 h0 r a W (hi.weak hw) b k cs hro hb
 exact ⟨e,a',w',hq,.of_steps (.one (fenced_calm hb hr rfl) stepR_loop) harr⟩
end
end Go.Gy
