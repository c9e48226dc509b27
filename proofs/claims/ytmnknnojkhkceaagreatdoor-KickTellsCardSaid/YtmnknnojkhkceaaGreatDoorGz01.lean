/-
  Lemmas of this claim, in their order (GyF, GyR, GyV, GyS, GyT, GyK2, GyRI).
  Conditions: those of each theorem.
-/
import Derived.Test.YtmnknnojkhkceaaGreatDoorGz00
set_option linter.unusedSimpArgs false
set_option linter.unusedVariables false
namespace Go.Gy
open Go Go.RowKit

abbrev Tr:=List (Nat×List Nat×List Nat)
def jks (xs ys:List Nat):Bool:=xs.all λx=>!ys.contains x
def chk (md:Region.Mode) (ops:Array Oper):Tr->Bool
 | []=>true
 | (i,rd,wr)::tl=>(tl.all λq=>(jks rd q.2.2&&jks wr q.2.1)||zk7 md ops i q.1)&&chk md ops tl
def zgd (k:Nat) (rd wr:List Nat) (tr:Tr):Tr :=
 match rd with
 | []=>match wr with
  | []=>tr
  | _::_=>(k,rd,wr)::tr
 | _::_=>(k,rd,wr)::tr

def zji (P:Program) (G:Hp) (V:XV) (ops:Array Oper) (base:Nat) (Q:(Nat->Value)->Hp->Tr->Nat->Prop) (Qp:Value->Tr->Prop):Nat->List Oper->(Nat->Value)->Hp->Tr->Nat->Bool->Bool->Prop
 | _,[],ts,hp,tr,yc,_,_=>Q ts hp tr yc
 | k,o::rest,ts,hp,tr,yc,wr,yd=>match zc0 ops o ts with
  | some true=>opX P G V yc o ts hp (base+8*k) λe=>(e.yl=true->yd=false)/\match e.pan with
   | none=>zji P G V ops base Q Qp (k+1) rest (zbl ts o.dst e.v) (zaw hp (e.ws++e.ns)) (zgd k (e.rs++zab e.ns) (zab e.ws++zab e.ns) tr) (if e.yl then yc+1 else yc) (wr||!e.ws.isEmpty) (yd||e.yl)
   | some pv=>(V.dr=true->rest=[])/\(wr||!e.ws.isEmpty)=false/\Qp pv (zgd k (e.rs++zab e.ns) (zab e.ws++zab e.ns) tr)
  | some false=>unD o ts/\zji P G V ops base Q Qp (k+1) rest (zbl ts o.dst undef) hp tr yc wr yd
  | none=>False

theorem ztt (k:Nat) (rd wr:List Nat) (tr:Tr):zgd k rd wr tr=(k,rd,wr)::tr\/(rd=[]/\wr=[]/\zgd k rd wr tr=tr):=by
 cases rd with
 | nil=>cases wr with
  | nil=>exact .inr ⟨rfl,rfl,rfl⟩
  | cons=>exact .inl rfl
 | cons=>exact .inl rfl

theorem zkd {md:Region.Mode} {ops:Array Oper} {k:Nat} {rd wr:List Nat} {tr:Tr} (h:chk md ops (zgd k rd wr tr)=true) :
  chk md ops tr=true/\∀ q∈tr,((∀ x∈rd,x∉q.2.2)/\(∀ x∈wr,x∉q.2.1))\/zk7 md ops k q.1=true:=by
 rcases ztt k rd wr tr with e|⟨h1,h2,e⟩
 ·rw [e] at h
  simp only [chk,Bool.and_eq_true,List.all_eq_true,Bool.or_eq_true] at h
  refine ⟨h.2,λq hq=>(h.1 q hq).imp (λh=>⟨λx hx=>?_,λx hx=>?_⟩) id⟩
  ·have:=List.all_eq_true.1 h.1 x hx;simpa using this
  ·have:=List.all_eq_true.1 h.2 x hx;simpa using this
 ·rw [e] at h;subst h1;subst h2
  exact ⟨h,λq _=>.inl ⟨λx hx=>(by cases hx),λx hx=>(by cases hx)⟩⟩

section
variable {P:Program} {G:Hp} {V:XV}

def z19 (lg:Nat->List Nat×List Nat) (tr:Tr):Prop :=
 ∀ j,lg j=([],[])\/∃ rd wr,(j,rd,wr)∈tr/\(∀ x∈(lg j).1,x∈rd)/\(∀ x∈(lg j).2,x∈wr)

theorem z19.step {lg:Nat->List Nat×List Nat} {tr:Tr} (h:z19 lg tr) (k:Nat) (e:Eff):z19 (upd lg k (e.rs,zab e.ws++zab e.ns)) (zgd k (e.rs++zab e.ns) (zab e.ws++zab e.ns) tr):=by
 intro j
 rcases ztt k (e.rs++zab e.ns) (zab e.ws++zab e.ns) tr with e1|⟨h1,h2,e1⟩
 ·rw [e1]
  by_cases hj:j=k
  ·subst hj
   rw [zbg]
   exact .inr ⟨_,_,List.mem_cons_self ..,λx hx=>List.mem_append_left _ hx,λx hx=>hx⟩
  ·rw [zaa _ _ hj]
   exact (h j).imp id λ⟨rd,wr,hm,a,b⟩=>⟨rd,wr,List.mem_cons_of_mem _ hm,a,b⟩
 ·rw [e1]
  by_cases hj:j=k
  ·subst hj
   rw [zbg]
   have:e.rs=[]:=(List.append_eq_nil_iff.1 h1).1
   exact .inl (by rw [this,h2])
  ·rw [zaa _ _ hj];exact h j

theorem znb {ops:Array Oper} {base:Nat} {K:(Nat->Value)->Hp->Nat->Prop} {Kp:Value->Prop} (hGF:zbm G) (hb:100<=base):∀ (l:List Oper) (k:Nat) (ts:Nat->Value) (hp:Hp) (tr:Tr) (yc:Nat) (wr yd:Bool),(∀ x,x<100->hp x=G x) ->
  zji P G V ops base (λts hp tr yc=>chk .any ops tr=true/\K ts hp yc) (λpv tr=>chk .any ops tr=true/\Kp pv) k l ts hp tr yc wr yd->chk .any ops tr=true
 | [],_,_,_,_,_,_,_,_,h=>h.1
 | o::l,k,ts,hp,tr,yc,wr,yd,hG,h=>by
  simp only [zji] at h
  split at h
  ·obtain ⟨e,_,hs,_,h3⟩:=zgt hGF hG h
   split at h3
   ·refine (zkd (znb hGF hb l _ _ _ _ _ _ _ (λx hx=>?_) h3)).1
    rw [zbb (λhm=>?_)]
    ·exact hG x hx
    ·have:x∈zab e.ws\/x∈zab e.ns:=by simpa [zab] using hm
     rcases this with h|h
     ·have:=(hs.ws x h).2.2;omega
     ·have:=hs.ns x h;omega
   ·exact (zkd h3.2.2.1).1
  ·exact znb hGF hb l _ _ _ _ _ _ _ hG h.2
  ·exact h.elim

def jpi (Kn:(Nat->Value)->Hp->Nat->Prop) (Kp:Value->Prop) (B:Nat) (s:St):Prop :=
 (s.pn=none->Kn s.ts s.hp s.yc/\∀ x,B<=x->s.hp x=none)/\∀ pv,s.pn=some pv->s.wr=false/\Kp pv

theorem zi0 {ops:Array Oper} {base:Nat} {K:(Nat->Value)->Hp->Nat->Prop} {Kp:Value->Prop} (hGF:zbm G) (hb:100<=base) (hdr:V.dr=true):∀ (l:List Oper) (k:Nat) (ts:Nat->Value) (hp:Hp) (tr:Tr) (yc:Nat) (wr yd:Bool) (lg:Nat->List Nat×List Nat),(∀ x,x<100->hp x=G x) ->
  (∀ x,base+8*k<=x->hp x=none)->z19 lg tr->(∀ j,k<=j->lg j=([],[]))->(∀ o∈l,unC P o) ->
  zji P G V ops base (λts hp tr yc=>chk .any ops tr=true/\K ts hp yc) (λpv tr=>chk .any ops tr=true/\Kp pv) k l ts hp tr yc wr yd ->
  zp4 (okp P V.Y) .any ops base (jpi K Kp (base+8*(k+l.length))) k l ⟨ts,hp,lg,yc,yd,none,wr⟩
 | [],k,ts,hp,tr,yc,wr,yd,lg,hG,hn,hl,hz,hu,h=>⟨λ_=>⟨h.2,by simpa using hn⟩,λ_ h=>(by cases h)⟩
 | o::l,k,ts,hp,tr,yc,wr,yd,lg,hG,hn,hl,hz,hu,h=>by
  have hlen:k+(o::l).length=(k+1)+l.length:=by simp;omega
  rw [hlen]
  simp only [zji] at h
  simp only [zp4]
  cases hw:zc0 ops o ts with
  | none=>rw [hw] at h;exact h.elim
  | some b =>
   rw [hw] at h
   cases b with
   | true =>
    simp only at h |-
    obtain ⟨e,h1,hs,hyd,h3⟩:=zgt hGF hG h
    have big:∀ x∈zab (e.ws++e.ns),100<=x:=λx hm=>by
     have:x∈zab e.ws\/x∈zab e.ns:=by simpa [zab] using hm
     rcases this with h|h
     ·exact (hs.ws x h).2.2
     ·have:=hs.ns x h;omega
    have hG':∀ x,x<100->zaw hp (e.ws++e.ns) x=G x:=λx hx=>by
     rw [zbb (λhm=>by have:=big x hm;omega)];exact hG x hx
    have hn':∀ x,base+8*(k+1)<=x->zaw hp (e.ws++e.ns) x=none:=λx hx=>by
     rw [zbb (λhm=>?_)]
     ·exact hn x (by omega)
     ·have:x∈zab e.ws\/x∈zab e.ns:=by simpa [zab] using hm
      rcases this with h|h
      ·exact (hs.ws x h).2.1 (hn x (by omega))
      ·have:=hs.ns x h;omega
    have fits:chk .any ops (zgd k (e.rs++zab e.ns) (zab e.ws++zab e.ns) tr)=true->Fits .any ops base k ⟨ts,hp,lg,yc,yd,none,wr⟩ e:=λhc=>by
     have hc:=zkd hc
     refine ⟨hs.ws,λx hx=>?_,λx hx=>?_,hs.once,λj hj=>?_,hz k (Nat.le_refl _),λ_=>rfl,hyd⟩
     ·have:=hs.ns x hx;omega
     ·have:=hs.ns x hx;exact hn x (by omega)
     ·rcases hl j with h0|⟨rd,wr,hm,a,b⟩
      ·simp only [h0];exact ⟨λ_ _ h=>(by cases h),λ_ _ h=>(by cases h)⟩
      ·rcases hc.2 _ hm with ⟨c1,c2⟩|c
       ·exact ⟨λx hx hm=>c1 x hx (b x hm),λx hx hm=>c2 x hx (a x hm)⟩
       ·rw [hj] at c;cases c
    cases hpn:e.pan with
    | none =>
     rw [hpn] at h3
     simp only at h3
     refine ⟨e,h1,fits (znb hGF hb l _ _ _ _ _ _ _ hG' h3),?_⟩
     have:=zi0 hGF hb hdr l (k+1) _ _ _ _ _ _ _ hG' hn' (hl.step k e) (λj hj=>by rw [zaa _ _ (by omega)];exact hz j (by omega)) (λo ho=>hu o (List.mem_cons_of_mem _ ho)) h3
     simpa [St.after,hpn] using this
    | some pv =>
     rw [hpn] at h3
     obtain ⟨hrest,hwr,hch,hkp⟩:=h3
     obtain rfl:=hrest hdr
     refine ⟨e,h1,fits hch,?_⟩
     simp only [zp4,St.after,hpn]
     refine ⟨λh=>?_,λpv' h=>?_⟩
     ·simp at h
     ·simp at h;subst h;exact ⟨hwr,hkp⟩
   | false =>
    simp only at h |-
    exact ⟨⟨h.1,hu o (by simp)⟩,zi0 hGF hb hdr l (k+1) _ _ _ _ _ _ _ hG (λx hx=>hn x (by omega)) hl (λj hj=>hz j (by omega)) (λo ho=>hu o (List.mem_cons_of_mem _ ho)) h.2⟩

def zrz (P:Program) (ops:List Oper):Bool:=ops.all λo=>match o.op with
 | .call c=>match c.callee with
  | .value (.func f)=>decide (f<P.funcs.size)
  | _=>true
 | _=>true
theorem zg0 {ops:List Oper} (h:zrz P ops=true):∀ o∈ops,unC P o:=λo ho=>by
 have:=List.all_eq_true.1 h o ho
 unfold unC
 split
 ·rename_i c hc
  simp only [hc] at this
  split
  ·rename_i f hcc
   simp only [hcc,decide_eq_true_eq] at this
   exact ⟨_,Array.getElem?_eq_getElem this⟩
  ·trivial
 ·trivial

structure GS where
 ts:Nat->Value
 hp:Hp
 B:Nat
 yc:Nat

structure GI (P:Program) (C:Ctx) (n:Nat) (d:List Deferred) (r:Nat->Nat) (s:GS) (a:Act) (W:World):Prop where
 ri:RI C n d r s.ts s.hp s.yc a W
 free:∀ x,s.B<=x->s.hp x=none
 low:100<=s.B
 flat:zbm C.G
 rounds:∀ y,C.Y=some y->zgg P C.G C.E y

def GW (P:Program) (C:Ctx) (n:Nat) (d:List Deferred) (ro:Option Nat) (c:Code) (s:GS) (K:Exit->GS->Prop):Prop :=
 ∀ r a W,GI P C n d r s a W->c.wpIn (Fw P ro) 0 P (λe a' W'=>∃ s' r',K e s'/\GI P C n d r' s' a' W') a W

variable {C:Ctx} {n:Nat} {d:List Deferred} {ro:Option Nat} {s:GS} {K:Exit->GS->Prop} {yc:Nat}

def zcy (next:GS->Prop) (K:Exit->GS->Prop):Exit->GS->Prop
 | .normal,s=>next s
 | e,s=>K e s

theorem zdu {c:Code} {K':Exit->GS->Prop} (h:GW P C n d ro c s K) (hk:∀ e s,K e s->K' e s):GW P C n d ro c s K' :=
 λr a W hi=>wpIn_mono (h r a W hi) λ_ _ _ ⟨s',r',k,i⟩=>⟨s',r',hk _ _ k,i⟩

theorem zf6 {x y:Code} (h:GW P C n d ro x s (zcy (λs'=>GW P C n d ro y s' K) K)):GW P C n d ro (.seq x y) s K:=by
 intro r a W hi
 refine wpIn_seq (wpIn_mono (h r a W hi) ?_)
 rintro e a' W' ⟨s',r',k,i⟩
 cases e with
 | normal=>exact k r' a' W' i
 | _=>exact ⟨s',r',k,i⟩

theorem zwv (h:K .normal s):GW P C n d ro .skip s K:=λr _ _ hi=>wpIn_skip ⟨s,r,h,hi⟩
theorem zwu (h:K .ret s):GW P C n d ro .ret s K:=λr _ _ hi=>wpIn_ret ⟨s,r,h,hi⟩
theorem z71 {id:Nat} (h:K (.exit id) s):GW P C n d ro (.exit id) s K:=λr _ _ hi=>wpIn_exit ⟨s,r,h,hi⟩
theorem z72 {id:Nat} (h:K (.goto id) s):GW P C n d ro (.goto id) s K:=λr _ _ hi=>wpIn_goto ⟨s,r,h,hi⟩
theorem zsf {id:Nat} (h:K .normal s):GW P C n d ro (.label id) s K:=λr _ _ hi=>wpIn_label ⟨s,r,h,hi⟩

theorem zqc {t:Tmp} {x y:Code} {b:Bool} (hb:s.ts t=.bool b) (ht:b=true->GW P C n d ro x s K) (hf:b=false->GW P C n d ro y s K):GW P C n d ro (.cond (.tmp t) x y) s K:=by
 intro r a W hi
 have he:a.eval (.tmp t)=.bool b:=by
  have:=(hi.ri.rel t).resolve_left (by rw [hb];simp [zbz])
  rw [hb] at this
  exact this.1
 exact wpIn_cond_split he (λh=>ht h r a W hi) (λh=>hf h r a W hi)

def zey (id:Nat) (K:Exit->GS->Prop):Exit->GS->Prop
 | .exit id',s=>if id'=id then K .normal s else K (.exit id') s
 | e,s=>K e s

theorem z16 {id:Nat} {c:Code} (h:GW P C n d ro c s (zey id K)):GW P C n d ro (.block id c) s K:=by
 intro r a W hi
 refine wpIn_block (wpIn_mono (h r a W hi) ?_)
 rintro e a' W' ⟨s',r',k,i⟩
 cases e with
 | exit id' =>
  simp only [Exit.inBlock,zey] at k |-
  split
  ·rename_i h;rw [if_pos h] at k;exact ⟨s',r',k,i⟩
  ·rename_i h;rw [if_neg h] at k;exact ⟨s',r',k,i⟩
 | _=>exact ⟨s',r',k,i⟩

structure Weak (C:Ctx) (s s':GS):Prop where
 ts:∀ t,s'.ts t=zbz\/(s'.ts t=s.ts t/\zap (dom s'.hp) (s'.ts t))
 hp:∀ k,100<=k->s'.hp k=none\/s'.hp k=s.hp k
 ids:∀ k b,s'.hp k=some b->b.ids (dom s'.hp)
 keep:∀ k,100<=k->dom C.hp0 k->s'.hp k=s.hp k
 glob:∀ k,k<100->s'.hp k=C.G k
 yc:s'.yc=s.yc
 free:∀ x,s'.B<=x->s'.hp x=none
 low:100<=s'.B

theorem GI.weak {r:Nat->Nat} {a:Act} {W:World} {s':GS} (h:GI P C n d r s a W) (hw:Weak C s s'):GI P C n d r s' a W:=by
 have hhp:∀ k,s'.hp k=none\/s'.hp k=s.hp k:=λk=>by
  by_cases hk:100<=k
  ·exact hw.hp k hk
  ·exact .inr ((hw.glob k (by omega)).trans (h.ri.glob k (by omega)).symm)
 have sub:∀ k,dom s'.hp k->dom s.hp k:=λk hk=>by
  rcases hhp k with h|h
  ·exact absurd h hk
  ·unfold dom at *;rwa [<-h]
 refine ⟨{ h.ri with rel:=λt=>?_,sat:=λk b hb=>?_,inj:=λk l hk hl=>h.ri.inj k l (sub k hk) (sub l hl),ext:=?_,keep:=λi hi=>?_,glob:=hw.glob,low:=λk hk hd=>h.ri.low k hk (sub k hd) },hw.free,hw.low,h.flat,h.rounds⟩
 ·rcases hw.ts t with e|⟨e,hi⟩
  ·exact .inl e
  ·rcases h.ri.rel t with e'|e'
   ·exact .inl (e.trans e')
   ·exact .inr ⟨by rw [e];exact e'.1,hi⟩
 ·rcases hhp k with e|e
  ·rw [e] at hb;cases hb
  ·exact ⟨(h.ri.sat k b (by rw [<-e];exact hb)).1,hw.ids k b hb⟩
 ·obtain ⟨S,ms,h1,h2,h3,h4⟩:=h.ri.ext
  exact ⟨S,ms,by rw [hw.yc];exact h1,h2,λi hi=>h3 i (sub i hi),h4⟩
 ·have:=h.ri.keep i hi
  exact ⟨by unfold dom;rw [show s'.hp i=s.hp i by
   by_cases h1:100<=i
   ·exact hw.keep i h1 hi
   ·exact (hw.glob i (by omega)).trans (h.ri.glob i (by omega)).symm];exact this.1,this.2⟩

theorem zww {c:Code} {s':GS} (hw:Weak C s s') (h:GW P C n d ro c s' K):GW P C n d ro c s K :=
 λr a W hi=>h r a W (hi.weak hw)

theorem z73 {c:Code} (I:Nat->GS->Prop) {m0:Nat} {s0:GS} (hw:Weak C s s0) (h0:I m0 s0)
  (round:∀ m s,I m s->GW P C n d ro c s (zcy (λs'=>∃ s'' m',Weak C s' s''/\I m' s''/\m'<m) K)):GW P C n d ro (.loop c) s K:=by
 have key:∀ (m:Nat) (s:GS),I m s->∀ r a W,GI P C n d r s a W->∀ (b:Frame) (k:List Item) (cs:List Frame),b.roundOf=ro ->
   (Fs P).fn b.fn->∃ e a' w',(∃ s' r',K e s'/\GI P C n d r' s' a' w')/\ArrivesIn (Machine.fenced P (Fw P ro)) P (lone (b.atR a (.code c::.inLoop c::k)) cs W) b k cs e a' w':=by
  intro m
  induction m using Nat.strongRecOn with
  | _ m ih =>
   intro s hI r a W hi b k cs hro hfn
   obtain ⟨e,a₁,w₁,⟨s',r',hk,hi'⟩,harr⟩:=round m s hI r a W hi b (.inLoop c::k) cs hro hfn (ze4 P _)
   cases e with
   | normal =>
    obtain ⟨s'',m',hw'',hI'',hlt⟩:=hk
    obtain ⟨e₂,a₂,w₂,hq₂,harr₂⟩:=ih m' hlt s'' hI'' r' a₁ w₁ (hi'.weak hw'') b k cs hro hfn
    exact ⟨e₂,a₂,w₂,hq₂,.of_steps (StepsIn.trans harr (.one (fenced_calm (F:=Fw P ro) (n:=0) hfn (ze4 P _) rfl) stepR_inLoop)) harr₂⟩
   | exit id=>exact ⟨_,a₁,w₁,⟨s',r',hk,hi'⟩,.pass (x:=.inLoop c) rfl (λ_ _=>.inl (by simp)) harr⟩
   | goto l=>exact ⟨_,a₁,w₁,⟨s',r',hk,hi'⟩,.pass (x:=.inLoop c) rfl (λ_ _=>.inl (by simp)) harr⟩
   | ret=>exact ⟨_,a₁,w₁,⟨s',r',hk,hi'⟩,.pass (x:=.inLoop c) rfl (λ_ _=>.inl (by simp)) harr⟩
   | panic ch=>exact ⟨_,a₁,w₁,⟨s',r',hk,hi'⟩,.pass (x:=.inLoop c) rfl (λ_ _=>.inl (by simp)) harr⟩
   | outgrown=>exact ⟨_,a₁,w₁,⟨s',r',hk,hi'⟩,.pass (x:=.inLoop c) rfl (λ_ _=>.inl (by simp)) harr⟩
 intro r a W hi b k cs hro hb hr
 obtain ⟨e,a',w',hq,harr⟩:=key m0 s0 h0 r a W (hi.weak hw) b k cs hro hb
 exact ⟨e,a',w',hq,.of_steps (.one (fenced_calm hb hr rfl) stepR_loop) harr⟩

theorem zb3 {c:Code} (N:Nat) (St:Nat->GS) (hw:Weak C s (St 0)) (round:∀ i,i<N->GW P C n d ro c (St i) (zcy (λs'=>Weak C s' (St (i+1))) K))
  (last:GW P C n d ro c (St N) (zcy (λ_=>False) K)):GW P C n d ro (.loop c) s K:=by
 refine z73 (m0:=N) (λm s=>∃ i,i+m=N/\s=St i) hw ⟨0,by omega,rfl⟩ ?_
 rintro m _ ⟨i,hi,rfl⟩
 cases m with
 | zero =>
  obtain rfl:i=N:=by omega
  refine zdu last λe s h=>?_
  cases e<;>first|exact h|exact h.elim
 | succ m =>
  refine zdu (round i (by omega)) λe s h=>?_
  cases e<;>first|exact h|exact ⟨St (i+1),m,h,⟨i+1,by omega,rfl⟩,by omega⟩

theorem zrx {b:Frame} {a:Act} {c:Code} {k:List Item} {cs:List Frame} {w:World}:step P (lone (b.atR a (.code (.scope c)::k)) cs w)=.next (lone (b.atR a (.code c::.inScope c::k)) cs w):=by
 exact step_lone_go (by simp [stepG,stepG.exec,Frame.atR])
theorem znr {b:Frame} {a:Act} {c:Code} {k:List Item} {cs:List Frame} {w:World}:step P (lone (b.atR a (.inScope c::k)) cs w)=.next (lone (b.atR a k) cs w):=by
 exact step_lone_go (by simp [stepG,stepG.exec,Frame.atR])
def ziw (l:Nat) (J:GS->Prop) (K:Exit->GS->Prop):Exit->GS->Prop
 | .goto l',s=>l'=l/\J s
 | e,s=>K e s
theorem z18 {c rest:Code} (l:Nat) (I:Nat->GS->Prop) (hfl:findLabel c l=some rest) (first:GW P C n d ro c s (ziw l (λs'=>∃ s'' m',Weak C s' s''/\I m' s'') K))
  (pass:∀ m s,I m s->GW P C n d ro rest s (ziw l (λs'=>∃ s'' m',Weak C s' s''/\I m' s''/\m'<m) K)):GW P C n d ro (.scope c) s K:=by
 intro r a W hi b k cs hro hb hr
 have hg:gotoIn l (.inScope c::k)=some (.code rest::.inScope c::k):=by simp [gotoIn,hfl]
 have sIn:∀ {a W},StepsIn (Machine.fenced P (Fw P ro)) P (lone (b.atR a (.inScope c::k)) cs W) (lone (b.atR a k) cs W):=λ{a W} =>
  .one (fenced_calm (F:=Fw P ro) (n:=0) hb (ze4 P _) rfl) znr
 have s0:StepsIn (Machine.fenced P (Fw P ro)) P (lone (b.atR a (.code (.scope c)::k)) cs W) (lone (b.atR a (.code c::.inScope c::k)) cs W) :=
  .one (fenced_calm (F:=Fw P ro) (n:=0) hb (ze4 P _) rfl) zrx
 have key:∀ (m:Nat) (s:GS),I m s->∀ r a W,GI P C n d r s a W ->
   ∃ e a' w',(∃ s' r',K e s'/\GI P C n d r' s' a' w')/\ArrivesIn (Machine.fenced P (Fw P ro)) P (lone (b.atR a (.code rest::.inScope c::k)) cs W) b k cs e a' w':=by
  intro m
  induction m using Nat.strongRecOn with
  | _ m ih =>
   intro s hI r a W hi
   obtain ⟨e,a₁,w₁,⟨s',r',hk,hi'⟩,harr⟩:=pass m s hI r a W hi b (.inScope c::k) cs hro hb hr
   cases e with
   | normal=>exact ⟨.normal,a₁,w₁,⟨s',r',hk,hi'⟩,StepsIn.trans harr sIn⟩
   | goto l' =>
    obtain ⟨rfl,s'',m',hw,hI',hlt⟩:=hk
    obtain ⟨e₂,a₂,w₂,hq₂,harr₂⟩:=ih m' hlt s'' hI' r' a₁ w₁ (hi'.weak hw)
    exact ⟨e₂,a₂,w₂,hq₂,.of_steps (harr.1 _ hg) harr₂⟩
   | exit id=>exact ⟨_,a₁,w₁,⟨s',r',hk,hi'⟩,λk' hk=>harr.1 k' (by simp [exitTo,hk]),λhr' hk=>harr.2 hr' (by simpa [exitTo] using hk)⟩
   | ret=>exact ⟨_,a₁,w₁,⟨s',r',hk,hi'⟩,harr⟩
   | panic ch=>exact ⟨_,a₁,w₁,⟨s',r',hk,hi'⟩,harr⟩
   | outgrown=>exact ⟨_,a₁,w₁,⟨s',r',hk,hi'⟩,harr⟩
 obtain ⟨e,a₁,w₁,⟨s',r',hk,hi'⟩,harr⟩:=first r a W hi b (.inScope c::k) cs hro hb hr
 cases e with
 | normal=>exact ⟨.normal,a₁,w₁,⟨s',r',hk,hi'⟩,StepsIn.trans s0 (StepsIn.trans harr sIn)⟩
 | goto l' =>
  obtain ⟨rfl,s'',m',hw,hI'⟩:=hk
  obtain ⟨e₂,a₂,w₂,hq₂,harr₂⟩:=key m' s'' hI' r' a₁ w₁ (hi'.weak hw)
  exact ⟨e₂,a₂,w₂,hq₂,.of_steps (StepsIn.trans s0 (harr.1 _ hg)) harr₂⟩
 | exit id=>exact ⟨_,a₁,w₁,⟨s',r',hk,hi'⟩,.of_steps s0 (e:=.exit id) ⟨λk' hk=>harr.1 k' (by simp [exitTo,hk]),λhr' hk=>harr.2 hr' (by simpa [exitTo] using hk)⟩⟩
 | ret=>exact ⟨_,a₁,w₁,⟨s',r',hk,hi'⟩,.of_steps s0 harr⟩
 | panic ch=>exact ⟨_,a₁,w₁,⟨s',r',hk,hi'⟩,.of_steps s0 harr⟩
 | outgrown=>exact ⟨_,a₁,w₁,⟨s',r',hk,hi'⟩,.of_steps s0 harr⟩

def zh9 (l:List Oper) (ts:Nat->Value):Nat->Value:=λt=>if l.any (λo=>o.dst==some t) then zbz else ts t
theorem GI.panicked {l:List Oper} {r r':Nat->Nat} {a a':Act} {W W':World} {ts':Nat->Value} {hp':Hp} {yc':Nat} (h0:GI P C n d r s a W) (hs:∀ k b,s.hp k=some b->hp' k=some b) (hts:∀ t,(∀ o∈l,o.dst≠some t)->ts' t=s.ts t) (h:RI C n d r' ts' hp' yc' a' W') :
  GI P C n d r' ⟨zh9 l s.ts,s.hp,s.B,yc'⟩ a' W':=by
 have sub:∀ k,dom s.hp k->dom hp' k:=λk hk=>by
  unfold dom at *
  cases hb:s.hp k with
  | none=>exact absurd hb hk
  | some b=>rw [hs k b hb];simp
 exact ⟨{ h with
  rel:=λt=>by
   show (if l.any (λo=>o.dst==some t) then zbz else s.ts t)=zbz\/_
   cases hd:l.any (λo=>o.dst==some t) with
   | true=>exact .inl rfl
   | false =>
    have ht:=hts t (λo ho e=>by
     have:=List.any_eq_false.1 hd o ho
     rw [e] at this;simp at this)
    rcases h0.ri.rel t with e|e
    ·exact .inl e
    ·rcases h.rel t with e'|e'
     ·exact .inl (ht.symm.trans e')
     ·refine .inr ⟨?_,?_⟩
      ·rw [e'.1,ht];simp [zh9,hd]
      ·simp only [zh9,hd];exact e.2
  sat:=λk b hk=>⟨(h.sat k b (hs k b hk)).1,(h0.ri.sat k b hk).2⟩
  inj:=λk l hk hl=>h.inj k l (sub k hk) (sub l hl)
  ext:=by
   obtain ⟨S,ms,h1,h2,h3,h4⟩:=h.ext
   exact ⟨S,ms,h1,h2,λi hi=>h3 i (sub i hi),h4⟩
  keep:=λi hi=>⟨(h0.ri.keep i hi).1,(h.keep i hi).2⟩
  glob:=h0.ri.glob
  low:=λk hk hd=>h.low k hk (sub k hd) },h0.free,h0.low,h0.flat,h0.rounds⟩

theorem z70 {id:Nat} {l:List Oper} (pn:List FuncId) (hm:P.follows .mixedOrders=true) (hB:Region.lexFrom .any l.toArray l.length 0 (Array.replicate l.length false)=true) (hdst:(zhd n l&&zrz P l)=true)
  (h:∀ (Q:(Nat->Value)->Hp->Tr->Nat->Prop) (Qp:Value->Tr->Prop),(∀ ts hp tr yc,chk .any l.toArray tr=true->K .normal ⟨ts,hp,s.B+8*l.length,yc⟩->Q ts hp tr yc) ->
   (∀ pv tr,chk .any l.toArray tr=true->(∀ yc,K (.panic [{ v:=pv,recovered:=false }]) ⟨zh9 l s.ts,s.hp,s.B,yc⟩)->Qp pv tr)->zji P C.G ⟨C.Y,pn,true⟩ l.toArray s.B Q Qp 0 l s.ts s.hp [] s.yc false false):GW P C n d ro (.region id l.toArray true) s K:=by
 intro r a W hi
 simp only [Bool.and_eq_true] at hdst
 replace h:=h (λts hp tr yc=>chk .any l.toArray tr=true/\K .normal ⟨ts,hp,s.B+8*l.length,yc⟩) (λpv tr=>chk .any l.toArray tr=true/\∀ yc,K (.panic [{ v:=pv,recovered:=false }]) ⟨zh9 l s.ts,s.hp,s.B,yc⟩) (λ_ _ _ _ a b=>⟨a,b⟩) (λ_ _ a b=>⟨a,b⟩)
 have hw:=zi0 (P:=P) (G:=C.G) (V:=⟨C.Y,pn,true⟩) (base:=s.B) (K:=λts hp yc=>K .normal ⟨ts,hp,s.B+8*l.length,yc⟩) (Kp:=λpv=>∀ yc,K (.panic [{ v:=pv,recovered:=false }]) ⟨zh9 l s.ts,s.hp,s.B,yc⟩) hi.flat hi.low rfl l 0 s.ts s.hp [] s.yc false false (λ_=>([],[])) hi.ri.glob (by simpa using hi.free) (λ_=>.inl rfl) (λ_ _=>rfl) (zg0 hdst.2) h
 refine zrt (z3y hi.flat hi.rounds) zs8 hm hB hdst.1 hi.ri hw ?_ ?_ ?_
 ·rintro s' hk hpn r' a' W' hi'
  obtain ⟨hk,hf⟩:=hk.1 hpn
  exact ⟨⟨s'.ts,s'.hp,s.B+8*l.length,s'.yc⟩,r',hk,hi',by simpa using hf,by have:=hi.low;simp;omega,hi.flat,hi.rounds⟩
 ·intro s' pv hk hpn _ r' a' W' ts' hp' yc' hs hts hi'
  exact ⟨_,r',(hk.2 pv hpn).2 yc',hi.panicked hs hts hi'⟩
 ·intro s' hk hpn
  cases hp:s'.pn with
  | none=>exact absurd hp hpn
  | some pv=>exact (hk.2 pv hp).1

theorem zfl {ops:Array Oper} {base:Nat} {pn:List FuncId} {Q:Exit->Act->World->Prop} {Kn:(Nat->Value)->Hp->Nat->Prop} {Kp:Value->Prop} {hp0:Hp} {ts0:Nat->Value} {l0:List Oper} (hGF:zbm C.G) (hR:∀ y,C.Y=some y->zgg P C.G C.E y) (hb:100<=base):∀ (l:List Oper) (k:Nat) (ts:Nat->Value) (hp:Hp) (tr:Tr) (yc:Nat) (wr yd:Bool) (r:Nat->Nat) (a:Act) (W:World),
  (∀ o∈l,(((∀ dd,o.dst=some dd->dd<n)/\∀ c,o.op≠.defer c)/\unC P o)/\o∈l0)->(∀ t,(∀ o∈l0,o.dst≠some t)->ts t=ts0 t)->RI C n d r ts hp yc a W->(∀ x,base+8*k<=x->hp x=none)->(wr=false->∀ k b,hp0 k=some b->hp k=some b) ->
  (∀ ts hp yc r a W,Kn ts hp yc->RI C n d r ts hp yc a W->(∀ x,base+8*(k+l.length)<=x->hp x=none)->Q .normal a W) ->
  (∀ pv ts hp yc r a W,Kp pv->(∀ k b,hp0 k=some b->hp k=some b)->(∀ t,(∀ o∈l0,o.dst≠some t)->ts t=ts0 t)->RI C n d r ts hp yc a W->Q (.panic [{ v:=pv,recovered:=false }]) a W) ->
  zji P C.G ⟨C.Y,pn,false⟩ ops base (λts hp _ yc=>Kn ts hp yc) (λpv _=>Kp pv) k l ts hp tr yc wr yd->wpListIn (Fw P ro) 0 P ops Q l a W
 | [],k,ts,hp,tr,yc,wr,yd,r,a,W,_,_,hi,hn,_,hQ,_,h=>hQ ts hp yc r a W h hi (by simpa using hn)
 | o::l,k,ts,hp,tr,yc,wr,yd,r,a,W,hd,hts,hi,hn,hs0,hQ,hQp,h=>by
  have hlen:k+(o::l).length=(k+1)+l.length:=by simp;omega
  rw [hlen] at hQ
  refine wpListIn_step λK hK=>?_
  simp only [zji] at h
  cases hw:zc0 ops o ts with
  | none=>rw [hw] at h;exact h.elim
  | some b =>
   rw [hw] at h
   rw [zg6 hi.rel hw]
   cases b with
   | true =>
    simp only at h
    simp only [if_true]
    obtain ⟨e,h1,hs,hyd,h3⟩:=zgt hGF hi.glob h
    have hs1:(wr||!e.ws.isEmpty)=false->∀ k b,hp0 k=some b->zaw hp (e.ws++e.ns) k=some b:=λhwr k' b hk'=>by
     simp only [Bool.or_eq_false_iff] at hwr
     have e0:e.ws=[]:=by have:=hwr.2;simpa using this
     have hh:=hs0 hwr.1 k' b hk'
     rw [e0,List.nil_append,zbb (λhm=>by have:=hs.ns k' hm;rw [hn k' (by omega)] at hh;cases hh)]
     exact hh
    refine z3y hGF hR o e ts hp yc r a W 0 _ _ hi (hd o (by simp)).1.1 h1 (λx hx=>(hs.ws x hx).2) (λx hx=>?_) (λr' a' W' hpn hi'=>hK _ _ ?_) (λpv W' yc' hpn hi'=>?_)
    ·have:=hs.ns x hx;exact ⟨hn x (by omega),by omega⟩
    ·rw [hpn] at h3
     refine zfl hGF hR hb l (k+1) _ _ _ _ _ _ r' a' W' (λo ho=>hd o (List.mem_cons_of_mem _ ho)) (λt ht=>(zel (ht o (hd o (by simp)).2)).trans (hts t ht)) hi' (λx hx=>?_) hs1 hQ hQp h3
     rw [zbb (λhm=>?_)]
     ·exact hn x (by omega)
     ·have:x∈zab e.ws\/x∈zab e.ns:=by simpa [zab] using hm
      rcases this with h|h
      ·exact (hs.ws x h).2.1 (hn x (by omega))
      ·have:=hs.ns x h;omega
    ·rw [hpn] at h3
     obtain ⟨_,hwr,hkp⟩:=h3
     simp only [Bool.or_eq_false_iff] at hwr
     exact hQp pv ts hp yc' r a W' hkp (hs0 hwr.1) hts hi'
   | false =>
    simp only at h
    simp only [Bool.false_eq_true,if_false]
    exact ⟨zs8 (Y:=none) o ts r _ a W hi.rel ⟨h.1,(hd o (by simp)).1.2⟩,hK _ _ (zfl hGF hR hb l (k+1) _ _ _ _ _ _ r _ W (λo ho=>hd o (List.mem_cons_of_mem _ ho)) (λt ht=>(zel (ht o (hd o (by simp)).2)).trans (hts t ht)) (hi.put_undef (hd o (by simp)).1.1.1) (λx hx=>hn x (by omega)) hs0 hQ hQp h.2)⟩

theorem zwt {id:Nat} {l:List Oper} (pn:List FuncId) (hdst:(zhd n l&&zrz P l)=true) (h:∀ (Q:(Nat->Value)->Hp->Tr->Nat->Prop) (Qp:Value->Tr->Prop),(∀ ts hp tr yc,K .normal ⟨ts,hp,s.B+8*l.length,yc⟩->Q ts hp tr yc) ->
   (∀ pv tr,(∀ yc,K (.panic [{ v:=pv,recovered:=false }]) ⟨zh9 l s.ts,s.hp,s.B,yc⟩)->Qp pv tr)->zji P C.G ⟨C.Y,pn,false⟩ l.toArray s.B Q Qp 0 l s.ts s.hp [] s.yc false false):GW P C n d ro (.region id l.toArray false) s K:=by
 intro r a W hi
 simp only [Bool.and_eq_true] at hdst
 replace h:=h (λts hp _ yc=>K .normal ⟨ts,hp,s.B+8*l.length,yc⟩) (λpv _=>∀ yc,K (.panic [{ v:=pv,recovered:=false }]) ⟨zh9 l s.ts,s.hp,s.B,yc⟩) (λ_ _ _ _ a=>a) (λ_ _ a=>a)
 refine wpIn_region_lit (zfl (Kn:=λts hp yc=>K .normal ⟨ts,hp,s.B+8*l.length,yc⟩) (Kp:=λpv=>∀ yc,K (.panic [{ v:=pv,recovered:=false }]) ⟨zh9 l s.ts,s.hp,s.B,yc⟩) (hp0:=s.hp) (ts0:=s.ts) (l0:=l) hi.flat hi.rounds hi.low l 0 s.ts s.hp [] s.yc false false r a W (λo ho=>⟨⟨zfm hdst.1 ho,zg0 hdst.2 o ho⟩,ho⟩) (λ_ _=>rfl) hi.ri (by simpa using hi.free) (λ_ _ _ h=>h) ?_ ?_ h)
 ·intro ts hp yc r' a' W' hk hi' hf
  exact ⟨⟨ts,hp,s.B+8*l.length,yc⟩,r',hk,hi',by simpa using hf,by have:=hi.low;simp;omega,hi.flat,hi.rounds⟩
 ·intro pv ts hp yc r' a' W' hk hs hts hi'
  exact ⟨_,r',hk yc,hi.panicked hs hts hi'⟩

def znk (P:Program) (ts:Nat->Value) (hp:Hp):ResultVar->Option Value
 | .tmp t=>if zd0 (ts t) then some (ts t) else none
 | .cell t T=>match ts t with
  | .pointer (some ⟨k,off,none⟩)=>match hp k with
   | some b=>match zds P T b off with
    | some v=>if zd0 v then some v else none
    | none=>none
   | none=>none
  | _=>none
def zjq (P:Program) (ts:Nat->Value) (hp:Hp):List ResultVar->Option (List Value)
 | []=>some []
 | x::l=>match znk P ts hp x with
  | some v=>match zjq P ts hp l with
   | some vs=>some (v::vs)
   | none=>none
  | none=>none
def znj (P:Program) (rs:List ResultVar) (ts:Nat->Value) (hp:Hp):Option Value :=
 match zjq P ts hp rs with
 | some [v]=>some v
 | some vs=>some (.tuple vs.toArray)
 | none=>none

def zpk (tmps:Array Value):ResultVar->Sem Value
 | .tmp t=>pure (tmps.getD t undef)
 | .cell a t=>do loadVar t (<-asAddr (tmps.getD a undef))
theorem zvp (fn:Func) (tmps:Array Value):results fn tmps=(do let vs <-fn.results.mapM (zpk tmps);pure (if h:vs.size=1 then vs[0] else .tuple vs)):=by
 unfold results
 congr 2

theorem z0r {r:Nat->Nat} {D:Nat->Prop} {ts:Nat->Value} {hp:Hp} {a:Act} {W:World} (h:Rel r D ts a) (hs:Sat r D hp W) {x:ResultVar} {v:Value} (hv:znk P ts hp x=some v) :
  (zpk a.tmps x).run P W=.ok (ren r v) W/\zd0 v=true:=by
 cases x with
 | tmp t =>
  simp only [znk] at hv
  split at hv
  ·rename_i hn
   cases hv
   have:=(h t).resolve_left (by intro e;rw [e] at hn;simp [zd0,zbz] at hn)
   exact ⟨by simp only [zpk,Sem.run_pure,this.1],hn⟩
  ·cases hv
 | cell t T =>
  simp only [znk] at hv
  split at hv
  ·rename_i k off hg
   split at hv
   ·rename_i b hb
    split at hv
    ·rename_i u hu
     split at hv
     ·rename_i hn
      cases hv
      have h1:=(h t).resolve_left (by rw [hg];simp [zbz])
      rw [hg] at h1
      have h3:a.tmps.getD t undef=.pointer (some ⟨r k,off,none⟩):=h1.1
      refine ⟨?_,hn⟩
      simp only [zpk,h3,asAddr]
      have:=zil hu (hs k b hb).1
      simpa using this
     ·cases hv
    ·cases hv
   ·cases hv
  ·cases hv

theorem zpt {r:Nat->Nat} {D:Nat->Prop} {ts:Nat->Value} {hp:Hp} {a:Act} {W:World} (h:Rel r D ts a) (hs:Sat r D hp W):∀ (l:List ResultVar) (vs:List Value),zjq P ts hp l=some vs ->
  (l.mapM (zpk a.tmps)).run P W=.ok (vs.map (ren r)) W/\∀ v∈vs,zd0 v=true
 | [],vs,hv=>by simp only [zjq,Option.some.injEq] at hv;subst hv;simp
 | x::l,vs,hv=>by
  simp only [zjq] at hv
  split at hv
  ·rename_i v h1
   split at hv
   ·rename_i us h2
    cases hv
    have e1:=z0r h hs h1
    have e2:=zpt h hs l us h2
    refine ⟨?_,λu hu=>?_⟩
    ·rw [List.mapM_cons,Sem.run_bind,e1.1]
     simp only [Result.andThen_ok,Sem.run_bind,e2.1,Sem.run_pure,List.map_cons]
    ·rcases List.mem_cons.1 hu with rfl|hu
     ·exact e1.2
     ·exact e2.2 u hu
   ·cases hv
  ·cases hv

theorem zvo {r:Nat->Nat} {v:Value} (h:zd0 v=true):ren r v=zas r v:=by cases v<;>simp_all [zd0,ren]

theorem zem {fn:Func} {r:Nat->Nat} {D:Nat->Prop} {ts:Nat->Value} {hp:Hp} {a:Act} {W:World} (h:Rel r D ts a) (hs:Sat r D hp W) {v:Value} (hv:znj P fn.results.toList ts hp=some v):(results fn a.tmps).run P W=.ok (ren r v) W:=by
 unfold znj at hv
 have key:∀ vs,zjq P ts hp fn.results.toList=some vs->(results fn a.tmps).run P W=.ok (if h:(vs.map (ren r)).toArray.size=1 then (vs.map (ren r)).toArray[0] else .tuple (vs.map (ren r)).toArray) W/\∀ v∈vs,zd0 v=true:=λvs hvs=>by
  have e:=zpt h hs _ _ hvs
  refine ⟨?_,e.2⟩
  rw [zvp,Array.mapM_eq_mapM_toList]
  simp only [Sem.run_bind,Sem.run_map,e.1,Result.andThen_ok,Sem.run_pure]
 split at hv
 ·rename_i u hu
  cases hv
  have:=(key _ hu).1
  simpa using this
 ·rename_i vs hn hu
  cases hv
  have e:=key _ hu
  rw [e.1]
  have hlen:vs.length≠1:=λhl=>by
   match vs,hl with
   | [u],_=>exact hn u rfl
  rw [dif_neg (by simpa using hlen)]
  simp only [ren]
  congr 2
  apply Array.ext'
  simp only [Array.toList_map]
  exact List.map_congr_left λv hv=>zvo (e.2 v hv)
 ·cases hv

theorem zdx {n:Nat} {fn:Func} {tmps:Array Value} {R:Ending->World->Prop} {u:FrameMode} (hu:u≠.run):∀ (ms:List Nat) (W:World),ms.Nodup->(∀ D∈ms,W.heap[D]? = some (.deferred (some []))) ->
  (∀ W':World,W'.heap.size=W.heap.size->W'.os=W.os->W'.tape=W.tape->W'.output=W.output->(∀ k,k∉ms->W'.heap[k]? = W.heap[k]?)->LeavesIn (Fw P none) n P fn tmps R [] u W')->LeavesInM (Fw P none) n P fn tmps R (ms.map z3x) u W
 | [],W,_,_,h=>h W rfl rfl rfl rfl λ_ _=>rfl
 | D::ms,W,hn,hd,h=>by
  have hD:=hd D (by simp)
  have hn':=List.nodup_cons.1 hn
  refine ⟨hu,.inl ⟨D,_,rfl,run_takeDeferred hD,zdx hu ms _ hn'.2 (λE hE=>?_) λW' e1 e2 e3 e4 e5=>h W' ?_ e2 e3 e4 λk hk=>?_⟩⟩
  ·rw [World.putObj_heap_other (λe=>hn'.1 (by rw [<-e];exact hE))];exact hd E (List.mem_cons_of_mem _ hE)
  ·rw [e1,zcr]
  ·simp only [List.mem_cons,not_or] at hk
   rw [e5 k hk.2,World.putObj_heap_other (λe=>hk.1 e)]

def zff (W:World) (D:Nat->Prop):Ext where
 X _ S W':=(∀ k,S k↔k<W.heap.size/\¬D k)/\W'.os=W.os/\W'.tape=W.tape/\W'.output=W.output/\W.heap.size<=W'.heap.size/\∀ k,S k->W'.heap[k]? = W.heap[k]?
 ok _ _ _ _ h hs os tape output size:=⟨h.1,os.trans h.2.1,tape.trans h.2.2.1,output.trans h.2.2.2.1,Nat.le_trans h.2.2.2.2.1 size,λk hk=>(hs k hk).trans (h.2.2.2.2.2 k hk)⟩

def jmm (P:Program) (fn:Func) (hp:Hp) (res:Res) (e:Exit) (s:GS):Prop :=
 match res with
 | .ret v ws=>(e=.normal\/e=.ret)/\znj P fn.results.toList s.ts s.hp=some v/\∀ k,dom hp k->s.hp k=zaw hp ws k
 | .pan v=>e=.panic [{ v:=v,recovered:=false }]/\∀ k,dom hp k->s.hp k=hp k
 | .new _ _=>False

theorem zpy:∀ {ws:List (Nat×Blk)} {hp:Hp} {p:Nat×Blk},p∈ws->(∀ k b c,(k,b)∈ws->(k,c)∈ws->b=c)->zaw hp ws p.1=some p.2:=λ{ws hp p} hp1 ho=>by
 have hd:dom (zaw hp ws) p.1:=zj5.2 (.inr (zah.2 ⟨p,hp1,rfl⟩))
 unfold dom at hd
 cases hb:zaw hp ws p.1 with
 | none=>exact absurd hb hd
 | some b =>
  rcases ztx hb with ⟨_,h2⟩|h2
  ·exact absurd (zah.2 ⟨p,hp1,rfl⟩) h2
  ·rw [ho p.1 b p.2 h2 hp1]

theorem zfn {f:FuncId} {fn:Func} {c:Code} {args:Array Value} {hp:Hp} {rs:List Nat} {res:Res} {B:Nat} (hGF:zbm G) (hG:∀ k,k<100->hp k=G k) (hf:P.funcs[f]? = some fn) (hb:fn.body=some c) (hcall:∀ a w,(callFunc f a).run P w=.ok (.enter f a) w)
  (ha:∀ x∈args,zap (dom (rst hp rs)) x) (hcl:∀ k b,rst hp rs k=some b->b.ids (dom (rst hp rs))) (hfit:res.fits hp rs) (hn:args.size<=fn.ntmps) (hB:100<=B) (hfree:∀ x,B<=x->rst hp rs x=none)
  (h:∀ C:Ctx,C.G=G->C.hp0=rst hp rs->C.Y=none->GW P C fn.ntmps [] none c ⟨λt=>args.getD t undef,rst hp rs,B,0⟩ (jmm P fn (rst hp rs) res)):Fun P G f args hp rs res:=by
 refine ⟨hcall,ha,hcl,hfit,λr W hgok hsat hinj hlow=>callsIn_of_wp_marks hf hb ⟨fn,hf⟩ ?_⟩
 have ltW:∀ k,dom (rst hp rs) k->r k<W.heap.size:=λk hk=>by
  unfold dom at hk
  cases hb:rst hp rs k with
  | none=>exact absurd hb hk
  | some b=>exact (Array.getElem?_eq_some_iff.1 (hsat k b hb).1).1
 let im:Nat->Prop:=λj=>∃ i,dom (rst hp rs) i/\r i=j
 let C:Ctx:=⟨zff W im,rst hp rs,r,G,none⟩
 have hi:GI P C fn.ntmps [] r ⟨λt=>args.getD t undef,rst hp rs,B,0⟩ { tmps:=args.map (ren r)++Array.replicate (fn.ntmps - (args.map (ren r)).size) undef,defers:=[] } W:=by
  refine ⟨⟨by simp;omega,λt=>?_,hsat,hinj,⟨λk=>k<W.heap.size/\¬im k,[],⟨λ_=>Iff.rfl,rfl,rfl,rfl,Nat.le_refl _,λ_ _=>rfl⟩,λk hk=>hk.1,λi hi _ hS=>hS.2 ⟨i,hi,rfl⟩,⟨rfl,List.nodup_nil⟩,by simp⟩,
   λi hi=>⟨hi,rfl⟩,λk hk=>?_,hlow⟩,hfree,hB,hGF,λy hy=>by cases hy⟩
  ·right
   dsimp only
   by_cases ht:t<args.size
   ·have hm:args[t]∈args:=Array.getElem_mem ht
    have e:args.getD t undef=args[t]:=by simp [Array.getD,ht]
    rw [e]
    refine ⟨?_,ha _ hm⟩
    have:t<(args.map (ren r)).size:=by simpa using ht
    simp [Array.getElem?_append_left this,ht]
   ·have e:args.getD t undef=undef:=by simp [Array.getElem?_eq_none (Nat.le_of_not_lt ht)]
    rw [e]
    refine ⟨?_,zdb _⟩
    rw [zcp]
    simp only [Array.getD_eq_getD_getElem?]
    rw [Array.getElem?_append_right (by simpa using Nat.le_of_not_lt ht),Array.getElem?_replicate]
    split<;>rfl
  ·show rst hp rs k=G k
   simp [rst,hk,hG k hk]
 refine wpIn_mono (h C rfl rfl rfl r _ W hi) ?_
 rintro e a' W' ⟨s',r',hres,hi'⟩
 obtain ⟨S,ms,⟨hS,os,tape,output,size,hsame⟩,hS1,hS2,⟨hdef,hnd⟩,hms⟩:=hi'.ri.ext
 have hkeep:∀ i,dom (rst hp rs) i->dom s'.hp i/\r' i=r i:=hi'.ri.keep
 have hobj:∀ b:Blk,b.ids (dom (rst hp rs))->b.obj r'=b.obj r:=λb hb=>Blk.obj_congr (λk hk=>(hkeep k hk).2) hb
 -- the blocks of what was there
 have old:∀ W'':World,(∀ k,k∉ms->W''.heap[k]? = W'.heap[k]?)->∀ k,k<W.heap.size->¬im k->W''.heap[k]? = W.heap[k]?:=λW'' hW k hk hi=>by
  have hSk:S k:=(hS k).2 ⟨hk,hi⟩
  rw [hW k (λhm=>(hms k hm).2.1 hSk)]
  exact hsame k hSk
 have mine:∀ W'':World,(∀ k,k∉ms->W''.heap[k]? = W'.heap[k]?)->∀ i b,s'.hp i=some b->W''.heap[r' i]? = some (b.obj r'):=λW'' hW i b hb=>by
  rw [hW _ (λhm=>hi'.ri.ne_mark (by unfold dom;rw [hb];simp) (hms _ hm).1 rfl)]
  exact (hi'.ri.sat i b hb).1
 cases res with
 | ret v ws =>
  obtain ⟨he,hr,hhp⟩:=hres
  have hend:∀ W'':World,W''.heap.size=W'.heap.size->W''.os=W'.os->W''.tape=W'.tape->W''.output=W'.output->(∀ k,k∉ms->W''.heap[k]? = W'.heap[k]?) ->
    LeavesIn (Fw P none) 0 P fn a'.tmps ((Res.ret v ws).holds r (dom (rst hp rs)) W) [] .returning W'':=λW'' e1 e2 e3 e4 e5=>by
   have hsat':Sat r' (dom s'.hp) s'.hp W'':=λk b hk=>⟨mine W'' e5 k b hk,(hi'.ri.sat k b hk).2⟩
   have hrun:=zem (fn:=fn) hi'.ri.rel hsat' hr
   rw [zc6 (λk hk=>(hkeep k hk).2) hfit.1] at hrun
   refine ⟨_,hrun,rfl,?_⟩
   refine ⟨e2.trans os,e3.trans tape,e4.trans output,by rw [e1];exact size,λk hk hnw=>?_,λp hp1=>?_,by simp,by simp⟩
   ·by_cases hk':im k
    ·obtain ⟨i,hi1,rfl⟩:=hk'
     have hiw:i∉zab ws:=λhm=>by obtain ⟨p,hp1,rfl⟩:=zah.1 hm;exact hnw p hp1 rfl
     cases hb:rst hp rs i with
     | none=>exact absurd hb hi1
     | some b =>
      have e:s'.hp i=some b:=by rw [hhp i hi1,zbb hiw];exact hb
      have:=mine W'' e5 i b e
      rw [(hkeep i hi1).2,hobj b (hcl i b hb)] at this
      rw [this,(hsat i b hb).1]
    ·exact old W'' e5 k hk hk'
   ·simp only [List.append_nil] at hp1
    have hk:=hfit.2.1 p.1 (zah.2 ⟨p,hp1,rfl⟩)
    have hdm:dom (rst hp rs) p.1:=by unfold dom rst at *;simp [hk.1];exact hk.2.1
    have e:s'.hp p.1=some p.2:=by rw [hhp _ hdm];exact zpy hp1 hfit.2.2.1
    have:=mine W'' e5 _ _ e
    have hid:=hfit.2.2.2 p hp1
    rw [(hkeep _ hdm).2,hobj _ hid] at this
    exact ⟨this,Blk.ids_mono (λk hk=>.inl hk) hid⟩
  rcases he with rfl|rfl
  ·show LeavesInM _ _ _ _ _ _ a'.defers _ _
   rw [hdef,List.append_nil]
   exact zdx (by simp) ms W' hnd (λD hD=>(hms D hD).1) hend
  ·show LeavesInM _ _ _ _ _ _ a'.defers _ _
   rw [hdef,List.append_nil]
   exact zdx (by simp) ms W' hnd (λD hD=>(hms D hD).1) hend
 | new v ns=>exact hres.elim
 | pan v =>
  obtain ⟨rfl,hhp⟩:=hres
  show LeavesInM _ _ _ _ _ _ a'.defers _ _
  rw [hdef,List.append_nil]
  refine zdx (by simp) ms W' hnd (λD hD=>(hms D hD).1) λW'' e1 e2 e3 e4 e5=>?_
  refine ⟨rfl,e2.trans os,e3.trans tape,e4.trans output,by rw [e1];exact size,λk hk=>?_⟩
  by_cases hk':im k
  ·obtain ⟨i,hi1,rfl⟩:=hk'
   cases hb:rst hp rs i with
   | none=>exact absurd hb hi1
   | some b =>
    have e:s'.hp i=some b:=by rw [hhp i hi1];exact hb
    have:=mine W'' e5 i b e
    rw [(hkeep i hi1).2,hobj b (hcl i b hb)] at this
    rw [this,(hsat i b hb).1]
  ·exact old W'' e5 k hk hk'

theorem zjr (hGF:zbm G) (rs:List Nat):rst G rs=G:=funext λk=>by
 unfold rst
 split
 ·rfl
 ·rename_i hk
  cases hg:G k with
  | none=>rfl
  | some b=>exact absurd (.inl (hGF k b hg).1) hk

theorem zx5 (hGF:zbm G) {W:World} (h:GOK G W):Sat id (dom G) G W:=λk b hk=>by
 obtain ⟨_,hfl⟩:=hGF k b hk
 refine ⟨?_,Blk.flat_ids hfl⟩
 rw [id,h k b hk]
 rw [Blk.obj_flat (λx hx=>hfl x hx)]

theorem zvq {f:FuncId} {args:Array Value} {v:Value} (hGF:zbm G) (hv:za0 v=true) (ha:∀ x∈args,za0 x=true) (h:Fun P G f args G [] (.ret v [])):Ret P G f args v:=by
 refine ⟨hv,ha,h.enter,λW hW=>?_⟩
 have hrun:=h.run id W hW (by rw [zjr hGF];exact zx5 hGF hW) (λ_ _ _ _ e=>e) (λ_ _ _=>rfl)
 rw [zbn (λx hx=>zax (ha x hx))] at hrun
 refine hrun.mono λe W' ⟨he,ht⟩=>?_
 rw [zax hv] at he
 exact ⟨he,ht.os,ht.tape,ht.output,ht.size,λk hk=>ht.same k hk (by simp)⟩

theorem zav {f:FuncId} {fn:Func} {c:Code} {args:Array Value} {v:Value} (hGF:zbm G) (hf:P.funcs[f]? = some fn) (hb:fn.body=some c) (hcall:∀ a w,(callFunc f a).run P w=.ok (.enter f a) w)
  (hv:za0 v=true) (ha:∀ x∈args,za0 x=true) (hn:args.size<=fn.ntmps)
  (h:∀ C:Ctx,C.G=G->C.hp0=G->C.Y=none->GW P C fn.ntmps [] none c ⟨λt=>args.getD t undef,G,200,0⟩ (λe s=>(e=.normal\/e=.ret)/\znj P fn.results.toList s.ts s.hp=some v)):Ret P G f args v:=by
 refine zvq hGF hv ha (zfn (B:=200) hGF (λ_ _=>rfl) hf hb hcall (λx hx=>zak (ha x hx)) (λk b hk=>?_) ⟨zak hv,by simp [zab],by simp,by simp⟩ hn (by omega) (λx hx=>?_) λC h1 h2 h3=>?_)
 ·rw [zjr hGF] at hk |-
  exact Blk.flat_ids ((hGF k b hk).2)
 ·rw [zjr hGF]
  cases hg:G x with
  | none=>rfl
  | some b=>have:=(hGF x b hg).1;omega
 ·rw [zjr hGF] at h2 |-
  intro r a W hi
  refine wpIn_mono (h C h1 h2 h3 r a W hi) ?_
  rintro e a' W' ⟨s',r',⟨he,hr⟩,hi'⟩
  refine ⟨s',r',⟨he,hr,λk hk=>?_⟩,hi'⟩
  have hlt:k<100:=by
   unfold dom at hk
   cases hg:G k with
   | none=>exact absurd hg hk
   | some b=>exact (hGF k b hg).1
  simp only [zaw]
  rw [hi'.ri.glob k hlt,h1]

theorem zeq {f:FuncId} {fn:Func} {c:Code} {args:Array Value} {oc:Out} (hGF:zbm G) (hf:P.funcs[f]? = some fn) (hb:fn.body=some c) (hcall:∀ a w,(callFunc f a).run P w=.ok (.enter f a) w)
  (hv:∀ v,oc=.ret v->za0 v=true) (ha:∀ x∈args,za0 x=true) (hn:args.size<=fn.ntmps)
  (h:∀ C:Ctx,C.G=G->C.hp0=G->C.Y=none->GW P C fn.ntmps [] none c ⟨λt=>args.getD t undef,G,200,0⟩ (λe s=>match oc with
   | .ret v=>(e=.normal\/e=.ret)/\znj P fn.results.toList s.ts s.hp=some v
   | .pan v=>e=.panic [{ v:=v,recovered:=false }])):zli P G f args oc:=by
 refine ⟨hv,ha,hcall,λW hW=>?_⟩
 have low:∀ k,dom G k->k<100:=λk hk=>by
  unfold dom at hk
  cases hg:G k with
  | none=>exact absurd hg hk
  | some b=>exact (hGF k b hg).1
 cases oc with
 | ret v =>
  have hr:=zav (v:=v) hGF hf hb hcall (hv v rfl) ha hn h
  exact hr.2.2.2 W hW
 | pan v =>
  have hfun:Fun P G f args G [] (.pan v):=by
   refine zfn (B:=200) hGF (λ_ _=>rfl) hf hb hcall (λx hx=>zak (ha x hx)) (λk b hk=>?_) trivial hn (by omega) (λx hx=>?_) λC h1 h2 h3=>?_
   ·rw [zjr hGF] at hk |-
    exact Blk.flat_ids ((hGF k b hk).2)
   ·rw [zjr hGF]
    cases hg:G x with
    | none=>rfl
    | some b=>have:=(hGF x b hg).1;omega
   ·rw [zjr hGF] at h2 |-
    intro r a W hi
    refine wpIn_mono (h C h1 h2 h3 r a W hi) ?_
    rintro e a' W' ⟨s',r',he,hi'⟩
    exact ⟨s',r',⟨he,λk hk=>by rw [hi'.ri.glob k (low k hk),h1]⟩,hi'⟩
  have hrun:=hfun.run id W hW (by rw [zjr hGF];exact zx5 hGF hW) (λ_ _ _ _ e=>e) (λ_ _ _=>rfl)
  rw [zbn (λx hx=>zax (ha x hx))] at hrun
  exact hrun

theorem Ret.unique {f:FuncId} {args:Array Value} {v u:Value} (hW:∃ W,GOK G W) (hi:P.inits.idxOf? f=none) (h:Ret P G f args v) (h':Ret P G f args u):v=u:=by
 obtain ⟨W,hW⟩:=hW
 have mk:∀ {v:Value},Ret P G f args v->∃ k w',runN P k (lone (Frame.enter P f args .normal) [] W)=.ended (.done v) w':=λ{v} h=>by
  have:=(h.2.2.2 W hW).calls.mono (R':=λ| .returned x,_=>x=v|_,_=>False) (λe w' ⟨he,_⟩=>by subst he;rfl)
  obtain ⟨k,x,w',h1,h2⟩:=this.done hi
  exact ⟨k,w',by rw [h1];cases h2;rfl⟩
 obtain ⟨k,w1,h1⟩:=mk h
 obtain ⟨l,w2,h2⟩:=mk h'
 have more:∀ {k:Nat} {x:Value} {w:World},runN P k (lone (Frame.enter P f args .normal) [] W)=.ended (.done x) w->∀ m,runN P (k+m) (lone (Frame.enter P f args .normal) [] W)=.ended (.done x) w:=λ{k x w} hk m=>by
  rw [runN_add,hk]
 have e1:=more h1 l
 have e2:=more h2 k
 rw [Nat.add_comm] at e2
 rw [e1] at e2
 injection e2 with e2
 injection e2

theorem zaf {f:FuncId} {args:Array Value} {v:Value} {K:Value->Prop} (hW:∃ W,GOK G W) (hi:P.inits.idxOf? f=none) (h:Ret P G f args v):za2 P G f args K↔K v:=by
 refine ⟨λ⟨u,hu,hk⟩=>?_,λhk=>⟨v,.inl h,hk⟩⟩
 rcases hu with hu|hu
 ·exact Ret.unique hW hi h hu▸hk
 ·have:=h.2.2.1 args default
  rw [hu.2.2 default] at this
  cases this
theorem zuh {f:FuncId} {args:Array Value} {v:Value} {K:Value->Prop} (h:jhy P f args v):za2 P G f args K↔K v:=by
 refine ⟨λ⟨u,hu,hk⟩=>?_,λhk=>⟨v,.inr h,hk⟩⟩
 rcases hu with hu|hu
 ·have:=hu.2.2.1 args default
  rw [h.2.2 default] at this
  cases this
 ·have:=hu.2.2 default
  rw [h.2.2 default] at this
  injection this with this
  injection this with this
  subst this
  exact hk

end

section
variable {P:Program} {G:Hp}

structure IterX (pn:Option Value) (P:Program) (G:Hp) (f:FuncId) (caps:Array Value) (hp:Hp) (rs:List Nat) (xs:List (Array Value)):Prop where
 enter:∀ a w,(callFunc f a).run P w=.ok (.enter f a) w
 cids:∀ x∈caps,zbs x=true/\zap (dom (rst hp rs)) x
 closed:∀ k b,rst hp rs k=some b->b.ids (dom (rst hp rs))
 run:∀ (E:Ext) (l stop:Nat) r S W,GOK G W->Sat r (dom (rst hp rs)) (rst hp rs) W->Inj r (dom (rst hp rs))->(∀ k,k<100->dom (rst hp rs) k->r k=k)->(pn≠none->stop<xs.length)->zgg P G E ⟨l,xs,stop,pn⟩->E.X 0 S W->(∀ k,S k->k<W.heap.size) ->
  (∀ i,dom (rst hp rs) i->100<=i->¬S (r i)) ->
  zef P f (#[Value.func (.yield l) #[] #[]]++caps.map (ren r)) W λe W'=>match pn with
   | none=>(∃ v,e=.returned v)/\∃ S',E.X (min (stop+1) xs.length) S' W'
   | some pv=>e=.panicked [{ v:=pv,recovered:=false }]/\∃ c S',E.X c S' W'
abbrev zhl (P:Program) (G:Hp) (f:FuncId) (caps:Array Value) (hp:Hp) (rs:List Nat) (xs:List (Array Value)):Prop:=IterX none P G f caps hp rs xs
abbrev z75 (P:Program) (G:Hp) (f:FuncId) (caps:Array Value) (hp:Hp) (rs:List Nat) (xs:List (Array Value)):Prop:=∀ pv,IterX (some pv) P G f caps hp rs xs

theorem zs0 (pn:Option Value) {f:FuncId} {fn:Func} {c:Code} {caps:Array Value} {hp:Hp} {rs:List Nat} {xs:List (Array Value)} {B:Nat} {v:Value} (hGF:zbm G) (hG:∀ k,k<100->hp k=G k) (hf:P.funcs[f]? = some fn) (hb:fn.body=some c) (hcall:∀ a w,(callFunc f a).run P w=.ok (.enter f a) w)
  (ha:∀ x∈caps,zbs x=true/\zap (dom (rst hp rs)) x) (hcl:∀ k b,rst hp rs k=some b->b.ids (dom (rst hp rs))) (hn:caps.size+1<=fn.ntmps) (hB:100<=B) (hfree:∀ x,B<=x->rst hp rs x=none)
  (h:∀ (C:Ctx) (l stop:Nat),C.G=G->C.hp0=rst hp rs->(pn≠none->stop<xs.length)->C.Y=some ⟨l,xs,stop,pn⟩->GW P C fn.ntmps [] none c ⟨λt=>(#[Value.func (.yield l) #[] #[]]++caps).getD t undef,rst hp rs,B,0⟩
   (λe s=>match pn with
    | none=>(e=.normal\/e=.ret)/\znj P fn.results.toList s.ts s.hp=some v/\s.yc=min (stop+1) xs.length
    | some pv=>e=.panic [{ v:=pv,recovered:=false }])):IterX pn P G f caps hp rs xs:=by
 refine ⟨hcall,ha,hcl,λE l stop r S W hgok hsat hinj hlow hlen hR hX hS hdis=>callsIn_of_wp_marks hf hb ⟨fn,hf⟩ ?_⟩
 let C:Ctx:=⟨E,rst hp rs,r,G,some ⟨l,xs,stop,pn⟩⟩
 have hi:GI P C fn.ntmps [] r ⟨λt=>(#[Value.func (.yield l) #[] #[]]++caps).getD t undef,rst hp rs,B,0⟩
   { tmps:=(#[Value.func (.yield l) #[] #[]]++caps.map (ren r))++Array.replicate (fn.ntmps - (#[Value.func (.yield l) #[] #[]]++caps.map (ren r)).size) undef,defers:=[] } W:=by
  have hsz:(#[Value.func (.yield l) #[] #[]]++caps.map (ren r)).size=(#[Value.func (.yield l) #[] #[]]++caps).size:=by simp
  have hmap:#[Value.func (.yield l) #[] #[]]++caps.map (ren r)=(#[Value.func (.yield l) #[] #[]]++caps).map (ren r):=by simp [ren,zas,zan]
  refine ⟨⟨?_,λt=>?_,hsat,hinj,⟨S,[],hX,hS,λi hi h1=>hdis i hi h1,⟨rfl,List.nodup_nil⟩,by simp⟩,λi hi=>⟨hi,rfl⟩,λk hk=>?_,hlow⟩,hfree,hB,hGF,λy hy=>by cases hy;exact hR⟩
  ·simp only [Array.size_append,Array.size_replicate,hsz]
   simp
   omega
  ·right
   dsimp only
   rw [hmap]
   generalize hA:#[Value.func (.yield l) #[] #[]]++caps=A
   have hAi:∀ x∈A,zap (dom (rst hp rs)) x:=λx hx=>by
    rw [<-hA] at hx
    rcases Array.mem_append.1 hx with hx|hx
    ·simp at hx;subst hx;simp [zap,zau,zaj]
    ·exact (ha x hx).2
   by_cases ht:t<A.size
   ·have hm:A[t]∈A:=Array.getElem_mem ht
    have e:A.getD t undef=A[t]:=by simp [Array.getD,ht]
    rw [e]
    refine ⟨?_,hAi _ hm⟩
    have:t<(A.map (ren r)).size:=by simpa using ht
    simp [Array.getElem?_append_left this,ht]
   ·have e:A.getD t undef=undef:=by simp [Array.getElem?_eq_none (Nat.le_of_not_lt ht)]
    rw [e]
    refine ⟨?_,zdb _⟩
    rw [zcp]
    simp only [Array.getD_eq_getD_getElem?]
    rw [Array.getElem?_append_right (by simpa using Nat.le_of_not_lt ht),Array.getElem?_replicate]
    split<;>rfl
  ·show rst hp rs k=G k
   simp [rst,hk,hG k hk]
 refine wpIn_mono (h C l stop rfl rfl hlen rfl r _ W hi) ?_
 rintro e a' W' ⟨s',r',hres,hi'⟩
 obtain ⟨S',ms,hX',hS1,hS2,⟨hdef,hnd⟩,hms⟩:=hi'.ri.ext
 cases pn with
 | none =>
  obtain ⟨he,hr,hy⟩:=hres
  have hend:∀ W'':World,W''.heap.size=W'.heap.size->W''.os=W'.os->W''.tape=W'.tape->W''.output=W'.output->(∀ k,k∉ms->W''.heap[k]? = W'.heap[k]?) ->
    LeavesIn (Fw P none) 0 P fn a'.tmps (λe W'=>(∃ v,e=.returned v)/\∃ S',E.X (min (stop+1) xs.length) S' W') [] .returning W'':=λW'' e1 e2 e3 e4 e5=>by
   have hsat':Sat r' (dom s'.hp) s'.hp W'':=λk b hk=>⟨by
    rw [e5 _ (λhm=>hi'.ri.ne_mark (by unfold dom;rw [hk];simp) (hms _ hm).1 rfl)]
    exact (hi'.ri.sat k b hk).1,(hi'.ri.sat k b hk).2⟩
   refine ⟨_,zem (fn:=fn) hi'.ri.rel hsat' hr,⟨_,rfl⟩,S',?_⟩
   rw [<-hy]
   exact E.ok _ _ _ _ hX' (λk hk=>e5 k λhm=>(hms k hm).2.1 hk) e2 e3 e4 (by rw [e1];exact Nat.le_refl _)
  rcases he with rfl|rfl
  ·show LeavesInM _ _ _ _ _ _ a'.defers _ _
   rw [hdef,List.append_nil]
   exact zdx (by simp) ms W' hnd (λD hD=>(hms D hD).1) hend
  ·show LeavesInM _ _ _ _ _ _ a'.defers _ _
   rw [hdef,List.append_nil]
   exact zdx (by simp) ms W' hnd (λD hD=>(hms D hD).1) hend
 | some pv =>
  subst hres
  show LeavesInM _ _ _ _ _ _ a'.defers _ _
  rw [hdef,List.append_nil]
  refine zdx (by simp) ms W' hnd (λD hD=>(hms D hD).1) λW'' e1 e2 e3 e4 e5=>?_
  exact ⟨rfl,_,S',E.ok _ _ _ _ hX' (λk hk=>e5 k λhm=>(hms k hm).2.1 hk) e2 e3 e4 (by rw [e1];exact Nat.le_refl _)⟩
theorem zm9 {f:FuncId} {fn:Func} {c:Code} {caps:Array Value} {hp:Hp} {rs:List Nat} {xs:List (Array Value)} {B:Nat} {v:Value} (hGF:zbm G) (hG:∀ k,k<100->hp k=G k) (hf:P.funcs[f]? = some fn) (hb:fn.body=some c) (hcall:∀ a w,(callFunc f a).run P w=.ok (.enter f a) w)
  (ha:∀ x∈caps,zbs x=true/\zap (dom (rst hp rs)) x) (hcl:∀ k b,rst hp rs k=some b->b.ids (dom (rst hp rs))) (hn:caps.size+1<=fn.ntmps) (hB:100<=B) (hfree:∀ x,B<=x->rst hp rs x=none)
  (h:∀ (C:Ctx) (l stop:Nat),C.G=G->C.hp0=rst hp rs->C.Y=some ⟨l,xs,stop,none⟩->GW P C fn.ntmps [] none c ⟨λt=>(#[Value.func (.yield l) #[] #[]]++caps).getD t undef,rst hp rs,B,0⟩
   (λe s=>(e=.normal\/e=.ret)/\znj P fn.results.toList s.ts s.hp=some v/\s.yc=min (stop+1) xs.length)):zhl P G f caps hp rs xs :=
 zs0 none (v:=v) hGF hG hf hb hcall ha hcl hn hB hfree λC l stop h1 h2 _ h3=>h C l stop h1 h2 h3
theorem z3l {f:FuncId} {fn:Func} {c:Code} {caps:Array Value} {hp:Hp} {rs:List Nat} {xs:List (Array Value)} {B:Nat} (hGF:zbm G) (hG:∀ k,k<100->hp k=G k) (hf:P.funcs[f]? = some fn) (hb:fn.body=some c) (hcall:∀ a w,(callFunc f a).run P w=.ok (.enter f a) w)
  (ha:∀ x∈caps,zbs x=true/\zap (dom (rst hp rs)) x) (hcl:∀ k b,rst hp rs k=some b->b.ids (dom (rst hp rs))) (hn:caps.size+1<=fn.ntmps) (hB:100<=B) (hfree:∀ x,B<=x->rst hp rs x=none)
  (h:∀ (pv:Value) (C:Ctx) (l stop:Nat),C.G=G->C.hp0=rst hp rs->stop<xs.length->C.Y=some ⟨l,xs,stop,some pv⟩->GW P C fn.ntmps [] none c ⟨λt=>(#[Value.func (.yield l) #[] #[]]++caps).getD t undef,rst hp rs,B,0⟩
   (λe _=>e=.panic [{ v:=pv,recovered:=false }])):z75 P G f caps hp rs xs:=λpv =>
 zs0 (some pv) (v:=undef) hGF hG hf hb hcall ha hcl hn hB hfree λC l stop h1 h2 hl h3=>h pv C l stop h1 h2 (hl (by simp)) h3

def za3 (ps:List Tmp) (x:List Value) (ts:Nat->Value):Nat->Value:=(ps.zip x).foldl (λts p=>upd ts p.1 p.2) ts

def zb7:Exit->Option Code
 | .ret=>some .ret
 | .exit id=>some (.exit id)
 | .goto l=>some (.goto l)
 | _=>none

variable {C:Ctx} {n:Nat} {d:List Deferred} {s:GS} {K:Exit->GS->Prop}

theorem Weak.ctx {C C':Ctx} {s s':GS} (h:C.hp0=C'.hp0) (hG:C.G=C'.G) (hw:Weak C s s'):Weak C' s s':=⟨hw.ts,hw.hp,hw.ids,by rw [<-h];exact hw.keep,by rw [<-hG];exact hw.glob,hw.yc,hw.free,hw.low⟩

def zqg (S:Nat->Prop) (W:World) (Φ:World->Prop):Prop :=
 ∀ W':World,(∀ k,S k->W'.heap[k]? = W.heap[k]?)->W'.os=W.os->W'.tape=W.tape->W'.output=W.output->W.heap.size<=W'.heap.size->Φ W'
theorem zqg.trans {S S':Nat->Prop} {W W':World} {Φ:World->Prop} (h:zqg S W Φ) (hs:∀ k,S k->S' k) (h1:∀ k,S k->W'.heap[k]? = W.heap[k]?) (h2:W'.os=W.os) (h3:W'.tape=W.tape) (h4:W'.output=W.output) (h5:W.heap.size<=W'.heap.size):zqg S' W' Φ :=
 λW'' k1 k2 k3 k4 k5=>h W'' (λk hk=>(k1 k (hs k hk)).trans (h1 k hk)) (k2.trans h2) (k3.trans h3) (k4.trans h4) (Nat.le_trans h5 k5)
theorem zqg.here {S:Nat->Prop} {W:World} {Φ:World->Prop} (h:zqg S W Φ):Φ W:=h W (λ_ _=>rfl) rfl rfl rfl (Nat.le_refl _)

structure Own0 (C:Ctx) (d:List Deferred) (So:Nat->Prop) (ms:List Nat) (yc:Nat) (a:Act) (r:Nat->Nat) (ts:Nat->Value) (hp:Hp) (V:World):Prop where
 ri:Rel r (dom hp) ts a
 sat:Sat r (dom hp) hp V
 inj:Inj r (dom hp)
 X:C.E.X yc So V
 sep:∀ i,dom hp i->100<=i->¬So (r i)
 mks:∀ D∈ms,V.heap[D]? = some (.deferred (some []))
 keep:∀ i,dom C.hp0 i->dom hp i/\r i=C.r0 i
 glob:∀ k,k<100->hp k=C.G k
 low:∀ k,k<100->dom hp k->r k=k

theorem Own0.supp {So:Nat->Prop} {ms:List Nat} {yc:Nat} {a:Act} {r:Nat->Nat} {ts:Nat->Value} {hp:Hp} {V:World} {S:Nat->Prop} (h:Own0 C d So ms yc a r ts hp V) (h1:∀ k,So k->S k) (h2:∀ i,dom hp i->S (r i)) (h3:∀ D∈ms,S D):zqg S V (Own0 C d So ms yc a r ts hp) :=
 λW' k1 k2 k3 k4 k5=>⟨h.ri,λk b hk=>⟨(k1 _ (h2 k (by unfold dom;rw [hk];simp))).trans (h.sat k b hk).1,(h.sat k b hk).2⟩,h.inj,C.E.ok _ _ _ _ h.X (λk hk=>k1 k (h1 k hk)) k2 k3 k4 k5,h.sep,λD hD=>(k1 D (h3 D hD)).trans (h.mks D hD),h.keep,h.glob,h.low⟩

theorem zfg:∀ (l:List (Tmp×Value)) (A:Array Value),(l.foldl (λt (p:Tmp×Value)=>t.setIfInBounds p.1 p.2) A).size=A.size
 | [],_=>rfl
 | p::l,A=>by rw [List.foldl_cons,zfg l];simp

theorem znl {r:Nat->Nat} {D:Nat->Prop}:∀ (l:List (Tmp×Value)) (ts:Nat->Value) (A:Array Value),(∀ p∈l,p.1<A.size/\za0 p.2=true)->Rel r D ts { tmps:=A,defers:=[] } ->
  Rel r D (l.foldl (λts p=>upd ts p.1 p.2) ts) { tmps:=l.foldl (λt (p:Tmp×Value)=>t.setIfInBounds p.1 p.2) A,defers:=[] }
 | [],_,_,_,h=>h
 | p::l,ts,A,hl,h=>by
  have hp:=hl p (by simp)
  refine znl l (upd ts p.1 p.2) (A.setIfInBounds p.1 p.2) (λq hq=>by simpa using hl q (List.mem_cons_of_mem _ hq)) ?_
  have:=h.put (dst:=some p.1) (λd hd=>by cases hd;exact hp.1) (zak (D:=D) hp.2)
  rw [zax hp.2] at this
  exact this

def imO (r:Nat->Nat) (hp:Hp):Nat->Prop:=λj=>∃ i,dom hp i/\r i=j

theorem RI.not_loop {C:Ctx} {r:Nat->Nat} {ts:Nat->Value} {hp:Hp} {yc:Nat} {a:Act} {V:World} (h:RI C n d r ts hp yc a V) {l:Nat} {L:Loop} (hl:V.heap[l]? = some (.loop L)):¬imO r hp l:=by
 rintro ⟨i,hd,rfl⟩
 unfold dom at hd
 cases hb:hp i with
 | none=>exact hd hb
 | some b=>have:=(h.sat i b hb).1;rw [hl] at this;exact (Blk.obj_loop this).elim

theorem zpn {d0:List Deferred} {So S:Nat->Prop} {ms:List Nat} {yc y1 y2 n0:Nat} {a a1 a2:Act} {V V1 V2:World} {rc r1 r2:Nat->Nat} {tsE ts1 ts2:Nat->Value} {hpc hp1 hp2:Hp} {l:Nat} {L0 L1 L2:Loop} (hGF:zbm C.G)
  (hown:Own0 C d0 So ms yc a rc tsE hpc V) (hSol:¬So l) (hSV:∀ k,S k->k<V.heap.size) (kSo:∀ k,So k->S k) (kms:∀ D∈ms,S D) (hrcS:∀ i,dom hpc i->S (rc i)) (hl:V.heap[l]? = some (.loop L0))
  (ri1:RI ⟨zff V (imO rc hpc),hpc,rc,C.G,none⟩ n0 [] r1 ts1 hp1 y1 a1 V1)
  {D1:Nat->Prop} (hD1:∀ k,k<V.heap.size->D1 k->imO r1 hp1 k) (hD1l:¬D1 l) (ri2:RI ⟨zff (V1.putObj l (.loop L1)) D1,hpc,rc,C.G,none⟩ n0 [] r2 ts2 hp2 y2 a2 V2) :
  V1.heap[l]? = some (.loop L0)/\V2.heap[l]? = some (.loop L1)/\Own0 C d0 So ms yc a r2 tsE hp2 (V2.putObj l (.loop L2))/\(∀ i,dom hp2 i->V.heap.size<=r2 i\/S (r2 i))/\V.heap.size<=V2.heap.size /\
   (∀ k,k<V.heap.size->¬imO rc hpc k->k≠l->(V2.putObj l (.loop L2)).heap[k]? = V.heap[k]?)/\GOK C.G (V2.putObj l (.loop L2)):=by
 obtain ⟨T1,m1,⟨hT1,os1,tp1,ou1,sz1,sm1⟩,hT1s,sep1,_,_⟩:=ri1.ext
 obtain ⟨T2,m2,⟨hT2,os2,tp2,ou2,sz2,sm2⟩,hT2s,sep2,_,_⟩:=ri2.ext
 have hlV:l<V.heap.size:=(Array.getElem?_eq_some_iff.1 hl).1
 have hl0:¬imO rc hpc l:=by
  rintro ⟨i,hd,rfl⟩
  unfold dom at hd
  cases hb:hpc i with
  | none=>exact hd hb
  | some b=>have:=(hown.sat i b hb).1;rw [hl] at this;exact (Blk.obj_loop this).elim
 have hl1:V1.heap[l]? = some (.loop L0):=(sm1 l ((hT1 l).2 ⟨hlV,hl0⟩)).trans hl
 have hl1i:¬imO r1 hp1 l:=ri1.not_loop hl1
 have hlt1:l<V1.heap.size:=(Array.getElem?_eq_some_iff.1 hl1).1
 have szp:(V1.putObj l (.loop L1)).heap.size=V1.heap.size:=zcr _ _ _
 have hl2:V2.heap[l]? = some (.loop L1):=(sm2 l ((hT2 l).2 ⟨by rw [szp];exact hlt1,hD1l⟩)).trans (World.putObj_heap_same hlt1)
 have size:V.heap.size<=V2.heap.size:=by rw [szp] at sz2;omega
 have g1:∀ k,k<100->hp1 k=C.G k:=ri1.glob
 have g2:∀ k,k<100->hp2 k=C.G k:=ri2.glob
 have gc:=hown.glob
 have eqd:∀ {h h':Hp} {k:Nat},h k=h' k->dom h k->dom h' k:=λ{h h' k} e hd=>by unfold dom at *;rw [<-e];exact hd
 -- an old place of a new state is an old place of an old state
 have im1:∀ k,k<V.heap.size->imO r1 hp1 k->imO rc hpc k:=λk hk ⟨i,hd,e⟩=>by
  by_cases h1:100<=i
  ·have:=sep1 i hd h1
   rw [hT1,e] at this
   exact Classical.byContradiction λhc=>this ⟨hk,hc⟩
  ·have hd':dom hpc i:=eqd ((g1 i (by omega)).trans (gc i (by omega)).symm) hd
   exact ⟨i,hd',by rw [<-e,ri1.low i (by omega) hd,hown.low i (by omega) hd']⟩
 have im2:∀ k,k<V.heap.size->imO r2 hp2 k->imO rc hpc k:=λk hk ⟨i,hd,e⟩=>by
  by_cases h1:100<=i
  ·have:=sep2 i hd h1
   rw [hT2,e,szp] at this
   exact im1 k hk (hD1 k hk (Classical.byContradiction λhc=>this ⟨by omega,hc⟩))
  ·have hd':dom hpc i:=eqd ((g2 i (by omega)).trans (gc i (by omega)).symm) hd
   exact ⟨i,hd',by rw [<-e,ri2.low i (by omega) hd,hown.low i (by omega) hd']⟩
 have keep2:∀ i,dom hpc i->dom hp2 i/\r2 i=rc i:=ri2.keep
 have old:∀ i,dom hp2 i->r2 i<V.heap.size->dom hpc i/\r2 i=rc i:=λi hd hlt=>by
  obtain ⟨q,hq,e⟩:=im2 _ hlt ⟨i,hd,rfl⟩
  have:=keep2 q hq
  have e2:q=i:=ri2.inj q i this.1 hd (this.2.trans e)
  subst e2
  exact ⟨hq,this.2⟩
 have frame:∀ k,k<V.heap.size->¬imO rc hpc k->k≠l->(V2.putObj l (.loop L2)).heap[k]? = V.heap[k]?:=λk hk hi hne=>by
  rw [World.putObj_heap_other hne,sm2 k ((hT2 k).2 ⟨by rw [szp];omega,λhc=>hi (im1 k hk (hD1 k hk hc))⟩),World.putObj_heap_other hne,sm1 k ((hT1 k).2 ⟨hk,hi⟩)]
 have sat2:Sat r2 (dom hp2) hp2 (V2.putObj l (.loop L2)):=λk b hk=>by
  have h:=ri2.sat k b hk
  exact ⟨(World.putObj_heap_other (λe=>ri2.not_loop hl2 ⟨k,by unfold dom;rw [hk];simp,e⟩)).trans h.1,h.2⟩
 have gok:∀ {r:Nat->Nat} {h:Hp} {W:World},Sat r (dom h) h W->(∀ k,k<100->h k=C.G k)->(∀ k,k<100->dom h k->r k=k)->GOK C.G W:=λ{r h W} h1 h2 h3 k b hk=>by
  obtain ⟨hlt,hfl⟩:=hGF k b hk
  have hb:h k=some b:=(h2 k hlt).trans hk
  have h9:=(h1 k b hb).1
  rw [h3 k hlt (by unfold dom;rw [hb];simp)] at h9
  rw [h9]
  rw [Blk.obj_flat (λx hx=>hfl x hx)]
 have gok2:=gok sat2 g2 ri2.low
 have gokV:=gok hown.sat gc hown.low
 refine ⟨hl1,hl2,⟨hown.ri.mono (λk hk=>(keep2 k hk).1) (λk hk=>(keep2 k hk).2),sat2,ri2.inj,?_,λi hd h1 hS=>?_,λD hD=>?_,λi hi=>?_,g2,ri2.low⟩,λi hd=>?_,size,frame,gok2⟩
 ·refine C.E.ok _ _ _ _ hown.X (λk hk=>?_) (os2.trans os1) (tp2.trans tp1) (ou2.trans ou1) (by rw [zcr];exact size)
  by_cases hi:imO rc hpc k
  ·obtain ⟨i,hd,rfl⟩:=hi
   by_cases h1:100<=i
   ·exact absurd hk (hown.sep i hd h1)
   ·have e:=hown.low i (by omega) hd
    rw [e]
    have hg:C.G i≠none:=by rw [<-gc i (by omega)];exact hd
    cases hb:C.G i with
    | none=>exact absurd hb hg
    | some b=>rw [gok2 i b hb,gokV i b hb]
  ·by_cases hkl:k=l
   ·exact absurd (hkl▸hk) hSol
   ·exact frame k (hSV k (kSo k hk)) hi hkl
 ·have hlt:=hSV _ (kSo _ hS)
  have:=old i hd hlt
  exact hown.sep i this.1 h1 (this.2▸hS)
 ·have hD':=hown.mks D hD
  rw [frame D (hSV D (kms D hD)) (λ⟨i,hd,e⟩=>?_) (λe=>by rw [e,hl] at hD';cases hD')]
  ·exact hD'
  ·unfold dom at hd
   cases hb:hpc i with
   | none=>exact hd hb
   | some b=>have:=(hown.sat i b hb).1;rw [e,hD'] at this;exact (Blk.obj_def this).elim
 ·have:=hown.keep i hi
  have k2:=keep2 i this.1
  exact ⟨k2.1,k2.2.trans this.2⟩
 ·by_cases hlt:r2 i<V.heap.size
  ·have:=old i hd hlt
   exact .inr (by rw [this.2];exact hrcS i this.1)
  ·exact .inl (by omega)

theorem zz1 {W:World} {l:Nat} {ob:Obj} (h:W.heap[l]? = some ob):W.putObj l ob=W:=by
 unfold World.putObj
 congr 1
 apply Array.ext_getElem?
 intro i
 rw [Array.getElem?_setIfInBounds]
 split
 ·rename_i e;subst e
  rw [h]
  obtain ⟨hlt,_⟩:=Array.getElem?_eq_some_iff.1 h
  simp [hlt]
 ·rfl

def zft (F:Fence) (m:Nat) (P:Program) (fn:Func) (l:Nat) (R:Ending->World->Prop):Exit->Act->World->Prop
 | .panic chain,a,w=>LeavesInM F m P fn a.tmps (λe w'=>(∃ ch,e=.panicked ch)/\R e w') a.defers (.panicking chain) w
 | e,a,w=>roundPost P l R e a w
theorem zga {F:Fence} {m:Nat} {l:Nat} {f:FuncId} {fn:Func} {tmps:Array Value} {assign body:Code} {w:World} {R:Ending->World->Prop} (hF:F.fn f) (hfn:P.funcs[f]? = some fn)
  (h:assign.wpIn (F.inRound l) m P (Exit.then (λa₁ w₁=>∃ w₂,(Instr.beginRound l).run P w₁=.ok () w₂/\body.wpIn (F.inRound l) m P (zft F m P fn l R) a₁ w₂) (λ_ _ _=>False))
   { tmps:=tmps,defers:=[] } w) :
  RoundIn F m P l f tmps assign body w R:=by
 refine ⟨hF,λc cs hr=>?_⟩
 let b:Frame:={ (default:Frame) with fn:=f,kind:=.normal,roundOf:=some l }
 have hb0:Frame.round l f tmps assign body .normal=b.atR { tmps:=tmps,defers:=[] } [.code assign,.beginRound,.code body]:=by
  simp [Frame.round,Frame.atR,b]
 have hr':(F.inRound l).room ((c::cs).length+1+m):=hr
 have hF':(F.inRound l).fn b.fn:=hF
 obtain ⟨e,a₁,w₁,hq,harr⟩:=h b [.beginRound,.code body] (c::cs) rfl hF' hr'
 rw [<-hb0] at harr
 cases e with
 | normal =>
  obtain ⟨w₂,hbr,hbody⟩:=hq
  have s1:StepsIn (Machine.fenced P (F.inRound l)) P (lone (b.atR a₁ [.beginRound,.code body]) (c::cs) w₁) (lone (b.atR a₁ [.code body]) (c::cs) w₂) :=
   .one (fenced_calm (fr:=b.atR a₁ [.beginRound,.code body]) hF' hr' rfl) (stepR_beginRound rfl hbr)
  obtain ⟨e₂,a₂,w₃,hq₂,harr₂⟩:=hbody b [] (c::cs) rfl hF' hr'
  cases e₂ with
  | normal =>
   obtain ⟨v,w₄,hend,hR⟩:=hq₂
   exact ⟨.returned v,w₄,hR,(StepsIn.trans harr s1).trans (StepsIn.trans harr₂ (.one (fenced_calm (fr:=b.atR a₂ []) hF' hr' rfl) (stepR_round_end rfl rfl hend)))⟩
  | ret =>
   obtain ⟨v,w₄,hend,hR⟩:=hq₂
   obtain ⟨k₁,hs⟩:=harr₂.2 rfl
   exact ⟨.returned v,w₄,hR,(StepsIn.trans harr s1).trans (StepsIn.trans hs (.one (fenced_calm (fr:=b.atR a₂ (.code .ret::k₁)) hF' hr' rfl) (stepR_round_ret rfl rfl hend)))⟩
  | exit id =>
   obtain ⟨v,w₄,hend,hR⟩:=hq₂
   obtain ⟨k₁,hk,hs⟩:=harr₂.2 rfl rfl
   exact ⟨.returned v,w₄,hR,(StepsIn.trans harr s1).trans (StepsIn.trans hs (.one (fenced_calm (fr:=b.atR a₂ (.code (.exit id)::k₁)) hF' hr' rfl) (stepR_round_exit rfl rfl hk hend)))⟩
  | goto t =>
   obtain ⟨v,w₄,hend,hR⟩:=hq₂
   obtain ⟨k₁,hk,hs⟩:=harr₂.2 rfl rfl
   exact ⟨.returned v,w₄,hR,(StepsIn.trans harr s1).trans (StepsIn.trans hs (.one (fenced_calm (fr:=b.atR a₂ (.code (.goto t)::k₁)) hF' hr' rfl) (stepR_round_goto rfl rfl hk hend)))⟩
  | panic chain =>
   obtain ⟨todo,hs⟩:=harr₂
   obtain ⟨e',w₄,fr',⟨⟨ch,rfl⟩,hR⟩,hs',hfn',hl⟩:=leaves_stepsInM a₂.defers (.panicking chain) w₃ { b.atR a₂ todo with mode:=.panicking chain } (c::cs) rfl rfl rfl hfn rfl hF hr hq₂
   refine ⟨.panicked ch,w₄,hR,(StepsIn.trans harr s1).trans (StepsIn.trans hs (StepsIn.trans hs' (.one (fenced_leaving (n:=m) (hfn'▸hF) hr hl) (step_leave_panicked hl))))⟩
  | outgrown=>exact hq₂.elim
 | exit id=>exact hq.elim
 | goto t=>exact hq.elim
 | ret=>exact hq.elim
 | panic chain=>exact hq.elim
 | outgrown=>exact hq.elim

theorem zn3 (pn:Option Value) {t:Tmp} {ps:Array Tmp} {assign body:Code} {f:FuncId} {caps:Array Value} {rs:List Nat} {xs:List (Array Value)} (hg:s.ts t=.func (.func f) #[] caps) (hit:IterX pn P C.G f caps s.hp rs xs)
  (hxs:∀ x∈xs,x.size=ps.size/\∀ v∈x,za0 v=true) (hps:∀ p∈ps,p<n) (tsE:Nat->Value) (hp:Nat->Hp) (B:Nat) (N:Nat) (hN:N<=xs.length)
  (hw:Weak C s ⟨tsE,hp 0,B,s.yc⟩) (hdis:∀ k∈rs,hp 0 k=none/\dom s.hp k) (hids:∀ i,i<=N->∀ t,zap (dom (hp i)) (tsE t))
  (rounds:∀ i x,i<N->xs[i]? = some x->∀ (C1:Ctx) (l:Nat),C1.G=C.G->C1.hp0=hp i->C1.Y=none->GW P C1 n [] (some l) assign ⟨za3 ps.toList x.toList tsE,hp i,B,0⟩
   (zcy (λs1=>∀ C2:Ctx,C2.G=C.G->C2.hp0=hp i->C2.Y=none->GW P C2 n [] (some l) body s1 (zcy (λs2=>Weak C1 s2 ⟨λ_=>zbz,hp (i+1),B,s2.yc⟩) (λ_ _=>False))) (λ_ _=>False)))
  (fin:match pn with
   | none=>(N=xs.length/\K .normal ⟨tsE,hp N,B,s.yc⟩)\/∃ x,xs[N]? = some x/\∀ (C1:Ctx) (l:Nat),C1.G=C.G->C1.hp0=hp N->C1.Y=none->GW P C1 n [] (some l) assign ⟨za3 ps.toList x.toList tsE,hp N,B,0⟩
    (zcy (λs1=>∀ C2:Ctx,C2.G=C.G->C2.hp0=hp N->C2.Y=none->GW P C2 n [] (some l) body s1 (λe s2=>(zb7 e).isSome=true/\(∀ t,zap (dom s2.hp) (tsE t))/\K e ⟨tsE,s2.hp,s2.B,s.yc⟩)) (λ_ _=>False))
   | some pv=>(∀ c,c<=N->K (.panic [{ v:=pv,recovered:=false }]) ⟨tsE,hp c,B,s.yc⟩)/\∃ x,xs[N]? = some x/\∀ (C1:Ctx) (l:Nat),C1.G=C.G->C1.hp0=hp N->C1.Y=none->GW P C1 n [] (some l) assign ⟨za3 ps.toList x.toList tsE,hp N,B,0⟩
    (zcy (λs1=>∀ C2:Ctx,C2.G=C.G->C2.hp0=hp N->C2.Y=none->GW P C2 n [] (some l) body s1 (λe s2=>e=.panic [{ v:=pv,recovered:=false }]/\(∀ t,zap (dom s2.hp) (tsE t))/\K e ⟨tsE,s2.hp,s2.B,s.yc⟩)) (λ_ _=>False))) (hYn:C.Y≠some .still:=by first|assumption|(intro h;simp_all [YG.still])) :
  GW P C n d none (.rangeFunc (.tmp t) ps assign body) s K:=by
 intro r a W hi0
 have hi:=hi0.weak hw
 obtain ⟨So,ms,hX0,hSo,hsep,⟨hdef,hnd⟩,hms⟩:=hi0.ri.ext
 have hcapv:a.eval (.tmp t)=.func (.func f) #[] (caps.map (zao r)):=by
  have:=((hi0.ri.rel t).resolve_left (by rw [hg];simp [zbz])).1
  rw [hg] at this
  simpa [ren,zas,zan,Act.eval] using this
 have hcap:caps.map (zao r)=caps.map (ren r):=Array.map_congr_left λx hx=>(zc8 (hit.cids x hx).1).symm
 rw [hcap] at hcapv
 refine wpIn_rangeFunc ?_
 rintro fn ⟨fnn,hfnn⟩
 obtain ⟨rec,hrec⟩:∃ rec:LoopState->Option Code->Loop,rec=λst pe=>{ state:=st,pending:=pe,fn,tmps:=a.tmps,params:=ps,assign,body,defers:=W.heap.size }:=⟨_,rfl⟩
 obtain ⟨W1,hW1⟩:∃ W1,(W.alloc (.deferred (some []))).alloc (.loop (rec .ready none))=W1:=⟨_,rfl⟩
 have hL1:W1.heap[W.heap.size+1]? = some (.loop (rec .ready none)):=by
  rw [<-hW1];have:=World.alloc_heap_new (W.alloc (.deferred (some []))) (.loop (rec .ready none));rwa [World.size_alloc] at this
 have hK1:W1.heap[W.heap.size]? = some (.deferred (some [])):=by
  rw [<-hW1];exact (Below.heap_alloc _ _ _ (by simp)).trans (World.alloc_heap_new W _)
 have hsz1:W1.heap.size=W.heap.size+2:=by rw [<-hW1];simp
 have hb1:Below W.heap.size W W1:=by
  rw [<-hW1];exact (((Below.refl _ W).alloc (Nat.le_refl _) _).alloc (by simp) _)
 let l:=W.heap.size+1
 let D0:=W.heap.size
 let capd:Nat->Prop:=λj=>∃ i,i∈rs/\100<=i/\r i=j
 -- what is said between two rounds
 let Lv:LoopState->Option Code->World->Prop:=λst pe V=>V.heap[l]? = some (.loop (rec st pe))/\V.heap[D0]? = some (.deferred (some []))
 let XX:Nat->(Nat->Prop)->World->Prop:=λc S V=>(∀ k,So k->S k)/\(∀ D∈ms,S D)/\S l/\S D0 /\
  ((c<=N/\(∀ x,B<=x->hp c x=none)/\∃ rc,(∀ i,dom (hp c) i->S (rc i))/\zqg S V (λV'=>Own0 C d So ms s.yc a rc tsE (hp c) V'/\Lv .ready none V')) \/
  (c=N+1/\∃ e hpE BE rc,((pn=none/\(zb7 e).isSome=true)\/∃ pv,pn=some pv/\e=.panic [{ v:=pv,recovered:=false }])/\K e ⟨tsE,hpE,BE,s.yc⟩/\(∀ x,BE<=x->hpE x=none)/\100<=BE/\(∀ i,dom hpE i->S (rc i))/\zqg S V (λV'=>Own0 C d So ms s.yc a rc tsE hpE V'/\V'.heap[D0]? = some (.deferred (some []))/\∀ j,zb7 e=some j->Lv .done (some j) V')))
 let E:Ext:=⟨XX,λc S V V' h hs os tape output size=>⟨h.1,h.2.1,h.2.2.1,h.2.2.2.1,h.2.2.2.2.imp (λ⟨hc,hf,rc,h1,h2⟩=>⟨hc,hf,rc,h1,h2.trans (λ_ h=>h) hs os tape output size⟩)
  (λ⟨hc,e,hpE,BE,rc,h1,h2,h3,h4,h5,h6⟩=>⟨hc,e,hpE,BE,rc,h1,h2,h3,h4,h5,h6.trans (λ_ h=>h) hs os tape output size⟩)⟩⟩
 have sub:∀ i,dom (hp 0) i->dom s.hp i:=λi hd=>by
  have hhp:hp 0 i=none\/hp 0 i=s.hp i:=by
   by_cases hk:100<=i
   ·exact hw.hp i hk
   ·exact .inr ((hw.glob i (by omega)).trans (hi0.ri.glob i (by omega)).symm)
  rcases hhp with e|e
  ·exact absurd e hd
  ·have e:hp 0 i=s.hp i:=e
   unfold dom at *;rw [<-e];exact hd
 have own0:Own0 C d So ms s.yc a r tsE (hp 0) W1:=⟨hi.ri.rel,λk b hk=>⟨(hb1.block _ (hi.ri.lt (k:=k) (by unfold dom;show hp 0 k≠none;rw [hk];simp))).trans (hi.ri.sat k b hk).1,(hi.ri.sat k b hk).2⟩,hi.ri.inj,
  C.E.ok _ _ _ _ hX0 (λk hk=>hb1.block k (hSo k hk)) hb1.os hb1.tape hb1.output hb1.size,λi hd h1=>hsep i (sub i hd) h1,
  λD hD=>(hb1.block D (Array.getElem?_eq_some_iff.1 (hms D hD).1).1).trans (hms D hD).1,hi.ri.keep,hi.ri.glob,hi.ri.low⟩
 have incap:∀ i,dom s.hp i->capd (r i)->i∈rs:=λi hd ⟨j,hj,_,e⟩=>by
  have:=hi0.ri.inj j i (hdis j hj).2 hd e
  exact this▸hj
 let S1:Nat->Prop:=λk=>k<W1.heap.size/\¬capd k
 have capSmall:∀ k,capd k->k<W.heap.size:=λk ⟨i,hi1,_,e⟩=>e▸hi0.ri.lt (hdis i hi1).2
 have s1So:∀ k,So k->S1 k:=λk hk=>⟨by have:=hSo k hk;omega,λ⟨i,hi1,h1,e⟩=>hsep i (hdis i hi1).2 h1 (e▸hk)⟩
 have s1ms:∀ D∈ms,S1 D:=λD hD=>⟨by have:=(Array.getElem?_eq_some_iff.1 (hms D hD).1).1;omega,λ⟨i,hi1,_,e⟩=>hi0.ri.ne_mark (hdis i hi1).2 (hms D hD).1 e⟩
 have s1l:S1 l:=⟨by omega,λhc=>by have:=capSmall _ hc;omega⟩
 have s1D:S1 D0:=⟨by omega,λhc=>by have:=capSmall _ hc;omega⟩
 have s1hp:∀ i,dom (hp 0) i->S1 (r i):=λi hd=>⟨by have:=hi0.ri.lt (sub i hd);omega,λhc=>hd (hdis i (incap i (sub i hd) hc)).1⟩
 have X0:XX 0 S1 W1:=⟨s1So,s1ms,s1l,s1D,.inl ⟨Nat.zero_le _,hw.free,r,s1hp,λV k1 k2 k3 k4 k5=>⟨own0.supp s1So s1hp s1ms V k1 k2 k3 k4 k5,(k1 l s1l).trans hL1,(k1 D0 s1D).trans hK1⟩⟩⟩
 have gokOf:∀ {rc:Nat->Nat} {hpc:Hp} {V:World},Sat rc (dom hpc) hpc V->(∀ k,k<100->hpc k=C.G k)->(∀ k,k<100->dom hpc k->rc k=k)->GOK C.G V:=λ{rc hpc V} h1 h2 h3 k b hk=>by
  obtain ⟨hlt,hfl⟩:=hi0.flat k b hk
  have hb:hpc k=some b:=(h2 k hlt).trans hk
  have h9:=(h1 k b hb).1
  rw [h3 k hlt (by unfold dom;rw [hb];simp)] at h9
  rw [h9]
  rw [Blk.obj_flat (λx hx=>hfl x hx)]
 -- one round
 have hround:zgg P C.G E ⟨l,xs,N,pn⟩:=by
  intro c x S V hgok hx hc hXc hSV
  obtain ⟨kSo,kms,kl,kD,hcase⟩:=hXc
  have hcN:c<=N:=hc
  obtain ⟨hc',hfreeC,rc,hrcS,hsupp⟩:c<=N/\(∀ x,B<=x->hp c x=none)/\∃ rc,(∀ i,dom (hp c) i->S (rc i))/\zqg S V (λV'=>Own0 C d So ms s.yc a rc tsE (hp c) V'/\Lv .ready none V'):=by
   rcases hcase with h|h
   ·exact h
   ·omega
  obtain ⟨hown,hl,hD⟩:=hsupp.here
  have hxm:=hxs x (List.mem_of_getElem? hx)
  have hy:=run_yield (P:=P) (args:=x) hl (by rw [hrec];exact hxm.1)
  rw [hrec] at hy
  refine ⟨fn,_,assign,body,hy,zga ⟨fnn,hfnn⟩ hfnn ?_⟩
  have hrel:=znl (r:=rc) (D:=dom (hp c)) (ps.toList.zip x.toList) tsE a.tmps (λp hp1=>⟨by rw [hi0.ri.size];exact hps _ (by simpa using (List.of_mem_zip hp1).1),hxm.2 _ (by simpa using (List.of_mem_zip hp1).2)⟩) hown.ri
  have htm:(ps.zip x).foldl (λt (p:Tmp×Value)=>t.setIfInBounds p.1 p.2) a.tmps=(ps.toList.zip x.toList).foldl (λt (p:Tmp×Value)=>t.setIfInBounds p.1 p.2) a.tmps:=by
   rw [<-Array.foldl_toList,Array.toList_zip]
  have hsize:((ps.zip x).foldl (λt (p:Tmp×Value)=>t.setIfInBounds p.1 p.2) a.tmps).size=n:=by
   rw [htm,zfg,hi0.ri.size]
  let im:Nat->Prop:=imO rc (hp c)
  let RR:Ending->World->Prop:=λe W'=>(match (YG.mk l xs N pn).pan c with|none=>e=.returned (.bool (c != N))|some pv=>e=.panicked [{ v:=pv,recovered:=false }])/\GOK C.G W'/\V.heap.size<=W'.heap.size/\(∀ k,k<V.heap.size->¬S k->W'.heap[k]? = V.heap[k]?) /\
      ∃ S',XX (c+1) S' W'/\(∀ k,S' k->k<W'.heap.size)/\∀ k,S' k->k<V.heap.size->S k
  -- the assignment to the loop's variables
  let C1:Ctx:=⟨zff V im,hp c,rc,C.G,none⟩
  have ltV:∀ i,dom (hp c) i->rc i<V.heap.size:=λi hd=>hSV _ (hrcS i hd)
  have gi1:GI P C1 n [] rc ⟨za3 ps.toList x.toList tsE,hp c,B,0⟩ { tmps:=(ps.zip x).foldl (λt (p:Tmp×Value)=>t.setIfInBounds p.1 p.2) a.tmps,defers:=[] } V:=by
   refine ⟨⟨hsize,?_,hown.sat,hown.inj,⟨λk=>k<V.heap.size/\¬im k,[],⟨λ_=>Iff.rfl,rfl,rfl,rfl,Nat.le_refl _,λ_ _=>rfl⟩,λk hk=>hk.1,λi hd _ hS=>hS.2 ⟨i,hd,rfl⟩,⟨rfl,List.nodup_nil⟩,by simp⟩,λi hd=>⟨hd,rfl⟩,hown.glob,hown.low⟩,hfreeC,hw.low,hi0.flat,λy hy=>by cases hy⟩
   rw [htm];exact hrel
  have hSol:¬So l:=λh=>by have:=hSo _ h;omega
  -- a round's frame,from its assignment on
  have both:∀ (Kb:Exit->GS->Prop),GW P C1 n [] (some l) assign ⟨za3 ps.toList x.toList tsE,hp c,B,0⟩ (zcy (λs1=>∀ C2:Ctx,C2.G=C.G->C2.hp0=hp c->C2.Y=none->GW P C2 n [] (some l) body s1 Kb) (λ_ _=>False)) ->
    (∀ e s2 (r2:Nat->Nat) (V1 V2:World) (a1 a2:Act) (r1:Nat->Nat) (ts1:Nat->Value) (hp1:Hp) (y1:Nat) (D1:Nat->Prop),(∀ k,k<V.heap.size->D1 k->imO r1 hp1 k)->¬D1 l->Kb e s2->RI ⟨zff V im,hp c,rc,C.G,none⟩ n [] r1 ts1 hp1 y1 a1 V1 ->
     GI P ⟨zff (V1.putObj l (.loop (rec .busy none))) D1,hp c,rc,C.G,none⟩ n [] r2 s2 a2 V2->zft (Fs P) 0 P fnn l RR e a2 V2) ->
    assign.wpIn ((Fs P).inRound l) 0 P (Exit.then (λa₁ w₁=>∃ w₂,(Instr.beginRound l).run P w₁=.ok () w₂/\body.wpIn ((Fs P).inRound l) 0 P (zft (Fs P) 0 P fnn l RR) a₁ w₂) (λ_ _ _=>False))
     { tmps:=(ps.zip x).foldl (λt (p:Tmp×Value)=>t.setIfInBounds p.1 p.2) a.tmps,defers:=[] } V:=λKb hgw hend=>by
   refine wpIn_mono (hgw rc _ V gi1) ?_
   rintro e a1 V1 ⟨s1,r1,hk1,gi⟩
   cases e with
   | normal =>
    obtain ⟨T1,m1,⟨hT1,os1,tp1,ou1,sz1,sm1⟩,hT1s,sep1,df1,dm1⟩:=gi.ri.ext
    have hl1:V1.heap[l]? = some (.loop (rec .ready none)):=by
     rw [sm1 l ((hT1 l).2 ⟨hSV l kl,?_⟩)]
     ·exact hl
     ·rintro ⟨i,hd,e⟩
      unfold dom at hd
      cases hb:hp c i with
      | none=>exact hd hb
      | some b=>have:=(hown.sat i b hb).1;rw [e,hl] at this;exact (Blk.obj_loop this).elim
    refine ⟨_,run_beginRound hl1 (by rw [hrec]),?_⟩
    have hrb:{ rec .ready none with state:=.busy }=rec .busy none:=by rw [hrec]
    rw [hrb]
    have hlt1:l<V1.heap.size:=(Array.getElem?_eq_some_iff.1 hl1).1
    let D1:Nat->Prop:=λk=>imO r1 s1.hp k\/k∈m1
    let C2:Ctx:=⟨zff (V1.putObj l (.loop (rec .busy none))) D1,hp c,rc,C.G,none⟩
    have gi2:GI P C2 n [] r1 s1 a1 (V1.putObj l (.loop (rec .busy none))):=by
     refine ⟨⟨gi.ri.size,gi.ri.rel,λk b hk=>⟨(World.putObj_heap_other (λe=>gi.ri.not_loop hl1 ⟨k,by unfold dom;rw [hk];simp,e⟩)).trans (gi.ri.sat k b hk).1,(gi.ri.sat k b hk).2⟩,gi.ri.inj,
      ⟨λk=>k<(V1.putObj l (.loop (rec .busy none))).heap.size/\¬D1 k,m1,⟨λ_=>Iff.rfl,rfl,rfl,rfl,Nat.le_refl _,λ_ _=>rfl⟩,λk hk=>hk.1,λi hd _ hS=>hS.2 (.inl ⟨i,hd,rfl⟩),df1,λD hD=>⟨?_,(λhS=>hS.2 (.inr hD)),λh=>nomatch h⟩⟩,
      λi hd=>gi.ri.keep i hd,gi.ri.glob,gi.ri.low⟩,gi.free,gi.low,gi.flat,λy hy=>by cases hy⟩
     rw [World.putObj_heap_other (λe=>?_)]
     ·exact (dm1 D hD).1
     ·have:=(dm1 D hD).1;rw [e,hl1] at this;cases this
    refine wpIn_mono (hk1 C2 rfl rfl rfl r1 a1 _ gi2) ?_
    rintro e2 a2 V2 ⟨s2,r2,hk2,gi3⟩
    refine hend e2 s2 r2 V1 V2 a1 a2 r1 s1.ts s1.hp s1.yc D1 (λk hk hD=>?_) (λhD=>?_) hk2 gi.ri gi3
    ·rcases hD with h|h
     ·exact h
     ·have h2:=(dm1 k h).2.1
      rw [hT1] at h2
      obtain ⟨i,hd,e⟩:=Classical.byContradiction λhc=>h2 ⟨hk,hc⟩
      have h3:=(dm1 k h).1
      by_cases h100:100<=i
      ·have:dom s1.hp i/\r1 i=rc i:=gi.ri.keep i hd
       exact ⟨i,this.1,this.2.trans e⟩
      ·have:dom s1.hp i/\r1 i=rc i:=gi.ri.keep i hd
       exact ⟨i,this.1,this.2.trans e⟩
    ·rcases hD with h|h
     ·exact gi.ri.not_loop hl1 h
     ·have:=(dm1 l h).1;rw [hl1] at this;cases this
   | _=>exact hk1.elim
  -- what a round leaves,put together
  have post:∀ (st:LoopState) (pe:Option Code) (r2:Nat->Nat) (V1 V2:World) (a1 a2:Act) (r1:Nat->Nat) (ts1 ts2:Nat->Value) (hp1 hp2:Hp) (y1 y2:Nat) (D1:Nat->Prop),(∀ k,k<V.heap.size->D1 k->imO r1 hp1 k)->¬D1 l->RI ⟨zff V im,hp c,rc,C.G,none⟩ n [] r1 ts1 hp1 y1 a1 V1 ->
    RI ⟨zff (V1.putObj l (.loop (rec .busy none))) D1,hp c,rc,C.G,none⟩ n [] r2 ts2 hp2 y2 a2 V2 ->
    V2.heap[l]? = some (.loop (rec .busy none))/\GOK C.G (V2.putObj l (.loop (rec st pe)))/\V.heap.size<=(V2.putObj l (.loop (rec st pe))).heap.size/\(∀ k,k<V.heap.size->¬S k->(V2.putObj l (.loop (rec st pe))).heap[k]? = V.heap[k]?) /\
    ∃ S':Nat->Prop,(∀ k,So k->S' k)/\(∀ D∈ms,S' D)/\S' l/\S' D0/\(∀ i,dom hp2 i->S' (r2 i))/\zqg S' (V2.putObj l (.loop (rec st pe))) (λV'=>Own0 C d So ms s.yc a r2 tsE hp2 V'/\Lv st pe V') /\
     (∀ k,S' k->k<(V2.putObj l (.loop (rec st pe))).heap.size)/\∀ k,S' k->k<V.heap.size->S k:=λst pe r2 V1 V2 a1 a2 r1 ts1 ts2 hp1 hp2 y1 y2 D1 hD1 hD1l ri1 ri2=>by
   obtain ⟨_,q1,q2,q3,q4,q5,q6⟩:=zpn (L2:=rec st pe) hi0.flat hown hSol hSV kSo kms hrcS hl ri1 hD1 hD1l ri2
   have sz:(V2.putObj l (.loop (rec st pe))).heap.size=V2.heap.size:=zcr _ _ _
   have hnim:∀ k,¬S k->¬imO rc (hp c) k:=λk hk ⟨i,hd,e⟩=>hk (e▸hrcS i hd)
   refine ⟨q1,q6,by rw [sz];exact q4,λk hk hnS=>q5 k hk (hnim k hnS) (λe=>hnS (e▸kl)),λk=>S k\/(V.heap.size<=k/\k<V2.heap.size),λk hk=>.inl (kSo k hk),λD hD=>.inl (kms D hD),.inl kl,.inl kD,λi hd=>?_,?_,λk hk=>?_,λk hk hlt=>?_⟩
   ·rcases q3 i hd with h|h
    ·exact .inr ⟨h,by
      unfold dom at hd
      cases hb:hp2 i with
      | none=>exact absurd hb hd
      | some b=>have:=(Array.getElem?_eq_some_iff.1 (q2.sat i b hb).1).1;rwa [sz] at this⟩
    ·exact .inl h
   ·have hD0:(V2.putObj l (.loop (rec st pe))).heap[D0]? = some (.deferred (some [])):=by
     rw [q5 D0 (hSV D0 kD) (λ⟨i,hd',e⟩=>by
      unfold dom at hd'
      cases hb:hp c i with
      | none=>exact hd' hb
      | some b=>have:=(hown.sat i b hb).1;rw [e,hD] at this;exact (Blk.obj_def this).elim) (by omega)]
     exact hD
    have hlt2:l<V2.heap.size:=(Array.getElem?_eq_some_iff.1 q1).1
    refine λV' k1 k2 k3 k4 k5=>⟨q2.supp (S:=λk=>S k\/(V.heap.size<=k/\k<V2.heap.size)) (λk hk=>.inl (kSo k hk)) (λi hd=>?_) (λD hD=>.inl (kms D hD)) V' k1 k2 k3 k4 k5,(k1 l (.inl kl)).trans (World.putObj_heap_same hlt2),(k1 D0 (.inl kD)).trans hD0⟩
    rcases q3 i hd with h|h
    ·exact .inr ⟨h,by
      unfold dom at hd
      cases hb:hp2 i with
      | none=>exact absurd hb hd
      | some b=>have:=(Array.getElem?_eq_some_iff.1 (q2.sat i b hb).1).1;rwa [sz] at this⟩
    ·exact .inl h
   ·rw [sz]
    rcases hk with h|h
    ·exact Nat.lt_of_lt_of_le (hSV k h) q4
    ·exact h.2
   ·exact hk.resolve_right (by omega)
  by_cases hcn:c<N
  ·refine both _ (rounds c x hcn hx C1 l rfl rfl rfl) ?_
   intro e s2 r2 V1 V2 a1 a2 r1 ts1 hp1 y1 D1 hD1 hD1l hk ri1 gi2
   cases e with
   | normal =>
    have gi3:=gi2.weak (Weak.ctx (C:=C1) rfl rfl hk)
    obtain ⟨p1,p2,p3,p4,S',p5,p6,p7,p8,p9,p10,p11,p12⟩:=post .ready none r2 V1 V2 a1 a2 r1 ts1 _ hp1 _ y1 _ D1 hD1 hD1l ri1 gi3.ri
    have hend:=run_endRound (P:=P) none p1
    rw [hrec] at hend p2 p3 p4 p10 p11
    refine ⟨_,_,hend,?_,p2,p3,p4,S',⟨p5,p6,p7,p8,.inl ⟨hcn,gi3.free,r2,p9,?_⟩⟩,p11,p12⟩
    ·have h1:(YG.mk l xs N pn).pan c=none:=by
      show (if c=N then pn else none)=none
      rw [if_neg (by omega)]
     have h2:(c != N)=true:=by simp;omega
     rw [h1,h2];rfl
    ·simpa [hrec] using p10
   | _=>exact hk.elim
  ·obtain rfl:c=N:=by omega
   have hpanN:(YG.mk l xs c pn).pan c=pn:=by
    show (if c=c then pn else none)=pn
    rw [if_pos rfl]
   cases pn with
   | none =>
    rcases fin with ⟨e,_⟩|⟨x',hx',hfin⟩
    ·obtain ⟨h9,_⟩:=List.getElem?_eq_some_iff.1 hx;have h9:c<xs.length:=h9;omega
    ·have hx:xs[c]? = some x:=hx
     rw [hx] at hx';cases hx'
     refine both _ (hfin C1 l rfl rfl rfl) ?_
     intro e s2 r2 V1 V2 a1 a2 r1 ts1 hp1 y1 D1 hD1 hD1l hk ri1 gi2
     obtain ⟨hk1,hk2,hk3⟩:=hk
     cases ho:zb7 e with
     | none=>rw [ho] at hk1;cases hk1
     | some j =>
      obtain ⟨p1,p2,p3,p4,S',p5,p6,p7,p8,p9,p10,p11,p12⟩:=post .done (some j) r2 V1 V2 a1 a2 r1 ts1 _ hp1 _ y1 _ D1 hD1 hD1l ri1 gi2.ri
      have hend:=run_endRound (P:=P) (some j) p1
      rw [hrec] at hend p2 p3 p4 p10 p11
      have hR:∃ v w',(Instr.endRound l (some j)).run P V2=.ok v w'/\RR (.returned v) w':=by
       refine ⟨_,_,hend,?_,p2,p3,p4,S',⟨p5,p6,p7,p8,.inr ⟨rfl,e,s2.hp,s2.B,r2,.inl ⟨rfl,hk1⟩,hk3,gi2.free,gi2.low,p9,?_⟩⟩,p11,p12⟩
       ·rw [hpanN];simp
       ·intro V' k1 k2 k3 k4 k5
        obtain ⟨q1,q2⟩:=p10 V' k1 k2 k3 k4 k5
        refine ⟨q1,q2.2,λj' hj'=>?_⟩
        rw [ho] at hj';cases hj'
        simpa [hrec] using q2
      cases e<;>simp only [zb7,Option.some.injEq,reduceCtorEq] at ho
      ·subst ho;exact hR
      ·subst ho;exact hR
      ·subst ho;exact hR
   | some pv =>
    obtain ⟨_,x',hx',hfin⟩:=fin
    have hx:xs[c]? = some x:=hx
    rw [hx] at hx';cases hx'
    refine both _ (hfin C1 l rfl rfl rfl) ?_
    intro e s2 r2 V1 V2 a1 a2 r1 ts1 hp1 y1 D1 hD1 hD1l hk ri1 gi2
    obtain ⟨rfl,hk2,hk3⟩:=hk
    obtain ⟨p1,p2,p3,p4,S',p5,p6,p7,p8,p9,p10,p11,p12⟩:=post .busy none r2 V1 V2 a1 a2 r1 ts1 _ hp1 _ y1 _ D1 hD1 hD1l ri1 gi2.ri
    have hid:V2.putObj l (.loop (rec .busy none))=V2:=zz1 p1
    rw [hid] at p2 p3 p4 p10 p11
    obtain ⟨T2,m2,⟨hT2,os2,tp2,ou2,sz2,sm2⟩,hT2s,sep2,⟨df2,nd2⟩,dm2⟩:=gi2.ri.ext
    have lt1:V.heap.size<=(V1.putObj l (.loop (rec .busy none))).heap.size:=by
     rw [zcr]
     obtain ⟨_,_,⟨_,_,_,_,z1,_⟩,_⟩:=ri1.ext
     exact z1
    -- a z3x of the round's own lies behind what was there
    have mnew:∀ D∈m2,V.heap.size<=D:=λD hD=>by
     have h1:=(dm2 D hD).1
     have h2:=(dm2 D hD).2.1
     refine Classical.byContradiction λhlt=>?_
     have hlt:D<V.heap.size:=by omega
     rw [hT2] at h2
     have hD1D:D1 D:=Classical.byContradiction λhc=>h2 ⟨by omega,hc⟩
     obtain ⟨i,hd,e⟩:=hD1 D hlt hD1D
     by_cases hz:100<=i
     ·obtain ⟨T1,m1,⟨hT1,_⟩,_,sep1,_⟩:=ri1.ext
      have h3:=sep1 i hd hz
      rw [hT1,e] at h3
      obtain ⟨q,hq,e2⟩:=Classical.byContradiction λhc=>h3 ⟨hlt,hc⟩
      have hk5:dom s2.hp q/\r2 q=rc q:=gi2.ri.keep q hq
      exact gi2.ri.ne_mark hk5.1 h1 (hk5.2.trans e2)
     ·have e3:hp1 i=C.G i:=ri1.glob i (by omega)
      have e4:s2.hp i=C.G i:=gi2.ri.glob i (by omega)
      have hd2:dom s2.hp i:=by unfold dom at *;rw [e4,<-e3];exact hd
      exact gi2.ri.ne_mark hd2 h1 (by rw [gi2.ri.low i (by omega) hd2,<-e,ri1.low i (by omega) hd])
    show LeavesInM _ _ _ _ _ _ a2.defers _ _
    rw [df2,List.append_nil]
    refine zdx (by simp) m2 V2 nd2 (λD hD=>(dm2 D hD).1) λW'' e1 e2 e3 e4 e5=>?_
    refine ⟨⟨_,rfl⟩,?_⟩
    have sgok:GOK C.G W'':=λk b hk=>by
     rw [e5 k (λhm=>by have:=(dm2 k hm).1;rw [p2 k b hk] at this;exact (Blk.obj0_def this.symm).elim)]
     exact p2 k b hk
    refine ⟨?_,sgok,by rw [e1];exact p3,λk hk hnS=>?_,λk=>S' k/\k∉m2,⟨λk hk=>⟨p5 k hk,λhm=>?_⟩,λD hD=>⟨p6 D hD,λhm=>?_⟩,⟨p7,λhm=>?_⟩,⟨p8,λhm=>?_⟩,.inr ⟨rfl,_,s2.hp,s2.B,r2,.inr ⟨pv,rfl,rfl⟩,hk3,gi2.free,gi2.low,λi hd=>⟨p9 i hd,λhm=>?_⟩,?_⟩⟩,λk hk=>?_,λk hk hlt=>p12 k hk.1 hlt⟩
    ·rw [hpanN]
    ·rw [e5 k (λhm=>by have:=mnew k hm;omega)];exact p4 k hk hnS
    ·have:=mnew k hm;have:=hSV k (kSo k hk);omega
    ·have:=mnew D hm;have:=hSV D (kms D hD);omega
    ·have:=(dm2 l hm).1;rw [p1] at this;cases this
    ·have:=mnew D0 hm;have:=hSV D0 kD;omega
    ·exact gi2.ri.ne_mark hd (dm2 _ hm).1 rfl
    ·intro V' k1 k2 k3 k4 k5
     have hh:=λk (hk:S' k/\k∉m2)=>(k1 k hk).trans (e5 k hk.2)
     have hsupp2:zqg (λk=>S' k/\k∉m2) W'' (λV'=>Own0 C d So ms s.yc a r2 tsE s2.hp V'/\V'.heap[D0]? = some (.deferred (some []))):=by
      obtain ⟨own2,_,hD2⟩:=p10.here
      have own3:Own0 C d So ms s.yc a r2 tsE s2.hp W'':=own2.supp (S:=λk=>S' k/\k∉m2) (λk hk=>⟨p5 k hk,λhm=>by have:=mnew k hm;have:=hSV k (kSo k hk);omega⟩) (λi hd=>⟨p9 i hd,λhm=>gi2.ri.ne_mark hd (dm2 _ hm).1 rfl⟩) (λD hD=>⟨p6 D hD,λhm=>by have:=mnew D hm;have:=hSV D (kms D hD);omega⟩) W'' (λk hk=>e5 k hk.2) e2 e3 e4 (by rw [e1];exact Nat.le_refl _)
      have hD3:W''.heap[D0]? = some (.deferred (some [])):=(e5 D0 (λhm=>by have:=mnew D0 hm;have:=hSV D0 kD;omega)).trans hD2
      exact λV' k1 k2 k3 k4 k5=>⟨own3.supp (S:=λk=>S' k/\k∉m2) (λk hk=>⟨p5 k hk,λhm=>by have:=mnew k hm;have:=hSV k (kSo k hk);omega⟩) (λi hd=>⟨p9 i hd,λhm=>gi2.ri.ne_mark hd (dm2 _ hm).1 rfl⟩) (λD hD=>⟨p6 D hD,λhm=>by have:=mnew D hm;have:=hSV D (kms D hD);omega⟩) V' k1 k2 k3 k4 k5,(k1 D0 ⟨p8,λhm=>by have:=mnew D0 hm;have:=hSV D0 kD;omega⟩).trans hD3⟩
     obtain ⟨q1,q2⟩:=hsupp2 V' k1 k2 k3 k4 k5
     exact ⟨q1,q2,λj hj=>by simp [zb7] at hj⟩
    ·rw [e1];exact p11 k hk.1
 -- behind the iterator
 refine ⟨l,[z3x D0],W1,{ target:=.fn (.func f) (caps.map (ren r)),args:=#[.func (.yield l) #[] #[]] },W1,f,#[Value.func (.yield l) #[] #[]]++caps.map (ren r),W1,?_,?_,λf' hf'=>?_,?_,λh=>(by cases h),?_⟩
 ·rw [<-hW1,hrec];exact run_enterLoop_outer _ _ _ _ _
 ·simp only [resolve,hcapv]
  simp [go_sem,Act.eval]
 ·simp [Target.leads] at hf'
  subst hf'
  exact zhm (hit.enter #[] default)
 ·simp [invoke,go_sem,hit.enter]
 ·have hsat1:Sat r (dom (rst s.hp rs)) (rst s.hp rs) W1:=λk b hk=>⟨(hb1.block _ (hi0.ri.lt (k:=k) (by unfold dom;rw [zer hk];simp))).trans (hi0.ri.sat k b (zer hk)).1,hit.closed k b hk⟩
  have hsubr:∀ k,dom (rst s.hp rs) k->dom s.hp k:=λk hk=>by
   unfold dom at *
   cases hb:rst s.hp rs k with
   | none=>exact absurd hb hk
   | some b=>rw [zer hb];simp
  have hlen:pn≠none->N<xs.length:=λhp1=>by
   cases pn with
   | none=>exact absurd rfl hp1
   | some pv =>
    obtain ⟨_,x',hx',_⟩:=fin
    exact (List.getElem?_eq_some_iff.1 hx').1
  have hcalls:=hit.run E l N r S1 W1 (gokOf own0.sat own0.glob own0.low) hsat1 (λk l' hk hl=>hi0.ri.inj k l' (hsubr k hk) (hsubr l' hl)) (λk hk hd=>hi0.ri.low k hk (hsubr k hd)) hlen hround X0 (λk hk=>hk.1) (λi hd h1 hS=>hS.2 ?_)
  ·refine CallsIn.mono (hcalls:CallsIn (Fw P none) 0 P _ _ _ _) ?_
   -- the owner's activation,behind it all
   have giV:∀ (rc:Nat->Nat) (hpE:Hp) (BE:Nat) (V:World),(∀ x,BE<=x->hpE x=none)->100<=BE->Own0 C d So ms s.yc a rc tsE hpE V->V.heap[D0]? = some (.deferred (some []))->W.heap.size<=V.heap.size ->
     GI P C n d rc ⟨tsE,hpE,BE,s.yc⟩ { a with defers:=[z3x D0]++a.defers } V:=λrc hpE BE V hfree hBE hown hD hsz =>
    ⟨⟨hi0.ri.size,hown.ri,hown.sat,hown.inj,
     ⟨So,D0::ms,hown.X,λk hk=>Nat.lt_of_lt_of_le (hSo k hk) hsz,hown.sep,⟨by simp [hdef],List.nodup_cons.2 ⟨λhm=>by have:=(Array.getElem?_eq_some_iff.1 (hms D0 hm).1).1;omega,hnd⟩⟩,λD hDm=>by
      rcases List.mem_cons.1 hDm with rfl|hDm
      ·exact ⟨hD,(λhS=>by have:=hSo _ hS;omega),hYn⟩
      ·exact ⟨hown.mks D hDm,(hms D hDm).2⟩⟩,
     hown.keep,hown.glob,hown.low⟩,hfree,hBE,hi0.flat,hi0.rounds⟩
   have szOf:∀ {S:Nat->Prop} {V:World} {c:Nat},XX c S V->(∀ V,XX c S V->S l->True)->V.heap[D0]? = some (.deferred (some []))->W.heap.size<=V.heap.size:=λ{S V c} _ _ h=>by
    have:=(Array.getElem?_eq_some_iff.1 h).1;omega
   cases pn with
   | some pv =>
    rintro e V ⟨rfl,c,S',hX⟩
    obtain ⟨kSo,kms,kl,kD,hcase⟩:=hX
    obtain ⟨hbefore,_⟩:=fin
    rcases hcase with ⟨hc',hfree,rc,hrcS,hsupp⟩|⟨hc',e,hpE,BE,rc,ho,hk,hfree,hBE,hrcS,hsupp⟩
    ·obtain ⟨hown,hl,hD⟩:=hsupp.here
     exact ⟨_,rc,hbefore c hc',giV rc _ B V hfree hw.low hown hD (by have:=(Array.getElem?_eq_some_iff.1 hD).1;omega)⟩
    ·obtain ⟨hown,hD,_⟩:=hsupp.here
     rcases ho with ⟨h1,_⟩|⟨pv',h1,rfl⟩
     ·cases h1
     ·cases h1
      exact ⟨_,rc,hk,giV rc _ BE V hfree hBE hown hD (by have:=(Array.getElem?_eq_some_iff.1 hD).1;omega)⟩
   | none =>
   rintro e V ⟨⟨v,rfl⟩,S',hX⟩
   obtain ⟨kSo,kms,kl,kD,hcase⟩:=hX
   have fini:∀ (st:LoopState) (pe:Option Code) (rc:Nat->Nat) (hpE:Hp) (BE:Nat),st≠.busy->(∀ x,BE<=x->hpE x=none)->100<=BE->Own0 C d So ms s.yc a rc tsE hpE V->Lv st pe V ->
     (Instr.endLoop l).run P V=.ok pe (V.putObj l (.loop { rec st pe with state:=.exhausted }))/\GI P C n d rc ⟨tsE,hpE,BE,s.yc⟩ { a with defers:=[z3x D0]++a.defers } (V.putObj l (.loop { rec st pe with state:=.exhausted })):=λst pe rc hpE BE hst hfree hBE hown ⟨hl,hD⟩=>by
    have hend:=run_endLoop (P:=P) hl (by rw [hrec];exact hst)
    refine ⟨by rw [hrec] at hend |-;exact hend,?_⟩
    have hlt:l<V.heap.size:=(Array.getElem?_eq_some_iff.1 hl).1
    have szV:∀ ob,(V.putObj l ob).heap.size=V.heap.size:=λob=>zcr _ _ _
    refine ⟨⟨hi0.ri.size,hown.ri,λk b hk=>⟨(World.putObj_heap_other (λe=>?_)).trans (hown.sat k b hk).1,(hown.sat k b hk).2⟩,hown.inj,
     ⟨So,D0::ms,C.E.ok _ _ _ _ hown.X (λk hk=>World.putObj_heap_other (λe=>by have:=hSo k hk;omega)) rfl rfl rfl (by rw [szV];exact Nat.le_refl _),λk hk=>by rw [szV];have:=hSo k hk;omega,hown.sep,⟨by simp [hdef],List.nodup_cons.2 ⟨λhm=>?_,hnd⟩⟩,λD hDm=>?_⟩,
     hown.keep,hown.glob,hown.low⟩,hfree,hBE,hi0.flat,hi0.rounds⟩
    ·have:=(hown.sat k b hk).1;rw [e,hl] at this;exact (Blk.obj_loop this).elim
    ·have:=(Array.getElem?_eq_some_iff.1 (hms D0 hm).1).1;omega
    ·rcases List.mem_cons.1 hDm with rfl|hDm
     ·exact ⟨(World.putObj_heap_other (by omega)).trans hD,(λhS=>by have:=hSo _ hS;omega),hYn⟩
     ·exact ⟨(World.putObj_heap_other (λe=>by have:=hown.mks D hDm;rw [e,hl] at this;cases this)).trans (hown.mks D hDm),(hms D hDm).2⟩
   rcases hcase with ⟨hc',hfree,rc,hrcS,hsupp⟩|⟨hc',e,hpE,BE,rc,ho,hk,hfree,hBE,hrcS,hsupp⟩
   ·obtain ⟨hown,hLv⟩:=hsupp.here
    have hNl:N=xs.length:=by omega
    have hmin:min (N+1) xs.length=N:=by omega
    rw [hmin] at hfree hown
    obtain ⟨f1,f2⟩:=fini .ready none rc (hp N) B (by simp) hfree hw.low hown hLv
    rcases fin with ⟨_,hK⟩|⟨x',hx',_⟩
    ·exact ⟨none,_,f1,_,rc,hK,f2⟩
    ·obtain ⟨h9,_⟩:=List.getElem?_eq_some_iff.1 hx';omega
   ·obtain ⟨hown,_,hLv⟩:=hsupp.here
    rcases ho with ⟨_,ho⟩|⟨pv,h1,_⟩
    ·cases hoj:zb7 e with
     | none=>rw [hoj] at ho;cases ho
     | some j =>
      obtain ⟨f1,f2⟩:=fini .done (some j) rc hpE BE (by simp) hfree hBE hown (hLv j hoj)
      refine ⟨some j,_,f1,?_⟩
      cases e<;>simp only [zb7,Option.some.injEq,reduceCtorEq] at hoj
      ·subst hoj;exact wpIn_exit ⟨_,rc,hk,f2⟩
      ·subst hoj;exact wpIn_goto ⟨_,rc,hk,f2⟩
      ·subst hoj;exact wpIn_ret ⟨_,rc,hk,f2⟩
    ·cases h1
  ·refine ⟨i,?_,h1,rfl⟩
   unfold dom rst at hd
   split at hd
   ·rename_i h;exact h.resolve_left (by omega)
   ·exact absurd rfl hd

theorem zg1 {t:Tmp} {ps:Array Tmp} {assign body:Code} {f:FuncId} {caps:Array Value} {rs:List Nat} {xs:List (Array Value)} (hg:s.ts t=.func (.func f) #[] caps) (hit:zhl P C.G f caps s.hp rs xs)
  (hxs:∀ x∈xs,x.size=ps.size/\∀ v∈x,za0 v=true) (hps:∀ p∈ps,p<n) (tsE:Nat->Value) (hp:Nat->Hp) (B:Nat) (N:Nat) (hN:N<=xs.length)
  (hw:Weak C s ⟨tsE,hp 0,B,s.yc⟩) (hdis:∀ k∈rs,hp 0 k=none/\dom s.hp k) (hids:∀ i,i<=N->∀ t,zap (dom (hp i)) (tsE t))
  (rounds:∀ i x,i<N->xs[i]? = some x->∀ (C1:Ctx) (l:Nat),C1.G=C.G->C1.hp0=hp i->C1.Y=none->GW P C1 n [] (some l) assign ⟨za3 ps.toList x.toList tsE,hp i,B,0⟩
   (zcy (λs1=>∀ C2:Ctx,C2.G=C.G->C2.hp0=hp i->C2.Y=none->GW P C2 n [] (some l) body s1 (zcy (λs2=>Weak C1 s2 ⟨λ_=>zbz,hp (i+1),B,s2.yc⟩) (λ_ _=>False))) (λ_ _=>False)))
  (fin:(N=xs.length/\K .normal ⟨tsE,hp N,B,s.yc⟩)\/∃ x,xs[N]? = some x/\∀ (C1:Ctx) (l:Nat),C1.G=C.G->C1.hp0=hp N->C1.Y=none->GW P C1 n [] (some l) assign ⟨za3 ps.toList x.toList tsE,hp N,B,0⟩
   (zcy (λs1=>∀ C2:Ctx,C2.G=C.G->C2.hp0=hp N->C2.Y=none->GW P C2 n [] (some l) body s1 (λe s2=>(zb7 e).isSome=true/\(∀ t,zap (dom s2.hp) (tsE t))/\K e ⟨tsE,s2.hp,s2.B,s.yc⟩)) (λ_ _=>False))) (hYn:C.Y≠some .still:=by first|assumption|(intro h;simp_all [YG.still])) :
  GW P C n d none (.rangeFunc (.tmp t) ps assign body) s K :=
 zn3 none hg hit hxs hps tsE hp B N hN hw hdis hids rounds fin hYn
theorem zws (pv:Value) {t:Tmp} {ps:Array Tmp} {assign body:Code} {f:FuncId} {caps:Array Value} {rs:List Nat} {xs:List (Array Value)} (hg:s.ts t=.func (.func f) #[] caps) (hit:z75 P C.G f caps s.hp rs xs)
  (hxs:∀ x∈xs,x.size=ps.size/\∀ v∈x,za0 v=true) (hps:∀ p∈ps,p<n) (tsE:Nat->Value) (hp:Nat->Hp) (B:Nat) (N:Nat) (hN:N<=xs.length)
  (hw:Weak C s ⟨tsE,hp 0,B,s.yc⟩) (hdis:∀ k∈rs,hp 0 k=none/\dom s.hp k) (hids:∀ i,i<=N->∀ t,zap (dom (hp i)) (tsE t))
  (rounds:∀ i x,i<N->xs[i]? = some x->∀ (C1:Ctx) (l:Nat),C1.G=C.G->C1.hp0=hp i->C1.Y=none->GW P C1 n [] (some l) assign ⟨za3 ps.toList x.toList tsE,hp i,B,0⟩
   (zcy (λs1=>∀ C2:Ctx,C2.G=C.G->C2.hp0=hp i->C2.Y=none->GW P C2 n [] (some l) body s1 (zcy (λs2=>Weak C1 s2 ⟨λ_=>zbz,hp (i+1),B,s2.yc⟩) (λ_ _=>False))) (λ_ _=>False)))
  (before:∀ c,c<=N->K (.panic [{ v:=pv,recovered:=false }]) ⟨tsE,hp c,B,s.yc⟩)
  (fin:∃ x,xs[N]? = some x/\∀ (C1:Ctx) (l:Nat),C1.G=C.G->C1.hp0=hp N->C1.Y=none->GW P C1 n [] (some l) assign ⟨za3 ps.toList x.toList tsE,hp N,B,0⟩
   (zcy (λs1=>∀ C2:Ctx,C2.G=C.G->C2.hp0=hp N->C2.Y=none->GW P C2 n [] (some l) body s1 (λe s2=>e=.panic [{ v:=pv,recovered:=false }]/\(∀ t,zap (dom s2.hp) (tsE t))/\K e ⟨tsE,s2.hp,s2.B,s.yc⟩)) (λ_ _=>False))) (hYn:C.Y≠some .still:=by first|assumption|(intro h;simp_all [YG.still])) :
  GW P C n d none (.rangeFunc (.tmp t) ps assign body) s K :=
 zn3 (some pv) hg (hit pv) hxs hps tsE hp B N hN hw hdis hids rounds ⟨before,fin⟩ hYn
end

theorem nr {α:Sort _} {a b:α} (h:a=b):a=b:=h
section
variable {P:Program} {G:Hp} {V:XV} {yc:Nat} {ts:Nat->Value} {hp:Hp} {nk:Nat} {C:Eff->Prop} {dst:Option Tmp} {type:TypeId} {pos:String} {after:Array Edge} {guard:Option (Nat×Bool)}

@[simp] theorem jlv (b:Bool):nj (.bool b)=True:=nr rfl
@[simp] theorem joj (k:IntKind) (n:Int):nj (.int k n)=True:=nr rfl
@[simp] theorem jf0 (s:ByteArray):nj (.string s)=True:=nr rfl
@[simp] theorem jcl (a:Option Addr):nj (.pointer a)=True:=nr rfl
@[simp] theorem jjh (a:Option Addr) (n c:Nat):nj (.slice a n c)=True:=nr rfl
@[simp] theorem jok (a:Option Nat):nj (.map a)=True:=nr rfl
@[simp] theorem jlw (f:Fn) (a b:Array Value):nj (.func f a b)=True:=nr rfl
@[simp] theorem jjg (t:TypeId) (v:Value):nj (.iface t v)=True:=nr rfl
@[simp] theorem joi (cs:Array Value):nj (.agg cs)=True:=nr rfl
@[simp] theorem jji (cs:Array Value):nj (.tuple cs)=True:=nr rfl

@[simp] theorem jly (t:Tmp):okX ts hp (.tmp t)=nj (ts t):=nr rfl
@[simp] theorem jf3 (v:Value):okX ts hp (.const v)=(za0 v=true):=nr rfl
@[simp] theorem jco (g:Nat):okX ts hp (.global g)=(g<100/\(hp g).isSome=true):=nr rfl
@[simp] theorem jjl (f:FuncId):okX ts hp (.func f)=True:=nr rfl
@[simp] theorem jk4 (t:Tmp):gev ts (.tmp t)=ts t:=nr rfl
@[simp] theorem jex (v:Value):gev ts (.const v)=v:=nr rfl
@[simp] theorem jb5 (g:Nat):gev ts (.global g)=.pointer (some ⟨g,0,none⟩):=nr rfl
@[simp] theorem jil (f:FuncId):gev ts (.func f)=.func (.func f) #[] #[]:=nr rfl

@[simp] theorem jek (k:IntKind) (n:Int):zho (.int k n)=true:=nr rfl
@[simp] theorem jen (k:IntKind) (n:Int):zbj (.int k n)=true:=nr rfl
@[simp] theorem z6c (s:ByteArray):zbj (.string s)=true:=nr rfl
@[simp] theorem z1w (n c:Nat):zbj (.slice none n c)=true:=nr rfl
@[simp] theorem jb0 (b:Bool):zhe (.bool b)=true:=nr rfl
@[simp] theorem jem (k:IntKind) (n:Int):zhe (.int k n)=true:=nr rfl
@[simp] theorem z1v (n c:Nat):zhe (.slice none n c)=true:=nr rfl
@[simp] theorem jel (cs:Array Value):zhe (.agg cs)=cs.all zbj:=nr rfl
@[simp] theorem jb1 (b:Bool):za0 (.bool b)=true:=nr rfl
@[simp] theorem jeq (k:IntKind) (n:Int):za0 (.int k n)=true:=nr rfl
@[simp] theorem z6d (s:ByteArray):za0 (.string s)=true:=nr rfl
@[simp] theorem z3b:za0 .nilFunc=true:=nr rfl
@[simp] theorem z1x:za0 .nilIface=true:=nr rfl
@[simp] theorem z1y (n c:Nat):za0 (.slice none n c)=true:=nr rfl
@[simp] theorem z8z (t:TypeId) (v:Value):za0 (.iface t v)=zho v:=nr rfl
@[simp] theorem jeo (cs:Array Value):za0 (.agg cs)=cs.all zbj:=nr rfl
@[simp] theorem z80 (cs:Array Value):za0 (.tuple cs)=cs.all zhe:=nr rfl

@[simp] theorem jj2 (k:IntKind) (n:Int):zla (.int k n)=true:=nr rfl
@[simp] theorem jc7 (a:Option Addr) (n c:Nat):zla (.slice a n c)=true:=nr rfl
@[simp] theorem z67 (b:Bool):za9 (.bool b)=true:=nr rfl
@[simp] theorem z94 (k:IntKind) (n:Int):za9 (.int k n)=true:=nr rfl
@[simp] theorem z4c (a:Option Addr) (n c:Nat):za9 (.slice a n c)=true:=nr rfl
@[simp] theorem z68 (f:Fn) (a b:Array Value):za9 (.func f a b)=true:=nr rfl
@[simp] theorem z93 (cs:Array Value):za9 (.agg cs)=cs.all zla:=nr rfl

@[simp] theorem z90 (b:Bool):zd0 (.bool b)=true:=nr rfl
@[simp] theorem jcn (k:IntKind) (n:Int):zd0 (.int k n)=true:=nr rfl
@[simp] theorem z65 (a:Option Addr) (n c:Nat):zd0 (.slice a n c)=true:=nr rfl
@[simp] theorem jcm (cs:Array Value):zd0 (.agg cs)=true:=nr rfl

@[simp] theorem jcx (k:IntKind) (n:Int):zbs (.int k n)=true:=nr rfl
@[simp] theorem z12 (a:Option Addr):zbs (.pointer a)=true:=nr rfl
@[simp] theorem jbu (b:Bool):(Value.bool b).cells=#[.bool b]:=nr rfl
@[simp] theorem jd1 (k:IntKind) (n:Int):(Value.int k n).cells=#[.int k n]:=nr rfl
@[simp] theorem z8m (a:Option Addr) (n c:Nat):(Value.slice a n c).cells=#[.slice a n c]:=nr rfl
@[simp] theorem jbv (f:Fn) (a b:Array Value):(Value.func f a b).cells=#[.func f a b]:=nr rfl
@[simp] theorem jd0 (cs:Array Value):(Value.agg cs).cells=cs:=nr rfl

@[simp] theorem jm4 {α:Type} (f:Nat->α) (k:Nat) (v:α) (j:Nat):upd f k v j=if j=k then v else f j:=nr rfl
@[simp] theorem jke:zaw hp []=hp:=nr rfl
@[simp] theorem jhp (k:Nat) (b:Blk) (l:List (Nat×Blk)):zaw hp ((k,b)::l)=zaw (upd hp k (some b)) l:=nr rfl
@[simp] theorem jgs (d:Tmp) (v:Value):zbl ts (some d) v=upd ts d v:=nr rfl
@[simp] theorem jgr (v:Value):zbl ts none v=ts:=nr rfl
@[simp] theorem ji9:zab []=[]:=nr rfl
@[simp] theorem jfb (k:Nat) (b:Blk) (l:List (Nat×Blk)):zab ((k,b)::l)=k::zab l:=nr rfl
@[simp] theorem jmt (k:Nat) (tr:Tr):zgd k [] [] tr=tr:=nr rfl
@[simp] theorem jmu (k x:Nat) (l wr:List Nat) (tr:Tr):zgd k (x::l) wr tr=(k,x::l,wr)::tr:=nr rfl
@[simp] theorem jqn (v:Value) (rs:List Nat):(val v rs).v=v:=nr rfl
@[simp] theorem jo5 (v:Value) (rs:List Nat):(val v rs).rs=rs:=nr rfl
@[simp] theorem jo6 (v:Value) (rs:List Nat):(val v rs).ws=[]:=nr rfl
@[simp] theorem jo4 (v:Value) (rs:List Nat):(val v rs).ns=[]:=nr rfl
@[simp] theorem jm5 (v:Value) (rs:List Nat):(val v rs).pan=none:=nr rfl
@[simp] theorem jo7 (v:Value) (rs:List Nat):(val v rs).yl=false:=nr rfl
@[simp] theorem jkw (rs:List Nat) (v:Value) (ws:List (Nat×Blk)):(Res.ret v ws).eff rs=⟨v,rs,ws,[],none,false⟩:=nr rfl
@[simp] theorem jku (rs:List Nat) (v:Value) (ns:List (Nat×Blk)):(Res.new v ns).eff rs=⟨v,rs,[],ns,none,false⟩:=nr rfl
@[simp] theorem jkv (rs:List Nat) (v:Value):(Res.pan v).eff rs=⟨zbz,rs,[],[],some v,false⟩:=nr rfl
@[simp] theorem jk6 (k:Nat):zlv k=.pointer (some ⟨k,0,none⟩):=nr rfl
@[simp] theorem jdb (c:Array Value) (o:Nat):zct c o []=c:=nr rfl
@[simp] theorem ja1 (c:Array Value) (o:Nat) (v:Value) (l:List Value):zct c o (v::l)=zct (c.setIfInBounds o v) (o+1) l:=nr rfl

def z1e (v:Value) (w:Bool):Option Bool :=
 match v with
 | .bool b=>some (b==w)
 | .tuple _=>some false
 | _=>none
@[simp] theorem jdf (b w:Bool):z1e (.bool b) w=some (b==w):=nr rfl
@[simp] theorem jbi (w:Bool):z1e undef w=some false:=nr rfl
def z1d (d:Option Tmp) (w:Bool) (ts:Nat->Value):Option Bool :=
 match d with
 | some d=>z1e (ts d) w
 | none=>some false
@[simp] theorem jde (d:Tmp) (w:Bool):z1d (some d) w ts=z1e (ts d) w:=nr rfl
@[simp] theorem zr3 (ops:Array Oper) (op:Op) (j:Nat) (w:Bool):zc0 ops ⟨dst,op,type,pos,after,some (j,w)⟩ ts=z1d ((ops[j]?).bind (·.dst)) w ts:=by
 unfold zc0 z1d z1e
 rfl

def jdg (w:Option Bool) (a b:Prop):Prop :=
 match w with
 | some true=>a
 | some false=>b
 | none=>False
@[simp] theorem zk9 (a b:Prop):jdg (some true) a b=a:=nr rfl
@[simp] theorem jdi (a b:Prop):jdg (some false) a b=b:=nr rfl
def zfj (seen:List (Option Tmp)) (k:Nat) (o:Oper) (ts:Nat->Value):Option Bool :=
 match o.guard with
 | none=>some true
 | some (j,w)=>if j<k then z1d ((seen[k - 1 - j]?).bind id) w ts else none
@[simp] theorem z7q (seen:List (Option Tmp)) (k:Nat) (op:Op):zfj seen k ⟨dst,op,type,pos,after,none⟩ ts=some true:=nr rfl
@[simp] theorem zp0 (seen:List (Option Tmp)) (k:Nat) (op:Op) (j:Nat) (w:Bool):zfj seen k ⟨dst,op,type,pos,after,some (j,w)⟩ ts=if j<k then z1d ((seen[k - 1 - j]?).bind id) w ts else none:=nr rfl
structure QQ where
 q:(Nat->Value)->Hp->Tr->Nat->Prop
 p:Value->Tr->Prop
def jct (pan:Option Value) (a:Prop) (b:Value->Prop):Prop :=
 match pan with
 | none=>a
 | some v=>b v
@[simp] theorem jgf (a:Prop) (b:Value->Prop):jct none a b=a:=nr rfl
@[simp] theorem jgg (a:Prop) (b:Value->Prop) (v:Value):jct (some v) a b=b v:=nr rfl
@[congr] theorem jcu {pan pan':Option Value} {a:Prop} {b:Value->Prop} (h:pan=pan'):jct pan a b=jct pan' a b:=by rw [h]
def zhu (P:Program) (G:Hp) (V:XV) (base:Nat) (Q:QQ):List (Option Tmp)->Nat->List Oper->(Nat->Value)->Hp->Tr->Nat->Bool->Bool->Prop
 | _,_,[],ts,hp,tr,yc,_,_=>Q.q ts hp tr yc
 | seen,k,o::rest,ts,hp,tr,yc,wr,yd=>jdg (zfj seen k o ts) (opX P G V yc o ts hp (base+8*k) λe=>(e.yl=true->yd=false)/\jct e.pan
    (zhu P G V base Q (o.dst::seen) (k+1) rest (zbl ts o.dst e.v) (zaw hp (e.ws++e.ns)) (zgd k (e.rs++zab e.ns) (zab e.ws++zab e.ns) tr) (if e.yl then yc+1 else yc) (wr||!e.ws.isEmpty) (yd||e.yl))
    (λpv=>(V.dr=true->rest.isEmpty=true)/\(wr||!e.ws.isEmpty)=false/\Q.p pv (zgd k (e.rs++zab e.ns) (zab e.ws++zab e.ns) tr)))
   (unD o ts/\zhu P G V base Q (o.dst::seen) (k+1) rest (zbl ts o.dst undef) hp tr yc wr yd)
theorem zmm {ops:Array Oper} {seen:List (Option Tmp)} {k:Nat} {o:Oper} {b:Bool} (hs:∀ j,j<k->(seen[k - 1 - j]?).bind id=(ops[j]?).bind (·.dst)) (h:zfj seen k o ts=some b):zc0 ops o ts=some b:=by
 obtain ⟨dst,op,type,pos,after,guard⟩:=o
 cases guard with
 | none=>exact h
 | some p =>
  obtain ⟨j,w⟩:=p
  rw [zp0] at h
  rw [zr3]
  split at h
  ·rename_i hj;rw [hs j hj] at h;exact h
  ·cases h
theorem zye {C':Eff->Prop} (hc:∀ e,C e->C' e) {m k v:Value} (h:z9d hp m k v C):z9d hp m k v C':=by
 unfold z9d zut at *
 repeat' split at h
 all_goals first|exact h.elim|exact ⟨h.1,h.2.1,hc _ h.2.2⟩
theorem z3u {C':Eff->Prop} (hc:∀ e,C e->C' e) {m k:Value} (h:lkX hp m k C):lkX hp m k C':=by
 unfold lkX jck at *
 repeat' split at h
 all_goals first|exact h.elim|exact ⟨h.1,hc _ h.2⟩
theorem z36 {v:Value} {C C':Eff->Prop} (hc:∀ e,C e->C' e) (h:ncX v C):ncX v C':=by
 unfold ncX at *
 split at h
 ·exact hc _ h
 ·exact h.elim
theorem z30 {u:Option TypeDesc} {v w:Value} {C C':Eff->Prop} (hc:∀ e,C e->C' e) (h:msU P nk u v w C):msU P nk u v w C':=by
 unfold msU msM msZ at *
 repeat' split at h
 all_goals first|exact h.elim|exact ⟨h.1,h.2.1,h.2.2.1,h.2.2.2.1,h.2.2.2.2.1,h.2.2.2.2.2.1,hc _ h.2.2.2.2.2.2⟩
theorem znf {o:Oper} {C':Eff->Prop} (hc:∀ e,C e->C' e) (h:opX P G V yc o ts hp nk C):opX P G V yc o ts hp nk C':=by
 have hi:=@zye hp C C' hc
 have hl:=@z3u hp C C' hc
 have hn:=@z36 (C:=C) (C':=C') (hc:=hc)
 have hq:=@z30 P nk (C:=C) (C':=C') (hc:=hc)
 unfold opX zui zit za2 zql zgn zmp zvi at *
 repeat' split at h
 all_goals first|exact h.elim|exact ⟨h.1,h.2.1,h.2.2.1,h.2.2.2.1,h.2.2.2.2.1,hi h.2.2.2.2.2⟩|exact ⟨h.1,h.2.1,h.2.2.1,h.2.2.2.1,hl h.2.2.2.2⟩|exact ⟨h.1,hn h.2⟩|exact ⟨h.1,h.2.1,hq h.2.2⟩|skip
 all_goals grind
theorem zfb {ops:Array Oper} {base:Nat} {Q:QQ}:∀ (l:List Oper) (seen:List (Option Tmp)) (k:Nat) (ts:Nat->Value) (hp:Hp) (tr:Tr) (yc:Nat) (wr yd:Bool),(∀ j,j<k->(seen[k - 1 - j]?).bind id=(ops[j]?).bind (·.dst))->(∀ i,l[i]? = ops[k+i]?) ->
  zhu P G V base Q seen k l ts hp tr yc wr yd->zji P G V ops base Q.q Q.p k l ts hp tr yc wr yd
 | [],_,_,_,_,_,_,_,_,_,_,h=>h
 | o::l,seen,k,ts,hp,tr,yc,wr,yd,hs,hl,h=>by
  have ho:ops[k]? = some o:=by have:=hl 0;simpa using this.symm
  have hs':∀ j,j<k+1->((o.dst::seen)[k+1 - 1 - j]?).bind id=(ops[j]?).bind (·.dst):=λj hj=>by
   by_cases e:j=k
   ·subst e;simp [ho]
   ·have:k+1 - 1 - j=(k - 1 - j)+1:=by omega
    rw [this,List.getElem?_cons_succ];exact hs j (by omega)
  have hl':∀ i,l[i]? = ops[k+1+i]?:=λi=>by
   have:=hl (i+1)
   rw [List.getElem?_cons_succ] at this
   rw [this];congr 1;omega
  simp only [zhu] at h
  simp only [zji]
  cases hw:zfj seen k o ts with
  | none=>rw [hw] at h;exact h.elim
  | some b =>
   rw [hw] at h
   rw [zmm hs hw]
   cases b with
   | true =>
    rw [zk9] at h
    refine znf (λe he=>⟨he.1,?_⟩) h
    have he:=he.2
    cases hpn:e.pan with
    | none=>rw [hpn] at he;exact zfb l _ _ _ _ _ _ _ _ hs' hl' he
    | some pv=>rw [hpn] at he;exact ⟨λhd=>by simpa using he.1 hd,he.2⟩
   | false=>exact ⟨h.1,zfb l _ _ _ _ _ _ _ _ hs' hl' h.2⟩
theorem z17 {Ct:Ctx} {n:Nat} {d:List Deferred} {ro:Option Nat} {s:GS} {K:Exit->GS->Prop} {id:Nat} {l:List Oper} (pn:List FuncId) (hm:P.follows .mixedOrders=true) (hB:Region.lexFrom .any l.toArray l.length 0 (Array.replicate l.length false)=true) (hdst:(zhd n l&&zrz P l)=true)
  (h:∀ (Q:QQ),(∀ ts hp tr yc,chk .any l.toArray tr=true->K .normal ⟨ts,hp,s.B+8*l.length,yc⟩->Q.q ts hp tr yc) ->
   (∀ pv tr,chk .any l.toArray tr=true->(∀ yc,K (.panic [{ v:=pv,recovered:=false }]) ⟨zh9 l s.ts,s.hp,s.B,yc⟩)->Q.p pv tr)->zhu P Ct.G ⟨Ct.Y,pn,true⟩ s.B Q [] 0 l s.ts s.hp [] s.yc false false):GW P Ct n d ro (.region id l.toArray true) s K :=
 z70 pn hm hB hdst λQ Qp hQ hQp=>zfb (Q:=⟨Q,Qp⟩) l [] 0 _ _ _ _ _ _ (λj hj=>absurd hj (Nat.not_lt_zero j)) (λi=>by simp) (h ⟨Q,Qp⟩ hQ hQp)
theorem zck {Ct:Ctx} {n:Nat} {d:List Deferred} {ro:Option Nat} {s:GS} {K:Exit->GS->Prop} {id:Nat} {l:List Oper} (pn:List FuncId) (hdst:(zhd n l&&zrz P l)=true)
  (h:∀ (Q:QQ),(∀ ts hp tr yc,K .normal ⟨ts,hp,s.B+8*l.length,yc⟩->Q.q ts hp tr yc) ->
   (∀ pv tr,(∀ yc,K (.panic [{ v:=pv,recovered:=false }]) ⟨zh9 l s.ts,s.hp,s.B,yc⟩)->Q.p pv tr)->zhu P Ct.G ⟨Ct.Y,pn,false⟩ s.B Q [] 0 l s.ts s.hp [] s.yc false false):GW P Ct n d ro (.region id l.toArray false) s K :=
 zwt pn hdst λQ Qp hQ hQp=>zfb (Q:=⟨Q,Qp⟩) l [] 0 _ _ _ _ _ _ (λj hj=>absurd hj (Nat.not_lt_zero j)) (λi=>by simp) (h ⟨Q,Qp⟩ hQ hQp)

def z2t (C:Eff->Prop) (v:Value):Prop:=C (val v [])
@[simp] theorem jdy (v:Value):z2t C v=C (val v []):=nr rfl
def zkf (P:Program) (G:Hp) (V:XV) (base:Nat) (Q:QQ) (seen:List (Option Tmp)) (k:Nat) (rest:List Oper) (dst:Option Tmp) (ts:Nat->Value) (hp:Hp) (tr:Tr) (yc:Nat) (wr yd:Bool) (e:Eff):Prop :=
 (e.yl=true->yd=false)/\jct e.pan
    (zhu P G V base Q (dst::seen) (k+1) rest (zbl ts dst e.v) (zaw hp (e.ws++e.ns)) (zgd k (e.rs++zab e.ns) (zab e.ws++zab e.ns) tr) (if e.yl then yc+1 else yc) (wr||!e.ws.isEmpty) (yd||e.yl))
    (λpv=>(V.dr=true->rest.isEmpty=true)/\(wr||!e.ws.isEmpty)=false/\Q.p pv (zgd k (e.rs++zab e.ns) (zab e.ws++zab e.ns) tr))
@[simp] theorem jd6 (base:Nat) (Q:QQ) (seen:List (Option Tmp)) (k:Nat) (rest:List Oper) (tr:Tr) (wr yd:Bool) (v:Value) (rs:List Nat):zkf P G V base Q seen k rest dst ts hp tr yc wr yd (val v rs) =
 zhu P G V base Q (dst::seen) (k+1) rest (zbl ts dst v) hp (zgd k rs [] tr) yc wr yd:=by simp [zkf]
@[simp] theorem jid (base:Nat) (Q:QQ) (seen:List (Option Tmp)) (k:Nat) (rest:List Oper) (tr:Tr) (wr yd:Bool) (v:Value) (rs:List Nat) (ws ns:List (Nat×Blk)):zkf P G V base Q seen k rest dst ts hp tr yc wr yd ⟨v,rs,ws,ns,none,false⟩ =
 zhu P G V base Q (dst::seen) (k+1) rest (zbl ts dst v) (zaw hp (ws++ns)) (zgd k (rs++zab ns) (zab ws++zab ns) tr) yc (wr||!ws.isEmpty) yd:=by simp [zkf]
@[simp] theorem jie (base:Nat) (Q:QQ) (seen:List (Option Tmp)) (k:Nat) (rest:List Oper) (tr:Tr) (wr yd:Bool) (v:Value):zkf P G V base Q seen k rest dst ts hp tr yc wr yd ⟨v,[],[],[],none,true⟩ =
 (yd=false/\zhu P G V base Q (dst::seen) (k+1) rest (zbl ts dst v) hp tr (yc+1) wr true):=by simp [zkf]
@[simp] theorem jd4 (base:Nat) (Q:QQ) (seen:List (Option Tmp)) (k:Nat) (rest:List Oper) (tr:Tr) (wr yd:Bool) (v pv:Value) (rs:List Nat):zkf P G V base Q seen k rest dst ts hp tr yc wr yd ⟨v,rs,[],[],some pv,false⟩ =
 ((V.dr=true->rest.isEmpty=true)/\wr=false/\Q.p pv (zgd k rs [] tr)):=by simp [zkf]
@[simp] theorem jd5 (base:Nat) (Q:QQ) (seen:List (Option Tmp)) (k:Nat) (rest:List Oper) (tr:Tr) (wr yd:Bool) (v pv:Value):zkf P G V base Q seen k rest dst ts hp tr yc wr yd ⟨v,[],[],[],some pv,true⟩ =
 (yd=false/\(V.dr=true->rest.isEmpty=true)/\wr=false/\Q.p pv tr):=by simp [zkf]
@[simp] theorem jja (base:Nat) (Q:QQ) (seen:List (Option Tmp)) (k:Nat) (tr:Tr) (wr yd:Bool):zhu P G V base Q seen k [] ts hp tr yc wr yd=Q.q ts hp tr yc:=nr rfl
@[simp] theorem jfl (base:Nat) (Q:QQ) (seen:List (Option Tmp)) (k:Nat) (tr:Tr) (wr yd:Bool) (op:Op) (rest:List Oper):zhu P G V base Q seen k (⟨dst,op,type,pos,after,guard⟩::rest) ts hp tr yc wr yd =
  jdg (zfj seen k ⟨dst,op,type,pos,after,guard⟩ ts) (opX P G V yc ⟨dst,op,type,pos,after,guard⟩ ts hp (base+8*k) (zkf P G V base Q seen k rest dst ts hp tr yc wr yd))
   (unD ⟨dst,op,type,pos,after,guard⟩ ts/\zhu P G V base Q (dst::seen) (k+1) rest (zbl ts dst undef) hp tr yc wr yd):=nr rfl

@[simp] theorem jka (x:Operand):unD ⟨dst,.move x,type,pos,after,guard⟩ ts=True:=nr rfl
@[simp] theorem jkb (c:Operand) (x:Operand) (y:Operand):unD ⟨dst,.pick c x y,type,pos,after,guard⟩ ts=True:=nr rfl
@[simp] theorem jhj (T:TypeId) (ps:Array (Nat×Operand)):unD ⟨dst,.build T ps,type,pos,after,guard⟩ ts=True:=nr rfl
@[simp] theorem jj9 (T:TypeId) (x:Operand):unD ⟨dst,.load T x,type,pos,after,guard⟩ ts=True:=nr rfl
@[simp] theorem jhi (b:BinOp) (T:TypeId) (x:Operand) (y:Operand) (T2:TypeId):unD ⟨dst,.binOp b T x y T2,type,pos,after,guard⟩ ts=True:=nr rfl
@[simp] theorem jkc (u:UnOp) (T:TypeId) (x:Operand):unD ⟨dst,.unOp u T x,type,pos,after,guard⟩ ts=True:=nr rfl
@[simp] theorem z48 (T:TypeId) (x:Operand) (f:Nat):unD ⟨dst,.fieldAddr T x f,type,pos,after,guard⟩ ts=True:=nr rfl
@[simp] theorem z49 (T:TypeId) (x:Operand) (i:Operand):unD ⟨dst,.indexAddr T x i,type,pos,after,guard⟩ ts=True:=nr rfl
@[simp] theorem jhm (t:Tmp) (a:Array Operand) (T:Array TypeId):unD ⟨dst,.call ⟨.value (.tmp t),a,T⟩,type,pos,after,guard⟩ ts=(ts t=undef):=nr rfl
@[simp] theorem jhl (f:FuncId) (a:Array Operand) (T:Array TypeId):unD ⟨dst,.call ⟨.value (.func f),a,T⟩,type,pos,after,guard⟩ ts=True:=nr rfl
@[simp] theorem jhk (b:Builtin) (a:Array Operand) (T:Array TypeId):unD ⟨dst,.call ⟨.builtin b,a,T⟩,type,pos,after,guard⟩ ts=True:=nr rfl

def z6h (u:Option TypeDesc) (T:TypeId) (v:Value) (C:Eff->Prop):Prop :=
 match u with
 | some (.interface _)=>False
 | some _=>C (val (.iface T v) [])
 | none=>False
@[simp ↓] theorem jjp (x:Operand):opX P G V yc ⟨dst,.move x,type,pos,after,guard⟩ ts hp nk C=(okX ts hp x/\C (val (gev ts x) [])):=nr rfl
@[simp ↓] theorem jcp (x:Operand):opX P G V yc ⟨dst,.assign x,type,pos,after,guard⟩ ts hp nk C=(okX ts hp x/\C (val (gev ts x) [])):=nr rfl
def z4i (ts:Nat->Value) (hp:Hp) (v:Value) (x y:Operand) (C:Eff->Prop):Prop :=
 match v with
 | .bool b=>(b=true->okX ts hp x)/\(b=false->okX ts hp y)/\C (val (if b then gev ts x else gev ts y) [])
 | _=>False
@[simp] theorem jcw (b:Bool) (x y:Operand):z4i ts hp (.bool b) x y C=((b=true->okX ts hp x)/\(b=false->okX ts hp y)/\C (val (if b then gev ts x else gev ts y) [])):=nr rfl
@[simp ↓] theorem jjq (c x y:Operand):opX P G V yc ⟨dst,.pick c x y,type,pos,after,guard⟩ ts hp nk C=(okX ts hp c/\z4i ts hp (gev ts c) x y C):=nr rfl
def zsk (z:Option Value) (nk:Nat) (T:TypeId) (C:Eff->Prop):Prop :=
 match z with
 | some z=>za9 z=true/\za0 z=true/\C ⟨zlv nk,[],[],[(nk,⟨z.cells,T⟩)],none,false⟩
 | none=>False
@[simp] theorem z8c (z:Value) (T:TypeId):zsk (some z) nk T C=(za9 z=true/\za0 z=true/\C ⟨zlv nk,[],[],[(nk,⟨z.cells,T⟩)],none,false⟩):=nr rfl
@[simp ↓] theorem jf5 (T:TypeId):opX P G V yc ⟨dst,.alloc T,type,pos,after,guard⟩ ts hp nk C=zsk (zbq P T) nk T C:=nr rfl
@[simp ↓] theorem jl1 (T:TypeId) (x:Operand):opX P G V yc ⟨dst,.box T x,type,pos,after,guard⟩ ts hp nk C=(okX ts hp x/\za9 (gev ts x)=true/\C ⟨zlv nk,[],[],[(nk,⟨(gev ts x).cells,T⟩)],none,false⟩):=nr rfl
def zo6 (v:Option Value) (k:Nat) (C:Eff->Prop):Prop :=
 match v with
 | some v=>C (val v [k])
 | none=>False
@[simp] theorem z9q (v:Value) (k:Nat):zo6 (some v) k C=C (val v [k]):=nr rfl
def zo5 (P:Program) (T:TypeId) (b:Option Blk) (k off:Nat) (C:Eff->Prop):Prop :=
 match b with
 | some b=>zo6 (zds P T b off) k C
 | none=>False
@[simp] theorem jjc (T t:TypeId) (c:Array Value) (off:Nat):zds P T ⟨c,.ty t⟩ off=zc3 P T c off:=nr rfl
@[simp] theorem z9p (T:TypeId) (b:Blk) (k off:Nat):zo5 P T (some b) k off C=zo6 (zds P T b off) k C:=nr rfl
def z3v (P:Program) (T:TypeId) (hp:Hp) (v:Value) (C:Eff->Prop):Prop :=
 match v with
 | .pointer (some ⟨k,off,none⟩)=>zo5 P T (hp k) k off C
 | _=>False
@[simp] theorem jfo (T:TypeId) (k off:Nat):z3v P T hp (.pointer (some ⟨k,off,none⟩)) C=zo5 P T (hp k) k off C:=nr rfl
@[simp ↓] theorem jjo (T:TypeId) (x:Operand):opX P G V yc ⟨dst,.load T x,type,pos,after,guard⟩ ts hp nk C=(okX ts hp x/\z3v P T hp (gev ts x) C):=nr rfl
def zk5 (P:Program) (T:TypeId) (b:Option Blk) (k off:Nat) (w:Value) (C:Eff->Prop):Prop :=
 match b with
 | some b=>b.T.own=true/\za9 w=true/\zaz P T=some w.cells.size/\off+w.cells.size<=b.c.size/\100<=k/\C ⟨undef,[k],[(k,⟨zct b.c off w.cells.toList,b.T⟩)],[],none,false⟩
 | none=>False
@[simp] theorem z7o (T:TypeId) (c:Array Value) (T':BTy) (k off:Nat) (w:Value):zk5 P T (some ⟨c,T'⟩) k off w C=(BTy.own T'=true/\za9 w=true/\zaz P T=some w.cells.size/\off+w.cells.size<=c.size/\100<=k/\C ⟨undef,[k],[(k,⟨zct c off w.cells.toList,T'⟩)],[],none,false⟩):=nr rfl
def zts (P:Program) (T:TypeId) (hp:Hp) (v w:Value) (C:Eff->Prop):Prop :=
 match v with
 | .pointer (some ⟨k,off,none⟩)=>zk5 P T (hp k) k off w C
 | _=>False
@[simp] theorem jdc (T:TypeId) (k off:Nat) (w:Value):zts P T hp (.pointer (some ⟨k,off,none⟩)) w C=zk5 P T (hp k) k off w C:=nr rfl
@[simp ↓] theorem jgd (T:TypeId) (x y:Operand):opX P G V yc ⟨dst,.store T x y,type,pos,after,guard⟩ ts hp nk C=(okX ts hp x/\okX ts hp y/\zts P T hp (gev ts x) (gev ts y) C):=nr rfl
@[simp ↓] theorem z99 (T:TypeId) (y:Option Operand):opX P G V yc ⟨dst,.makeMap T y,type,pos,after,guard⟩ ts hp nk C=(y.isNone=true/\C ⟨.map (some nk),[],[],[(nk,mpB [])],none,false⟩):=nr rfl
@[simp] theorem jik (f:Fn) (a b:Array Value):fnV (.func f a b)=true:=nr rfl
@[simp] theorem jcg (l:List (ByteArray×Value)) (k:Nat) (s:ByteArray) (v:Value):zut (some (mpB l)) k s v C=(zda s l=none/\100<=k/\C ⟨undef,[k],[(k,mpB (l++[(s,v)]))],[],none,false⟩):=by simp [zut,ztc]
@[simp] theorem jit (q:Nat) (s:ByteArray) (v:Value):z9d hp (.map (some q)) (.string s) v C=zut (hp q) q s v C:=nr rfl
@[simp ↓] theorem jcr (T:TypeId) (m k x:Operand):opX P G V yc ⟨dst,.insert T m k x,type,pos,after,guard⟩ ts hp nk C=(okX ts hp m/\okX ts hp k/\okX ts hp x/\zgz P T=true/\fnV (gev ts x)=true/\z9d hp (gev ts m) (gev ts k) (gev ts x) C):=nr rfl
def jlq (v:Option Value) (k:Nat) (C:Eff->Prop):Prop:=match v with
 | some v=>fnV v=true/\C (val v [k])
 | none=>False
@[simp] theorem jfn (v:Value) (k:Nat):jlq (some v) k C=(fnV v=true/\C (val v [k])):=nr rfl
@[simp] theorem jfm (l:List (ByteArray×Value)) (k:Nat) (s:ByteArray):jck (some (mpB l)) k s C=jlq (zda s l) k C:=by unfold jck jlq;rw [Option.bind_some,ztc];rfl
@[simp] theorem jlr (q:Nat) (s:ByteArray):lkX hp (.map (some q)) (.string s) C=jck (hp q) q s C:=nr rfl
@[simp ↓] theorem jcs (T:TypeId) (x i:Operand) (ok:Bool):opX P G V yc ⟨dst,.lookup T x i ok,type,pos,after,guard⟩ ts hp nk C=(okX ts hp x/\okX ts hp i/\ok=false/\zgz P T=true/\lkX hp (gev ts x) (gev ts i) C):=nr rfl
def zgk (v:Option Value) (C:Eff->Prop):Prop :=
 match v with
 | some v=>zd0 v=true/\C (val v [])
 | none=>False
@[simp] theorem z1s (v:Value):zgk (some v) C=(zd0 v=true/\C (val v [])):=nr rfl
def zjv (v:Value) (i:Nat) (C:Eff->Prop):Prop :=
 match v with
 | .tuple vs=>zgk vs[i]? C
 | _=>False
@[simp] theorem z1u (vs:Array Value) (i:Nat):zjv (.tuple vs) i C=zgk vs[i]? C:=nr rfl
@[simp ↓] theorem z98 (x:Operand) (i:Nat):opX P G V yc ⟨dst,.extract x i,type,pos,after,guard⟩ ts hp nk C=(okX ts hp x/\zjv (gev ts x) i C):=nr rfl
def zqt (s:Option Nat) (k off:Nat) (m:Int) (C:Eff->Prop):Prop :=
 match s with
 | some s=>C (val (.pointer (some ⟨k,off+m.toNat*s,none⟩)) [])
 | none=>False
@[simp] theorem jcb (s k off:Nat) (m:Int):zqt (some s) k off m C=C (val (.pointer (some ⟨k,off+m.toNat*s,none⟩)) []):=nr rfl
def zya (P:Program) (v:Value) (len:Nat) (e:TypeId) (m:Int) (C:Eff->Prop):Prop :=
 match v with
 | .pointer (some ⟨k,off,none⟩)=>(0<=m/\m<len)/\zqt (zaz P e) k off m C
 | _=>False
@[simp] theorem je6 (k off len:Nat) (e:TypeId) (m:Int):zya P (.pointer (some ⟨k,off,none⟩)) len e m C=((0<=m/\m<len)/\zqt (zaz P e) k off m C):=nr rfl
def zyb (P:Program) (v:Value) (e:TypeId) (m:Int) (C:Eff->Prop):Prop :=
 match v with
 | .slice (some ⟨k,off,none⟩) len _=>(0<=m/\m<len)/\zqt (zaz P e) k off m C
 | _=>False
@[simp] theorem z9c (k off len cap:Nat) (e:TypeId) (m:Int):zyb P (.slice (some ⟨k,off,none⟩) len cap) e m C=((0<=m/\m<len)/\zqt (zaz P e) k off m C):=nr rfl
def jca (P:Program) (u:Option TypeDesc) (v:Value) (m:Int) (C:Eff->Prop):Prop :=
 match u with
 | some (.array len e)=>zya P v len e m C
 | some (.slice e)=>zyb P v e m C
 | _=>False
@[simp] theorem jcc (len:Nat) (e:TypeId) (v:Value) (m:Int):jca P (some (.array len e)) v m C=zya P v len e m C:=nr rfl
@[simp] theorem jce (e:TypeId) (v:Value) (m:Int):jca P (some (.slice e)) v m C=zyb P v e m C:=nr rfl
def z3j (P:Program) (T:TypeId) (i v:Value) (C:Eff->Prop):Prop :=
 match i with
 | .int _ m=>jca P (P.underlying T) v m C
 | _=>False
@[simp] theorem je5 (T:TypeId) (k:IntKind) (m:Int) (v:Value):z3j P T (.int k m) v C=jca P (P.underlying T) v m C:=nr rfl
@[simp ↓] theorem jga (T:TypeId) (x i:Operand):opX P G V yc ⟨dst,.indexAddr T x i,type,pos,after,guard⟩ ts hp nk C=(okX ts hp x/\okX ts hp i/\z3j P T (gev ts i) (gev ts x) C):=nr rfl
def z1z (ts:Nat->Value) (args:Array Operand):List Value:=args.toList.map (gev ts)
@[simp] theorem jk5 (l:List Operand):z1z ts l.toArray=l.map (gev ts):=by simp [z1z]
def zow (P:Program) (e:TypeId) (s:Option Nat) (v:Value) (m:Int) (C:Eff->Prop):Prop :=
 match s with
 | some s=>match v with
  | .agg cs=>unX' (zc3 P e cs (m.toNat*s)) C
  | _=>False
 | none=>False
where unX' (v:Option Value) (C:Eff->Prop):Prop :=
 match v with
 | some v=>C (val v [])
 | none=>False
@[simp] theorem je4 (e:TypeId) (s:Nat) (cs:Array Value) (m:Int):zow P e (some s) (.agg cs) m C=zow.unX' (zc3 P e cs (m.toNat*s)) C:=nr rfl
@[simp] theorem jlb (v:Value):zow.unX' (some v) C=C (val v []):=nr rfl
@[congr] theorem z3i {v v':Option Value} (h:v=v'):zow.unX' v C=zow.unX' v' C:=by rw [h]
@[congr] theorem jb9 {e:TypeId} {s s':Option Nat} {v v':Value} {m m':Int} (h1:s=s') (h2:v=v') (h3:m=m'):zow P e s v m C=zow P e s' v' m' C:=by rw [h1,h2,h3]
def z6g (s:ByteArray) (m:Int) (C:Eff->Prop):Prop :=
 match (if 0<=m then s[m.toNat]? else none) with
 | some b=>C (val (.int .u8 b.toNat) [])
 | none=>False
def zus (v:Value) (m:Int) (C:Eff->Prop):Prop :=
 match v with
 | .string s=>z6g s m C
 | _=>False
@[simp] theorem je3 (s:ByteArray) (m:Int):zus (.string s) m C=z6g s m C:=nr rfl
@[congr] theorem z86 {v v':Value} {m m':Int} (h1:v=v') (h2:m=m'):zus v m C=zus v' m' C:=by rw [h1,h2]
@[congr] theorem jb8 {s s':ByteArray} {m m':Int} (h1:s=s') (h2:m=m'):z6g s m C=z6g s' m' C:=by rw [h1,h2]
theorem z87 {s:ByteArray} {m:Int} {b:UInt8} (h0:0<=m) (h:s[m.toNat]? = some b):z6g s m C=C (val (.int .u8 b.toNat) []):=by simp [z6g,h0,h]
def z85 (P:Program) (u:Option TypeDesc) (v:Value) (m:Int) (C:Eff->Prop):Prop :=
 match u with
 | some (.array len e)=>(0<=m/\m<len)/\zow P e (zaz P e) v m C
 | some .string=>zus v m C
 | _=>False
@[simp] theorem jis (v:Value) (m:Int):z85 P (some .string) v m C=zus v m C:=nr rfl
@[simp] theorem jir (len:Nat) (e:TypeId) (v:Value) (m:Int):z85 P (some (.array len e)) v m C=((0<=m/\m<len)/\zow P e (zaz P e) v m C):=nr rfl
@[congr] theorem jb7 {u u':Option TypeDesc} {v v':Value} {m m':Int} (h1:u=u') (h2:v=v') (h3:m=m'):z85 P u v m C=z85 P u' v' m' C:=by rw [h1,h2,h3]
def je2 (P:Program) (T:TypeId) (i v:Value) (C:Eff->Prop):Prop :=
 match i with
 | .int _ m=>z85 P (P.underlying T) v m C
 | _=>False
@[simp] theorem jiq (T:TypeId) (k:IntKind) (m:Int) (v:Value):je2 P T (.int k m) v C=z85 P (P.underlying T) v m C:=nr rfl
@[congr] theorem jb6 {T:TypeId} {i i' v v':Value} (h1:i=i') (h2:v=v'):je2 P T i v C=je2 P T i' v' C:=by rw [h1,h2]
@[simp ↓] theorem jcq (T:TypeId) (x i:Operand):opX P G V yc ⟨dst,.index T x i,type,pos,after,guard⟩ ts hp nk C=(okX ts hp x/\okX ts hp i/\je2 P T (gev ts i) (gev ts x) C):=by
 simp only [opX,je2]
 congr 2
 cases gev ts i<;>first|rfl|skip
 unfold z85
 simp only
 cases hu:P.underlying T with
 | none=>rfl
 | some u =>
  cases u<;>first|rfl|skip
  ·simp only
   unfold zow
   cases hg:gev ts x<;>cases hs:zaz P _<;>first|rfl|(simp;done)|skip
   all_goals (simp only [zow.unX'];cases zc3 P _ _ _<;>rfl)
  all_goals (simp only;unfold zus z6g;cases gev ts x<;>rfl)
def jij (P:Program) (f:Option (TypeId×Nat)) (v:Value) (C:Eff->Prop):Prop :=
 match f with
 | some (t,off)=>match v with
  | .agg cs=>zow.unX' (zc3 P t cs off) C
  | _=>False
 | none=>False
@[congr] theorem jb3 {f f':Option (TypeId×Nat)} {v v':Value} (h1:f=f') (h2:v=v'):jij P f v C=jij P f' v' C:=by rw [h1,h2]
@[simp ↓] theorem jf8 (T:TypeId) (x:Operand) (f:Nat):opX P G V yc ⟨dst,.field T x f,type,pos,after,guard⟩ ts hp nk C=(okX ts hp x/\jij P (fdX P T f) (gev ts x) C):=by
 simp only [opX,jij]
 congr 1
def jii (f:Option (TypeId×Nat)) (v:Value) (C:Eff->Prop):Prop :=
 match f with
 | some (_,off)=>match v with
  | .pointer (some ⟨k,o,none⟩)=>C (val (.pointer (some ⟨k,o+off,none⟩)) [])
  | _=>False
 | none=>False
@[simp] theorem jeh (t:TypeId) (off k o:Nat):jii (some (t,off)) (.pointer (some ⟨k,o,none⟩)) C=C (val (.pointer (some ⟨k,o+off,none⟩)) []):=nr rfl
@[congr] theorem jbx {f f':Option (TypeId×Nat)} {v v':Value} (h1:f=f') (h2:v=v'):jii f v C=jii f' v' C:=by rw [h1,h2]
@[simp] theorem jpt (k o:Nat):ncX (.pointer (some ⟨k,o,none⟩)) C=C (val (.pointer (some ⟨k,o,none⟩)) []):=nr rfl
@[congr] theorem jfy {v v':Value} (h:v=v'):ncX v C=ncX v' C:=by rw [h]
@[simp ↓] theorem z7c (x:Operand):opX P G V yc ⟨dst,.nilCheck x,type,pos,after,guard⟩ ts hp nk C=(okX ts hp x/\ncX (gev ts x) C):=nr rfl
@[simp ↓] theorem z4e (T:TypeId) (x:Operand) (f:Nat):opX P G V yc ⟨dst,.fieldAddr T x f,type,pos,after,guard⟩ ts hp nk C=(okX ts hp x/\jii (fdX P T f) (gev ts x) C):=nr rfl
def jeu (ts:Nat->Value) (o:Option Operand):Option Value:=o.map (gev ts)
@[simp] theorem jew (x:Operand):jeu ts (some x)=some (gev ts x):=nr rfl
@[simp] theorem jev:jeu ts none=none:=nr rfl
@[simp ↓] theorem jgc (T:TypeId) (x:Operand) (lo hi mx:Option Operand):opX P G V yc ⟨dst,.slice T x lo hi mx,type,pos,after,guard⟩ ts hp nk C =
 (okX ts hp x/\(∀ y∈lo.toList,okX ts hp y)/\(∀ y∈hi.toList,okX ts hp y)/\mx.isNone=true/\zow.unX' (slX P T (gev ts x) (jeu ts lo) (jeu ts hi)) C):=by
 simp only [opX,jeu]
 cases slX P T (gev ts x) (lo.map (gev ts)) (hi.map (gev ts))<;>rfl
def slU (P:Program) (u:Option TypeDesc) (v:Value) (lo hi:Option Value):Option Value :=
 match u with
 | some (.array n e)=>match v with
  | .pointer (some ⟨k,off,none⟩)=>match zaz P e with
   | some s=>slV (some (k,off)) s n (ze5 n n lo hi)
   | none=>none
  | _=>none
 | some (.slice e)=>match v with
  | .slice (some ⟨k,off,none⟩) n c=>match zaz P e with
   | some s=>slV (some (k,off)) s c (ze5 n c lo hi)
   | none=>none
  | .slice none n c=>match zaz P e with
   | some s=>slV none s c (ze5 n c lo hi)
   | none=>none
  | _=>none
 | some .string=>match v with
  | .string s=>slS s (ze5 s.size s.size lo hi)
  | _=>none
 | _=>none
@[simp] theorem jo1 (T:TypeId) (v:Value) (lo hi:Option Value):slX P T v lo hi=slU P (P.underlying T) v lo hi:=nr rfl
def slZ (a:Option (Nat×Nat)) (s:Option Nat) (c:Nat) (p:Option (Nat×Nat)):Option Value :=
 match s with
 | some s=>slV a s c p
 | none=>none
@[simp] theorem jj5 (a:Option (Nat×Nat)) (s c:Nat) (p:Option (Nat×Nat)):slZ a (some s) c p=slV a s c p:=nr rfl
@[simp] theorem jmr (n:Nat) (e:TypeId) (k off:Nat) (lo hi:Option Value):slU P (some (.array n e)) (.pointer (some ⟨k,off,none⟩)) lo hi=slZ (some (k,off)) (zaz P e) n (ze5 n n lo hi):=nr rfl
@[simp] theorem jj4 (k off s c l h:Nat):slV (some (k,off)) s c (some (l,h))=some (.slice (some ⟨k,if c=l then off else off+l*s,none⟩) (h - l) (c - l)):=nr rfl
@[simp] theorem jim (len cap:Nat) (k:IntKind) (m:Int):hiG len cap (some (.int k m))=if 0<=m/\m<=cap then some m.toNat else none:=nr rfl
@[simp] theorem jjb (h:Nat):loG h none=some 0:=nr rfl
def z7m (lo:Option Value) (h:Option Nat):Option (Nat×Nat) :=
 match h with
 | none=>none
 | some h=>(loG h lo).map λl=>(l,h)
@[simp] theorem jha (len cap:Nat) (lo hi:Option Value):ze5 len cap lo hi=z7m lo (hiG len cap hi):=nr rfl
@[simp] theorem ja0 (lo:Option Value) (h:Nat):z7m lo (some h)=(loG h lo).map λl=>(l,h):=nr rfl
@[simp ↓] theorem jlz (T:TypeId) (x:Operand):opX P G V yc ⟨dst,.sliceToArrayPointer T x,type,pos,after,guard⟩ ts hp nk C=(okX ts hp x/\zow.unX' (jbr P T (gev ts x)) C):=by
 simp only [opX]
 cases jbr P T (gev ts x)<;>rfl
def jnl (u:Option TypeDesc) (v:Value):Option Value :=
 match u with
 | some (.array n _)=>match v with
  | .slice a len _=>if n<=len then some (.pointer a) else none
  | _=>none
 | _=>none
@[simp] theorem jkn (T:TypeId) (v:Value):jbr P T v=jnl (P.underlying T) v:=nr rfl
@[simp] theorem jh3 (n:Nat) (e:TypeId) (a:Option Addr) (len c:Nat):jnl (some (.array n e)) (.slice a len c)=if n<=len then some (.pointer a) else none:=nr rfl
def joe (u:Option TypeDesc) (v:Value):Option Value :=
 match u with
 | some .string=>match v with
  | .string s=>some (.int .i64 s.size)
  | _=>none
 | some (.array n _)=>some (.int .i64 n)
 | some (.slice _)=>match v with
  | .slice _ n _=>some (.int .i64 n)
  | _=>none
 | _=>none
@[simp] theorem jlp (T:TypeId) (v:Value):jci P T v=joe (P.underlying T) v:=nr rfl
@[simp] theorem jch (e:TypeId) (a:Option Addr) (n c:Nat):joe (some (.slice e)) (.slice a n c)=some (.int .i64 n):=nr rfl
@[simp ↓] theorem jl2 (x:Operand) (T:TypeId):opX P G V yc ⟨dst,.call ⟨.builtin .len,#[x],#[T]⟩,type,pos,after,guard⟩ ts hp nk C=(okX ts hp x/\zow.unX' (jci P T (gev ts x)) C):=by
 simp only [opX,zui,zln]
 simp
 intro _
 cases jci P T (gev ts x)<;>rfl
@[simp] theorem jls (k k':IntKind) (a c:Int):zu9 true (.int k a) (.int k' c)=some (.int k (if a<c then c else a)):=nr rfl
def jof (b:Bool) (z:Option Value) (l:List Value):Option Value :=
 match z with
 | some z=>zp7 b z l
 | none=>none
@[simp] theorem jfv (b:Bool) (z:Value) (l:List Value):jof b (some z) l=zp7 b z l:=nr rfl
@[simp] theorem jje (b:Bool) (k:IntKind) (a:Int):zp7 b (.int k a) []=some (.int k a):=nr rfl
@[simp] theorem jft (b:Bool) (x y:Value) (l:List Value):zp7 b x (y::l)=jof b (zu9 b x y) l:=nr rfl
@[simp] theorem jfu (b:Bool) (x:Value) (l:List Value):zza b (x::l)=zp7 b x l:=nr rfl
@[simp ↓] theorem jl3 (l:List Operand) (T:Array TypeId):opX P G V yc ⟨dst,.call ⟨.builtin .max,l.toArray,T⟩,type,pos,after,guard⟩ ts hp nk C=((∀ x∈l,okX ts hp x)/\zow.unX' (zza true (z1z ts l.toArray)) C):=by
 simp only [opX,zui,zln,z1z]
 cases zza true (l.map (gev ts))<;>rfl
@[simp ↓] theorem jl4 (l:List Operand) (T:Array TypeId):opX P G V yc ⟨dst,.call ⟨.builtin .min,l.toArray,T⟩,type,pos,after,guard⟩ ts hp nk C=((∀ x∈l,okX ts hp x)/\zow.unX' (zza false (z1z ts l.toArray)) C):=by
 simp only [opX,zui,zln,z1z]
 cases zza false (l.map (gev ts))<;>rfl
def pnX (v:Value) (C:Eff->Prop):Prop :=
 match v with
 | .iface T u=>C ⟨zbz,[],[],[],some (.iface T u),false⟩
 | _=>False
@[simp ↓] theorem jgb (x:Operand):opX P G V yc ⟨dst,.panic x,type,pos,after,guard⟩ ts hp nk C=(okX ts hp x/\za0 (gev ts x)=true/\pnX (gev ts x) C):=nr rfl
@[simp] theorem jgo (T:TypeId) (u:Value):pnX (.iface T u) C=C ⟨zbz,[],[],[],some (.iface T u),false⟩:=nr rfl
@[congr] theorem jgn {v v':Value} (h:v=v'):pnX v C=pnX v' C:=by rw [h]
@[simp] theorem jjs (v:Value):(Out.ret v).eff=val v []:=nr rfl
@[simp] theorem jjr (v:Value):(Out.pan v).eff=⟨zbz,[],[],[],some v,false⟩:=nr rfl
@[simp ↓] theorem z7b (fn:Fn) (first cap:Array Operand):opX P G V yc ⟨dst,.makeFunc fn first cap,type,pos,after,guard⟩ ts hp nk C =
 ((∀ x∈first.toList,okX ts hp x/\zbs (gev ts x)=true)/\(∀ x∈cap.toList,okX ts hp x/\zbs (gev ts x)=true)/\C (val (.func fn (first.map (gev ts)) (cap.map (gev ts))) [])):=nr rfl
def z8e (P:Program) (v:Option Value) (o:Oper) (ts:Nat->Value) (hp:Hp) (C:Eff->Prop):Prop :=
 match v with
 | some v=>C (val v [])
 | none=>zvi P o ts hp λv=>C (val v [])
@[simp] theorem jdv (v:Value) (o:Oper):z8e P (some v) o ts hp C=C (val v []):=nr rfl
@[simp ↓] theorem jl0 (op:BinOp) (T yT:TypeId) (x y:Operand):opX P G V yc ⟨dst,.binOp op T x y yT,type,pos,after,guard⟩ ts hp nk C =
 (okX ts hp x/\okX ts hp y/\z8e P (znz P op T (gev ts x) (gev ts y)) ⟨dst,.binOp op T x y yT,type,pos,after,guard⟩ ts hp C):=nr rfl
def unX (v:Option Value) (C:Eff->Prop):Prop :=
 match v with
 | some v=>C (val v [])
 | none=>False
@[simp] theorem jkd (v:Value):unX (some v) C=C (val v []):=nr rfl
@[simp ↓] theorem jol (op:UnOp) (T:TypeId) (x:Operand):opX P G V yc ⟨dst,.unOp op T x,type,pos,after,guard⟩ ts hp nk C=(okX ts hp x/\unX (un1 op (gev ts x)) C):=nr rfl
@[simp ↓] theorem jjn (S T:TypeId) (x:Operand):opX P G V yc ⟨dst,.convert S T x,type,pos,after,guard⟩ ts hp nk C=(okX ts hp x/\z8e P (zm0 P S T (gev ts x)) ⟨dst,.convert S T x,type,pos,after,guard⟩ ts hp C):=nr rfl
@[simp] theorem jlx (t:Tmp):okT ts (.tmp t)=nj (ts t):=nr rfl
@[simp] theorem jjk (f:FuncId):okT ts (.func f)=True:=nr rfl
def zld (b:Bool) (x y:Prop):Prop :=
 match b with
 | true=>x
 | false=>y
@[simp] theorem zvf (x y:Prop):zld true x y=x:=nr rfl
@[simp] theorem jaf (x y:Prop):zld false x y=y:=nr rfl
@[congr] theorem jae {b b':Bool} {x y:Prop} (h:b=b'):zld b x y=zld b' x y:=by rw [h]
def zoc (l:List Value):Array Value:=l.toArray
@[simp] theorem jh1 (l:List Value):zoc l=l.toArray:=nr rfl
def zka (P:Program) (G:Hp) (V:XV) (nk yc:Nat) (ts:Nat->Value) (hp:Hp) (v:Value) (args:Array Operand) (C:Eff->Prop):Prop:=zit P G V nk yc ts hp v args C
@[congr] theorem z53 {v v':Value} {args:Array Operand} (h:v=v'):zka P G V nk yc ts hp v args C=zka P G V nk yc ts hp v' args C:=by rw [h]
def zof (P:Program) (G:Hp) (V:XV) (nk:Nat) (hp:Hp) (g:FuncId) (l:List Value) (cap:List Value) (C:Eff->Prop):Prop :=
 zld (cap.isEmpty&&!V.pn.contains g&&l.all za0) (zld (V.pn.contains (g+1000000)) (zql P G g (zoc l) C) (za2 P G g (zoc l) (z2t C))) (cap.all zbs=true/\zgn P G g (zoc (l++cap)) hp nk C)
@[congr] theorem z55 {g:FuncId} {l l' cap cap':List Value} (h:l=l') (h':cap=cap'):zof P G V nk hp g l cap C=zof P G V nk hp g l' cap' C:=by rw [h,h']
@[simp] theorem jdz (g:FuncId) (l cap:List Value):zof P G V nk hp g l cap C=zld (cap.isEmpty&&!V.pn.contains g&&l.all za0) (zld (V.pn.contains (g+1000000)) (zql P G g (zoc l) C) (za2 P G g (zoc l) (z2t C))) (cap.all zbs=true/\zgn P G g (zoc (l++cap)) hp nk C):=nr rfl
@[simp] theorem z8k (g:FuncId) (args:List Operand) (capv:List Value):zka P G V nk yc ts hp (.func (.func g) #[] capv.toArray) args.toArray C=((∀ x∈args,okX ts hp x)/\zof P G V nk hp g (z1z ts args.toArray) capv C):=by
 have e:(Array.map (gev ts) args.toArray)=(args.map (gev ts)).toArray:=by simp
 have ea:((args.map (gev ts)).toArray++capv.toArray)=(args.map (gev ts)++capv).toArray:=by simp
 unfold zka zit zof z2t z1z zoc
 simp only [e,ea,List.size_toArray,List.length_nil,true_and]
 congr 1
 by_cases h:capv=[]/\V.pn.contains g=false/\(args.map (gev ts)).all za0=true
 ·obtain ⟨h1,h2,h3⟩:=h
  subst h1
  have h4:(args.map (gev ts)).toArray.all za0=true:=by simpa using h3
  rw [if_pos ⟨rfl,h2,h4⟩]
  simp only [List.isEmpty_nil,h2,h3,Bool.not_false,Bool.and_self,zvf]
  cases V.pn.contains (g+1000000)<;>simp [zld]
 ·rw [if_neg (by
   rintro ⟨h1,h2,h3⟩
   exact h ⟨List.eq_nil_of_length_eq_zero h1,h2,by simpa using h3⟩)]
  have hb:(capv.isEmpty&&!V.pn.contains g&&(args.map (gev ts)).all za0)=false:=by
   cases hb:(capv.isEmpty&&!V.pn.contains g&&(args.map (gev ts)).all za0) with
   | false=>rfl
   | true =>
    simp only [Bool.and_eq_true,List.isEmpty_iff,Bool.not_eq_true'] at hb
    exact absurd ⟨hb.1.1,hb.1.2,hb.2⟩ h
  simp only [hb,zld]
  simp
def zjn (Y:Option YG) (yc l:Nat) (args:List Value) (C:Eff->Prop):Prop:=zmp Y yc l args.toArray C
@[simp] theorem jbn (l':Nat) (xs:List (Array Value)) (st l:Nat) (args:List Value):zjn (some ⟨l',xs,st,none⟩) yc l args C=(l=l'/\yc<=st/\xs[yc]? = some args.toArray/\C ⟨.bool (yc != st),[],[],[],none,true⟩):=by
 have:(YG.mk l' xs st none).pan yc=none:=by unfold YG.pan;split<;>rfl
 simp only [zjn,zmp,jbm,this]
def z7t (b:Bool) (pv:Value):Eff:=if b then ⟨zbz,[],[],[],some pv,true⟩ else ⟨.bool true,[],[],[],none,true⟩
def yC (C:Eff->Prop) (b:Bool) (pv:Value):Prop:=C (z7t b pv)
@[congr] theorem jkj {b b':Bool} {pv:Value} (h:b=b'):yC C b pv=yC C b' pv:=by rw [h]
@[simp] theorem jsg (pv:Value):yC C true pv=C ⟨zbz,[],[],[],some pv,true⟩:=nr rfl
@[simp] theorem jsf (pv:Value):yC C false pv=C ⟨.bool true,[],[],[],none,true⟩:=nr rfl
@[simp] theorem jdk (l':Nat) (xs:List (Array Value)) (st l:Nat) (pv:Value) (args:List Value):zjn (some ⟨l',xs,st,some pv⟩) yc l args C=(l=l'/\yc<=st/\xs[yc]? = some args.toArray/\yC C (yc==st) pv):=by
 simp only [zjn,zmp,jbm,YG.pan,yC,z7t]
 by_cases h:yc=st
 ·simp [h]
 ·have e:(yc != st)=true:=by simpa using h
  simp [h,e]
@[congr] theorem z7u {Y Y':Option YG} {yc' l:Nat} {args args':List Value} (h0:Y=Y') (h1:yc=yc') (h:args=args'):zjn Y yc l args C=zjn Y' yc' l args' C:=by rw [h0,h1,h]
@[simp] theorem z54 (l:Nat) (args:List Operand):zka P G V nk yc ts hp (.func (.yield l) #[] #[]) args.toArray C=((∀ x∈args,okT ts x/\za0 (gev ts x)=true)/\zjn V.Y yc l (z1z ts args.toArray) C):=by
 have e:(Array.map (gev ts) args.toArray)=(args.map (gev ts)).toArray:=by simp
 unfold zka zit zjn z1z
 simp only [e,List.size_toArray,List.length_nil,true_and]
@[simp ↓] theorem jjm (f:Operand) (args:Array Operand) (argTypes:Array TypeId):opX P G V yc ⟨dst,.call ⟨.value f,args,argTypes⟩,type,pos,after,guard⟩ ts hp nk C=(okT ts f/\zka P G V nk yc ts hp (gev ts f) args C):=nr rfl
@[congr] theorem z8j {f f':FuncId} {args args':Array Value} (hf:f=f') (h:args=args'):zql P G f args C=zql P G f' args' C:=by rw [hf,h]
@[congr] theorem z8i {f f':FuncId} {args args':Array Value} {K:Value->Prop} (hf:f=f') (h:args=args'):za2 P G f args K=za2 P G f' args' K:=by rw [hf,h]
@[simp ↓] theorem jf9 (T:TypeId) (x:Operand):opX P G V yc ⟨dst,.makeInterface T x,type,pos,after,guard⟩ ts hp nk C=(okX ts hp x/\zbs (gev ts x)=true/\z6h (P.underlying T) T (gev ts x) C):=nr rfl
def bsX (o:Option (Array Value)) (e:TypeId) (len nk:Nat) (C:Eff->Prop):Prop :=
 match o with
 | some cs=>C ⟨.slice (some ⟨nk,0,none⟩) len len,[],[],[(nk,⟨cs,e⟩)],none,false⟩
 | none=>False
@[simp] theorem jib (cs:Array Value) (e:TypeId) (len:Nat):bsX (some cs) e len nk C=C ⟨.slice (some ⟨nk,0,none⟩) len len,[],[],[(nk,⟨cs,e⟩)],none,false⟩:=nr rfl
def buX (pl:Option (List (Nat×Nat) ⊕ Nat)) (z:Value) (parts:List (Nat×Value)) (C:Eff->Prop):Prop :=
 match pl with
 | some pl=>unX ((zgl pl z.cells parts).map .agg) C
 | none=>False
@[simp] theorem z2s (pl:List (Nat×Nat) ⊕ Nat) (z:Value) (parts:List (Nat×Value)):buX (some pl) z parts C=unX ((zgl pl z.cells parts).map .agg) C:=nr rfl
def zoe (P:Program) (T:TypeId) (z:Option Value) (parts:List (Nat×Value)) (C:Eff->Prop):Prop :=
 match z with
 | some z=>za9 z=true/\za0 z=true/\buX (zcn P T) z parts C
 | none=>False
@[simp] theorem z8h (T:TypeId) (z:Value) (parts:List (Nat×Value)):zoe P T (some z) parts C=(za9 z=true/\za0 z=true/\buX (zcn P T) z parts C):=nr rfl
@[simp ↓] theorem jf6 (T:TypeId) (parts:Array (Nat×Operand)):opX P G V yc ⟨dst,.build T parts,type,pos,after,guard⟩ ts hp nk C =
  ((∀ p∈parts.toList,okX ts hp p.2/\za9 (gev ts p.2)=true)/\zoe P T (zbq P T) (zek ts parts) C):=by
 unfold opX zoe
 simp only
 cases hz:zbq P T with
 | none=>rfl
 | some z =>
  simp only
  cases hp:zcn P T with
  | none=>rfl
  | some pl =>
   simp only [z2s]
   cases hf:zgl pl z.cells (zek ts parts)<;>rfl
@[simp] theorem jgi (parts:Array (Nat×Operand)):zek ts parts=parts.toList.map λp=>(p.1,gev ts p.2):=nr rfl
@[simp] theorem jju (m i:Nat):z4j (.inr m) i=some (i*m,m):=nr rfl
@[simp] theorem jjt (l:List (Nat×Nat)) (i:Nat):z4j (.inl l) i=l[i]?:=nr rfl
@[simp] theorem jei (pl:List (Nat×Nat) ⊕ Nat) (cells:Array Value):zgl pl cells []=some cells:=nr rfl
def jej (pl:List (Nat×Nat) ⊕ Nat) (cells:Array Value) (os:Option (Nat×Nat)) (v:Value) (rest:List (Nat×Value)):Option (Array Value) :=
 match os with
 | none=>none
 | some (off,size)=>if v.cells.size=size/\off+v.cells.size<=cells.size then zgl pl (zct cells off v.cells.toList) rest else none
@[simp] theorem jbz (pl:List (Nat×Nat) ⊕ Nat) (cells:Array Value) (off size:Nat) (v:Value) (rest:List (Nat×Value)):jej pl cells (some (off,size)) v rest=if v.cells.size=size/\off+v.cells.size<=cells.size then zgl pl (zct cells off v.cells.toList) rest else none:=nr rfl
@[simp] theorem jby (pl:List (Nat×Nat) ⊕ Nat) (cells:Array Value) (i:Nat) (v:Value) (rest:List (Nat×Value)):zgl pl cells ((i,v)::rest)=jej pl cells (z4j pl i) v rest:=nr rfl

@[congr] theorem jcj {base:Nat} {Q:QQ} {seen:List (Option Tmp)} {k k':Nat} {l:List Oper} {ts':Nat->Value} {hp':Hp} {tr tr':Tr} {yc':Nat} {wr wr' yd yd':Bool} (h1:k=k') (h2:ts=ts') (h3:hp=hp') (h4:tr=tr') (h5:yc=yc') (h6:wr=wr') (h7:yd=yd') :
  zhu P G V base Q seen k l ts hp tr yc wr yd=zhu P G V base Q seen k' l ts' hp' tr' yc' wr' yd':=by rw [h1,h2,h3,h4,h5,h6,h7]
@[congr] theorem z5f {seen:List (Option Tmp)} {k k':Nat} {o:Oper} (h1:k=k'):zfj seen k o ts=zfj seen k' o ts:=by rw [h1]
@[congr] theorem jf7 {o:Oper} {ts':Nat->Value} {hp':Hp} {nk':Nat} (h2:ts=ts') (h3:hp=hp') (h4:nk=nk'):opX P G V yc o ts hp nk C=opX P G V yc o ts' hp' nk' C:=by rw [h2,h3,h4]
@[congr] theorem jdh {w w':Option Bool} {a b:Prop} (h:w=w'):jdg w a b=jdg w' a b:=by rw [h]
@[congr] theorem jag {v v':Value} {x y:Operand} (h:v=v'):z4i ts hp v x y C=z4i ts hp v' x y C:=by rw [h]
@[congr] theorem z5y {z z':Option Value} {nk':Nat} {T:TypeId} (h:z=z') (h1:nk=nk'):zsk z nk T C=zsk z' nk' T C:=by rw [h,h1]
@[congr] theorem z6z {v v':Option Value} {k k':Nat} (h:v=v') (h1:k=k'):zo6 v k C=zo6 v' k' C:=by rw [h,h1]
@[congr] theorem z6y {T:TypeId} {b b':Option Blk} {k off k' off':Nat} (h:b=b') (h1:k=k') (h2:off=off'):zo5 P T b k off C=zo5 P T b' k' off' C:=by rw [h,h1,h2]
@[congr] theorem z9r {T:TypeId} {v v':Value} (h:v=v'):z3v P T hp v C=z3v P T hp v' C:=by rw [h]
@[congr] theorem z43 {T:TypeId} {b b':Option Blk} {k off k' off':Nat} {w w':Value} (h:b=b') (h1:k=k') (h2:off=off') (h3:w=w'):zk5 P T b k off w C=zk5 P T b' k' off' w' C:=by rw [h,h1,h2,h3]
@[congr] theorem z7p {T:TypeId} {v v' w w':Value} (h:v=v') (h1:w=w'):zts P T hp v w C=zts P T hp v' w' C:=by rw [h,h1]
@[congr] theorem zxv {v v':Option Value} (h:v=v'):zgk v C=zgk v' C:=by rw [h]
@[congr] theorem z1t {v v':Value} {i:Nat} (h:v=v'):zjv v i C=zjv v' i C:=by rw [h]
@[congr] theorem z89 {s s':Option Nat} {k k' off off':Nat} {m m':Int} (h:s=s') (h1:k=k') (h2:off=off') (h3:m=m'):zqt s k off m C=zqt s' k' off' m' C:=by rw [h,h1,h2,h3]
@[congr] theorem z9a {v v':Value} {len:Nat} {e:TypeId} {m m':Int} (h:v=v') (h1:m=m'):zya P v len e m C=zya P v' len e m' C:=by rw [h,h1]
@[congr] theorem z9b {v v':Value} {e:TypeId} {m m':Int} (h:v=v') (h1:m=m'):zyb P v e m C=zyb P v' e m' C:=by rw [h,h1]
@[congr] theorem jcd {u u':Option TypeDesc} {v v':Value} {m m':Int} (h0:u=u') (h:v=v') (h1:m=m'):jca P u v m C=jca P u' v' m' C:=by rw [h,h1,h0]
@[congr] theorem z88 {T:TypeId} {i i' v v':Value} (h:i=i') (h1:v=v'):z3j P T i v C=z3j P T i' v' C:=by rw [h,h1]
@[congr] theorem jbs {o:Oper} {v v':Option Value} (h:v=v'):z8e P v o ts hp C=z8e P v' o ts hp C:=by rw [h]
@[congr] theorem jhn {v v':Option Value} (h:v=v'):unX v C=unX v' C:=by rw [h]
@[congr] theorem z82 {f:FuncId} {args args':Array Value} (h:args=args'):zgn P G f args hp nk C=zgn P G f args' hp nk C:=by rw [h]
@[congr] theorem jdw {o o':Option (Array Value)} {e:TypeId} {len nk':Nat} (h:o=o') (h1:nk=nk'):bsX o e len nk C=bsX o' e len nk' C:=by rw [h,h1]
@[congr] theorem jdx {pl pl':Option (List (Nat×Nat) ⊕ Nat)} {z z':Value} {parts parts':List (Nat×Value)} (h:pl=pl') (h1:z=z') (h2:parts=parts'):buX pl z parts C=buX pl' z' parts' C:=by rw [h,h1,h2]
@[congr] theorem z52 {T:TypeId} {z z':Option Value} {parts parts':List (Nat×Value)} (h1:z=z') (h2:parts=parts'):zoe P T z parts C=zoe P T z' parts' C:=by rw [h1,h2]

@[simp] theorem jh5 (op:BinOp) (T:TypeId) (k k':IntKind) (a b:Int):znz P op T (.int k a) (.int k' b)=zm7 op k a k' b:=nr rfl
@[simp] theorem z2n (T:TypeId) (a b:Bool):znz P .eql T (.bool a) (.bool b)=if zmx P T then some (.bool (a==b)) else none:=nr rfl
@[simp] theorem z2o (T:TypeId) (a b:Bool):znz P .neq T (.bool a) (.bool b)=if zmx P T then some (.bool (a != b)) else none:=nr rfl
def zuf (r:Option Bool) (neg:Bool):Option Value :=
 match r with
 | some r=>some (.bool (if neg then !r else r))
 | none=>none
@[simp] theorem jko (r:Bool):zuf (some r) false=some (.bool r):=nr rfl
@[simp] theorem jkp (r:Bool):zuf (some r) true=some (.bool !r):=nr rfl
@[simp] theorem z5z (T:TypeId) (a b:Array Value):znz P .eql T (.agg a) (.agg b)=zuf (z2f P T a b) false:=by unfold znz zuf;simp only;split<;>simp_all
@[simp] theorem z50 (T:TypeId) (a b:Array Value):znz P .neq T (.agg a) (.agg b)=zuf (z2f P T a b) true:=by unfold znz zuf;simp only;split<;>simp_all
@[simp] theorem jkl (T:TypeId) (xs ys:Array Value):z2f P T xs ys=zua P T (zxd P T) (zns P T) xs ys:=nr rfl
def jdt (n:Option Nat) (xs ys:Array Value):Option Bool :=
 match n with
 | some n=>if xs.size=n/\ys.size=n then zwj xs.toList ys.toList else none
 | none=>none
@[simp] theorem jkm (T:TypeId) (xs ys:Array Value):z2m P T xs ys=jdt (zxd P T) xs ys:=nr rfl
@[simp] theorem jbq (n:Nat) (xs ys:Array Value):jdt (some n) xs ys=if xs.size=n/\ys.size=n then zwj xs.toList ys.toList else none:=nr rfl
@[simp] theorem jbp (T:TypeId) (n:Nat) (st:Option (List (TypeId×Nat))) (xs ys:Array Value):zua P T (some n) st xs ys=z2m P T xs ys:=nr rfl
@[simp] theorem jhz (T:TypeId) (l:List (TypeId×Nat)) (xs ys:Array Value):zua P T none (some l) xs ys=if (xs.all zbj&&ys.all zbj)=true then z28 P xs ys l else none:=nr rfl
def jnq (a b:Option Bool):Option Bool :=
 match a,b with
 | some a,some b=>some (a&&b)
 | _,_=>none
@[simp] theorem jed (a b:Bool):jnq (some a) (some b)=some (a&&b):=nr rfl
@[simp] theorem jig (xs ys:Array Value):z28 P xs ys []=some true:=nr rfl
@[simp] theorem jee (T off:Nat) (fs:List (TypeId×Nat)) (xs ys:Array Value):z28 P xs ys ((T,off)::fs)=jnq (jer P T off xs ys) (z28 P xs ys fs):=nr rfl
def jn3 (P:Program) (T off:Nat) (n:Option Nat) (xs ys:Array Value):Option Bool :=
 match n with
 | some n=>if off+n<=xs.size/\off+n<=ys.size then z2m P T (xs.extract off (off+n)) (ys.extract off (off+n)) else none
 | none=>if jld P T=true then match xs[off]?,ys[off]? with
   | some (.int k a),some (.int k' b)=>if k=k' then some (a==b) else none
   | _,_=>none
  else none
@[simp] theorem jk2 (T off:Nat) (xs ys:Array Value):jer P T off xs ys=jn3 P T off (jh2 P T) xs ys:=nr rfl
@[simp] theorem jes (T off n:Nat) (xs ys:Array Value):jn3 P T off (some n) xs ys=if off+n<=xs.size/\off+n<=ys.size then z2m P T (xs.extract off (off+n)) (ys.extract off (off+n)) else none:=nr rfl
@[simp] theorem z51 (T:TypeId) (p:Option Addr) (l c:Nat):znz P .eql T (.slice p l c) (.slice none 0 0)=if zmj P T=true then some (.bool p.isNone) else none:=nr rfl
@[simp] theorem jih:zwj [] []=some true:=nr rfl
def jnk (b:Bool) (r:Option Bool):Option Bool :=
 match r with
 | some r=>some (b&&r)
 | none=>none
@[simp] theorem jds (b r:Bool):jnk b (some r)=some (b&&r):=nr rfl
@[simp] theorem jef (k k':IntKind) (a b:Int) (xs ys:List Value):zwj (.int k a::xs) (.int k' b::ys)=if k=k' then jnk (a==b) (zwj xs ys) else none:=nr rfl
@[simp] theorem jiu (k k':IntKind) (a b:Int):zm7 .add k a k' b=if k=k' then some (.int k (k.wrap (a+b))) else none:=nr rfl
@[simp] theorem ji7 (k k':IntKind) (a b:Int):zm7 .sub k a k' b=if k=k' then some (.int k (k.wrap (a - b))) else none:=nr rfl
@[simp] theorem ji1 (k k':IntKind) (a b:Int):zm7 .mul k a k' b=if k=k' then some (.int k (k.wrap (a*b))) else none:=nr rfl
@[simp] theorem ji3 (k k':IntKind) (a b:Int):zm7 .quo k a k' b=if k=k' then if b=0 then none else some (.int k (k.wrap (a.tdiv b))) else none:=nr rfl
@[simp] theorem ji4 (k k':IntKind) (a b:Int):zm7 .rem k a k' b=if k=k' then if b=0 then none else some (.int k (a.tmod b)) else none:=nr rfl
@[simp] theorem ji5 (k k':IntKind) (a b:Int):zm7 .shl k a k' b=if 0<=b then some (.int k (k.wrap (a*2^min b.toNat k.bits))) else none:=nr rfl
@[simp] theorem ji6 (k k':IntKind) (a b:Int):zm7 .shr k a k' b=if 0<=b then some (.int k (a.fdiv (2^min b.toNat k.bits))) else none:=nr rfl
@[simp] theorem jiv (k k':IntKind) (a b:Int):zm7 .and k a k' b=if k=k' then some (.int k (zeh .and k a b)) else none:=nr rfl
@[simp] theorem jlc (k k':IntKind) (a b:Int):zm7 .or k a k' b=if k=k' then some (.int k (zeh .or k a b)) else none:=nr rfl
@[simp] theorem jiw (k k':IntKind) (a b:Int):zm7 .eql k a k' b=if k=k' then some (.bool (a==b)) else none:=nr rfl
@[simp] theorem ji2 (k k':IntKind) (a b:Int):zm7 .neq k a k' b=if k=k' then some (.bool (a != b)) else none:=nr rfl
@[simp] theorem ji0 (k k':IntKind) (a b:Int):zm7 .lss k a k' b=if k=k' then some (.bool (a<b)) else none:=nr rfl
@[simp] theorem jiz (k k':IntKind) (a b:Int):zm7 .leq k a k' b=if k=k' then some (.bool (a<=b)) else none:=nr rfl
@[simp] theorem jiy (k k':IntKind) (a b:Int):zm7 .gtr k a k' b=if k=k' then some (.bool (b<a)) else none:=nr rfl
@[simp] theorem jix (k k':IntKind) (a b:Int):zm7 .geq k a k' b=if k=k' then some (.bool (b<=a)) else none:=nr rfl
@[simp] theorem jm1 (k:IntKind) (a:Int):un1 .neg (.int k a)=some (.int k (k.wrap (0 - a))):=nr rfl
@[simp] theorem jm2 (b:Bool):un1 .not (.bool b)=some (.bool !b):=nr rfl
@[simp] theorem jm3 (k:IntKind) (a:Int):un1 .xor (.int k a)=some (.int k (zeh .xor k (if k.signed then -1 else k.max) a)):=nr rfl
def z8p (s t:Option TypeDesc) (n:Int):Option Value :=
 match s,t with
 | some _,some (.int k)=>some (.int k (k.wrap n))
 | _,_=>none
@[simp] theorem jd8 (s:TypeDesc) (k:IntKind) (n:Int):z8p (some s) (some (.int k)) n=some (.int k (k.wrap n)):=nr rfl
@[simp] theorem jd7 (S T:TypeId) (k:IntKind) (n:Int):zm0 P S T (.int k n)=z8p (P.underlying S) (P.underlying T) n:=by
 unfold zm0 z8p
 cases hs:P.underlying S with
 | none=>rfl
 | some s =>
  cases ht:P.underlying T with
  | none=>rfl
  | some d=>cases d<;>rfl

@[simp] theorem jfa (l:List Oper) (ts:Nat->Value) (t:Nat):zh9 l ts t=if l.any (λo=>o.dst==some t) then zbz else ts t:=nr rfl
def z14 (v:Value):Option Value:=if zd0 v then some v else none
def jjy (v:Option Value):Option Value :=
 match v with
 | some v=>z14 v
 | none=>none
@[simp] theorem jgz (v:Value):jjy (some v)=z14 v:=nr rfl
@[simp] theorem jgw (t:Tmp):znk P ts hp (.tmp t)=z14 (ts t):=nr rfl
def z4t (P:Program) (T:TypeId) (b:Option Blk) (off:Nat):Option Value :=
 match b with
 | some b=>jjy (zds P T b off)
 | none=>none
@[simp] theorem jc1 (T:TypeId) (b:Blk) (off:Nat):z4t P T (some b) off=jjy (zds P T b off):=nr rfl
def jmk (P:Program) (T:TypeId) (hp:Hp) (v:Value):Option Value :=
 match v with
 | .pointer (some ⟨k,off,none⟩)=>z4t P T (hp k) off
 | _=>none
@[simp] theorem jjx (T:TypeId) (k off:Nat):jmk P T hp (.pointer (some ⟨k,off,none⟩))=z4t P T (hp k) off:=nr rfl
@[simp] theorem jc2 (t:Tmp) (T:TypeId):znk P ts hp (.cell t T)=jmk P T hp (ts t):=by
 unfold znk jmk
 simp only
 split
 ·unfold z4t
  split
  ·unfold jjy z14;split<;>simp_all
  ·simp_all
 ·simp_all
@[simp] theorem jg0 (b:Bool):z14 (.bool b)=some (.bool b):=nr rfl
@[simp] theorem jj0 (k:IntKind) (n:Int):z14 (.int k n)=some (.int k n):=nr rfl
@[simp] theorem jjz (cs:Array Value):z14 (.agg cs)=some (.agg cs):=nr rfl
@[simp] theorem jg1 (f:Fn) (a b:Array Value):z14 (.func f a b)=some (.func f a b):=nr rfl
@[simp] theorem jc4 (a:Option Addr) (n c:Nat):z14 (.slice a n c)=some (.slice a n c):=nr rfl
@[simp] theorem jat (s:ByteArray):z14 (.string s)=some (.string s):=nr rfl
def jox (v:Option Value) (r:Option (List Value)):Option (List Value) :=
 match v,r with
 | some v,some vs=>some (v::vs)
 | _,_=>none
@[simp] theorem jgy (v:Value) (vs:List Value):jox (some v) (some vs)=some (v::vs):=nr rfl
@[simp] theorem jgx:zjq P ts hp []=some []:=nr rfl
@[simp] theorem jc3 (x:ResultVar) (l:List ResultVar):zjq P ts hp (x::l)=jox (znk P ts hp x) (zjq P ts hp l):=by
 simp only [zjq]
 cases h1:znk P ts hp x with
 | none=>rfl
 | some v=>cases h2:zjq P ts hp l<;>rfl
def z4u (l:Option (List Value)):Option Value :=
 match l with
 | some [v]=>some v
 | some vs=>some (.tuple vs.toArray)
 | none=>none
@[simp] theorem jmo (v:Value):z4u (some [v])=some v:=nr rfl
@[simp] theorem jmp (v u:Value) (l:List Value):z4u (some (v::u::l))=some (.tuple (v::u::l).toArray):=nr rfl
@[simp] theorem jmn:z4u (some [])=some (.tuple #[]):=nr rfl
@[simp] theorem jml (rs:List ResultVar):znj P rs ts hp=z4u (zjq P ts hp rs):=nr rfl
@[simp] theorem zca (next:GS->Prop) (K:Exit->GS->Prop) (s:GS):zcy next K .normal s=next s:=nr rfl
@[simp] theorem z05 (next:GS->Prop) (K:Exit->GS->Prop) (s:GS):zcy next K .ret s=K .ret s:=nr rfl
@[simp] theorem zv8 (next:GS->Prop) (K:Exit->GS->Prop) (i:Nat) (s:GS):zcy next K (.exit i) s=K (.exit i) s:=nr rfl
@[simp] theorem zv9 (next:GS->Prop) (K:Exit->GS->Prop) (i:Nat) (s:GS):zcy next K (.goto i) s=K (.goto i) s:=nr rfl
@[simp] theorem zk6 (next:GS->Prop) (K:Exit->GS->Prop) (ch:List PanicEntry) (s:GS):zcy next K (.panic ch) s=K (.panic ch) s:=nr rfl
@[simp] theorem zod (i:Nat) (K:Exit->GS->Prop) (ch:List PanicEntry) (s:GS):zey i K (.panic ch) s=K (.panic ch) s:=nr rfl
@[simp] theorem zo1 (l:Nat) (J:GS->Prop) (K:Exit->GS->Prop) (s:GS):ziw l J K .normal s=K .normal s:=nr rfl
@[simp] theorem zyh (l:Nat) (J:GS->Prop) (K:Exit->GS->Prop) (s:GS):ziw l J K .ret s=K .ret s:=nr rfl
@[simp] theorem zuv (l i:Nat) (J:GS->Prop) (K:Exit->GS->Prop) (s:GS):ziw l J K (.exit i) s=K (.exit i) s:=nr rfl
@[simp] theorem zqv (l:Nat) (ch:List PanicEntry) (J:GS->Prop) (K:Exit->GS->Prop) (s:GS):ziw l J K (.panic ch) s=K (.panic ch) s:=nr rfl
@[simp] theorem zfx (i:Nat) (K:Exit->GS->Prop) (s:GS):zey i K .normal s=K .normal s:=nr rfl
@[simp] theorem zud (i:Nat) (K:Exit->GS->Prop) (s:GS):zey i K .ret s=K .ret s:=nr rfl
@[simp] theorem zd6 (i j:Nat) (K:Exit->GS->Prop) (s:GS):zey i K (.exit j) s=if j=i then K .normal s else K (.exit j) s:=nr rfl
@[simp] theorem zqk (i j:Nat) (K:Exit->GS->Prop) (s:GS):zey i K (.goto j) s=K (.goto j) s:=nr rfl
theorem wN:(∀ (J:GS->Prop) (K:Exit->GS->Prop) (s:GS),zcy J K .normal s=J s)/\(∀ (J:GS->Prop) (K:Exit->GS->Prop) (s:GS),zcy J K .ret s=K .ret s)/\(∀ (J:GS->Prop) (K:Exit->GS->Prop) (i:Nat) (s:GS),zcy J K (.exit i) s=K (.exit i) s) /\
  (∀ (J:GS->Prop) (K:Exit->GS->Prop) (i:Nat) (s:GS),zcy J K (.goto i) s=K (.goto i) s)/\(∀ (J:GS->Prop) (K:Exit->GS->Prop) (ch:List PanicEntry) (s:GS),zcy J K (.panic ch) s=K (.panic ch) s) /\
  (∀ (i:Nat) (K:Exit->GS->Prop) (s:GS),zey i K .normal s=K .normal s)/\(∀ (i:Nat) (K:Exit->GS->Prop) (s:GS),zey i K .ret s=K .ret s)/\(∀ (i j:Nat) (K:Exit->GS->Prop) (s:GS),zey i K (.goto j) s=K (.goto j) s)/\(∀ (i:Nat) (K:Exit->GS->Prop) (ch:List PanicEntry) (s:GS),zey i K (.panic ch) s=K (.panic ch) s) /\
  (∀ (l:Nat) (J:GS->Prop) (K:Exit->GS->Prop) (s:GS),ziw l J K .normal s=K .normal s)/\(∀ (l:Nat) (J:GS->Prop) (K:Exit->GS->Prop) (s:GS),ziw l J K .ret s=K .ret s)/\(∀ (l i:Nat) (J:GS->Prop) (K:Exit->GS->Prop) (s:GS),ziw l J K (.exit i) s=K (.exit i) s)/\∀ (l:Nat) (ch:List PanicEntry) (J:GS->Prop) (K:Exit->GS->Prop) (s:GS),ziw l J K (.panic ch) s=K (.panic ch) s :=
 ⟨zca,z05,zv8,zv9,zk6,zfx,zud,zqk,zod,zo1,zyh,zuv,zqv⟩
theorem wT:(∀ (a:Oper) (i:Nat) (l:List Oper),(a::l).take (i+1)=a::l.take i)/\(∀ l:List Oper,l.take 0=[])/\(∀ (a:Oper) (i:Nat) (l:List Oper),(a::l).drop (i+1)=l.drop i)/\(∀ l:List Oper,l.drop 0=l)/\∀ n:Nat,0+n=n:=⟨λ_ _ _=>rfl,λ_=>rfl,λ_ _ _=>rfl,λ_=>rfl,Nat.zero_add⟩
end

section
variable {P:Program}
theorem zez {T:TypeId} {m:Nat} (h1:zhg P T=some true) (h2:zaz P T=some m) (c:Array Value) (off:Nat):zc3 P T c off=if off+m<=c.size then some (.agg (c.extract off (off+m))) else none:=by
 simp [zc3,h1,h2]
def zp8 (v:Option Value):Option Value :=
 match v with
 | some v=>if zla v then some v else none
 | none=>none
@[simp] theorem jg6 (b:Bool):zp8 (some (.bool b))=some (.bool b):=nr rfl
@[simp] theorem jj3 (k:IntKind) (n:Int):zp8 (some (.int k n))=some (.int k n):=nr rfl
@[simp] theorem jc8 (a:Option Addr) (n c:Nat):zp8 (some (.slice a n c))=some (.slice a n c):=nr rfl
@[simp] theorem jg7 (f:Fn) (a b:Array Value):zp8 (some (.func f a b))=some (.func f a b):=nr rfl
@[simp] theorem jay (s:ByteArray):zp8 (some (.string s))=some (.string s):=nr rfl
theorem zdy {T:TypeId} (h1:zhg P T=some false) (c:Array Value) (off:Nat):zc3 P T c off=zp8 c[off]?:=by
 unfold zc3 zp8
 simp only [h1]
 rfl
theorem zdd {T:TypeId} {z:Value} (h:∀ w,(zeroValue T).run P w=.ok z w):zbq P T=some z:=by
 have h:=h default
 unfold zbq
 unfold zeroValue typeInfo at h
 cases hi:P.info? T with
 | none=>simp [hi,stuck] at h
 | some i =>
  simp [hi] at h
  cases hz:i.zero with
  | none=>simp [hz,unsupported] at h
  | some u=>simp [hz] at h;simp [hz,h]
theorem zaq {T:TypeId} {m:Nat} (h:∀ w,(sizeOf T).run P w=.ok m w):zaz P T=some m:=by
 have h:=h default
 unfold zaz
 unfold sizeOf typeInfo at h
 cases hi:P.info? T with
 | none=>simp [hi,stuck] at h
 | some i=>simp [hi] at h;simp [h]
theorem zbv {T:TypeId} {b:Bool} (h:∀ w,(isAgg T).run P w=.ok b w):zhg P T=some b:=by
 have h:=h default
 unfold zhg
 unfold isAgg underlying at h
 cases hi:P.underlying T with
 | none=>simp [hi,stuck] at h
 | some i=>cases i<;>simp_all
theorem zgu {T e:TypeId} {n m:Nat} (hu:P.underlying T=some (.array n e)) (hs:zaz P e=some m):zcn P T=some (.inr m):=by simp [zcn,hu,hs]
theorem zxe {T e:TypeId} {n:Nat} {k:IntKind} (hu:P.underlying T=some (.array n e)) (he:P.underlying e=some (.int k)) (hs:zaz P e=some 1) (hg:P.eqGuardType P.depth T=false):zxd P T=some n:=by
 simp [zxd,hu,he,hs,hg]
theorem z2r {T:TypeId} (hu:P.underlying T=some .bool):zmx P T=true:=by simp [zmx,hu]
end

def tsL:List (Nat×Value)->Nat->Value
 | []=>λ_=>zbz
 | (k,v)::l=>upd (tsL l) k v
def hpL (G:Hp):List (Nat×Blk)->Hp
 | []=>G
 | (k,b)::m=>upd (hpL G m) k (some b)
@[simp] theorem jmz (t:Nat):tsL [] t=zbz:=nr rfl
@[simp] theorem znu (k:Nat) (v:Value) (l:List (Nat×Value)) (t:Nat):tsL ((k,v)::l) t=if t=k then v else tsL l t:=nr rfl
@[simp] theorem zat (G:Hp):hpL G []=G:=nr rfl
@[simp] theorem zai (G:Hp) (k:Nat) (b:Blk) (m:List (Nat×Blk)) (t:Nat):hpL G ((k,b)::m) t=if t=k then some b else hpL G m t:=nr rfl

theorem zf5:∀ {l:List (Nat×Value)} {t:Nat},tsL l t=zbz\/(t,tsL l t)∈l
 | [],_=>.inl rfl
 | (k,v)::l,t=>by
  rw [znu]
  split
  ·rename_i e;subst e;exact .inr (by simp)
  ·rcases zf5 (l:=l) (t:=t) with h|h
   ·exact .inl h
   ·exact .inr (List.mem_cons_of_mem _ h)
theorem za8 {G:Hp}:∀ {m:List (Nat×Blk)} {k:Nat} {b:Blk},hpL G m k=some b->(k,b)∈m\/G k=some b
 | [],_,_,h=>.inr h
 | (q,c)::m,k,b,h=>by
  rw [zai] at h
  split at h
  ·rename_i e;subst e;cases h;exact .inl (by simp)
  ·exact (za8 h).imp (List.mem_cons_of_mem _) id
theorem za6 {G:Hp}:∀ {m:List (Nat×Blk)} {k:Nat},(∀ p∈m,100<=p.1)->k<100->hpL G m k=G k
 | [],_,_,_=>rfl
 | (q,c)::m,k,h,hk=>by
  have:=h (q,c) (by simp)
  rw [zai,if_neg (by simp at this;omega)]
  exact za6 (λp hp=>h p (List.mem_cons_of_mem _ hp)) hk
theorem zdr {G:Hp} (hGF:zbm G) {m:List (Nat×Blk)} {rs:List Nat} (h:∀ p∈m,p.1∈rs):rst (hpL G m) rs=hpL G m:=funext λk=>by
 unfold rst
 split
 ·rfl
 ·rename_i hk
  cases hb:hpL G m k with
  | none=>rfl
  | some b =>
   rcases za8 hb with h1|h1
   ·exact absurd (.inr (h _ h1)) hk
   ·exact absurd (.inl (hGF k b h1).1) hk

theorem zbc {C:Ctx} {G:Hp} {s:GS} {m m0:List (Nat×Blk)} (l:List (Nat×Value)) (B:Nat) (hG:C.G=G) (hGF:zbm G) (h0:C.hp0=hpL G m0) (hB:100<=B) (hl:∀ p∈l,s.ts p.1=p.2/\zap (dom (hpL G m)) p.2)
  (hm:∀ p∈m,s.hp p.1=some p.2/\p.2.ids (dom (hpL G m))/\100<=p.1/\p.1<B) (hk:∀ p∈m0,100<=p.1/\hpL G m p.1=s.hp p.1):Weak C s ⟨tsL l,hpL G m,B,s.yc⟩ where
 ts t:=by
  rcases zf5 (l:=l) (t:=t) with h|h
  ·exact .inl h
  ·exact .inr ⟨(hl _ h).1.symm,(hl _ h).2⟩
 hp k hk:=by
  dsimp only
  cases hb:hpL G m k with
  | none=>exact .inl rfl
  | some b =>
   rcases za8 hb with h|h
   ·exact .inr (hm _ h).1.symm
   ·have:=(hGF k b h).1;omega
 ids k b hb:=by
  rcases za8 hb with h|h
  ·exact (hm _ h).2.1
  ·exact Blk.flat_ids ((hGF k b h).2)
 keep k h1k hd:=by
  rw [h0] at hd
  dsimp only
  unfold dom at hd
  cases hb:hpL G m0 k with
  | none=>exact absurd hb hd
  | some b =>
   rcases za8 hb with h|h
   ·exact (hk _ h).2
   ·have hlt:=(hGF k b h).1;omega
 glob k hlt:=by rw [hG];exact za6 (λp hp=>(hm p hp).2.2.1) hlt
 yc:=rfl
 free x hx:=by
  dsimp only at hx |-
  cases hb:hpL G m x with
  | none=>rfl
  | some b =>
   rcases za8 hb with h|h
   ·have:=(hm _ h).2.2.2;simp at this;omega
   ·have:=(hGF x b h).1;omega
 low:=hB

theorem zb2 {P:Program} {G:Hp} {f:FuncId} {args:Array Value} {hp hp':Hp} {rs:List Nat} {res:Res} {nk:Nat} {K:Eff->Prop} (h:Fun P G f args hp' rs res) (h1:∀ k∈rs,hp' k=hp k) (h2:∀ k,k<100->hp' k=G k) (h3:res.at nk) (hk:K (res.eff rs)):zgn P G f args hp nk K :=
 ⟨hp',rs,res,h1,h2,h,h3,hk⟩

@[simp] theorem jk8 (D:Nat->Prop) (b:Bool):zap D (.bool b)=True:=nr rfl
@[simp] theorem jn7 (D:Nat->Prop) (k:IntKind) (n:Int):zap D (.int k n)=True:=nr rfl
@[simp] theorem je1 (D:Nat->Prop) (s:ByteArray):zap D (.string s)=True:=nr rfl
@[simp] theorem jn8 (D:Nat->Prop) (a:Addr):zap D (.pointer (some a))=D a.block:=nr rfl
@[simp] theorem jio (D:Nat->Prop) (a:Addr) (n c:Nat):zap D (.slice (some a) n c)=D a.block:=nr rfl
@[simp] theorem jk9 (D:Nat->Prop) (fn:Fn) (a b:Array Value):zap D (.func fn a b)=((∀ x∈a,zal D x)/\∀ x∈b,zal D x):=nr rfl
@[simp] theorem jin (D:Nat->Prop) (t:TypeId) (v:Value):zap D (.iface t v)=zal D v:=nr rfl
@[simp] theorem jn6 (D:Nat->Prop) (l:List Value):zap D (.agg l.toArray)↔∀ x∈l,zaj D x:=by simp [zap,zau]
@[simp] theorem jip (D:Nat->Prop):zap D undef=True:=by simp [undef,zap]
@[simp] theorem jn4 (D:Nat->Prop) (k:IntKind) (n:Int):zal D (.int k n)=True:=nr rfl
@[simp] theorem jn5 (D:Nat->Prop) (k:IntKind) (n:Int):zaj D (.int k n)=True:=nr rfl
@[simp] theorem jh4 (l:List Value) (T:TypeId) (D:Nat->Prop):(Blk.mk l.toArray T).ids D↔∀ x∈l,zaj D x:=by simp [Blk.ids]

theorem zpj (r ρ:Nat->Nat) (v:Value):zao r (zao ρ v)=zao (λk=>r (ρ k)) v:=by
 cases v with
 | pointer p=>cases p<;>rfl
 | slice p _ _=>cases p<;>rfl
 | map p=>cases p<;>rfl
 | _=>rfl
theorem zgw (r ρ:Nat->Nat) (v:Value):zan r (zan ρ v)=zan (λk=>r (ρ k)) v:=by
 cases v with
 | func f a b=>simp only [zan,Array.map_map];congr 1<;>(congr 1;funext x;exact zpj r ρ x)
 | iface t v=>simp only [zan,zpj]
 | pointer p=>cases p<;>rfl
 | slice p _ _=>cases p<;>rfl
 | map p=>cases p<;>rfl
 | _=>rfl
theorem zii (r ρ:Nat->Nat) (v:Value):zas r (zas ρ v)=zas (λk=>r (ρ k)) v:=by
 cases v with
 | agg cs=>simp only [zas,Array.map_map];congr 2;funext x;exact zgw r ρ x
 | func f a b=>exact zgw r ρ (.func f a b)
 | iface t v=>exact zgw r ρ (.iface t v)
 | pointer p=>cases p<;>rfl
 | slice p _ _=>cases p<;>rfl
 | map p=>cases p<;>rfl
 | _=>rfl
theorem zc5 (r ρ:Nat->Nat) (v:Value):ren r (ren ρ v)=ren (λk=>r (ρ k)) v:=by
 cases v with
 | tuple vs=>simp only [ren,Array.map_map];congr 2;funext x;exact zii r ρ x
 | agg cs=>exact zii r ρ (.agg cs)
 | func f a b=>exact zii r ρ (.func f a b)
 | iface t v=>exact zii r ρ (.iface t v)
 | pointer p=>cases p<;>rfl
 | slice p _ _=>cases p<;>rfl
 | map p=>cases p<;>rfl
 | _=>rfl

section
variable {P:Program} {G:Hp}

theorem zpa {f:FuncId} {fn:Func} {c:Code} {args:Array Value} {hp:Hp} {rs:List Nat} {v:Value} {ns:List (Nat×Blk)} {B:Nat} (ρ:Nat->Nat) (hGF:zbm G) (hG:∀ k,k<100->hp k=G k) (hf:P.funcs[f]? = some fn) (hb:fn.body=some c) (hcall:∀ a w,(callFunc f a).run P w=.ok (.enter f a) w)
  (ha:∀ x∈args,zap (dom (rst hp rs)) x) (hcl:∀ k b,rst hp rs k=some b->b.ids (dom (rst hp rs))) (hfit:(Res.new v ns).fits hp rs) (hn:args.size<=fn.ntmps) (hB:100<=B) (hfree:∀ x,B<=x->rst hp rs x=none)
  (hρ0:∀ k,dom (rst hp rs) k->ρ k=k) (hρ:∀ p∈ns,¬dom (rst hp rs) (ρ p.1)/\100<=ρ p.1) (hinj:∀ p∈ns,∀ q∈ns,ρ p.1=ρ q.1->p.1=q.1) (hbl:∀ p∈ns,p.2.ids (dom (rst hp rs)))
  (h:∀ C:Ctx,C.G=G->C.hp0=rst hp rs->C.Y=none->GW P C fn.ntmps [] none c ⟨λt=>args.getD t undef,rst hp rs,B,0⟩ λe s=>(e=.normal\/e=.ret)/\znj P fn.results.toList s.ts s.hp=some (ren ρ v) /\
   (∀ p∈ns,s.hp (ρ p.1)=some p.2)/\∀ k,dom (rst hp rs) k->s.hp k=rst hp rs k):Fun P G f args hp rs (.new v ns):=by
 refine ⟨hcall,ha,hcl,hfit,λr W hgok hsat hinjr hlow=>callsIn_of_wp_marks hf hb ⟨fn,hf⟩ ?_⟩
 have ltW:∀ k,dom (rst hp rs) k->r k<W.heap.size:=λk hk=>by
  unfold dom at hk
  cases hb:rst hp rs k with
  | none=>exact absurd hb hk
  | some b=>exact (Array.getElem?_eq_some_iff.1 (hsat k b hb).1).1
 let im:Nat->Prop:=λj=>∃ i,dom (rst hp rs) i/\r i=j
 let C:Ctx:=⟨zff W im,rst hp rs,r,G,none⟩
 have hi:GI P C fn.ntmps [] r ⟨λt=>args.getD t undef,rst hp rs,B,0⟩ { tmps:=args.map (ren r)++Array.replicate (fn.ntmps - (args.map (ren r)).size) undef,defers:=[] } W:=by
  refine ⟨⟨by simp;omega,λt=>?_,hsat,hinjr,⟨λk=>k<W.heap.size/\¬im k,[],⟨λ_=>Iff.rfl,rfl,rfl,rfl,Nat.le_refl _,λ_ _=>rfl⟩,λk hk=>hk.1,λi hi _ hS=>hS.2 ⟨i,hi,rfl⟩,⟨rfl,List.nodup_nil⟩,by simp⟩,
   λi hi=>⟨hi,rfl⟩,λk hk=>?_,hlow⟩,hfree,hB,hGF,λy hy=>by cases hy⟩
  ·right
   dsimp only
   by_cases ht:t<args.size
   ·have hm:args[t]∈args:=Array.getElem_mem ht
    have e:args.getD t undef=args[t]:=by simp [Array.getD,ht]
    rw [e]
    refine ⟨?_,ha _ hm⟩
    have:t<(args.map (ren r)).size:=by simpa using ht
    simp [Array.getElem?_append_left this,ht]
   ·have e:args.getD t undef=undef:=by simp [Array.getElem?_eq_none (Nat.le_of_not_lt ht)]
    rw [e]
    refine ⟨?_,zdb _⟩
    rw [zcp]
    simp only [Array.getD_eq_getD_getElem?]
    rw [Array.getElem?_append_right (by simpa using Nat.le_of_not_lt ht),Array.getElem?_replicate]
    split<;>rfl
  ·show rst hp rs k=G k
   simp [rst,hk,hG k hk]
 refine wpIn_mono (h C rfl rfl rfl r _ W hi) ?_
 rintro e a' W' ⟨s',r',⟨he,hr,hns,hhp⟩,hi'⟩
 obtain ⟨S,ms,⟨hS,os,tape,output,size,hsame⟩,hS1,hS2,⟨hdef,hnd⟩,hms⟩:=hi'.ri.ext
 have hkeep:∀ i,dom (rst hp rs) i->dom s'.hp i/\r' i=r i:=hi'.ri.keep
 have mine:∀ W'':World,(∀ k,k∉ms->W''.heap[k]? = W'.heap[k]?)->∀ i b,s'.hp i=some b->W''.heap[r' i]? = some (b.obj r'):=λW'' hW i b hb=>by
  rw [hW _ (λhm=>hi'.ri.ne_mark (by unfold dom;rw [hb];simp) (hms _ hm).1 rfl)]
  exact (hi'.ri.sat i b hb).1
 have hend:∀ W'':World,W''.heap.size=W'.heap.size->W''.os=W'.os->W''.tape=W'.tape->W''.output=W'.output->(∀ k,k∉ms->W''.heap[k]? = W'.heap[k]?) ->
   LeavesIn (Fw P none) 0 P fn a'.tmps ((Res.new v ns).holds r (dom (rst hp rs)) W) [] .returning W'':=λW'' e1 e2 e3 e4 e5=>by
  have hsat':Sat r' (dom s'.hp) s'.hp W'':=λk b hk=>⟨mine W'' e5 k b hk,(hi'.ri.sat k b hk).2⟩
  have hrun:=zem (fn:=fn) hi'.ri.rel hsat' hr
  rw [zc5] at hrun
  refine ⟨_,hrun,λ_=>⟨λk=>r' (ρ k),λk hk=>?_,rfl,?_⟩⟩
  ·simp only [hρ0 k hk];exact (hkeep k hk).2
  ·have hag:∀ k,dom (rst hp rs) k->r' (ρ k)=r' k:=λk hk=>by rw [hρ0 k hk]
   refine ⟨e2.trans os,e3.trans tape,e4.trans output,by rw [e1];exact size,λk hk _=>?_,λp hp1=>?_,λp hp1=>?_,λp hp1 q hq1 hpq=>?_⟩
   ·by_cases hk':im k
    ·obtain ⟨i,hi1,rfl⟩:=hk'
     cases hb:rst hp rs i with
     | none=>exact absurd hb hi1
     | some b =>
      have e:s'.hp i=some b:=(hhp i hi1).trans hb
      have:=mine W'' e5 i b e
      rw [(hkeep i hi1).2,Blk.obj_congr (λk hk=>(hkeep k hk).2) (hcl i b hb)] at this
      rw [this,(hsat i b hb).1]
    ·have hSk:S k:=(hS k).2 ⟨hk,hk'⟩
     rw [e5 k (λhm=>(hms k hm).2.1 hSk)]
     exact hsame k hSk
   ·have hp1:p∈ns:=by simpa using hp1
    refine ⟨?_,Blk.ids_mono (λk hk=>.inl hk) (hbl p hp1)⟩
    have:=mine W'' e5 _ _ (hns p hp1)
    rw [Blk.obj_congr (r:=r') hag (hbl p hp1)]
    exact this
   ·have hd:dom s'.hp (ρ p.1):=by unfold dom;rw [hns p hp1];simp
    have h1:=hS2 _ hd (hρ p hp1).2
    rw [hS] at h1
    refine Classical.byContradiction λhlt=>h1 ⟨by omega,λ⟨i,hi1,e⟩=>?_⟩
    have:=hi'.ri.inj i (ρ p.1) (hkeep i hi1).1 hd ((hkeep i hi1).2.trans e)
    exact (hρ p hp1).1 (this▸hi1)
   ·have hd:∀ x∈ns,dom s'.hp (ρ x.1):=λx hx=>by unfold dom;rw [hns x hx];simp
    exact hinj p hp1 q hq1 (hi'.ri.inj _ _ (hd p hp1) (hd q hq1) hpq)
 rcases he with rfl|rfl
 ·show LeavesInM _ _ _ _ _ _ a'.defers _ _
  rw [hdef,List.append_nil]
  exact zdx (by simp) ms W' hnd (λD hD=>(hms D hD).1) hend
 ·show LeavesInM _ _ _ _ _ _ a'.defers _ _
  rw [hdef,List.append_nil]
  exact zdx (by simp) ms W' hnd (λD hD=>(hms D hD).1) hend

def Blk.rn (ρ:Nat->Nat) (b:Blk):Blk:=match b.T with
 | .ty t=>⟨b.c.map (zan ρ),.ty t⟩
 | .raw _ _=>b
 | .mp=>⟨b.c.map (zan ρ),.mp⟩
theorem Blk.rn_obj (r ρ:Nat->Nat) (b:Blk):(b.rn ρ).obj r=b.obj (λk=>r (ρ k)):=by
 obtain ⟨c,T⟩:=b
 cases T with
 | raw t fr=>rfl
 | ty t =>
  simp only [Blk.rn,Blk.obj,Array.map_map]
  congr 2
  funext x
  exact zgw r ρ x
 | mp =>
  simp only [Blk.rn,Blk.obj,Array.map_map]
  congr 2
  funext x
  exact zgw r ρ x
theorem Blk.rn_flat {ρ:Nat->Nat} {b:Blk} (h:∀ x∈b.c,zbj x=true):b.rn ρ=b:=by
 obtain ⟨c,T⟩:=b
 cases T with
 | raw t fr=>rfl
 | ty t=>simp only [Blk.rn];rw [zbn (λx hx=>zcc (h x hx))]
 | mp=>simp only [Blk.rn];rw [zbn (λx hx=>zcc (h x hx))]
theorem zki {ρ:Nat->Nat} {D D':Nat->Prop} (h:∀ k,D k->D' (ρ k)) {v:Value} (hv:zal D v):zal D' (zao ρ v):=by
 cases v with
 | pointer p=>cases p<;>first|exact h _ hv|trivial
 | slice p _ _=>cases p<;>first|exact h _ hv|trivial
 | map p=>cases p<;>first|exact h _ hv|trivial
 | _=>trivial
theorem zkj {ρ:Nat->Nat} {D D':Nat->Prop} (h:∀ k,D k->D' (ρ k)) {v:Value} (hv:zaj D v):zaj D' (zan ρ v):=by
 cases v with
 | func f a b =>
  refine ⟨λx hx=>?_,λx hx=>?_⟩
  ·obtain ⟨y,hy,rfl⟩:=Array.mem_map.1 hx;exact zki h (hv.1 y hy)
  ·obtain ⟨y,hy,rfl⟩:=Array.mem_map.1 hx;exact zki h (hv.2 y hy)
 | iface t v=>exact zki (v:=v) h hv
 | pointer p=>cases p<;>first|exact h _ hv|trivial
 | slice p _ _=>cases p<;>first|exact h _ hv|trivial
 | map p=>cases p<;>first|exact h _ hv|trivial
 | _=>trivial
theorem Blk.ids_rn {ρ:Nat->Nat} {D D':Nat->Prop} (h:∀ k,D k->D' (ρ k)) {b:Blk} (hb:b.ids D):(b.rn ρ).ids D':=by
 obtain ⟨c,T⟩:=b
 cases T with
 | raw t fr=>trivial
 | ty t =>
  intro x hx
  obtain ⟨y,hy,rfl⟩:=Array.mem_map.1 hx
  exact zkj h (hb y hy)
 | mp =>
  intro x hx
  obtain ⟨y,hy,rfl⟩:=Array.mem_map.1 hx
  exact zkj h (hb y hy)
structure Rn (ρ:Nat->Nat) (hp hp':Hp) (rs:List Nat):Prop where
 low:∀ k,k<100->ρ k=k/\hp' k=hp k
 big:∀ k∈rs,100<=k->100<=ρ k
 at':∀ k∈rs,100<=k->∃ b,hp k=some b/\hp' (ρ k)=some (b.rn ρ)
 inj:∀ k∈rs,∀ l∈rs,100<=k->100<=l->ρ k=ρ l->k=l
theorem Rn.dom1 {ρ:Nat->Nat} {hp hp':Hp} {rs:List Nat} (h:Rn ρ hp hp' rs) {k:Nat} (hk:dom (rst hp rs) k):dom (rst hp' (rs.map ρ)) (ρ k):=by
 unfold dom rst at *
 by_cases h1:k<100
 ·have:=h.low k h1
  rw [this.1]
  simp only [h1,true_or,if_true] at hk |-
  rw [this.2];exact hk
 ·have hm:k∈rs:=by
   by_cases hm:k∈rs
   ·exact hm
   ·simp [h1,hm] at hk
  obtain ⟨b,e1,e2⟩:=h.at' k hm (by omega)
  have:ρ k∈rs.map ρ:=List.mem_map.2 ⟨k,hm,rfl⟩
  simp [this,e2]
theorem IterX.rn {pn:Option Value} {f:FuncId} {caps:Array Value} {hp hp':Hp} {rs:List Nat} {xs:List (Array Value)} (ρ:Nat->Nat) (hGF:zbm G) (hG:∀ k,k<100->hp k=G k) (h:Rn ρ hp hp' rs) (hi:IterX pn P G f caps hp rs xs):IterX pn P G f (caps.map (zao ρ)) hp' (rs.map ρ) xs:=by
 have hpl:∀ x,zbs x=true->zbs (zao ρ x)=true:=λx hx=>by
  cases x with
  | pointer p=>cases p<;>rfl
  | slice p _ _=>cases p<;>rfl
  | map p=>cases p<;>rfl
  | _=>exact hx
 have bflat:∀ k b,k<100->hp k=some b->b.rn ρ=b:=λk b hk hb=>by
  have hg:G k=some b:=(hG k hk).symm.trans hb
  exact Blk.rn_flat (hGF k b hg).2
 have back:∀ k b,rst hp' (rs.map ρ) k=some b->∃ q c,rst hp rs q=some c/\ρ q=k/\b=c.rn ρ:=λk b hb=>by
  unfold rst at hb
  by_cases h1:k<100
  ·simp only [h1,true_or,if_true] at hb
   have hl:=h.low k h1
   rw [hl.2] at hb
   exact ⟨k,b,by simp [rst,h1,hb],hl.1,(bflat k b h1 hb).symm⟩
  ·by_cases hm:k∈rs.map ρ
   ·obtain ⟨q,hq,rfl⟩:=List.mem_map.1 hm
    simp only [hm,or_true,if_true] at hb
    have hq1:100<=q:=by
     by_cases hq1:100<=q
     ·exact hq1
     ·exact absurd (by rw [(h.low q (by omega)).1];omega) h1
    obtain ⟨c,e1,e2⟩:=h.at' q hq hq1
    rw [e2] at hb;cases hb
    exact ⟨q,c,by simp [rst,hq,e1],rfl,rfl⟩
   ·simp [h1,hm] at hb
 refine ⟨hi.enter,λx hx=>?_,λk b hb=>?_,λE l stop r S W hgok hsat hinj hlow hlen hR hX hS hdis=>?_⟩
 ·obtain ⟨y,hy,rfl⟩:=Array.mem_map.1 hx
  have:=hi.cids y hy
  exact ⟨hpl y this.1,(zcb (hpl y this.1)).2 (zki (λk hk=>h.dom1 hk) ((zcb this.1).1 this.2))⟩
 ·obtain ⟨q,c,h1,rfl,rfl⟩:=back k b hb
  exact Blk.ids_rn (λk hk=>h.dom1 hk) (hi.closed q c h1)
 ·have hcap:(caps.map (zao ρ)).map (ren r)=caps.map (ren λk=>r (ρ k)):=by
   rw [Array.map_map]
   refine Array.map_congr_left λx hx=>?_
   have:=(hi.cids x hx).1
   simp only [Function.comp]
   rw [<-zc8 (r:=ρ) this,zc5]
  rw [hcap]
  refine hi.run E l stop (λk=>r (ρ k)) S W hgok (λk b hk=>⟨?_,hi.closed k b hk⟩) (λk l hk hl e=>?_) (λk hk hd=>?_) hlen hR hX hS (λi hd h1=>?_)
  ·have hd:dom (rst hp rs) k:=by unfold dom;rw [hk];simp
   have hd':=h.dom1 hd
   unfold dom at hd'
   cases hb:rst hp' (rs.map ρ) (ρ k) with
   | none=>exact absurd hb hd'
   | some b' =>
    have e:b'=b.rn ρ:=by
     unfold rst at hb hk
     by_cases h1:k<100
     ·have hl:=h.low k h1
      simp only [h1,true_or,if_true] at hk
      rw [hl.1] at hb
      simp only [h1,true_or,if_true] at hb
      rw [hl.2,hk] at hb
      cases hb
      exact (bflat k b h1 hk).symm
     ·have hm:k∈rs:=by
       by_cases hm:k∈rs
       ·exact hm
       ·simp [h1,hm] at hk
      simp only [hm,or_true,if_true] at hk
      obtain ⟨c,e1,e2⟩:=h.at' k hm (by omega)
      rw [hk] at e1;cases e1
      have hm':ρ k∈rs.map ρ:=List.mem_map.2 ⟨k,hm,rfl⟩
      simp only [hm',or_true,if_true] at hb
      rw [e2] at hb;cases hb;rfl
    have:=(hsat _ b' hb).1
    rw [e,Blk.rn_obj] at this
    exact this
  ·have e2:=hinj _ _ (h.dom1 hk) (h.dom1 hl) e
   have mem:∀ k,dom (rst hp rs) k->100<=k->k∈rs:=λk hk h1=>by
    unfold dom rst at hk
    by_cases hm:k∈rs
    ·exact hm
    ·simp [hm] at hk;omega
   by_cases h1:k<100
   ·by_cases h2:l<100
    ·rw [(h.low k h1).1,(h.low l h2).1] at e2;exact e2
    ·have:=h.big l (mem l hl (by omega)) (by omega)
     rw [(h.low k h1).1] at e2;omega
   ·by_cases h2:l<100
    ·have:=h.big k (mem k hk (by omega)) (by omega)
     rw [(h.low l h2).1] at e2;omega
    ·exact h.inj k (mem k hk (by omega)) l (mem l hl (by omega)) (by omega) (by omega) e2
  ·show r (ρ k)=k
   have:=h.dom1 hd
   rw [(h.low k hk).1] at this |-
   exact hlow k hk this
  ·refine hdis _ (h.dom1 hd) (h.big i ?_ h1)
   unfold dom rst at hd
   by_cases hm:i∈rs
   ·exact hm
   ·simp [hm] at hd;omega
end
section
variable {P:Program} {C:Ctx} {n:Nat} {d:List Deferred} {ro:Option Nat} {s:GS} {K:Exit->GS->Prop}
structure WeakR (C:Ctx) (ρ:Nat->Nat) (s s':GS):Prop where
 ts:∀ t,s'.ts t=zbz\/(s.ts t=ren ρ (s'.ts t)/\s.ts t≠zbz/\zap (dom s'.hp) (s'.ts t))
 hp:∀ k b,s'.hp k=some b->100<=k->s.hp (ρ k)=some (b.rn ρ)/\100<=ρ k
 ids:∀ k b,s'.hp k=some b->b.ids (dom s'.hp)
 inj:∀ k l,dom s'.hp k->dom s'.hp l->ρ k=ρ l->k=l
 id:∀ k,k<100->ρ k=k
 rest:∀ k b,k<100->C.G k=some b->b.rn ρ=b
 keep:∀ k,100<=k->dom C.hp0 k->dom s'.hp k/\ρ k=k
 glob:∀ k,k<100->s'.hp k=C.G k
 yc:s'.yc=s.yc
 free:∀ x,s'.B<=x->s'.hp x=none
 low:100<=s'.B
theorem GI.rename {ρ:Nat->Nat} {r:Nat->Nat} {a:Act} {W:World} {s':GS} (h:GI P C n d r s a W) (hw:WeakR C ρ s s'):GI P C n d (λk=>r (ρ k)) s' a W:=by
 have sub:∀ k b,s'.hp k=some b->s.hp (ρ k)=some (b.rn ρ):=λk b hb=>by
  by_cases hk:100<=k
  ·exact (hw.hp k b hb hk).1
  ·have hg:C.G k=some b:=(hw.glob k (by omega)).symm.trans hb
   rw [hw.id k (by omega),hw.rest k b (by omega) hg,h.ri.glob k (by omega)]
   exact hg
 have subd:∀ k,dom s'.hp k->dom s.hp (ρ k):=λk hk=>by
  unfold dom at hk
  cases hb:s'.hp k with
  | none=>exact absurd hb hk
  | some b=>unfold dom;rw [sub k b hb];simp
 refine ⟨{ h.ri with rel:=λt=>?_,sat:=λk b hb=>?_,inj:=λk l hk hl e=>hw.inj k l hk hl (h.ri.inj _ _ (subd k hk) (subd l hl) e),ext:=?_,keep:=λi hi=>?_,glob:=hw.glob,low:=λk hk hd=>?_ },hw.free,hw.low,h.flat,h.rounds⟩
 ·rcases hw.ts t with e|⟨e,hne,hi⟩
  ·exact .inl e
  ·have e':=(h.ri.rel t).resolve_left hne
   refine .inr ⟨?_,hi⟩
   rw [e'.1,e,zc5]
 ·have hs:=(h.ri.sat _ _ (sub k b hb)).1
  rw [Blk.rn_obj] at hs
  exact ⟨hs,hw.ids k b hb⟩
 ·obtain ⟨S,ms,h1,h2,h3,h4⟩:=h.ri.ext
  refine ⟨S,ms,by rw [hw.yc];exact h1,h2,λi hi hi1=>?_,h4⟩
  refine h3 _ (subd i hi) ?_
  unfold dom at hi
  cases hb:s'.hp i with
  | none=>exact absurd hb hi
  | some b=>exact (hw.hp i b hb hi1).2
 ·have hk:=h.ri.keep i hi
  by_cases h1:100<=i
  ·have hh:=hw.keep i h1 hi
   exact ⟨hh.1,by rw [hh.2];exact hk.2⟩
  ·refine ⟨?_,by rw [hw.id i (by omega)];exact hk.2⟩
   unfold dom;rw [hw.glob i (by omega),<-h.ri.glob i (by omega)];exact hk.1
 ·have hd':=subd k hd
  rw [hw.id k hk] at hd' |-
  exact h.ri.low k hk hd'
theorem zhw {c:Code} (I:Nat->GS->Prop) {m0:Nat} {s0:GS} (hw:Weak C s s0) (h0:I m0 s0)
  (round:∀ m s,I m s->GW P C n d ro c s (zcy (λs'=>∃ ρ s'' m',WeakR C ρ s' s''/\I m' s''/\m'<m) K)):GW P C n d ro (.loop c) s K:=by
 have key:∀ (m:Nat) (s:GS),I m s->∀ r a W,GI P C n d r s a W->∀ (b:Frame) (k:List Item) (cs:List Frame),b.roundOf=ro ->
   (Fs P).fn b.fn->∃ e a' w',(∃ s' r',K e s'/\GI P C n d r' s' a' w')/\ArrivesIn (Machine.fenced P (Fw P ro)) P (lone (b.atR a (.code c::.inLoop c::k)) cs W) b k cs e a' w':=by
  intro m
  induction m using Nat.strongRecOn with
  | _ m ih =>
   intro s hI r a W hi b k cs hro hfn
   obtain ⟨e,a₁,w₁,⟨s',r',hk,hi'⟩,harr⟩:=round m s hI r a W hi b (.inLoop c::k) cs hro hfn (ze4 P _)
   cases e with
   | normal =>
    obtain ⟨ρ,s'',m',hw'',hI'',hlt⟩:=hk
    obtain ⟨e₂,a₂,w₂,hq₂,harr₂⟩:=ih m' hlt s'' hI'' _ a₁ w₁ (hi'.rename hw'') b k cs hro hfn
    exact ⟨e₂,a₂,w₂,hq₂,.of_steps (StepsIn.trans harr (.one (fenced_calm (F:=Fw P ro) (n:=0) hfn (ze4 P _) rfl) stepR_inLoop)) harr₂⟩
   | exit id=>exact ⟨_,a₁,w₁,⟨s',r',hk,hi'⟩,.pass (x:=.inLoop c) rfl (λ_ _=>.inl (by simp)) harr⟩
   | goto l=>exact ⟨_,a₁,w₁,⟨s',r',hk,hi'⟩,.pass (x:=.inLoop c) rfl (λ_ _=>.inl (by simp)) harr⟩
   | ret=>exact ⟨_,a₁,w₁,⟨s',r',hk,hi'⟩,.pass (x:=.inLoop c) rfl (λ_ _=>.inl (by simp)) harr⟩
   | panic ch=>exact ⟨_,a₁,w₁,⟨s',r',hk,hi'⟩,.pass (x:=.inLoop c) rfl (λ_ _=>.inl (by simp)) harr⟩
   | outgrown=>exact ⟨_,a₁,w₁,⟨s',r',hk,hi'⟩,.pass (x:=.inLoop c) rfl (λ_ _=>.inl (by simp)) harr⟩
 intro r a W hi
 intro b k cs hro hb hr
 obtain ⟨e,a',w',hq,harr⟩:=key m0 s0 h0 r a W (hi.weak hw) b k cs hro hb
 exact ⟨e,a',w',hq,.of_steps (.one (fenced_calm hb hr rfl) stepR_loop) harr⟩
end
section
variable {P:Program} {G:Hp}
variable {C:Ctx} {n:Nat} {d:List Deferred} {s:GS} {K:Exit->GS->Prop}
theorem WeakR.subd {ρ:Nat->Nat} {s':GS} (hw:WeakR C ρ s s') (hg:∀ k,k<100->s.hp k=C.G k) (k:Nat) (hk:dom s'.hp k):dom s.hp (ρ k):=by
 unfold dom at hk
 cases hb:s'.hp k with
 | none=>exact absurd hb hk
 | some b =>
  by_cases h1:100<=k
  ·unfold dom;rw [(hw.hp k b hb h1).1];simp
  ·rw [hw.id k (by omega)]
   unfold dom;rw [hg k (by omega),<-hw.glob k (by omega),hb];simp
theorem Own0.rename {So:Nat->Prop} {ms:List Nat} {yc B2 B yc':Nat} {a:Act} {r ρ:Nat->Nat} {ts:Nat->Value} {hp hq:Hp} {V:World} (h:Own0 C d So ms yc a r ts hp V) (hw:WeakR C ρ ⟨ts,hp,B2,yc'⟩ ⟨ts,hq,B,yc'⟩):Own0 C d So ms yc a (λk=>r (ρ k)) ts hq V:=by
 have subd:=hw.subd (λk hk=>h.glob k hk)
 have sub:∀ k b,hq k=some b->hp (ρ k)=some (b.rn ρ):=λk b hb=>by
  by_cases hk:100<=k
  ·exact (hw.hp k b hb hk).1
  ·have hg:C.G k=some b:=(hw.glob k (by omega)).symm.trans hb
   rw [hw.id k (by omega),hw.rest k b (by omega) hg,h.glob k (by omega)]
   exact hg
 refine ⟨λt=>?_,λk b hb=>?_,λk l hk hl e=>hw.inj k l hk hl (h.inj _ _ (subd k hk) (subd l hl) e),h.X,λi hd h1=>?_,h.mks,λi hi=>?_,hw.glob,λk hk hd=>?_⟩
 ·rcases hw.ts t with e|⟨e,hne,hi⟩
  ·exact .inl e
  ·have e':=(h.ri t).resolve_left hne
   refine .inr ⟨?_,hi⟩
   have e2:ts t=ren ρ (ts t):=e
   rw [e'.1]
   conv=>lhs;rw [e2]
   rw [zc5]
 ·have hs:=(h.sat _ _ (sub k b hb)).1
  rw [Blk.rn_obj] at hs
  exact ⟨hs,hw.ids k b hb⟩
 ·refine h.sep _ (subd i hd) ?_
  have hd':dom hq i:=hd
  unfold dom at hd'
  cases hb:hq i with
  | none=>exact absurd hb hd'
  | some b=>exact (hw.hp i b hb h1).2
 ·have hk:=h.keep i hi
  by_cases h1:100<=i
  ·have hh:=hw.keep i h1 hi
   exact ⟨hh.1,by rw [hh.2];exact hk.2⟩
  ·refine ⟨?_,by rw [hw.id i (by omega)];exact hk.2⟩
   show dom hq i
   unfold dom
   have e1:hq i=C.G i:=hw.glob i (by omega)
   rw [e1,<-h.glob i (by omega)];exact hk.1
 ·have hd':=subd k hd
  rw [hw.id k hk] at hd' |-
  exact h.low k hk hd'
end
end Go.Gy
