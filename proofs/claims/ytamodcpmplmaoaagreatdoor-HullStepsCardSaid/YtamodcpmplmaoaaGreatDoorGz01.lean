/-
  Lemmas of this claim, in their order (GyE, GyF, GyR).
  Conditions: those of each theorem.
-/
import Derived.Test.YtamodcpmplmaoaaGreatDoorGz00
set_option linter.unusedSimpArgs false
set_option linter.unusedVariables false
namespace Go.Gy
open Go Go.RowKit
theorem sn {p:Prop} (h:p:=by simp [eo,ak]):p:=h
theorem bE {p:Prop} (h:p:=by simp [ho,Op.operands]):p:=h
theorem sE {p:Prop} (h:p:=by rw [ahE zS];exact hb):p:=h
theorem ga {p:Prop} (h:p:=by simp [aL,cQ,aI,aP]):p:=h
theorem nK {p:Prop} (h:p:=by simpa [aL,cQ,aI,aP] using h1.2):p:=h
theorem cG {p:Prop} (h:p:=by simpa using hx):p:=h
theorem xz {p:Prop} (h:p:=by cases first;simpa using BB):p:=h
theorem so {p:Prop} (h:p:=by simp [ho,hc,Op.operands,Call.operands]):p:=h
theorem sG {p:Prop} (h:p:=by rw [h1.1];simp [ren,aW,aw]):p:=h
theorem sQ {p:Prop} (h:p:=by simp [ho,Op.operands,Call.operands,hx]):p:=h
theorem iv {p:Prop} (h:p:=by unfold dom;rw [hb];simp):p:=h
theorem pG {p:Prop} (h:p:=by simpa using hp1):p:=h
theorem lM {p:Prop} (h:p:=by simpa using hq):p:=h
theorem C9 {p:Prop} (h:p:=by simp [execOp,ho,Instr.arrayAt,h3,run_underlying hu,hn,ren,aW,aw,aF]):p:=h
theorem Dt {p:Prop} (h:p:=by simp [Builtin.len_,run_underlying hu,ren,aW,aw,aF,goInt]):p:=h
theorem sT {p:Prop} (h:p:=by simp [Res.eff,ak]):p:=h
theorem iV {p:Prop} (h:p:=by unfold dom;rw [hk];simp):p:=h
theorem yb {p:Prop} (h:p:=by
 rw [Blk.obj_flat (λx hx=>AM x hx)]):p:=h
theorem Eg {p:Prop} (h:p:=by
 have:=evR hR (x:=x) (by simp [ho,Op.operands,hx]) h.1 bC hD;exact ⟨by rw [this.1,kA h.2],(ky h.2).1 this.2⟩):p:=h
theorem yA {p:Prop} (h:p:=by
 simp [execOp,ho,resolve,hc,h3,Deferred.ofValue,invoke,n5,hen]):p:=h
theorem GH {p:Prop} (h:p:=by
 rw [bC k dp hDk] at h2;rw [h2.1];rw [Blk.obj_flat (λx hx=>AM x hx)]):p:=h
theorem Eb {p:Prop} (h:p:=by
 exact ⟨rfl,r,λ_ _=>rfl,(bS hv).symm,bw hv,Turn.of_below hb⟩):p:=h
theorem Gv {p:Prop} (h:p:=by
 simp [execOp,ho,resolve,hc,h3,Deferred.ofValue,invoke,n5,hr.enter]):p:=h
theorem Es {p:Prop} (h:p:=by
 simp only [j9,mc,rk];refine gK λp hp1=>?_;simp only [Function.comp];rw [(e1 p hp1).1]):p:=h
theorem Gw {p:Prop} (h:p:=by
 split at h
 ·rename_i q hq;rw [bS (key hq).1,bS (key hq).2];exact h0
 ·cases h):p:=h
theorem E4 {p:Prop} (h:p:=by
 refine ⟨?_,bw hs.2⟩;rw [bS hs.2];simp only [execOp,ho,h1.1];rw [aX,hs.1]
 rfl):p:=h
theorem ER {p:Prop} (h:p:=by
 cases z with
 | tuple vs=>exact absurd rfl (jg QA vs)
 | agg Z7=>exact dt.1 vr x hx
 | _=>simp only [Value.cells] at hx;simp at hx;subst hx;exact vr):p:=h
theorem DX {p:Prop} (h:p:=by
 obtain ⟨j,_,rfl⟩:=eQ.1 hx;by_cases dp:j%z.cells.size<z.cells.size
 ·rw [getElem!_pos z.cells _ dp];exact Q8 _ (jV dp)
 ·rw [getElem!_neg z.cells _ dp];rfl):p:=h
theorem Hy {p:Prop} (h:p:=by
 cases x<;>simp only [An,amy] at h<;>first|(cases h;done)|skip
 cases h;rfl):p:=h
theorem R2 {p:Prop} (h:p:=by
 exact h.elim):p:=h
theorem yz {p:Prop} (h:p:=by
 obtain ⟨h1,v,hv,hr,hC⟩:=h;exact ⟨_,.inl ⟨rfl,ZC (λcs b e=>by simp_all) h1 hv hr⟩,.val,hC⟩):p:=h
abbrev mG := @Go.RowKit.Below.refl
abbrev rG := @Go.RowKit.Below.heap_alloc
abbrev br := @List.mem_singleton
abbrev mU := @Go.World.alloc_heap_new
abbrev eC := @Go.World.putObj_heap_other
abbrev eP := @List.append_nil
abbrev gM := @Iff.rfl
abbrev eZ := @List.mem_toArray
abbrev az := @List.not_mem_nil
abbrev ay := @or_false
abbrev gD := @Array.map_map
abbrev eQ := @Array.mem_map
abbrev vP := @Array.map_append
abbrev ae := @if_neg
abbrev o6 := @List.foldl_cons
abbrev re := @Array.foldl_toList
abbrev vZ := @Array.size_map
abbrev mE := @List.getElem_mem
abbrev rk := @List.map_map
abbrev gK := @List.map_congr_left
abbrev eX := @trivial
abbrev cU := @Int.mul_le_mul
abbrev jZ := @Nat.mul_le_mul
abbrev aR := @decide_eq_false
abbrev g5 := @Option.map_some
abbrev rQ := @Option.map_none
abbrev ij := @Prod.mk.injEq
abbrev vX := @Array.all_eq_true'
abbrev jv := @eq_iff_iff
abbrev cf := List (Nat × Blk)

def val (v:Value) (rs:List Nat):Eff:=⟨v,rs,[],[],none,false⟩
def tO (k:Nat):Value:=.pointer (some ⟨k,0,none⟩)

def c7 (G:Hp):Prop:=∀ k b,G k=some b->k<100/\∀ x∈b.c,bU x=true

inductive Out
 | ret (v:Value)
 | pan (v:Value)
def Out.eff:Out->Eff
 | .ret v=>val v []
 | .pan v=>⟨fP,[],[],[],some v,false⟩
def Out.holds (W:World):Out->Ending->World->Prop
 | .ret v,e,W'=>e=.returned v/\Below W.heap.size W W'
 | .pan v,e,W'=>e=.panicked [{ v:=v,recovered:=false }]/\Below W.heap.size W W'

def Ret (P:Program) (G:Hp) (f:FuncId) (args:ca) (v:Value):Prop :=
 bp v=true/\(∀ x∈args,bp x=true)/\(∀ a w,(callFunc f a).run P w=.ok (.enter f a) w) /\
  ∀ W,GOK G W->l7 P f args W λe W'=>e=.returned v/\Below W.heap.size W W'
def aeX (P:Program) (f:FuncId) (args:ca) (v:Value):Prop:=bp v=true/\(∀ x∈args,bp x=true)/\∀ w,(callFunc f args).run P w=.ok (.value v) w
def BI (P:Program) (G:Hp) (f:FuncId) (args:ca) (o:Out):Prop :=
 (∀ v,o=.ret v->bp v=true)/\(∀ x∈args,bp x=true)/\(∀ a w,(callFunc f a).run P w=.ok (.enter f a) w)/\∀ W,GOK G W->l7 P f args W (o.holds W)
def IM (P:Program) (G:Hp) (f:FuncId) (args:ca) (C:Eff->Prop):Prop:=∃ o,BI P G f args o/\C o.eff
theorem IN {P:Program} {G:Hp} {f:FuncId} {args:ca} {C:Eff->Prop} {o:Out} (h:BI P G f args o) (hk:C o.eff):IM P G f args C:=⟨o,h,hk⟩
def bl (P:Program) (G:Hp) (f:FuncId) (args:ca) (K:fQ):Prop:=∃ v,(Ret P G f args v\/aeX P f args v)/\K v

inductive Res
 | ret (v:Value) (ws:cf)
 | pan (v:Value)
 | new (v:Value) (ns:cf)
def Res.eff (rs:List Nat):Res->Eff
 | .ret v ws=>⟨v,rs,ws,[],none,false⟩
 | .pan v=>⟨fP,rs,[],[],some v,false⟩
 | .new v ns=>⟨v,rs,[],ns,none,false⟩
def Res.holds (r:dR) (D:iH) (W:World):Res->Ending->World->Prop
 | .new v ns,e,W'=>(∀ k∈ak ns,¬D k)->∃ r',(∀ k,D k->r' k=r k)/\e=.returned (ren r' v)/\Turn r' (eo D ns) W W' [] ns
 | .ret v ws,e,W'=>e=.returned (ren r v)/\Turn r (eo D []) W W' ws []
 | .pan v,e,W'=>e=.panicked [{ v:=v,recovered:=false }]/\Below W.heap.size W W'
def Res.fits (hp:Hp) (rs:List Nat):Res->Prop
 | .ret v ws=>aL (dom (rst hp rs)) v/\(∀ k∈ak ws,k∈rs/\dom hp k/\100<=k)/\(∀ k b c,(k,b)∈ws->(k,c)∈ws->b=c)/\∀ p∈ws,p.2.ids (dom (rst hp rs))
 | .pan _=>True
 | .new v ns=>aL (eo (dom (rst hp rs)) ns) v/\(∀ k∈ak ns,100<=k)/\(∀ k b c,(k,b)∈ns->(k,c)∈ns->b=c)

structure Fun (P:Program) (G:Hp) (f:FuncId) (args:ca) (hp:Hp) (rs:List Nat) (res:Res):Prop where
 enter:∀ a w,(callFunc f a).run P w=.ok (.enter f a) w
 ids:∀ x∈args,aL (dom (rst hp rs)) x
 closed:∀ k b,rst hp rs k=some b->b.ids (dom (rst hp rs))
 fits:res.fits hp rs
 run:∀ r W,GOK G W->Sat r (dom (rst hp rs)) (rst hp rs) W->Inj r (dom (rst hp rs))->(∀ k,k<100->dom (rst hp rs) k->r k=k)->l7 P f (args.map (ren r)) W (res.holds r (dom (rst hp rs)) W)
def Res.at (nk:Nat):Res->Prop
 | .new _ ns=>∀ k∈ak ns,nk<=k/\k<nk+8
 | _=>True
def qO (P:Program) (G:Hp) (f:FuncId) (args:ca) (hp:Hp) (nk:Nat) (K:Eff->Prop):Prop:=∃ eG rs res,(∀ k∈rs,eG k=hp k)/\(∀ k,k<100->eG k=G k)/\Fun P G f args eG rs res/\res.at nk/\K (res.eff rs)
theorem Fun.under {P:Program} {G:Hp} {f:FuncId} {args:ca} {hp eG:Hp} {rs:List Nat} {res:Res} (h:Fun P G f args eG rs res) (e:∀ k,(k<100\/k∈rs)->eG k=hp k):Fun P G f args hp rs res:=by
 have er:rst eG rs=rst hp rs:=qB e;refine ⟨h.enter,by rw [<-er];exact h.ids,by rw [<-er];exact h.closed,?_,by rw [<-er];exact h.run⟩;have hf:=h.fits
 cases res with
 | ret v ws =>
  simp only [Res.fits] at hf |-;rw [<-er];refine ⟨hf.1,λk hk=>?_,hf.2.2⟩;have:=hf.2.1 k hk;exact ⟨this.1,by unfold dom at *;rw [<-e k (.inr this.1)];exact this.2.1,this.2.2⟩
 | pan v=>trivial
 | new v ns=>simp only [Res.fits] at hf |-;rw [<-er];exact hf

structure XV where
 Y:Option YG
 pn:List FuncId
 dr:Bool

def kz:Value->Bool
 | .tuple _=>false
 | .complex _ _ _=>false
 | _=>true
def eh:Value->Bool
 | .tuple _=>false
 | .agg _=>false
 | .func _ _ _=>false
 | .iface _ _=>false
 | _=>true
theorem kA {r:dR} {v:Value} (h:eh v=true):ren r v=aF r v:=by cases v<;>simp_all [eh,ren,aW,aw]
theorem ky {D:iH} {v:Value} (h:eh v=true):aL D v↔aP D v:=by cases v<;>simp_all [eh,aL,cQ,aI]

def mc (ts:fp) (parts:Array (Nat×Operand)):List (Nat×Value):=parts.toList.map λp=>(p.1,gev ts p.2)

def dw (P:Program) (T:TypeId):Option (List (Nat×Nat) ⊕ Nat) :=
 match P.underlying T with
 | some (.array _ e)=>(bo P e).map .inr
 | some (.struct fs)=>(fs.toList.mapM λf=>(P.info? f.type).map λi=>(f.offset,i.size)).map .inl
 | _=>none
def Ni:List (Nat×Nat) ⊕ Nat->Nat->Option (Nat×Nat)
 | .inl l,i=>l[i]?
 | .inr m,i=>some (i*m,m)
def pd (pl:List (Nat×Nat) ⊕ Nat) (cells:ca):List (Nat×Value)->Option (Array Value)
 | []=>some cells
 | (i,v)::rest =>
  match Ni pl i with
  | none=>none
  | some (off,size)=>if v.cells.size=size/\off+v.cells.size<=cells.size then pd pl (gv cells off v.cells.toList) rest else none

def hiG (len cap:Nat):Option Value->Option Nat
 | none=>some len
 | some (.int _ m)=>if 0<=m/\m<=cap then some m.toNat else none
 | _=>none
def loG (h:Nat):Option Value->Option Nat
 | none=>some 0
 | some (.int _ m)=>if 0<=m/\m<=h then some m.toNat else none
 | _=>none
def mf (len cap:Nat) (lo hi:Option Value):Option (Nat×Nat) :=
 match hiG len cap hi with
 | none=>none
 | some h=>(loG h lo).map λl=>(l,h)
def slV (a:Option (Nat×Nat)) (s c:Nat):Option (Nat×Nat)->Option Value
 | some (l,h)=>some (.slice (a.map λp=>⟨p.1,if c=l then p.2 else p.2+l*s,none⟩) (h - l) (c - l))
 | none=>none
def slS (s:ByteArray):Option (Nat×Nat)->Option Value
 | some (l,h)=>some (.string (s.extract l h))
 | none=>none
def slX (P:Program) (T:TypeId) (v:Value) (lo hi:Option Value):Option Value :=
 match P.underlying T with
 | some (.array n e)=>match v with
  | .pointer (some ⟨k,off,none⟩)=>match bo P e with
   | some s=>slV (some (k,off)) s n (mf n n lo hi)
   | none=>none
  | _=>none
 | some (.slice e)=>match v with
  | .slice (some ⟨k,off,none⟩) n c=>match bo P e with
   | some s=>slV (some (k,off)) s c (mf n c lo hi)
   | none=>none
  | .slice none n c=>match bo P e with
   | some s=>slV none s c (mf n c lo hi)
   | none=>none
  | _=>none
 | some .string=>match v with
  | .string s=>slS s (mf s.size s.size lo hi)
  | _=>none
 | _=>none
def WZ (P:Program) (T:TypeId) (v:Value):Option Value :=
 match P.underlying T with
 | some (.array n _)=>match v with
  | .slice a len _=>if n<=len then some (.pointer a) else none
  | _=>none
 | _=>none
def XI (P:Program) (T:TypeId) (v:Value):Option Value :=
 match P.underlying T with
 | some .string=>match v with
  | .string s=>some (.int .i64 s.size)
  | _=>none
 | some (.array n _)=>some (.int .i64 n)
 | some (.slice _)=>match v with
  | .slice _ n _=>some (.int .i64 n)
  | _=>none
 | _=>none
def Jy (b:Bool) (x y:Value):Option Value :=
 match x,y with
 | .int k a,.int _ c=>some (.int k (if b then (if a<c then c else a) else (if c<a then c else a)))
 | _,_=>none
def amy:Value->Option Value
 | .int k a=>some (.int k a)
 | _=>none
def An (b:Bool) (x:Value):List Value->Option Value
 | []=>amy x
 | y::l=>match Jy b x y with
  | some z=>An b z l
  | none=>none
def Jz (b:Bool):List Value->Option Value
 | []=>none
 | x::l=>An b x l
def BN (P:Program) (ts:fp) (c:Call):Option Value :=
 match c.callee with
 | .builtin .len=>match c.args.toList,c.argTypes.toList with
  | [x],[T]=>XI P T (gev ts x)
  | _,_=>none
 | .builtin .max=>Jz true (c.args.toList.map (gev ts))
 | .builtin .min=>Jz false (c.args.toList.map (gev ts))
 | _=>none
def fdX (P:Program) (T:TypeId) (f:Nat):Option (TypeId×Nat) :=
 match P.underlying T with
 | some (.struct fs)=>match fs[f]? with
  | some fd=>match bo P fd.type with
   | some (_+1)=>some (fd.type,fd.offset)
   | _=>none
  | none=>none
 | _=>none

def LF (P:Program) (o:Oper) (ts:fp) (hp:Hp) (K:fQ):Prop :=
 (∀ x∈o.op.operands.toList,okX ts hp x/\bp (gev ts x)=true)/\∃ v,bp v=true/\(∀ W,(execOp (gev ts) o).run P W=.ok (.value v) W)/\K v

def okT (ts:fp):Operand->Prop
 | .tmp t=>nj (ts t)
 | .const v=>bp v=true
 | .func _=>True
 | _=>False
def Bv (y:YG) (yc:Nat):Eff :=
 match y.pan yc with
 | none=>match y.sh with
  | none=>⟨.bool (yc != y.stop),[],[],[],none,true⟩
  | some s=>⟨.bool (yc != y.stop),[s.w],[(s.w,s.ob (yc+1))],[],none,true⟩
 | some pv=>⟨fP,[],[],[],some pv,true⟩
def zG (w:Nat) (v:Value):Bool:=match v with
 | .agg cs=>cs.all λx=>match x with
  | .pointer (some a)=>a.block==w
  | x=>bU x
 | .pointer (some a)=>a.block==w
 | v=>bp v
def YG.arg (y:YG) (v:Value):Bool:=match y.sh with
 | none=>bp v
 | some s=>zG s.w v
def YG.act (y:YG) (v:Value):Value:=match y.sh with
 | none=>v
 | some s=>ren (λ_=>s.a) v
def YG.lies (y:YG) (yc:Nat) (hp:Hp):Prop:=match y.sh with
 | none=>True
 | some s=>hp s.w=some (s.ob yc)/\100<=s.w/\y.pn=none
def OpY (Y:Option YG) (o:Oper) (ts:fp) (yc:Nat) (hp:Hp) (e:Eff):Prop :=
 ∃ y f args T,Y=some y/\o.op=.call ⟨.value f,args,T⟩/\okT ts f/\(∀ x∈args.toList,okT ts x/\y.arg (gev ts x)=true)/\gev ts f=.func (.yield y.l) #[] #[]/\yc<=y.stop/\y.xs[yc]? = some (args.map λx=>y.act (gev ts x)) /\
  e=Bv y yc/\y.lies yc hp
def Cp (Y:Option YG) (yc l:Nat) (hp:Hp) (args:ca) (C:Eff->Prop):Prop :=
 match Y with
 | some y=>l=y.l/\yc<=y.stop/\(∀ v∈args.toList,y.arg v=true)/\y.xs[yc]? = some (args.map y.act)/\y.lies yc hp/\C (Bv y yc)
 | none=>False

def yY (P:Program) (G:Hp) (V:XV) (nk yc:Nat) (ts:fp) (hp:Hp) (v:Value) (args:Array Operand) (C:Eff->Prop):Prop :=
 match v with
 | .func (.func g) first cap=>first.size=0/\(∀ x∈args.toList,okX ts hp x) /\
   if cap.size=0/\V.pn.contains g=false/\(args.map (gev ts)).all bp=true then (if V.pn.contains (g+1000000)=true then IM P G g (args.map (gev ts)) C else bl P G g (args.map (gev ts)) λv=>C (val v [])) else cap.all eh=true/\qO P G g (args.map (gev ts)++cap) hp nk C
 | .func (.yield l) first cap=>first.size=0/\cap.size=0/\(∀ x∈args.toList,okT ts x)/\Cp V.Y yc l hp (args.map (gev ts)) C
 | _=>False
def KZ (P:Program) (G:Hp) (V:XV) (nk yc:Nat) (ts:fp) (hp:Hp) (c:Call) (C:Eff->Prop):Prop :=
 match c.callee with
 | .value f=>okT ts f/\yY P G V nk yc ts hp (gev ts f) c.args C
 | _=>(∀ x∈c.args.toList,okX ts hp x)/\match BN P ts c with
  | some v=>C (val v [])
  | none=>False

def fnV:Value->Bool
 | .func _ _ _=>true
 | _=>false
def Lp (b:Option Blk) (k:Nat) (s:ByteArray) (v:Value) (C:Eff->Prop):Prop:=match b.bind TW with
 | some l=>ix s l=none/\100<=k/\C ⟨undef,[k],[(k,mpB (l++[(s,v)]))],[],none,false⟩
 | none=>False
def TE (hp:Hp) (m k v:Value) (C:Eff->Prop):Prop:=match m with
 | .map (some q)=>(match k with | .string s=>Lp (hp q) q s v C|_=>False)
 | _=>False
def XK (b:Option Blk) (k:Nat) (s:ByteArray) (C:Eff->Prop):Prop:=match b.bind TW with
 | some l=>(match ix s l with|some v=>fnV v=true/\C (val v [k])|none=>False)
 | none=>False
def lkX (hp:Hp) (m k:Value) (C:Eff->Prop):Prop:=match m with
 | .map (some q)=>(match k with | .string s=>XK (hp q) q s C|_=>False)
 | _=>False
def ncX (v:Value) (C:Eff->Prop):Prop :=
 match v with
 | .pointer (some ⟨k,o,none⟩)=>C (val (.pointer (some ⟨k,o,none⟩)) [])
 | _=>False
def KR (P:Program) (T:TypeId):Option Nat:=(P.info? T).map (·.bytes)
def msZ (P:Program) (e m nk:Nat) (z:Option Value) (b:Option Nat) (v w:Value) (C:Eff->Prop):Prop :=
 match z,b,v with
 | some z,some b,.int .i64 l=>w=.int .i64 l/\cI z=true/\bp z=true/\(0<l/\l<=4096)/\b<=4096/\0<m/\C ⟨.slice (some ⟨nk,0,none⟩) l.toNat l.toNat,[],[],[(nk,⟨(Array.range (l.toNat*m)).map (z.cells[·%z.cells.size]!),e⟩)],none,false⟩
 | _,_,_=>False
def msM (P:Program) (e nk:Nat) (m:Option Nat) (v w:Value) (C:Eff->Prop):Prop :=
 match m with
 | some m=>msZ P e m nk (dm P e) (KR P e) v w C
 | none=>False
def msU (P:Program) (nk:Nat) (u:Option TypeDesc) (v w:Value) (C:Eff->Prop):Prop :=
 match u with
 | some (.slice e)=>msM P e nk (bo P e) v w C
 | _=>False
def opX (P:Program) (G:Hp) (V:XV) (yc:Nat) (o:Oper) (ts:fp) (hp:Hp) (nk:Nat) (C:Eff->Prop):Prop :=
 match o.op with
 | .move x=>okX ts hp x/\C (val (gev ts x) [])
 | .assign x=>okX ts hp x/\C (val (gev ts x) [])
 | .pick c x y=>okX ts hp c/\match gev ts c with
  | .bool b=>(b=true->okX ts hp x)/\(b=false->okX ts hp y)/\C (val (if b then gev ts x else gev ts y) [])
  | _=>False
 | .alloc T=>match dm P T with
  | some z=>cI z=true/\bp z=true/\C ⟨tO nk,[],[],[(nk,⟨z.cells,T⟩)],none,false⟩
  | none=>False
 | .box T x=>okX ts hp x/\cI (gev ts x)=true/\C ⟨tO nk,[],[],[(nk,⟨(gev ts x).cells,T⟩)],none,false⟩
 | .load T x=>okX ts hp x/\match gev ts x with
  | .pointer (some ⟨k,off,none⟩)=>match hp k with
   | some b=>match fB P T b off with
    | some v=>C (val v [k])
    | none=>False
   | none=>False
  | _=>False
 | .store T x y=>okX ts hp x/\okX ts hp y/\match gev ts x with
  | .pointer (some ⟨k,off,none⟩)=>match hp k with
   | some b=>b.T.own=true/\cI (gev ts y)=true/\bo P T=some (gev ts y).cells.size/\off+(gev ts y).cells.size<=b.c.size/\100<=k /\
     C ⟨undef,[k],[(k,⟨gv b.c off (gev ts y).cells.toList,b.T⟩)],[],none,false⟩
   | none=>False
  | _=>False
 | .extract x i=>okX ts hp x/\match gev ts x with
  | .tuple vs=>match vs[i]? with
   | some v=>kz v=true/\C (val v [])
   | none=>False
  | _=>False
 | .indexAddr T x i=>okX ts hp x/\okX ts hp i/\match gev ts i with
  | .int _ m=>match P.underlying T with
   | some (.array len e)=>match gev ts x with
    | .pointer (some ⟨k,off,none⟩)=>(0<=m/\m<len)/\match bo P e with
     | some s=>C (val (.pointer (some ⟨k,off+m.toNat*s,none⟩)) [])
     | none=>False
    | _=>False
   | some (.slice e)=>match gev ts x with
    | .slice (some ⟨k,off,none⟩) len _=>(0<=m/\m<len)/\match bo P e with
     | some s=>C (val (.pointer (some ⟨k,off+m.toNat*s,none⟩)) [])
     | none=>False
    | _=>False
   | _=>False
  | _=>False
 | .index T x i=>okX ts hp x/\okX ts hp i/\match gev ts i with
  | .int _ m=>match P.underlying T with
   | some (.array len e)=>match gev ts x with
    | .agg cs=>(0<=m/\m<len)/\match bo P e with
     | some s=>match eV P e cs (m.toNat*s) with
      | some v=>C (val v [])
      | none=>False
     | none=>False
    | _=>False
   | some .string=>match gev ts x with
    | .string s=>match (if 0<=m then s[m.toNat]? else none) with
     | some b=>C (val (.int .u8 b.toNat) [])
     | none=>False
    | _=>False
   | _=>False
  | _=>False
 | .field T x f=>okX ts hp x/\match fdX P T f with
  | some (t,off)=>match gev ts x with
   | .agg cs=>match eV P t cs off with
    | some v=>C (val v [])
    | none=>False
   | _=>False
  | none=>False
 | .fieldAddr T x f=>okX ts hp x/\match fdX P T f with
  | some (_,off)=>match gev ts x with
   | .pointer (some ⟨k,o,none⟩)=>C (val (.pointer (some ⟨k,o+off,none⟩)) [])
   | _=>False
  | none=>False
 | .slice T x lo hi mx=>okX ts hp x/\(∀ y∈lo.toList,okX ts hp y)/\(∀ y∈hi.toList,okX ts hp y)/\mx.isNone=true/\match slX P T (gev ts x) (lo.map (gev ts)) (hi.map (gev ts)) with
  | some v=>C (val v [])
  | none=>False
 | .sliceToArrayPointer T x=>okX ts hp x/\match WZ P T (gev ts x) with
  | some v=>C (val v [])
  | none=>False
 | .makeFunc fn first cap=>(∀ x∈first.toList,okX ts hp x/\eh (gev ts x)=true)/\(∀ x∈cap.toList,okX ts hp x/\eh (gev ts x)=true)/\C (val (.func fn (first.map (gev ts)) (cap.map (gev ts))) [])
 | .build T parts=>(∀ p∈parts.toList,okX ts hp p.2/\cI (gev ts p.2)=true)/\match dm P T with
  | some z=>cI z=true/\bp z=true/\match dw P T with
   | some pl=>match pd pl z.cells (mc ts parts) with
    | some cs=>C (val (.agg cs) [])
    | none=>False
   | none=>False
  | none=>False
 | .buildSlice T len parts=>(∀ p∈parts.toList,okX ts hp p.2/\cI (gev ts p.2)=true)/\match P.underlying T with
  | some (.slice e)=>match bo P e with
   | some m=>match dm P e with
    | some z=>cI z=true/\bp z=true/\0<len*m/\len*m<=16777216/\match pd (.inr m) ((Array.range (len*m)).map (z.cells[·%z.cells.size]!)) (mc ts parts) with
     | some cs=>C ⟨.slice (some ⟨nk,0,none⟩) len len,[],[],[(nk,⟨cs,e⟩)],none,false⟩
     | none=>False
    | none=>False
   | none=>False
  | _=>False
 | .makeInterface T x=>okX ts hp x/\eh (gev ts x)=true/\match P.underlying T with
  | some (.interface _)=>False
  | some _=>C (val (.iface T (gev ts x)) [])
  | none=>False
 | .binOp op T x y _=>okX ts hp x/\okX ts hp y/\match zq P op T (gev ts x) (gev ts y) with
  | some v=>C (val v [])
  | none=>LF P o ts hp λv=>C (val v [])
 | .unOp op _ x=>okX ts hp x/\match un1 op (gev ts x) with
  | some v=>C (val v [])
  | none=>False
 | .convert S T x=>okX ts hp x/\match AD P S T (gev ts x) with
  | some v=>C (val v [])
  | none=>LF P o ts hp λv=>C (val v [])
 | .call c=>KZ P G V nk yc ts hp c C
 | .panic x=>okX ts hp x/\bp (gev ts x)=true/\match gev ts x with
  | .iface T u=>C ⟨fP,[],[],[],some (.iface T u),false⟩
  | _=>False
 | .makeMap _ y=>y.isNone=true/\C ⟨.map (some nk),[],[],[(nk,mpB [])],none,false⟩
 | .insert T m k x=>okX ts hp m/\okX ts hp k/\okX ts hp x/\qT P T=true/\fnV (gev ts x)=true/\TE hp (gev ts m) (gev ts k) (gev ts x) C
 | .lookup T x i ok=>okX ts hp x/\okX ts hp i/\ok=false/\qT P T=true/\lkX hp (gev ts x) (gev ts i) C
 | .select _ _=>False
 | .nilCheck x=>okX ts hp x/\ncX (gev ts x) C
 | .makeSlice T x y=>okX ts hp x/\okX ts hp y/\msU P nk (P.underlying T) (gev ts x) (gev ts y) C
 | _=>LF P o ts hp λv=>C (val v [])

structure Shape (hp:Hp) (nk:Nat) (e:Eff):Prop where
 ws:∀ k∈ak e.ws,k∈e.rs/\dom hp k/\100<=k
 ns:∀ k∈ak e.ns,nk<=k/\k<nk+8
 once:∀ k b c,(k,b)∈e.ws++e.ns->(k,c)∈e.ws++e.ns->b=c

theorem Shape.val {hp:Hp} {nk:Nat} {v:Value} {rs:List Nat}:Shape hp nk (val v rs):=⟨by simp [Gy.val,ak],by simp [Gy.val,ak],by simp [Gy.val]⟩
theorem Shape.new {hp:Hp} {nk:Nat} {v:Value} {b:Blk}:Shape hp nk ⟨v,[],[],[(nk,b)],none,false⟩:=⟨ai,ai,by simp;rintro k b c h1 h2 h3 h4;rw [h2,h4]⟩
theorem Shape.wr {hp:Hp} {nk k:Nat} {v:Value} {b:Blk} (hk:dom hp k) (h1:100<=k):Shape hp nk ⟨v,[k],[(k,b)],[],none,false⟩:=⟨by simp [ak];exact ⟨hk,h1⟩,ai,by simp;rintro k b c h1 h2 h3 h4;rw [h2,h4]⟩

section
variable {P:Program} {o:Oper} {ts:fp} {hp:Hp} {nk:Nat} {G:Hp} {V:XV} {yc:Nat}

theorem wo {D:iH}:eo D []=D:=funext λk=>sn

theorem evR {r:dR} {D:iH} {a:Act} {rs:List Nat} {x:Operand} (h:Ix o r D ts a) (hx:x∈o.op.operands) (hk:okX ts hp x) (bC:∀ k,k<100->D k->r k=k)
  (hD:∀ k,dom (rst hp rs) k->D k):a.eval x=ren r (gev ts x)/\aL D (gev ts x) :=
 ev h hx hk bC λk jR hd=>hD k (by unfold dom rst at *;simp [jR,hd])

theorem gR {v:Value} {rs:List Nat} (h:∀ r D a W,Ix o r D ts a->Sat r D (rst hp rs) W->(∀ k,k<100->D k->r k=k)->(∀ k,dom (rst hp rs) k->D k) ->
  (execOp a.eval o).run P W=.ok (.value (ren r v)) W/\aL D v):OpD P o ts (rst hp (val v rs).rs) (val v rs):=by
 intro r D a W hR hS _ bC hD _;obtain ⟨h1,h2⟩:=h r D a W hR hS bC hD;unfold tG;rw [h1];exact ⟨rfl,r,λ_ _=>rfl,rfl,by simp only [val,wo];exact h2,Turn.of_below (mG _ _)⟩

theorem NO {x:Operand} (ho:o.op=.move x\/o.op=.assign x) (hx:okX ts hp x):OpD P o ts (rst hp (val (gev ts x) []).rs) (val (gev ts x) []) :=
 gR λr D a W hR _ bC hD=>by
  have:=evR hR (x:=x) (by rcases ho with h|h<;>simp [h,Op.operands]) hx bC hD;refine ⟨?_,this.2⟩;rcases ho with h|h<;>simp [execOp,h,this.1]

theorem ZB {c x y:Operand} {b:Bool} (ho:o.op=.pick c x y) (hc:okX ts hp c) (hb:gev ts c=.bool b) (hx:b=true->okX ts hp x) (hy:b=false->okX ts hp y) :
  OpD P o ts (rst hp (val (if b then gev ts x else gev ts y) []).rs) (val (if b then gev ts x else gev ts y) []) :=
 gR λr D a W hR _ bC hD=>by
  have h1:=evR hR (x:=c) bE hc bC hD;rw [hb] at h1;have Sg:a.eval c=.bool b:=h1.1
  cases b with
  | true =>
   have:=evR hR (x:=x) bE (hx rfl) bC hD;exact ⟨by simp [execOp,ho,Sg,asBool,this.1],this.2⟩
  | false =>
   have:=evR hR (x:=y) bE (hy rfl) bC hD;exact ⟨by simp [execOp,ho,Sg,asBool,this.1],this.2⟩

theorem Az {b:Blk} {v:Value} (zC:aL (λk=>k=nk) v) (h:∀ r D a W,Ix o r D ts a->Sat r D (rst hp []) W->(∀ k,k<100->D k->r k=k)->(∀ k,dom (rst hp []) k->D k) ->
  (execOp a.eval o).run P W=.ok (.value (ren (λ_=>W.heap.size) v)) (W.alloc (b.obj r))/\b.ids D) :
  OpD P o ts (rst hp (Eff.mk v [] [] [(nk,b)] none false).rs) ⟨v,[],[],[(nk,b)],none,false⟩:=by
 intro r D a W hR hS _ bC hD hns;obtain ⟨h1,h2⟩:=h r D a W hR hS bC hD;have rY:¬D nk:=(hns (nk,b) zS).1;have hr:∀ k,D k->upd r nk W.heap.size k=r k:=λk hk=>ao _ _ (λe=>rY (e▸hk));unfold tG;rw [h1];refine ⟨rfl,upd r nk W.heap.size,hr,(jQ (D:=λk=>k=nk) (λk hk=>by subst hk;exact (cY _ _ _).symm) zC),jd (λk hk=>.inr (by simp [ak,hk])) zC,?_⟩;refine ⟨rfl,rfl,rfl,zS,λk hk _=>rG _ _ _ hk,λp hp1=>?_,λp hp1=>?_,λp hp1 q om _=>?_⟩
 ·simp only [bq,br] at hp1;subst hp1;refine ⟨?_,Blk.ids_mono (λk hk=>.inl hk) h2⟩;simp only [cY];rw [Blk.obj_congr hr h2];exact mU W _
 ·simp only [br] at hp1;subst hp1;simp [cY]
 ·simp only [br] at hp1 om;rw [hp1,om]

theorem U2 {b:Blk} (h:∀ r D a W,Ix o r D ts a->Sat r D (rst hp []) W->(∀ k,k<100->D k->r k=k)->(∀ k,dom (rst hp []) k->D k) ->
  (execOp a.eval o).run P W=.ok (.value (.pointer (some ⟨W.heap.size,0,none⟩))) (W.alloc (b.obj r))/\b.ids D) :
  OpD P o ts (rst hp (Eff.mk (tO nk) [] [] [(nk,b)] none false).rs) ⟨tO nk,[],[],[(nk,b)],none,false⟩ :=
 Az (by simp [tO,aL,cQ,aI,aP]) λr D a W hR hS hl hD=>by
  have:=h r D a W hR hS hl hD;exact ⟨by rw [this.1];simp [tO,ren,aW,aw,aF],this.2⟩

theorem J0 {T:TypeId} {v:Value} (W:World):(newVar T v).run P W=.ok ⟨W.heap.size,0,none⟩ (W.alloc (.cells v.cells T)):=by
 simp [newVar,newRow,newObj,Sem.run]

theorem WI {T:TypeId} {z:Value} (ho:o.op=.alloc T) (hz:dm P T=some z) (hc:cI z=true) (hf:bp z=true) :
  OpD P o ts (rst hp (Eff.mk (tO nk) [] [] [(nk,⟨z.cells,T⟩)] none false).rs) ⟨tO nk,[],[],[(nk,⟨z.cells,T⟩)],none,false⟩ :=
 U2 λr D a W _ _ _ _=>by
  have h1:z.cells.map (aw r)=z.cells:=by rw [<-tJ (jg hc),bS hf]
  refine ⟨?_,?_⟩
  ·simp [execOp,ho,Instr.alloc,tC hz,J0,Blk.obj,h1]
  ·exact tI (jg hc) (bw hf)

theorem aeV {T:TypeId} {x:Operand} (ho:o.op=.box T x) (hx:okX ts hp x) (hc:cI (gev ts x)=true) :
  OpD P o ts (rst hp (Eff.mk (tO nk) [] [] [(nk,⟨(gev ts x).cells,T⟩)] none false).rs) ⟨tO nk,[],[],[(nk,⟨(gev ts x).cells,T⟩)],none,false⟩ :=
 U2 λr D a W hR _ bC hD=>by
  have h1:=evR hR (x:=x) bE hx bC hD;refine ⟨?_,tI (jg hc) h1.2⟩;simp [execOp,ho,Instr.box,J0,h1.1,tJ (jg hc),Blk.obj]

theorem ahE {k:Nat} {rs:List Nat} (h:k∈rs):rst hp rs k=hp k:=by simp [rst,h]

theorem ZA {T:TypeId} {x:Operand} {k off:Nat} {b:Blk} {v:Value} (ho:o.op=.load T x) (hx:okX ts hp x) (hg:gev ts x=.pointer (some ⟨k,off,none⟩)) (hb:hp k=some b) (hv:fB P T b off=some v) :
  OpD P o ts (rst hp (val v [k]).rs) (val v [k]) :=
 gR λr D a W hR hS bC hD=>by
  have h1:=evR hR (x:=x) bE hx bC hD;rw [hg] at h1;have h2:=hS k b sE;have h3:a.eval x=.pointer (some ⟨r k,off,none⟩):=h1.1;refine ⟨?_,XL hv h2.2⟩;simp [execOp,ho,Instr.loadAt,Instr.sureAddr,h3,zY hv h2.1]

theorem gO (W:World) (k:Nat) (ob:Obj):(W.putObj k ob).heap.size=W.heap.size:=by simp [World.putObj]

theorem WR {T:TypeId} {x y:Operand} {k off:Nat} {b:Blk} (ho:o.op=.store T x y) (hx:okX ts hp x) (hy:okX ts hp y) (hg:gev ts x=.pointer (some ⟨k,off,none⟩)) (hb:hp k=some b) (c8:b.T.own=true)
  (hc:cI (gev ts y)=true) (hs:bo P T=some (gev ts y).cells.size) (hle:off+(gev ts y).cells.size<=b.c.size) :
  OpD P o ts (rst hp (Eff.mk undef [k] [(k,⟨gv b.c off (gev ts y).cells.toList,b.T⟩)] [] none false).rs) ⟨undef,[k],[(k,⟨gv b.c off (gev ts y).cells.toList,b.T⟩)],[],none,false⟩:=by
 intro r D a W hR hS _ bC hD _;have h1:=evR hR (x:=x) bE hx bC hD;have Sg:=evR hR (x:=y) bE hy bC hD;rw [hg] at h1;have h2:=hS k b sE;have h3:a.eval x=.pointer (some ⟨r k,off,none⟩):=h1.1;obtain ⟨bc,bt⟩:=b
 cases bt with
 | raw _ _=>cases c8
 | mp=>cases c8
 | ty bt =>
 have gU:=Ci (P:=P) (r:=r) (T:=T) hc hs hle h2.1;have dp:r k<W.heap.size:=(aO.1 h2.1).1
 have:(execOp a.eval o).run P W=.ok .skip (W.putObj (r k) (.cells ((gv bc off (gev ts y).cells.toList).map (aw r)) bt (0,0))):=by
  simp [execOp,ho,Instr.storeAt,Instr.sureAddr,h3,Sg.1,gU]
 unfold tG;rw [this];refine ⟨rfl,r,λ_ _=>rfl,(kI r).symm,mY _,?_⟩;refine ⟨rfl,rfl,rfl,by rw [gO];exact aA _,λj _ hn=>eC (λe=>hn _ (br.2 rfl) e.symm),λp hp1=>?_,zS,zS⟩;simp only [eP,br] at hp1;subst hp1;refine ⟨kV dp,?_⟩;simp only [wo];exact Uz (Q:=aI D) _ (λz hz=>tI (jg hc) Sg.2 z (by simpa using hz)) _ _ h2.2

theorem Vn {v:Value} (h:fnV v=true) (r:dR):ren r v=aw r v:=by cases v<;>first|rfl|cases h
theorem Vm {v:Value} (h:fnV v=true) {D:iH}:aL D v↔aI D v:=by cases v<;>first|exact gM|cases h
theorem agT {l:List (ByteArray×Value)} {x:Value} (h:x∈mpC l):(∃ s,x=.string s)\/∃ p∈l,x=p.2:=by
 simp only [mpC,eZ,List.mem_flatMap,aj,az,ay] at h;obtain ⟨p,hp,rfl|rfl⟩:=h
 ·exact .inl ⟨_,rfl⟩
 ·exact .inr ⟨p,hp,rfl⟩
theorem Bc {l:List (ByteArray×Value)} {D:iH}:(mpB l).ids D↔∀ p∈l,aI D p.2:=by
 constructor
 ·intro h p hp;refine h p.2 ?_;simp only [mpB,mpC,eZ,List.mem_flatMap];exact ⟨p,hp,zS⟩
 ·intro h x hx;rcases agT hx with ⟨s,rfl⟩|⟨p,hp,rfl⟩
  ·trivial
  ·exact h p hp
theorem K7 {s:ByteArray} {v:Value}:∀ {l:List (ByteArray×Value)},ix s l=some v->∃ p∈l,p.2=v
 | [],h=>fj
 | p::l,h=>by
  simp only [ix] at h;split at h
  ·cases h;exact ⟨p,zS,rfl⟩
  ·obtain ⟨q,hq,e⟩:=K7 h;exact ⟨q,aD _ hq,e⟩
theorem NN {T:TypeId} {y:Option Operand} (ho:o.op=.makeMap T y) (hy:y.isNone=true):OpD P o ts (rst hp (Eff.mk (.map (some nk)) [] [] [(nk,mpB [])] none false).rs) ⟨.map (some nk),[],[],[(nk,mpB [])],none,false⟩ :=
 Az ga λr D a W _ _ _ _=>by
  obtain rfl:y=none:=by simpa using hy
  refine ⟨?_,Bc.2 zS⟩;rw [Na];simp [execOp,ho,Instr.makeMap,newObj,Sem.run,ren,aW,aw,aF,vm]
theorem SF {T:TypeId} {m k x:Operand} {q:Nat} {s:ByteArray} {l:List (ByteArray×Value)} (ho:o.op=.insert T m k x) (hm:okX ts hp m) (hk:okX ts hp k) (hx:okX ts hp x) (hT:qT P T=true) (hf:fnV (gev ts x)=true) (hgm:gev ts m=.map (some q)) (hgk:gev ts k=.string s) (hb:hp q=some (mpB l)) (hn:ix s l=none) :
  OpD P o ts (rst hp (Eff.mk undef [q] [(q,mpB (l++[(s,gev ts x)]))] [] none false).rs) ⟨undef,[q],[(q,mpB (l++[(s,gev ts x)]))],[],none,false⟩:=by
 intro r D a W hR hS _ bC hD _;have h1:=evR hR (x:=m) bE hm bC hD;have h2:=evR hR (x:=k) bE hk bC hD;have h3:=evR hR (x:=x) bE hx bC hD;rw [hgm] at h1;rw [hgk] at h2;have hs:=hS q _ sE;have e1:a.eval m=.map (some (r q)):=h1.1;have e2:a.eval k=.string s:=h2.1;have gU:=Uo (P:=P) (T:=T) (x:=a.eval x) (v:=gev ts x) hT hs.1 hn (by rw [h3.1,Vn hf]);have dp:r q<W.heap.size:=(aO.1 hs.1).1
 have:(execOp a.eval o).run P W=.ok .skip (W.putObj (r q) ((mpB (l++[(s,gev ts x)])).obj r)):=by
  simp [execOp,ho,e1,e2,gU]
 unfold tG;rw [this];refine ⟨rfl,r,λ_ _=>rfl,(kI r).symm,mY _,?_⟩;refine ⟨rfl,rfl,rfl,by rw [gO];exact aA _,λj _ hn=>eC (λe=>hn _ (br.2 rfl) e.symm),λp hp1=>?_,zS,zS⟩;simp only [eP,br] at hp1;subst hp1;refine ⟨kV dp,?_⟩;simp only [wo];refine Bc.2 λp hp2=>?_;rcases bh.1 hp2 with hp2|hp2
 ·exact Bc.1 hs.2 p hp2
 ·simp only [br] at hp2;subst hp2;exact (Vm hf).1 h3.2
theorem SG {T:TypeId} {m k:Operand} {q:Nat} {s:ByteArray} {l:List (ByteArray×Value)} {v:Value} (ho:o.op=.lookup T m k false) (hm:okX ts hp m) (hk:okX ts hp k) (hT:qT P T=true) (hgm:gev ts m=.map (some q)) (hgk:gev ts k=.string s) (hb:hp q=some (mpB l)) (hn:ix s l=some v) (hf:fnV v=true) :
  OpD P o ts (rst hp (val v [q]).rs) (val v [q]) :=
 gR λr D a W hR hS bC hD=>by
  have h1:=evR hR (x:=m) bE hm bC hD;have h2:=evR hR (x:=k) bE hk bC hD;rw [hgm] at h1;rw [hgk] at h2;have hs:=hS q _ sE;have e1:a.eval m=.map (some (r q)):=h1.1;have e2:a.eval k=.string s:=h2.1;have gU:=Up (P:=P) (T:=T) hT hs.1 hn;refine ⟨by simp [execOp,ho,e1,e2,gU,Vn hf],?_⟩;obtain ⟨p,hp,rfl⟩:=K7 hn;exact (Vm hf).2 (Bc.1 hs.2 p hp)
theorem NM {x:Operand} {i:Nat} {vs:ca} {v:Value} (ho:o.op=.extract x i) (hx:okX ts hp x) (hg:gev ts x=.tuple vs) (hv:vs[i]? = some v) (hn:kz v=true) :
  OpD P o ts (rst hp (val v []).rs) (val v []) :=
 gR λr D a W hR _ bC hD=>by
  have h1:=evR hR (x:=x) bE hx bC hD;rw [hg] at h1;have h3:a.eval x=.tuple (vs.map (aW r)):=h1.1;have h4:ren r v=aW r v:=by cases v<;>simp_all [kz,ren]
  refine ⟨by simp [execOp,ho,Instr.extract,h3,hv,h4],?_⟩;have:=h1.2 v (kW hv);cases v<;>simp_all [kz,aL]

theorem vy (k off m:Nat):(⟨k,off,none⟩:Addr).add m=⟨k,off+m,none⟩:=Addr.add_mid k off m

theorem SD {T e:TypeId} {x i:Operand} {kd:IntKind} {m:Int} {len k off s:Nat} (ho:o.op=.indexAddr T x i) (hx:okX ts hp x) (hi:okX ts hp i) (Oz:gev ts i=.int kd m)
  (hu:P.underlying T=some (.array len e)) (hg:gev ts x=.pointer (some ⟨k,off,none⟩)) (h0:0<=m) (hl:m<len) (hs:bo P e=some s) :
  OpD P o ts (rst hp (val (.pointer (some ⟨k,off+m.toNat*s,none⟩)) []).rs) (val (.pointer (some ⟨k,off+m.toNat*s,none⟩)) []) :=
 gR λr D a W hR _ bC hD=>by
  have h1:=evR hR (x:=x) bE hx bC hD;have h2:=evR hR (x:=i) bE hi bC hD;rw [hg] at h1;rw [Oz] at h2;have h3:a.eval x=.pointer (some ⟨r k,off,none⟩):=h1.1;have h4:a.eval i=.int kd m:=h2.1;refine ⟨?_,h1.2⟩;have QH:D k:=nK;simp [execOp,ho,Instr.indexAt,h3,h4,asIntOf,run_underlying hu,Instr.sureAddr,h0,hl,fW hs,vy,ren,aW,aw,aF]

theorem SE {T e:TypeId} {x i:Operand} {kd:IntKind} {m:Int} {len cap k off s:Nat} (ho:o.op=.indexAddr T x i) (hx:okX ts hp x) (hi:okX ts hp i) (Oz:gev ts i=.int kd m)
  (hu:P.underlying T=some (.slice e)) (hg:gev ts x=.slice (some ⟨k,off,none⟩) len cap) (h0:0<=m) (hl:m<len) (hs:bo P e=some s) :
  OpD P o ts (rst hp (val (.pointer (some ⟨k,off+m.toNat*s,none⟩)) []).rs) (val (.pointer (some ⟨k,off+m.toNat*s,none⟩)) []) :=
 gR λr D a W hR _ bC hD=>by
  have h1:=evR hR (x:=x) bE hx bC hD;have h2:=evR hR (x:=i) bE hi bC hD;rw [hg] at h1;rw [Oz] at h2;have h3:a.eval x=.slice (some ⟨r k,off,none⟩) len cap:=h1.1;have h4:a.eval i=.int kd m:=h2.1;refine ⟨?_,nK⟩;simp [execOp,ho,Instr.indexAt,h3,h4,asIntOf,run_underlying hu,h0,hl,fW hs,vy,ren,aW,aw,aF]

theorem Me {fn:Fn} {first cap:Array Operand} (ho:o.op=.makeFunc fn first cap) (h1:∀ x∈first.toList,okX ts hp x/\eh (gev ts x)=true) (h2:∀ x∈cap.toList,okX ts hp x/\eh (gev ts x)=true) :
  OpD P o ts (rst hp (val (.func fn (first.map (gev ts)) (cap.map (gev ts))) []).rs) (val (.func fn (first.map (gev ts)) (cap.map (gev ts))) []) :=
 gR λr D a W hR _ bC hD=>by
  have e1:∀ x∈first,a.eval x=aF r (gev ts x)/\aP D (gev ts x):=λx hx=>by
   have h:=h1 x cG;exact Eg
  have e2:∀ x∈cap,a.eval x=aF r (gev ts x)/\aP D (gev ts x):=λx hx=>by
   have h:=h2 x cG;exact Eg
  refine ⟨?_,?_⟩
  ·simp only [execOp,ho,Instr.makeFunc,ren,aW,aw,gD];rw [bY (g:=aF r∘gev ts) (λx hx=>(e1 x hx).1),bY (g:=aF r∘gev ts) (λx hx=>(e2 x hx).1)]
   rfl
  ·refine ⟨λv hv=>?_,λv hv=>?_⟩
   ·obtain ⟨x,hx,rfl⟩:=eQ.1 hv;exact (e1 x hx).2
   ·obtain ⟨x,hx,rfl⟩:=eQ.1 hv;exact (e2 x hx).2

theorem ZC {v:Value} (hs:∀ cs b,o.op≠.select cs b) (h1:∀ x∈o.op.operands.toList,okX ts hp x/\bp (gev ts x)=true) (hv:bp v=true) (hr:∀ W,(execOp (gev ts) o).run P W=.ok (.value v) W) :
  OpD P o ts (rst hp (val v []).rs) (val v []) :=
 gR λr D a W hR _ bC hD=>by
  refine ⟨?_,bw hv⟩;rw [bS hv,<-hr W];congr 1;refine execOp_congr o hs λx hx=>?_;have h:=h1 x cG;rw [(evR hR hx h.1 bC hD).1,bS h.2]

theorem Zy {c:Call} {f:Operand} {g:FuncId} {first cap:ca} {v:Value} (eg:c7 G) (hG:∀ k,k<100->hp k=G k) (ho:o.op=.call c) (hc:c.callee=.value f) (hf:okX ts hp f) (Kr:gev ts f=.func (.func g) first cap)
  (BB:first.size=0) (hca:cap.size=0) (ha:∀ x∈c.args.toList,okX ts hp x) (hr:Ret P G g (c.args.map (gev ts)) v\/aeX P g (c.args.map (gev ts)) v):OpD P o ts (rst hp (val v []).rs) (val v []):=by
 intro r D a W hR hS _ bC hD _;have AM:∀ x∈c.args.map (gev ts),bp x=true:=hr.elim (λh=>h.2.1) (λh=>h.2.1);obtain rfl:first=#[]:=xz
 obtain rfl:cap=#[]:=by cases cap;simpa using hca
 have h1:=evR hR (x:=f) so hf bC hD;rw [Kr] at h1;have h3:a.eval f=.func (.func g) #[] #[]:=sG
 have n5:c.args.map a.eval=c.args.map (gev ts):=bY λx hx=>by
  rw [(evR hR (x:=x) sQ (ha x cG) bC hD).1];exact bS (AM _ (eQ.2 ⟨x,hx,rfl⟩))
 rcases hr with hr|⟨hv,_,hen⟩
 rotate_left
 ·have gU:(execOp a.eval o).run P W=.ok (.value v) W:=by
   exact yA
  unfold tG;rw [gU];exact ⟨rfl,r,λ_ _=>rfl,(bS hv).symm,bw hv,Turn.of_below (mG _ _)⟩
 obtain ⟨hv,_,hen,gC⟩:=hr
 have gU:(execOp a.eval o).run P W=.ok (.enter g (c.args.map (gev ts))) W:=by
  exact yA
 have kE:GOK G W:=λk b hk=>by
  obtain ⟨dp,AM⟩:=eg k b hk;have hb:rst hp [] k=some b:=by simp [rst,dp,hG k dp,hk]
  have h2:=hS k b hb;have hDk:D k:=hD k (by unfold dom;show rst hp [] k≠none;rw [hb];simp);exact GH
 unfold tG;rw [gU];refine (gC W kE).mono λe gS ⟨he,hb⟩=>?_;subst he;exact Eb

theorem Tk {r:dR} {D:iH} {W:World} {rs:List Nat} (eg:c7 G) (hG:∀ k,k<100->hp k=G k) (hS:Sat r D (rst hp rs) W) (bC:∀ k,k<100->D k->r k=k) (hD:∀ k,dom (rst hp rs) k->D k):GOK G W:=λk b hk=>by
 obtain ⟨dp,AM⟩:=eg k b hk;have hb:rst hp rs k=some b:=by simp [rst,dp,hG k dp,hk]
 have h2:=hS k b hb;have hDk:D k:=hD k iv;exact GH

theorem Ie {x:Operand} (h:okT ts x):okX ts hp x:=by cases x<;>first|exact h|exact h.elim

theorem aeW {c:Call} {f:Operand} {g:FuncId} {first cap:ca} {rs:List Nat} {res:Res} (eg:c7 G) (hG:∀ k,k<100->hp k=G k) (ho:o.op=.call c) (hc:c.callee=.value f) (hf:okT ts f) (Kr:gev ts f=.func (.func g) first cap)
  (BB:first.size=0) (Zc:cap.all eh=true) (ha:∀ x∈c.args.toList,okX ts hp x) (hr:Fun P G g (c.args.map (gev ts)++cap) hp rs res):OpD P o ts (rst hp (res.eff rs).rs) (res.eff rs):=by
 have ers:(res.eff rs).rs=rs:=by cases res<;>rfl
 rw [ers];intro r D a W hR hS jk bC hD axM;obtain rfl:first=#[]:=xz
 have QH:∀ k,k<100->dom hp k->D k:=λk hk hd=>hD k (by unfold dom rst at *;simp [hk,hd]);have h1:=ev hR (x:=f) so (Ie (hp:=hp) hf) bC QH;rw [Kr] at h1;have h3:a.eval f=.func (.func g) #[] (cap.map (aF r)):=sG
 have n5:c.args.map a.eval=(c.args.map (gev ts)).map (ren r):=by
  rw [gD];exact bY λx hx=>(ev hR (x:=x) sQ (ha x cG) bC QH).1
 have gU:(execOp a.eval o).run P W=.ok (.enter g ((c.args.map (gev ts)).map (ren r)++cap.map (aF r))) W:=by
  exact Gv
 have hS':Sat r (dom (rst hp rs)) (rst hp rs) W:=λk b hk=>⟨(hS k b hk).1,hr.closed k b hk⟩
 have gC:=hr.run r W (Tk eg hG hS bC hD) hS' (λk l hk hl=>jk k l (hD k hk) (hD l hl)) (λk hk hd=>bC k hk (hD k hd));have eK:∀ x∈cap,ren r x=aF r x:=λx hx=>kA (dt.1 Zc x hx)
 have e2:(c.args.map (gev ts)).map (ren r)++cap.map (aF r)=(c.args.map (gev ts)++cap).map (ren r):=by
  rw [vP];congr 1;exact bY λx hx=>(eK x hx).symm
 unfold tG;rw [gU];dsimp only;rw [e2];refine gC.mono λe gS he=>?_
 cases res with
 | ret v ws =>
  obtain ⟨rfl,ht⟩:=he;refine ⟨rfl,r,λ_ _=>rfl,rfl,jd (λk hk=>.inl (hD k hk)) hr.fits.1,{ ht with has:=λp hp1=>⟨(ht.has p hp1).1,Blk.ids_mono (λk hk=>hk.imp (hD k) id) (ht.has p hp1).2⟩ }⟩
 | pan v =>
  obtain ⟨rfl,hb⟩:=he;exact ⟨v,rfl,rfl,hb⟩
 | new v ns =>
  have hns:∀ k∈ak ns,¬D k:=λk hk=>by
   obtain ⟨p,hp1,rfl⟩:=aC.1 hk;exact (axM p hp1).1
  obtain ⟨r1,h1,rfl,ht⟩:=he (λk hk hd=>hns k hk (hD k hd));let r2:Nat->Nat:=λk=>if k∈ak ns then r1 k else r k
  have e1:∀ k,eo (dom (rst hp rs)) ns k->r2 k=r1 k:=λk hk=>by
   by_cases h:k∈ak ns
   ·simp [r2,h]
   ·have jR:=hk.resolve_right h;simp only [r2,h,cw];exact (h1 k jR).symm
  have e2:∀ k,D k->r2 k=r k:=λk hk=>by simp only [r2,ae (λh=>hns k h hk)]
  have e3:∀ p∈ns,r2 p.1=r1 p.1:=λp hp1=>e1 _ (.inr (aC.2 ⟨p,hp1,rfl⟩));refine ⟨rfl,r2,e2,(jQ e1 hr.fits.1).symm,jd (λk hk=>hk.imp (hD k) id) hr.fits.1,ht.os,ht.tape,ht.output,ht.size,λk hk _=>ht.same k hk zS,λp hp1=>?_,λp hp1=>by rw [e3 p hp1];exact ht.fresh p hp1,λp hp1 q om h=>ht.apart p hp1 q om (by rw [<-e3 p hp1,<-e3 q om];exact h)⟩;have hp1:p∈ns:=by simpa [Res.eff] using hp1
  have hh:=ht.has p pG;rw [e3 p hp1,Blk.obj_congr e1 hh.2];exact ⟨hh.1,Blk.ids_mono (λk hk=>hk.imp (hD k) id) hh.2⟩


theorem zH (f:Value->Value) (off:Nat):∀ (l:List (Value×Nat)) (cs:ca),
  (l.map λp=>(f p.1,p.2)).foldl (λcs (p:Value×Nat)=>cs.setIfInBounds (off+p.2) p.1) (cs.map f)=(l.foldl (λcs (p:Value×Nat)=>cs.setIfInBounds (off+p.2) p.1) cs).map f
 | [],cs=>rfl
 | p::l,cs=>by
  simp only [bI,o6];rw [<-Array.map_setIfInBounds,zH f off l]
theorem zI {Q:fQ} (off:Nat):∀ (l:List (Value×Nat)) (cs:ca),(∀ p∈l,Q p.1)->(∀ x∈cs,Q x)->∀ x∈l.foldl (λcs (p:Value×Nat)=>cs.setIfInBounds (off+p.2) p.1) cs,Q x
 | [],_,_,h=>h
 | p::l,cs,hl,h=>by
  simp only [o6];refine zI off l _ (λq hq=>hl q (aD _ hq)) (λx hx=>?_);rcases CH hx with h'|h'
  ·exact h x h'
  ·exact h'▸hl p zS
theorem zo (off:Nat) (vs cs:ca):vs.zipIdx.foldl (λcs (c,j)=>cs.setIfInBounds (off+j) c) cs=vs.toList.zipIdx.foldl (λcs (p:Value×Nat)=>cs.setIfInBounds (off+p.2) p.1) cs:=by
 rw [<-re,Array.toList_zipIdx]

theorem AI {r:dR} {pl:Nat->Option (Nat×Nat)}:∀ (parts:List (Nat×Value)) (cells cs:ca),(∀ p∈parts,cI p.2=true)->Instr.fill pl cells parts=some cs ->
  Instr.fill pl (cells.map (aw r)) (parts.map λp=>(p.1,ren r p.2))=some (cs.map (aw r))
 | [],cells,cs,_,h=>by simp only [Instr.fill,bf] at h;subst h;rfl
 | (i,v)::rest,cells,cs,hp,h=>by
  simp only [Instr.fill,bI] at h |-
  cases uq:pl i with
  | none=>simp [uq] at h
  | some os =>
   obtain ⟨off,size⟩:=os;simp only [uq] at h |-;have hc:=tJ (r:=r) (jg (hp (i,v) zS));rw [hc];simp only [vZ];split at h
   ·cases h
   ·rename_i hn;rw [ae hn];have:=AI (r:=r) rest _ cs (λp eG=>hp p (aD _ eG)) h;rw [<-this];congr 1;rw [zo,zo,<-zH];congr 1;simp [List.zipIdx_map]

theorem AH {D:iH} {pl:Nat->Option (Nat×Nat)}:∀ (parts:List (Nat×Value)) (cells cs:ca),(∀ p∈parts,cI p.2=true/\aL D p.2)->(∀ x∈cells,aI D x)->Instr.fill pl cells parts=some cs->∀ x∈cs,aI D x
 | [],cells,cs,_,hc,h=>by simp only [Instr.fill,bf] at h;subst h;exact hc
 | (i,v)::rest,cells,cs,hp,hc,h=>by
  simp only [Instr.fill] at h
  cases uq:pl i with
  | none=>simp [uq] at h
  | some os =>
   obtain ⟨off,size⟩:=os;simp only [uq] at h;split at h
   ·cases h
   ·refine AH rest _ cs (λp eG=>hp p (aD _ eG)) ?_ h;rw [zo];have h0:=hp (i,v) zS;refine zI off _ _ (λq hq=>?_) hc
    have:q.1∈v.cells.toList:=by
     have:=List.mem_zipIdx' (x:=q.1) (i:=q.2) lM;rw [this.2];exact mE _
    exact tI (jg h0.1) h0.2 _ (by simpa using this)

theorem W4 {r:dR} {T:TypeId} {parts:List (Nat×Value)} {cs:ca} {z:Value} (hz:dm P T=some z) (QA:cI z=true) (vr:bp z=true) (hp:∀ p∈parts,cI p.2=true)
  (h:P.built T parts=some cs):P.built T (parts.map λp=>(p.1,ren r p.2))=some (cs.map (aw r)):=by
 have hzm:z.cells.map (aw r)=z.cells:=by rw [<-tJ (jg QA),bS vr]
 unfold Program.built at h |-;unfold dm at hz
 cases hi:P.info? T with
 | none=>simp [hi] at hz
 | some it =>
  simp [hi] at hz;simp only [hi] at h |-
  cases hu:P.underlying T with
  | none=>simp [hu] at h
  | some dd =>
   cases dd<;>try (simp [hu] at h;done)
   case array n e =>
    simp only [hu,hz] at h |-
    cases QV:P.info? e with
    | none=>simp [QV] at h
    | some ie =>
     simp only [QV] at h |-;rw [<-hzm];exact AI _ _ _ hp h
   case struct fs =>
    simp only [hu,hz] at h |-
    cases hm:fs.toList.mapM (λf=>(P.info? f.type).map λi=>(f.offset,i.size)) with
    | none=>simp [hm] at h
    | some pl =>
     simp only [hm] at h |-;rw [<-hzm];exact AI _ _ _ hp h

theorem W3 {D:iH} {T:TypeId} {parts:List (Nat×Value)} {cs:ca} {z:Value} (hz:dm P T=some z) (QA:cI z=true) (vr:bp z=true) (hp:∀ p∈parts,cI p.2=true/\aL D p.2)
  (h:P.built T parts=some cs):∀ x∈cs,aI D x:=by
 have Q8:∀ x∈z.cells,aI D x:=tI (jg QA) (bw vr);unfold Program.built at h;unfold dm at hz
 cases hi:P.info? T with
 | none=>simp [hi] at hz
 | some it =>
  simp [hi] at hz;simp only [hi] at h
  cases hu:P.underlying T with
  | none=>simp [hu] at h
  | some dd =>
   cases dd<;>try (simp [hu] at h;done)
   case array n e =>
    simp only [hu,hz] at h
    cases QV:P.info? e with
    | none=>simp [QV] at h
    | some ie =>
     simp only [QV] at h;exact AH _ _ _ hp Q8 h
   case struct fs =>
    simp only [hu,hz] at h
    cases hm:fs.toList.mapM (λf=>(P.info? f.type).map λi=>(f.offset,i.size)) with
    | none=>simp [hm] at h
    | some pl =>
     simp only [hm] at h;exact AH _ _ _ hp Q8 h

theorem WJ {T:TypeId} {parts:Array (Nat×Operand)} {z:Value} {cs:ca} (ho:o.op=.build T parts) (h1:∀ p∈parts.toList,okX ts hp p.2/\cI (gev ts p.2)=true)
  (hz:dm P T=some z) (QA:cI z=true) (vr:bp z=true) (AK:P.built T (mc ts parts)=some cs):OpD P o ts (rst hp (val (.agg cs) []).rs) (val (.agg cs) []) :=
 gR λr D a W hR _ bC hD=>by
  have e1:∀ p∈parts.toList,a.eval p.2=ren r (gev ts p.2)/\aL D (gev ts p.2):=λp hp1 =>
   evR hR (x:=p.2) (by
    simp only [ho,Op.operands];simp only [eZ,aK];exact ⟨p,hp1,rfl⟩) (h1 p hp1).1 bC hD
  have e2:(parts.map λ(i,x)=>(i,a.eval x)).toList=(mc ts parts).map λp=>(p.1,ren r p.2):=by
   exact Es
  have h3:=W4 (r:=r) hz QA vr (λp hp1=>by
   simp only [mc,aK] at hp1;obtain ⟨q,hq,rfl⟩:=hp1;exact (h1 q hq).2) AK
  rw [<-e2] at h3;refine ⟨?_,W3 (D:=D) hz QA vr (λp hp1=>?_) AK⟩
  ·simp only [execOp,ho,aX,run_build W T _ _ h3,bJ,cK,ren,aW]
  ·simp only [mc,aK] at hp1;obtain ⟨q,hq,rfl⟩:=hp1;exact ⟨(h1 q hq).2,(e1 q hq).2⟩

theorem Bo (off:Nat):∀ (l:List Value) (j:Nat) (cs:ca),(l.zipIdx j).foldl (λcs (p:Value×Nat)=>cs.setIfInBounds (off+p.2) p.1) cs=gv cs (off+j) l
 | [],_,_=>rfl
 | v::l,j,cs=>by
  simp only [List.zipIdx_cons,o6,gv];rw [Bo off l (j+1)]
  rfl
theorem BT {pl:List (Nat×Nat) ⊕ Nat}:∀ (parts:List (Nat×Value)) (cells cs:ca),pd pl cells parts=some cs->Instr.fill (Ni pl) cells parts=some cs
 | [],_,_,h=>h
 | (i,v)::rest,cells,cs,h=>by
  simp only [pd] at h;simp only [Instr.fill]
  cases uq:Ni pl i with
  | none=>simp [uq] at h
  | some os =>
   obtain ⟨off,size⟩:=os;simp only [uq] at h |-;split at h
   ·rename_i hc;rw [ae (by simp [hc.1];rw [<-hc.1];exact hc.2),zo];have:=Bo off v.cells.toList 0 cells;rw [this];exact BT rest _ cs h
   ·cases h
theorem IH {T:TypeId} {z:Value} {pl:List (Nat×Nat) ⊕ Nat} {parts:List (Nat×Value)} {cs:ca} (hz:dm P T=some z) (uq:dw P T=some pl) (h:pd pl z.cells parts=some cs):P.built T parts=some cs:=by
 have h:=BT _ _ _ h;unfold dm at hz;unfold dw at uq;unfold Program.built
 cases hi:P.info? T with
 | none=>simp [hi] at hz
 | some it =>
  have hz':it.zero=some z:=by simpa [hi] using hz
  cases hu:P.underlying T with
  | none=>simp [hu] at uq
  | some dd =>
   cases dd<;>try (simp [hu] at uq;done)
   case array n e =>
    simp only [hu] at uq |-;unfold bo at uq
    cases QV:P.info? e with
    | none=>simp [QV] at uq
    | some ie =>
     simp [QV] at uq;subst uq;simp only [hz'];exact h
   case struct fs =>
    simp only [hu] at uq |-
    cases hm:fs.toList.mapM (λf=>(P.info? f.type).map λi=>(f.offset,i.size)) with
    | none=>simp [hm] at uq
    | some l =>
     simp [hm] at uq;subst uq;simp only [hz'];have:(λx=>l.toArray[x]?)=Ni (.inl l):=by funext x;simp [Ni]
     rw [this];exact h

theorem WM {T:TypeId} {x:Operand} {dd:TypeDesc} (ho:o.op=.makeInterface T x) (hx:okX ts hp x) (h1:eh (gev ts x)=true) (hu:P.underlying T=some dd) (hn:∀ ms,dd≠.interface ms) :
  OpD P o ts (rst hp (val (.iface T (gev ts x)) []).rs) (val (.iface T (gev ts x)) []) :=
 gR λr D a W hR _ bC hD=>by
  have:=evR hR (x:=x) bE hx bC hD;refine ⟨?_,(ky h1).1 this.2⟩;simp only [execOp,ho,Instr.makeInterface,aX,run_underlying hu,bJ];rw [this.1,kA h1]
  cases dd<;>first
   | exact absurd rfl (hn _)
   | simp [ren,aW,aw]

theorem K5:∀ (xs ys:List Value) (r:Bool),HN xs ys=some r->(∀ x∈xs,bU x=true)/\(∀ y∈ys,bU y=true)
 | [],[],_,_=>⟨zS,zS⟩
 | .int k a::xs,.int k' b::ys,r,h=>by
  simp only [HN] at h;split at h
  ·split at h
   ·rename_i q hq;have:=K5 xs ys q hq;exact ⟨by simpa [bU,qK] using this.1,by simpa [bU,qK] using this.2⟩
   ·cases h
  ·cases h

theorem ZR {op:BinOp} {T:TypeId} {x y v:Value} (r:dR) (h:zq P op T x y=some v):zq P op T (ren r x) (ren r y)=some v:=by
 have key:∀ {xs ys:ca} {q:Bool},Mj P T xs ys=some q->bp (.agg xs)=true/\bp (.agg ys)=true:=λ{xs ys q} h=>by
  unfold Mj KW at h;split at h
  ·unfold HK at h;split at h
   ·split at h
    ·have:=K5 _ _ _ h;exact ⟨dt.2 (λx hx=>this.1 x cG),dt.2 (λx hx=>this.2 x cG)⟩
    ·cases h
   ·cases h
  ·split at h
   ·split at h
    ·rename_i hf;simp only [bn] at hf;exact hf
    ·cases h
   ·cases h
 have h0:=h;unfold zq at h;split at h
 ·exact h0
 ·exact h0
 ·split at h
  ·exact Gw
  ·exact Gw
  ·cases h
 ·rename_i p l c
  cases p with
  | none=>exact h0
  | some a=>exact h0
 ·cases h

theorem aeU {op:BinOp} {T yT:TypeId} {x y:Operand} {v:Value} (ho:o.op=.binOp op T x y yT) (hx:okX ts hp x) (hy:okX ts hp y) (hv:zq P op T (gev ts x) (gev ts y)=some v) :
  OpD P o ts (rst hp (val v []).rs) (val v []) :=
 gR λr D a W hR _ bC hD=>by
  have h1:=evR hR (x:=x) bE hx bC hD;have h2:=evR hR (x:=y) bE hy bC hD;have hs:=SN (ox:=x) (oy:=y) (ZR r hv) W;refine ⟨?_,bw hs.2⟩;rw [bS hs.2];have:=hs.1;simp only [execOp,ho,h1.1,h2.1];rw [aX,this]
  rfl

theorem adT {op:UnOp} {x v:Value} (h:un1 op x=some v):bp x=true:=by
 unfold un1 at h;split at h<;>first|rfl|cases h

theorem ajZ {op:UnOp} {T:TypeId} {x:Operand} {v:Value} (ho:o.op=.unOp op T x) (hx:okX ts hp x) (hv:un1 op (gev ts x)=some v):OpD P o ts (rst hp (val v []).rs) (val v []) :=
 gR λr D a W hR _ bC hD=>by
  have h1:=evR hR (x:=x) bE hx bC hD;have hs:=YO (P:=P) hv W;rw [bS (adT hv)] at h1;exact E4

theorem S0 {S T:TypeId} {x v:Value} (h:AD P S T x=some v):bp x=true:=by
 unfold AD at h;split at h<;>first|rfl|cases h

theorem Zz {S T:TypeId} {x:Operand} {v:Value} (ho:o.op=.convert S T x) (hx:okX ts hp x) (hv:AD P S T (gev ts x)=some v):OpD P o ts (rst hp (val v []).rs) (val v []) :=
 gR λr D a W hR _ bC hD=>by
  have h1:=evR hR (x:=x) bE hx bC hD;have hs:=N4 hv W;rw [bS (S0 hv)] at h1;exact E4

theorem Iw {T e:TypeId} {len m:Nat} {parts:Array (Nat×Operand)} {z:Value} {cs:ca} (ho:o.op=.buildSlice T len parts) (h0:∀ p∈parts.toList,okX ts hp p.2/\cI (gev ts p.2)=true)
  (hu:P.underlying T=some (.slice e)) (hm:bo P e=some m) (hz:dm P e=some z) (QA:cI z=true) (vr:bp z=true) (OL:0<len*m) (hle:len*m<=16777216)
  (AK:pd (.inr m) ((Array.range (len*m)).map (z.cells[·%z.cells.size]!)) (mc ts parts)=some cs) :
  OpD P o ts (rst hp (Eff.mk (.slice (some ⟨nk,0,none⟩) len len) [] [] [(nk,⟨cs,e⟩)] none false).rs) ⟨.slice (some ⟨nk,0,none⟩) len len,[],[],[(nk,⟨cs,e⟩)],none,false⟩ :=
 Az ga λr D a W hR _ bC hD=>by
  have e1:∀ p∈parts.toList,a.eval p.2=ren r (gev ts p.2)/\aL D (gev ts p.2):=λp hp1 =>
   evR hR (x:=p.2) (by
    simp only [ho,Op.operands];simp only [eZ,aK];exact ⟨p,hp1,rfl⟩) (h0 p hp1).1 bC hD
  have e2:(parts.map λ(i,x)=>(i,a.eval x)).toList=(mc ts parts).map λp=>(p.1,ren r p.2):=by
   exact Es
  have Q8:∀ x∈z.cells,bU x=true:=λx hx=>by
   exact ER
  have Ou:∀ x∈(Array.range (len*m)).map (z.cells[·%z.cells.size]!),bU x=true:=λx hx=>by
   exact DX
  have oL:((Array.range (len*m)).map (z.cells[·%z.cells.size]!)).map (aw r)=(Array.range (len*m)).map (z.cells[·%z.cells.size]!):=fi λx hx=>fY (Ou x hx);have hf:=BT _ _ _ AK
  have abF:∀ p∈mc ts parts,cI p.2=true/\aL D p.2:=λp hp1=>by
   simp only [mc,aK] at hp1;obtain ⟨q,hq,rfl⟩:=hp1;exact ⟨(h0 q hq).2,(e1 q hq).2⟩
  have CP:=AI (r:=r) _ _ _ (λp hp1=>(abF p hp1).1) hf;rw [oL,<-e2] at CP;refine ⟨?_,AH (D:=D) _ _ _ abF (λx hx=>jm (Ou x hx)) hf⟩;have cW:¬len*m=0:=zO;have axF:¬len*m>2^24:=zO;simp only [execOp,ho,Instr.buildSlice,aX,run_underlying hu,bJ,fW hm,cW,axF,cw,tC hz,cK];have:Ni (.inr m)=λi=>some (i*m,m):=rfl;rw [this] at CP;rw [CP];simp [newRow,newObj,Sem.run,ren,aW,aw,aF,Blk.obj]

theorem PQ {r:dR} {T:TypeId} {cs:ca} {off:Nat} {v:Value} (h:eV P T cs off=some v) (W:World):(part T (cs.map (aw r)) off).run P W=.ok (ren r v) W:=by
 unfold eV at h;unfold part
 cases ha:oe P T with
 | none=>simp [ha] at h
 | some bb =>
  rw [aX,qC ha];simp only [bJ]
  cases bb with
  | true =>
   simp only [ha] at h
   cases hs:bo P T with
   | none=>simp [hs] at h
   | some m =>
    simp only [hs] at h;split at h
    ·cases h;simp [aX,fW hs,ren,aW]
    ·simp at h
  | false =>
   simp only [ha] at h
   cases hc:cs[off]? with
   | none=>simp [hc] at h
   | some u =>
    simp only [hc] at h;split at h
    ·rename_i hsc;cases h;simp [hc,PH hsc]
    ·cases h

theorem Oe {T:TypeId} {f:Nat} {t:TypeId} {off:Nat} (h:fdX P T f=some (t,off)):∃ fs fd,P.underlying T=some (.struct fs)/\fs[f]? = some fd/\fd.type=t/\fd.offset=off/\∃ m,bo P fd.type=some (m+1):=by
 unfold fdX at h;split at h
 ·rename_i fs hu;split at h
  ·rename_i fd hf;split at h
   ·rename_i m hs;cases h;exact ⟨fs,fd,hu,hf,rfl,rfl,m,hs⟩
   ·cases h
  ·cases h
 ·cases h

theorem WN {T e:TypeId} {x i:Operand} {kd:IntKind} {m:Int} {len s:Nat} {cs:ca} {v:Value} (ho:o.op=.index T x i) (hx:okX ts hp x) (hi:okX ts hp i) (Oz:gev ts i=.int kd m)
  (hu:P.underlying T=some (.array len e)) (hg:gev ts x=.agg cs) (h0:0<=m) (hl:m<len) (hs:bo P e=some s) (hv:eV P e cs (m.toNat*s)=some v) :
  OpD P o ts (rst hp (val v []).rs) (val v []) :=
 gR λr D a W hR _ bC hD=>by
  have h1:=evR hR (x:=x) bE hx bC hD;have h2:=evR hR (x:=i) bE hi bC hD;rw [hg] at h1;rw [Oz] at h2;have h3:a.eval x=.agg (cs.map (aw r)):=h1.1;have h4:a.eval i=.int kd m:=h2.1;refine ⟨?_,B7 hv h1.2⟩;have:=PQ (r:=r) hv W;simp [execOp,ho,Instr.index,h3,h4,asIntOf,run_underlying hu,h0,hl,fW hs,this]

theorem Md {T:TypeId} {x i:Operand} {kd:IntKind} {m:Int} {s:ByteArray} {b:UInt8} (ho:o.op=.index T x i) (hx:okX ts hp x) (hi:okX ts hp i) (Oz:gev ts i=.int kd m)
  (hu:P.underlying T=some .string) (hg:gev ts x=.string s) (hb:(if 0<=m then s[m.toNat]? else none)=some b) :
  OpD P o ts (rst hp (val (.int .u8 b.toNat) []).rs) (val (.int .u8 b.toNat) []) :=
 gR λr D a W hR _ bC hD=>by
  have h1:=evR hR (x:=x) bE hx bC hD;have h2:=evR hR (x:=i) bE hi bC hD;rw [hg] at h1;rw [Oz] at h2;have h3:a.eval x=.string s:=h1.1;have h4:a.eval i=.int kd m:=h2.1;refine ⟨?_,eX⟩;simp [execOp,ho,Instr.index,h3,h4,asIntOf,run_underlying hu,hb,ren,aW,aw,aF]

theorem WL {T t:TypeId} {x:Operand} {f off:Nat} {cs:ca} {v:Value} (ho:o.op=.field T x f) (hx:okX ts hp x) (hf:fdX P T f=some (t,off)) (hg:gev ts x=.agg cs) (hv:eV P t cs off=some v) :
  OpD P o ts (rst hp (val v []).rs) (val v []) :=
 gR λr D a W hR _ bC hD=>by
  have h1:=evR hR (x:=x) bE hx bC hD;rw [hg] at h1;obtain ⟨fs,fd,hu,hfd,rfl,rfl,_⟩:=Oe hf;have h3:a.eval x=.agg (cs.map (aw r)):=h1.1;refine ⟨?_,B7 hv h1.2⟩;have:=PQ (r:=r) hv W;simp [execOp,ho,Instr.field,h3,asAgg,run_underlying hu,hfd,this]

theorem Kz {T t:TypeId} {x:Operand} {f off k oo:Nat} (ho:o.op=.fieldAddr T x f) (hx:okX ts hp x) (hf:fdX P T f=some (t,off)) (hg:gev ts x=.pointer (some ⟨k,oo,none⟩)) :
  OpD P o ts (rst hp (val (.pointer (some ⟨k,oo+off,none⟩)) []).rs) (val (.pointer (some ⟨k,oo+off,none⟩)) []) :=
 gR λr D a W hR _ bC hD=>by
  have h1:=evR hR (x:=x) bE hx bC hD;rw [hg] at h1;obtain ⟨fs,fd,hu,hfd,rfl,rfl,m,hs⟩:=Oe hf;have h3:a.eval x=.pointer (some ⟨r k,oo,none⟩):=h1.1;refine ⟨?_,nK⟩;simp [execOp,ho,Instr.fieldAt,h3,Instr.sureAddr,run_underlying hu,hfd,fieldPlace,fW hs,vy,ren,aW,aw,aF]

theorem Mf {x:Operand} {k oo:Nat} (ho:o.op=.nilCheck x) (hx:okX ts hp x) (hg:gev ts x=.pointer (some ⟨k,oo,none⟩)) :
  OpD P o ts (rst hp (val (.pointer (some ⟨k,oo,none⟩)) []).rs) (val (.pointer (some ⟨k,oo,none⟩)) []) :=
 gR λr D a W hR _ bC hD=>by
  have h1:=evR hR (x:=x) bE hx bC hD;rw [hg] at h1;have h3:a.eval x=.pointer (some ⟨r k,oo,none⟩):=h1.1;refine ⟨?_,h1.2⟩;simp [execOp,ho,h3,ren,aW,aw,aF]

theorem UU (l:Int) (h0:0<l) (h1:l<=4096):IntKind.i64.wrap l=l:=by
 simp only [IntKind.wrap,IntKind.bits,IntKind.signed];simp;omega
theorem KA {T e:TypeId} {m b:Nat} {l:Int} {x y:Operand} {z:Value} (ho:o.op=.makeSlice T x y) (h0:okX ts hp x) (h1:okX ts hp y) (hx:gev ts x=.int .i64 l) (hy:gev ts y=.int .i64 l)
  (hu:P.underlying T=some (.slice e)) (hm:bo P e=some m) (hz:dm P e=some z) (hb:KR P e=some b) (QA:cI z=true) (vr:bp z=true) (hl0:0<l) (BC:l<=4096) (lY:b<=4096) (OL:0<m) :
  OpD P o ts (rst hp (Eff.mk (.slice (some ⟨nk,0,none⟩) l.toNat l.toNat) [] [] [(nk,⟨(Array.range (l.toNat*m)).map (z.cells[·%z.cells.size]!),e⟩)] none false).rs) ⟨.slice (some ⟨nk,0,none⟩) l.toNat l.toNat,[],[],[(nk,⟨(Array.range (l.toNat*m)).map (z.cells[·%z.cells.size]!),e⟩)],none,false⟩ :=
 Az ga λr D a W hR _ bC hD=>by
  have e1:=evR hR (x:=x) bE h0 bC hD;have e2:=evR hR (x:=y) bE h1 bC hD;rw [hx] at e1;rw [hy] at e2;have e1:a.eval x=.int .i64 l:=e1.1;have e2:a.eval y=.int .i64 l:=e2.1
  have Q8:∀ x∈z.cells,bU x=true:=λx hx=>by
   exact ER
  have Ou:∀ x∈(Array.range (l.toNat*m)).map (z.cells[·%z.cells.size]!),bU x=true:=λx hx=>by
   exact DX
  have oL:((Array.range (l.toNat*m)).map (z.cells[·%z.cells.size]!)).map (aw r)=(Array.range (l.toNat*m)).map (z.cells[·%z.cells.size]!):=fi λx hx=>fY (Ou x hx);refine ⟨?_,λx hx=>jm (Ou x hx)⟩;have hw:IntKind.i64.wrap l=l:=UU l hl0 BC
  have hbl:(b:Int)*l<=16777216:=by
   have:=cU (a:=(b:Int)) (b:=l) (c:=4096) (d:=4096) zO BC zO zO;omega
  have hbn:l.toNat*b<=16777216:=by
   have:=jZ (zO:l.toNat<=4096) lY;omega
  have t1:(decide (l<0)||decide ((b:Int)*l>2^48))=false:=by
   rw [lr];exact ⟨aR zO,aR zO⟩
  have t2:¬l.toNat*b>roomBytes:=by unfold roomBytes;omega
  have t3:¬l.toNat*m=0:=by
   have:=Nat.mul_pos (zO:0<l.toNat) OL;omega
  unfold KR at hb
  cases hi:P.info? e with
  | none=>rw [hi] at hb;cases hb
  | some i =>
   rw [hi] at hb;simp only [g5,bf] at hb;subst hb;have hty:∀ W,(typeInfo e).run P W=.ok i W:=λW=>by simp [typeInfo,hi]
   simp only [execOp,ho,Instr.makeSlice,e1,e2,asInt,asIntOf,aX,run_underlying hu,bJ,fW hm,hty,cK,hw,t1];have t5:(decide (l<0))=false:=aR zO;have t6:(decide (l>l))=false:=aR zO;simp [askRoom,t2,t3,t5,t6,fW hm,tC hz,newRow,newObj,Sem.run,ren,aW,aw,aF,Blk.obj,oL]
theorem zk {y:Nat} {k:IntKind} {m:Int} {c:BoundsCode} (h:0<=m/\m<=y) (W:World):(Instr.sliceBound (.int k m) y c).run P W=.ok m.toNat W:=by
 simp [Instr.sliceBound,asIntOf,h]
theorem mv {b:Bool} {len cap l h:Nat} {lo hi:Option Value} (hs:mf len cap lo hi=some (l,h)) (W:World):(Instr.sliceBounds b len cap lo hi none).run P W=.ok (l,h,cap) W:=by
 unfold mf at hs
 cases hh:hiG len cap hi with
 | none=>rw [hh] at hs;cases hs
 | some h' =>
  rw [hh] at hs;simp only [o7] at hs;obtain ⟨l',hl,e⟩:=hs;cases e;unfold Instr.sliceBounds
  cases hi with
  | none =>
   simp only [hiG,bf] at hh;subst hh
   cases lo with
   | none=>simp only [loG,bf] at hl;subst hl;simp
   | some v =>
    cases v<;>simp only [loG] at hl<;>first|(cases hl;done)|skip
    split at hl
    ·rename_i hc;cases hl;simp [zk hc]
    ·cases hl
  | some u =>
   cases u<;>simp only [hiG] at hh<;>first|(cases hh;done)|skip
   split at hh
   ·rename_i hd;cases hh
    cases lo with
    | none=>simp only [loG,bf] at hl;subst hl;simp [zk hd]
    | some v =>
     cases v<;>simp only [loG] at hl<;>first|(cases hl;done)|skip
     split at hl
     ·rename_i hc;cases hl;simp [zk hd,zk hc]
     ·cases hl
   ·cases hh

theorem Uw {len cap:Nat} {lo hi:Option Value} {p:Nat×Nat} (h:mf len cap lo hi=some p):(∀ v,lo=some v->bp v=true)/\(∀ v,hi=some v->bp v=true):=by
 unfold mf at h;split at h
 ·cases h
 ·rename_i h' hh;refine ⟨λv e=>?_,λv e=>?_⟩
  ·subst e;cases v<;>first|rfl|(simp [loG] at h)
  ·subst e;cases v<;>first|rfl|(simp [hiG] at hh)

theorem J6 {a:Option (Nat×Nat)} {s c:Nat} {p:Option (Nat×Nat)} {v:Value} (h:slV a s c p=some v):∃ l hh,p=some (l,hh)/\v=.slice (a.map λp=>⟨p.1,if c=l then p.2 else p.2+l*s,none⟩) (hh - l) (c - l):=by
 unfold slV at h;split at h
 ·rename_i l hh;cases h;exact ⟨l,hh,rfl,rfl⟩
 ·cases h

theorem WQ {T:TypeId} {x:Operand} {lo hi mx:Option Operand} {v:Value} (ho:o.op=.slice T x lo hi mx) (hx:okX ts hp x) (DV:∀ y∈lo.toList,okX ts hp y) (QU:∀ y∈hi.toList,okX ts hp y) (hmx:mx.isNone=true)
  (hv:slX P T (gev ts x) (lo.map (gev ts)) (hi.map (gev ts))=some v):OpD P o ts (rst hp (val v []).rs) (val v []) :=
 gR λr D a W hR _ bC hD=>by
  obtain rfl:mx=none:=by cases mx<;>simp_all
  have h1:=evR hR (x:=x) bE hx bC hD
  have key:∀ {n c:Nat} {p:Nat×Nat},mf n c (lo.map (gev ts)) (hi.map (gev ts))=some p->lo.map a.eval=lo.map (gev ts)/\hi.map a.eval=hi.map (gev ts):=λ{n c p} hp1=>by
   obtain ⟨f1,f2⟩:=Uw hp1;constructor
   ·cases lo with
    | none=>rfl
    | some y =>
     simp only [g5] at f1 |-;rw [(evR hR (x:=y) bE (DV y zS) bC hD).1,bS (f1 _ rfl)]
   ·cases hi with
    | none=>rfl
    | some y =>
     simp only [g5] at f2 |-;rw [(evR hR (x:=y) bE (QU y zS) bC hD).1,bS (f2 _ rfl)]
  have ifs:∀ (c l k o1 o2:Nat),(if c=l then (⟨k,o1,none⟩:Addr) else ⟨k,o2,none⟩)=⟨k,if c=l then o1 else o2,none⟩:=λc l k o1 o2=>by split<;>rfl
  unfold slX at hv;split at hv
  ·rename_i n e hu;split at hv
   ·rename_i k off hg;split at hv
    ·rename_i s hs;obtain ⟨l,hh,hp1,rfl⟩:=J6 hv;obtain ⟨q1,q2⟩:=key hp1;rw [hg] at h1;have h3:a.eval x=.pointer (some ⟨r k,off,none⟩):=h1.1;refine ⟨?_,nK⟩;have e1:=mv (P:=P) (b:=false) hp1 W;simp only [execOp,ho,rQ,q1,q2,h3,Instr.sliceAt,aX,run_underlying hu,bJ,Instr.sureAddr,cK,e1,fW hs,vy];simp [ren,aW,aw,aF,ifs]
    ·cases hv
   ·cases hv
  ·rename_i e hu;split at hv
   ·rename_i k off n c hg;split at hv
    ·rename_i s hs;obtain ⟨l,hh,hp1,rfl⟩:=J6 hv;obtain ⟨q1,q2⟩:=key hp1;rw [hg] at h1;have h3:a.eval x=.slice (some ⟨r k,off,none⟩) n c:=h1.1;refine ⟨?_,nK⟩;have e1:=mv (P:=P) (b:=true) hp1 W;simp only [execOp,ho,rQ,q1,q2,h3,Instr.sliceAt,Instr.slice,aX,run_underlying hu,bJ,cK,e1,fW hs];simp [ren,aW,aw,aF,vy];split<;>rfl
    ·cases hv
   ·rename_i n c hg;split at hv
    ·rename_i s hs;obtain ⟨l,hh,hp1,rfl⟩:=J6 hv;obtain ⟨q1,q2⟩:=key hp1;rw [hg] at h1;have h3:a.eval x=.slice none n c:=h1.1;refine ⟨?_,by trivial⟩;have e1:=mv (P:=P) (b:=true) hp1 W;simp only [execOp,ho,rQ,q1,q2,h3,Instr.sliceAt,Instr.slice,aX,run_underlying hu,bJ,cK,e1,fW hs];simp [ren,aW,aw,aF]
    ·cases hv
   ·cases hv
  ·rename_i hu;split at hv
   ·rename_i s hg;unfold slS at hv;split at hv
    ·rename_i l hh hp1;cases hv;obtain ⟨q1,q2⟩:=key hp1;rw [hg] at h1;have h3:a.eval x=.string s:=h1.1;refine ⟨?_,by trivial⟩;have e1:=mv (P:=P) (b:=false) hp1 W;simp only [execOp,ho,rQ,q1,q2,h3,Instr.sliceAt,Instr.slice,aX,run_underlying hu,bJ,cK];simp [aX,e1,ren,aW,aw,aF]
    ·cases hv
   ·cases hv
  ·cases hv

theorem aeT {T:TypeId} {x:Operand} {v:Value} (ho:o.op=.sliceToArrayPointer T x) (hx:okX ts hp x) (hv:WZ P T (gev ts x)=some v):OpD P o ts (rst hp (val v []).rs) (val v []) :=
 gR λr D a W hR _ bC hD=>by
  have h1:=evR hR (x:=x) bE hx bC hD;unfold WZ at hv;split at hv
  ·rename_i n e hu;split at hv
   ·rename_i ad len c hg;split at hv
    ·rename_i hle;cases hv;rw [hg] at h1;have hn:¬len<n:=zO
     cases ad with
     | none =>
      have h3:a.eval x=.slice none len c:=h1.1;exact ⟨C9,by trivial⟩
     | some ad =>
      have h3:a.eval x=.slice (some { ad with block:=r ad.block }) len c:=h1.1;exact ⟨C9,nK⟩
    ·cases hv
   ·cases hv
  ·cases hv

theorem ab9 {r:dR} {T t:TypeId} {u v:Value} (h:XI P T u=some v) (W:World):(Builtin.len_ #[T] t #[ren r u]).run P W=.ok v W/\bp v=true:=by
 unfold XI at h;split at h
 ·rename_i hu;split at h
  ·cases h;exact ⟨Dt,rfl⟩
  ·cases h
 ·rename_i n e hu;cases h;exact ⟨by simp [Builtin.len_,run_underlying hu,goInt],rfl⟩
 ·rename_i e hu;split at h
  ·rename_i ad n c;cases h;cases ad<;>exact ⟨Dt,rfl⟩
  ·cases h
 ·cases h
theorem Lq {b:Bool}:∀ {l:List Value} {x v:Value},An b x l=some v->bp x=true/\(∀ x∈l,bp x=true)/\bp v=true
 | [],x,v,h=>by
  cases x<;>simp only [An,amy] at h<;>first|(cases h;done)|skip
  cases h;exact ⟨rfl,zS,rfl⟩
 | y::l,x,v,h=>by
  simp only [An] at h;split at h
  ·rename_i z hz;have ih:=Lq h;unfold Jy at hz;split at hz
   ·cases hz
    exact ⟨rfl,λq hq=>by
     simp only [aj] at hq;rcases hq with rfl|hq
     ·rfl
     ·exact ih.2.1 q hq,ih.2.2⟩
   ·cases hz
  ·cases h
theorem B9 {b:Bool} {l:List Value} {v:Value} (h:Jz b l=some v):(∀ x∈l,bp x=true)/\bp v=true:=by
 cases l with
 | nil=>cases h
 | cons x l =>
  have:=Lq h
  exact ⟨λq hq=>by
   simp only [aj] at hq;rcases hq with rfl|hq
   ·exact this.1
   ·exact this.2.1 q hq,this.2.2⟩
theorem Pc:∀ {l:List Value} {x v:Value} (W:World),An true x l=some v->(l.foldlM Builtin.max2 x).run P W=.ok v W
 | [],x,v,W,h=>by
  exact Hy
 | y::l,x,v,W,h=>by
  simp only [An] at h;split at h
  ·rename_i z hz;have hr:=Pc W h;unfold Jy at hz;split at hz
   ·cases hz;simp only [aV] at hr;simp only [List.foldlM_cons,aX,Builtin.max2,cK,bJ];exact hr
   ·cases hz
  ·cases h
theorem Pe:∀ {l:List Value} {x v:Value} (W:World),An false x l=some v->(l.foldlM Builtin.min2 x).run P W=.ok v W
 | [],x,v,W,h=>by
  exact Hy
 | y::l,x,v,W,h=>by
  simp only [An] at h;split at h
  ·rename_i z hz;have hr:=Pe W h;unfold Jy at hz;split at hz
   ·cases hz;simp only [kP,cw] at hr;simp only [List.foldlM_cons,aX,Builtin.min2,cK,bJ];exact hr
   ·cases hz
  ·cases h
theorem agQ {l:List Value} {v:Value} (W:World) (h:Jz true l=some v):∃ x rest,l=x::rest/\(rest.foldlM Builtin.max2 x).run P W=.ok v W:=by
 cases l with
 | nil=>cases h
 | cons x l=>exact ⟨x,l,rfl,Pc W h⟩
theorem agS {l:List Value} {v:Value} (W:World) (h:Jz false l=some v):∃ x rest,l=x::rest/\(rest.foldlM Builtin.min2 x).run P W=.ok v W:=by
 cases l with
 | nil=>cases h
 | cons x l=>exact ⟨x,l,rfl,Pe W h⟩
theorem WK {c:Call} {v:Value} (ho:o.op=.call c) (hx:∀ x∈c.args.toList,okX ts hp x) (hv:BN P ts c=some v):OpD P o ts (rst hp (val v []).rs) (val v []) :=
 gR λr D a W hR _ bC hD=>by
  have Sq:∀ x∈c.args,a.eval x=ren r (gev ts x):=λx kp=>(evR hR (x:=x) (by simp [ho,Op.operands,Call.operands,kp]) (hx x (by simpa using kp)) bC hD).1;have aq9:c.args.toList.map a.eval=c.args.toList.map λx=>ren r (gev ts x):=gK λx kp=>Sq x (by simpa using kp)
  have fl:∀ {b:Bool},Jz b (c.args.toList.map (gev ts))=some v->(c.args.map a.eval).toList=c.args.toList.map (gev ts):=λ{b} h=>by
   rw [j9,aq9];exact gK λx kp=>bS ((B9 h).1 _ (aK.2 ⟨x,kp,rfl⟩))
  unfold BN at hv;split at hv
  ·rename_i hc;split at hv
   ·rename_i x T h1 h2;have e1:c.args=#[x]:=by rw [<-oZ (xs:=c.args),h1]
    have e2:c.argTypes=#[T]:=by rw [<-oZ (xs:=c.argTypes),h2]
    have e3:=ab9 (P:=P) (r:=r) (t:=o.type) hv W;refine ⟨?_,bw e3.2⟩;have e4:=Sq x (by rw [e1];simp);simp only [execOp,ho,resolve,hc,aX,cK,bJ,invoke,builtin,e1,e2,bS e3.2];simp only [gH,bI,ft,e4,e3.1,bJ]
   ·cases hv
  ·rename_i hc;have e3:=B9 hv;refine ⟨?_,bw e3.2⟩;obtain ⟨x,rest,e5,e6⟩:=agQ (P:=P) W hv;have e4:=fl hv;simp only [execOp,ho,resolve,hc,aX,cK,bJ,invoke,builtin,Builtin.max_,e4,e5,e6,bS e3.2]
  ·rename_i hc;have e3:=B9 hv;refine ⟨?_,bw e3.2⟩;obtain ⟨x,rest,e5,e6⟩:=agS (P:=P) W hv;have e4:=fl hv;simp only [execOp,ho,resolve,hc,aX,cK,bJ,invoke,builtin,Builtin.min_,e4,e5,e6,bS e3.2]
  ·cases hv

def unD (o:Oper) (ts:fp):Prop :=
 match o.op with
 | .call c=>match c.callee with
  | .value (.tmp t)=>ts t=undef
  | .value (.func _)=>True
  | .builtin _=>True
  | _=>False
 | _=>True
def unC (P:Program) (o:Oper):Prop :=
 match o.op with
 | .call c=>match c.callee with
  | .value (.func f)=>∃ fn,P.funcs[f]? = some fn
  | _=>True
 | _=>True

theorem Wz {y:YG} {yc:Nat} {hp:Hp} (h:y.lies yc hp):ak (Bv y yc).ws=match y.sh with|none=>[]|some s=>[s.w]:=by
 unfold YG.lies at h;unfold Bv YG.pan
 cases hs:y.sh with
 | none=>simp only;split<;>rfl
 | some s =>
  rw [hs] at h;have e:(if yc=y.stop then y.pn else none)=none:=by split<;>first|exact h.2.2|rfl
  rw [e]
  rfl
def okp (P:Program) (Y:Option YG):OKP where
 ok o ts yc hp e:=(e.yl=false/\OpD P o ts hp e)\/(e.yl=true/\OpY Y o ts yc hp e)
 congr o ts ov yc Bw hp e ht hy h:=by
  rcases h with ⟨h1,h2⟩|⟨h1,y,f,args,T,h2,h3,h4,h5,h6,h7,h8,h9,qw⟩
  ·exact .inl ⟨h1,h2.congr ht⟩
  ·have hm:∀ x∈o.op.operands,gev ts x=gev ov x:=λx hx=>by
    cases x<;>first|rfl|exact ht _ hx
   have hk:∀ x∈o.op.operands,okT ts x->okT ov x:=λx hx h=>by
    cases x<;>first|exact h|(have:=ht _ hx;simp only [okT] at h |-;rwa [<-this])
   have hf:f∈o.op.operands:=by simp [h3,Op.operands,Call.operands]
   have ha:∀ x∈args,x∈o.op.operands:=λx hx=>by simp [h3,Op.operands,Call.operands,hx]
   refine .inr ⟨h1,y,f,args,T,h2,h3,hk f hf h4,λx hx=>⟨hk x (ha x cG) (h5 x hx).1,by rw [<-hm x (ha x (by simpa using hx))];exact (h5 x hx).2⟩,by rw [<-hm f hf];exact h6,by rw [<-hy h1];exact h7,?_,by rw [<-hy h1];exact h9,by rw [<-hy h1];exact qw⟩;rw [<-hy h1,h8];congr 1;exact bY λx hx=>by rw [hm x (ha x hx)]
 yw o ts yc hp e o' ov Bw eG e' h h' he he':=by
  rcases h with ⟨h1,_⟩|⟨_,y,f,args,T,h2,_,_,_,_,_,_,h9,qw⟩
  ·rw [h1] at he;cases he
  ·rcases h' with ⟨k1,_⟩|⟨_,y',f',gz,T',k2,_,_,_,_,_,_,k9,CT⟩
   ·rw [k1] at he';cases he'
   ·rw [h2] at k2;cases k2;rw [h9,k9,Wz qw,Wz CT]
 un o ts:=unD o ts/\unC P o
 uncongr o ts ov ht h:=by
  refine ⟨?_,h.2⟩;have h1:=h.1;unfold unD at *
  split
  ·rename_i c hc;simp only [hc] at h1
   cases fM:c.callee with
   | value x =>
    simp only [fM] at h1 |-
    cases x with
    | tmp t=>simp only at h1 |-;rw [<-ht t (by simp [hc,fM,Op.operands,Call.operands])];exact h1
    | func f=>trivial
    | _=>exact h1.elim
   | invoke x m=>simp only [fM] at h1
   | builtin b=>trivial
  ·trivial

theorem M8 {Y:Option YG}:SC P (okp P Y):=by
 intro o ts r D a W hR hu f hf;obtain ⟨h1,h2⟩:=hu;unfold Oper.about at hf;unfold unD at h1;unfold unC at h2;split at hf
 ·rename_i c hc;simp only [hc] at h1 h2
  cases fM:c.callee with
  | value x =>
   simp only [fM] at h1 h2
   cases x with
   | tmp t =>
    simp only at h1;have:=((hR t).resolve_left (by rw [h1];simp [undef,fP])).1;rw [h1,kI] at this;have he:a.eval (.tmp t)=undef:=this;simp [resolve,fM,he,Deferred.ofValue,undef,stuck] at hf
   | func g =>
    simp only at h2;simp [resolve,fM,Act.eval,Deferred.ofValue,Target.leads] at hf;subst hf;exact h2
   | _=>exact h1.elim
  | invoke x m=>simp only [fM] at h1
  | builtin b=>simp [resolve,fM,Target.leads] at hf
 ·cases hf
theorem WT {c:Call} {f:Operand} {g:FuncId} {first cap:ca} {oc:Out} (eg:c7 G) (hG:∀ k,k<100->hp k=G k) (ho:o.op=.call c) (hc:c.callee=.value f) (hf:okX ts hp f) (Kr:gev ts f=.func (.func g) first cap)
  (BB:first.size=0) (hca:cap.size=0) (ha:∀ x∈c.args.toList,okX ts hp x) (hr:BI P G g (c.args.map (gev ts)) oc):OpD P o ts (rst hp oc.eff.rs) oc.eff:=by
 have ers:oc.eff.rs=[]:=by cases oc<;>rfl
 rw [ers];intro r D a W hR hS _ bC hD _;have AM:∀ x∈c.args.map (gev ts),bp x=true:=hr.2.1;obtain rfl:first=#[]:=xz
 obtain rfl:cap=#[]:=by cases cap;simpa using hca
 have h1:=evR (rs:=[]) hR (x:=f) so hf bC hD;rw [Kr] at h1;have h3:a.eval f=.func (.func g) #[] #[]:=sG
 have n5:c.args.map a.eval=c.args.map (gev ts):=bY λx hx=>by
  rw [(evR (rs:=[]) hR (x:=x) sQ (ha x cG) bC hD).1];exact bS (AM _ (eQ.2 ⟨x,hx,rfl⟩))
 obtain ⟨hv,_,hen,gC⟩:=hr
 have gU:(execOp a.eval o).run P W=.ok (.enter g (c.args.map (gev ts))) W:=by
  exact yA
 have kE:GOK G W:=Tk eg hG hS bC hD;unfold tG;rw [gU];refine (gC W kE).mono λe gS he=>?_
 cases oc with
 | ret v =>
  obtain ⟨rfl,hb⟩:=he;have hv:=hv v rfl;exact Eb
 | pan v =>
  obtain ⟨rfl,hb⟩:=he;exact ⟨v,rfl,rfl,hb⟩
theorem WO {x:Operand} {T:TypeId} {u:Value} (ho:o.op=.panic x) (hx:okX ts hp x) (hf:bp (gev ts x)=true) (hg:gev ts x=.iface T u):OpD P o ts (rst hp []) ⟨fP,[],[],[],some (.iface T u),false⟩:=by
 intro r D a W hR _ _ bC hD _;have h1:=evR (rs:=[]) hR (x:=x) bE hx bC hD;have h2:a.eval x=.iface T u:=by rw [h1.1,bS hf,hg]
 unfold tG
 have:(execOp a.eval o).run P W=.halt (.panic (.iface T u)) W:=by
  simp [execOp,ho,h2,Instr.panic]
 rw [this];exact ⟨by simp [Oper.about,ho],rfl,mG _ _⟩

theorem ub {C:Eff->Prop} (eg:c7 G) (hG:∀ k,k<100->hp k=G k) (h:opX P G V yc o ts hp nk C):∃ e,(okp P V.Y).ok o ts yc (rst hp e.rs) e/\Shape hp nk e/\C e:=by
 unfold opX at h;split at h
 case h_1 x ho=>exact ⟨_,.inl ⟨rfl,NO (.inl ho) h.1⟩,.val,h.2⟩
 case h_2 x ho=>exact ⟨_,.inl ⟨rfl,NO (.inr ho) h.1⟩,.val,h.2⟩
 case h_3 c x y ho =>
  obtain ⟨h0,h⟩:=h;split at h
  ·rename_i b hb;exact ⟨_,.inl ⟨rfl,ZB ho h0 hb h.1 h.2.1⟩,.val,h.2.2⟩
  ·exact R2
 case h_4 T ho =>
  split at h
  ·rename_i z hz;exact ⟨_,.inl ⟨rfl,WI ho hz h.1 h.2.1⟩,.new,h.2.2⟩
  ·exact R2
 case h_5 T x ho=>exact ⟨_,.inl ⟨rfl,aeV ho h.1 h.2.1⟩,.new,h.2.2⟩
 case h_6 T x ho =>
  obtain ⟨h0,h⟩:=h;split at h
  ·rename_i k off hg;split at h
   ·rename_i b hb;split at h
    ·rename_i v hv;exact ⟨_,.inl ⟨rfl,ZA ho h0 hg hb hv⟩,.val,h⟩
    ·exact R2
   ·exact R2
  ·exact R2
 case h_7 T x y ho =>
  obtain ⟨h0,sB,h⟩:=h;split at h
  ·rename_i k off hg;split at h
   ·rename_i b hb;obtain ⟨c8,h1,h2,h3,h4,h5⟩:=h;exact ⟨_,.inl ⟨rfl,WR ho h0 sB hg hb c8 h1 h2 h3⟩,.wr iv h4,h5⟩
   ·exact R2
  ·exact R2
 case h_8 x i ho =>
  obtain ⟨h0,h⟩:=h;split at h
  ·rename_i vs hg;split at h
   ·rename_i v hv;exact ⟨_,.inl ⟨rfl,NM ho h0 hg hv h.1⟩,.val,h.2⟩
   ·exact R2
  ·exact R2
 case h_9 T x i ho =>
  obtain ⟨h0,sB,h⟩:=h;split at h
  ·rename_i kd m Oz;split at h
   ·rename_i len e hu;split at h
    ·rename_i k off hg;obtain ⟨⟨h1,h2⟩,h⟩:=h;split at h
     ·rename_i s hs;exact ⟨_,.inl ⟨rfl,SD ho h0 sB Oz hu hg h1 h2 hs⟩,.val,h⟩
     ·exact R2
    ·exact R2
   ·rename_i e hu;split at h
    ·rename_i k off len cap hg;obtain ⟨⟨h1,h2⟩,h⟩:=h;split at h
     ·rename_i s hs;exact ⟨_,.inl ⟨rfl,SE ho h0 sB Oz hu hg h1 h2 hs⟩,.val,h⟩
     ·exact R2
    ·exact R2
   ·exact R2
  ·exact R2
 case h_10 T x i ho =>
  obtain ⟨h0,sB,h⟩:=h;split at h
  ·rename_i kd m Oz;split at h
   ·rename_i len e hu;split at h
    ·rename_i cs hg;obtain ⟨⟨h1,h2⟩,h⟩:=h;split at h
     ·rename_i s hs;split at h
      ·rename_i v hv;exact ⟨_,.inl ⟨rfl,WN ho h0 sB Oz hu hg h1 h2 hs hv⟩,.val,h⟩
      ·exact R2
     ·exact R2
    ·exact R2
   ·rename_i hu;split at h
    ·rename_i s hg;split at h
     ·rename_i b hb;exact ⟨_,.inl ⟨rfl,Md ho h0 sB Oz hu hg hb⟩,.val,h⟩
     ·exact R2
    ·exact R2
   ·exact R2
  ·exact R2
 case h_11 T x f ho =>
  obtain ⟨h0,h⟩:=h;split at h
  ·rename_i t off hf;split at h
   ·rename_i cs hg;split at h
    ·rename_i v hv;exact ⟨_,.inl ⟨rfl,WL ho h0 hf hg hv⟩,.val,h⟩
    ·exact R2
   ·exact R2
  ·exact R2
 case h_12 T x f ho =>
  obtain ⟨h0,h⟩:=h;split at h
  ·rename_i t off hf;split at h
   ·rename_i k oo hg;exact ⟨_,.inl ⟨rfl,Kz ho h0 hf hg⟩,.val,h⟩
   ·exact R2
  ·exact R2
 case h_13 T x lo hi mx ho =>
  obtain ⟨h0,h1,h2,h3,h⟩:=h;split at h
  ·rename_i v hv;exact ⟨_,.inl ⟨rfl,WQ ho h0 h1 h2 h3 hv⟩,.val,h⟩
  ·exact R2
 case h_14 T x ho =>
  obtain ⟨h0,h⟩:=h;split at h
  ·rename_i v hv;exact ⟨_,.inl ⟨rfl,aeT ho h0 hv⟩,.val,h⟩
  ·exact R2
 case h_15 fn first cap ho=>exact ⟨_,.inl ⟨rfl,Me ho h.1 h.2.1⟩,.val,h.2.2⟩
 case h_16 T parts ho =>
  obtain ⟨h0,h⟩:=h;split at h
  ·rename_i z hz;obtain ⟨h1,h2,h⟩:=h;split at h
   ·rename_i pl uq;split at h
    ·rename_i cs AK;exact ⟨_,.inl ⟨rfl,WJ ho h0 hz h1 h2 (IH hz uq AK)⟩,.val,h⟩
    ·exact R2
   ·exact R2
  ·exact R2
 case h_17 T len parts ho =>
  obtain ⟨h0,h⟩:=h;split at h
  ·rename_i e hu;split at h
   ·rename_i m hm;split at h
    ·rename_i z hz;obtain ⟨h1,h2,h3,h4,h⟩:=h;split at h
     ·rename_i cs AK;exact ⟨_,.inl ⟨rfl,Iw ho h0 hu hm hz h1 h2 h3 h4 AK⟩,.new,h⟩
     ·exact R2
    ·exact R2
   ·exact R2
  ·exact R2
 case h_18 T x ho =>
  obtain ⟨h0,h1,h⟩:=h;split at h
  ·exact R2
  ·rename_i dd hn hu;exact ⟨_,.inl ⟨rfl,WM ho h0 h1 hu (λms e=>hn ms e)⟩,.val,h⟩
  ·exact R2
 case h_19 op T x y yT ho =>
  obtain ⟨h0,h1,h⟩:=h;split at h
  ·rename_i v hv;exact ⟨_,.inl ⟨rfl,aeU ho h0 h1 hv⟩,.val,h⟩
  ·exact yz
 case h_20 op T x ho =>
  obtain ⟨h0,h⟩:=h;split at h
  ·rename_i v hv;exact ⟨_,.inl ⟨rfl,ajZ ho h0 hv⟩,.val,h⟩
  ·exact R2
 case h_21 S T x ho =>
  obtain ⟨h0,h⟩:=h;split at h
  ·rename_i v hv;exact ⟨_,.inl ⟨rfl,Zz ho h0 hv⟩,.val,h⟩
  ·exact yz
 case h_22 c ho =>
  unfold KZ at h;split at h
  ·rename_i f hc;obtain ⟨h1,h⟩:=h;unfold yY at h;split at h
   ·rename_i g first cap Kr
    obtain ⟨h2,h4,h⟩:=h;split at h
    ·rename_i aiJ;split at h
     ·obtain ⟨oc,h5,h6⟩:=h;refine ⟨_,.inl ⟨by cases oc<;>rfl,WT eg hG ho hc (Ie h1) Kr h2 aiJ.1 h4 h5⟩,?_,h6⟩;cases oc<;>exact ⟨by simp [Out.eff,val,ak],by simp [Out.eff,val,ak],by simp [Out.eff,val]⟩
     ·obtain ⟨v,h5,h6⟩:=h;exact ⟨_,.inl ⟨rfl,Zy eg hG ho hc (Ie h1) Kr h2 aiJ.1 h4 h5⟩,.val,h6⟩
    ·obtain ⟨h3,eG,rs,res,om,Ss,h5,tS,h6⟩:=h;replace h5:=h5.under (hp:=hp) λk hk=>hk.elim (λhk=>(Ss k hk).trans (hG k hk).symm) (λhk=>om k hk);have eI:=h5.fits;refine ⟨res.eff rs,.inl ⟨by cases res<;>rfl,aeW eg hG ho hc h1 Kr h2 h3 h4 h5⟩,?_,h6⟩
     cases res with
     | ret v ws=>exact ⟨λk hk=>eI.2.1 k hk,sT,λk b c hb hc=>eI.2.2.1 k b c (by simpa [Res.eff] using hb) (by simpa [Res.eff] using hc)⟩
     | pan v=>exact ⟨sT,sT,by simp [Res.eff]⟩
     | new v ns=>exact ⟨sT,tS,λk b c hb hc=>eI.2.2 k b c (by simpa [Res.eff] using hb) (by simpa [Res.eff] using hc)⟩
   ·rename_i l first cap Kr
    obtain ⟨h2,h3,h4,h⟩:=h;obtain rfl:first=#[]:=by cases first;simpa using h2
    obtain rfl:cap=#[]:=by cases cap;simpa using h3
    unfold Cp at h;split at h
    ·rename_i y hy;obtain ⟨rfl,h5,h8,h6,h9,h7⟩:=h;obtain ⟨callee,args,T⟩:=c;simp only at hc;subst hc
     have Jf:y.lies yc (rst hp (Bv y yc).rs):=by
      unfold YG.lies at h9 |-;unfold Bv YG.pan
      cases hs:y.sh with
      | none=>trivial
      | some s =>
       rw [hs] at h9;simp only at h9 |-;rw [h9.2.2];refine ⟨?_,h9.2.1,rfl⟩;have:(if yc=y.stop then (none:Option Value) else none)=none:=by split<;>rfl
       rw [this];simp only;unfold rst;rw [ag (.inr zS)];exact h9.1
     refine ⟨_,.inr ⟨by unfold Bv;split<;>(try split)<;>rfl,y,f,args,T,hy,ho,h1,λx hx=>⟨h4 x hx,h8 _ (by simp only [j9];exact List.mem_map_of_mem hx)⟩,Kr,h5,by rw [h6];simp,rfl,Jf⟩,?_,h7⟩;unfold YG.lies at h9;unfold Bv;split
     ·split
      ·exact ⟨by simp [ak],by simp [ak],zS⟩
      ·rename_i s hs;rw [hs] at h9;exact ⟨by simp [ak,dom,h9.1,h9.2.1],ai,by rintro k b c hb hc;simp only [eP,br,ij] at hb hc;rw [hb.2,hc.2]⟩
     ·exact ⟨by simp [ak],by simp [ak],zS⟩
    ·exact R2
   ·exact R2
  ·rename_i hnv;obtain ⟨h1,h⟩:=h;split at h
   ·rename_i v hv;exact ⟨_,.inl ⟨rfl,WK ho h1 hv⟩,.val,h⟩
   ·exact R2
 case h_23 x ho =>
  obtain ⟨h0,h1,h⟩:=h;split at h
  ·rename_i T u hg;exact ⟨_,.inl ⟨rfl,WO ho h0 h1 hg⟩,⟨ai,ai,zS⟩,h⟩
  ·exact R2
 case h_24 T y ho=>exact ⟨_,.inl ⟨rfl,NN ho h.1⟩,.new,h.2⟩
 case h_25 T m k x ho =>
  obtain ⟨h0,h1,h2,h3,h4,h⟩:=h;unfold TE at h;split at h
  ·rename_i q hq;split at h
   ·rename_i s hs;unfold Lp at h;split at h
    ·rename_i l hl;obtain ⟨b,hb,iw⟩:=Option.bind_eq_some_iff.1 hl;obtain rfl:=Ph iw;exact ⟨_,.inl ⟨rfl,SF ho h0 h1 h2 h3 h4 hq hs hb h.1⟩,.wr iv h.2.1,h.2.2⟩
    ·exact R2
   ·exact R2
  ·exact R2
 case h_26 T x i ok ho =>
  obtain ⟨h0,h1,h2,h3,h⟩:=h;subst h2;unfold lkX at h;split at h
  ·rename_i q hq;split at h
   ·rename_i s hs;unfold XK at h;split at h
    ·rename_i l hl;obtain ⟨b,hb,iw⟩:=Option.bind_eq_some_iff.1 hl;obtain rfl:=Ph iw;split at h
     ·rename_i v hv;exact ⟨_,.inl ⟨rfl,SG ho h0 h1 h3 hq hs hb hv h.1⟩,.val,h.2⟩
     ·exact R2
    ·exact R2
   ·exact R2
  ·exact R2
 case h_27 cs b ho=>exact h.elim
 case h_28 x ho =>
  obtain ⟨h0,h⟩:=h;unfold ncX at h;split at h
  ·rename_i k oo hg;exact ⟨_,.inl ⟨rfl,Mf ho h0 hg⟩,.val,h⟩
  ·exact R2
 case h_29 T x y ho =>
  obtain ⟨h0,h1,h⟩:=h;unfold msU at h;split at h
  ·rename_i e hu;unfold msM at h;split at h
   ·rename_i m hm;unfold msZ at h;split at h
    ·rename_i z b l hz hb hx;obtain ⟨hy,h2,h3,h4,h5,h6,h⟩:=h;exact ⟨_,.inl ⟨rfl,KA ho h0 h1 hx hy hu hm hz hb h2 h3 h4.1 h4.2 h5 h6⟩,.new,h⟩
    ·exact R2
   ·exact R2
  ·exact R2
 case h_30 hns =>
  exact yz

theorem Pr {w a:Nat} {r:dR} {v:Value} (h:zG w v=true) (hr:r w=a):ren r v=ren (λ_=>a) v:=by
 subst hr;unfold zG at h;split at h
 ·rename_i cs;simp only [ren,aW];congr 1;refine bY λx hx=>?_;have Jl:=vX.1 h x hx;split at Jl
  ·rename_i q;simp only [aw,aF];have:q.block=w:=by simpa using Jl
   rw [this]
  ·rename_i x h2;rw [fY Jl,fY Jl]
 ·rename_i q;simp only [ren,aW,aw,aF];have:q.block=w:=jz;rw [this]
 ·rw [bS h,bS h]
theorem VQ {C:Ctx} {n:Nat} {d:List Deferred} {ro:Option Nat} (eg:c7 C.G) (hR:∀ y,C.Y=some y->ux P C y):Zx P C n d ro (okp P C.Y):=by
 intro o e ts hp yc r a W m next Q h hd eM Sv hns hn eG
 rcases eM with ⟨h1,h2⟩|⟨h1,y,f,args,T,h2,h3,h4,h5,h6,h7,h8,rfl,qw⟩
 ·rw [h1] at hn;exact adJ h hd h2 Sv hns hn (λpv W' oz hi=>eG pv W' yc oz hi)
 ·obtain ⟨axT,zK⟩:=hR y h2
  have evT:∀ {x:Operand},okT ts x->bp (gev ts x)=true->a.eval x=gev ts x:=λ{x} hk hf=>by
   cases x with
   | tmp t =>
    have:=((h.rel t).resolve_left (acH hk)).1;rw [bS (by exact hf)] at this;exact this
   | const v=>rfl
   | func f=>rfl
   | global g=>exact hk.elim
  have Q4:∀ s,y.sh=some s->dom hp s.w/\r s.w=s.a:=λs hs=>by
   unfold YG.fine at zK;rw [hs] at zK;have hk:=h.keep s.w zK.1;exact ⟨hk.1,hk.2.trans zK.2.1⟩
  have evA:∀ {x:Operand},okT ts x->y.arg (gev ts x)=true->a.eval x=y.act (gev ts x):=λ{x} hk hf=>by
   unfold YG.arg at hf;unfold YG.act
   cases hs:y.sh with
   | none =>
    rw [hs] at hf;exact evT hk hf
   | some s =>
    rw [hs] at hf;simp only at hf |-
    cases x with
    | tmp t =>
     have:=((h.rel t).resolve_left (acH hk)).1;have e2:=Pr (r:=r) hf (Q4 s hs).2;exact this.trans e2
    | const v=>exact (bS hk).symm
    | func f=>simp [Act.eval,gev,ren,aW,aw,aF]
    | global g=>exact hk.elim
  have hfv:a.eval f=.func (.yield y.l) #[] #[]:=by rw [evT h4 (by rw [h6];simp [bp,pX,bU]),h6]
  have n5:args.map a.eval=args.map λx=>y.act (gev ts x):=bY λx hx=>evA (h5 x cG).1 (h5 x cG).2;obtain ⟨S,ms,hX,xR,ND,Sp,zA⟩:=h.ext
  have aix:∀ {W':World},GOK C.G W'->∀ k b,k<100->hp k=some b->W'.heap[r k]? = some (b.obj r):=λ{W'} hg k b hk hb=>by
   have e1:r k=k:=h.low k hk iv;have e2:C.G k=some b:=by rw [<-h.glob k hk];exact hb
   rw [e1,hg k b e2];rw [Blk.obj_flat (λx hx=>(eg k b e2).2 x hx)]
  have kE:GOK C.G W:=λk b hk=>by
   obtain ⟨dp,AM⟩:=eg k b hk;have hb:hp k=some b:=(h.glob k dp).trans hk;have h9:=(h.sat k b hb).1;rw [h.low k dp iv] at h9;rw [h9];exact yb
  have Xu:y.has yc W:=by
   unfold YG.has;unfold YG.lies at qw
   cases hs:y.sh with
   | none=>trivial
   | some s =>
    rw [hs] at qw;unfold YG.fine at zK;rw [hs] at zK;have:=(h.sat s.w _ (mu qw.1)).1;rw [(Q4 s hs).2,(zK.2.2 yc).1 r] at this;exact this
  obtain ⟨fn,tmps,assign,body,hy,wG⟩:=axT yc _ S W kE h8 h7 hX xR Xu
  have gU:(execOp a.eval o).run P W=.ok (.round y.l fn tmps assign body) W:=by
   simp [execOp,h3,resolve,hfv,Deferred.ofValue,invoke,n5,hy]
  refine ⟨NQ gU,?_⟩;have e:(Fw P ro).round=ro:=rfl;rw [e,Oper.semAt_eq ro a.eval o hd.2,gU];refine ⟨λh=>fj,?_⟩;have agh:RoundIn (Fw P ro) (m - 1) P _ _ _ _ _ _ _:=⟨wG.1,λc cs _=>wG.2 c cs (oR P _)⟩
  refine RoundIn.mono agh ?_;rintro e' W' ⟨dk,aiL,Ag,wH,Vt,S',yG,aqt,afT⟩
  cases hs:y.sh with
  | none =>
   have tS:∀ k,¬y.at k:=λk hk=>by unfold YG.at at hk;rw [hs] at hk;exact hk
   have base:RI C n d r ts hp (yc+1) a W' :=
    { h with
     sat:=λk b hk=>by
      have Zd:dom hp k:=iV;have:=h.sat k b hk;refine ⟨?_,this.2⟩;by_cases pf:k<100
      ·exact aix aiL k b pf hk
      ·exact (wH _ (h.lt Zd) (ND k Zd zO) (tS _)).trans this.1
     ext:=⟨S',ms,yG,aqt,λi hi h1i hS=>ND i hi h1i (afT _ hS (h.lt hi)),Sp,λD hD=>by
      have dp:=(aO.1 (zA D hD).1).1;exact ⟨(wH D dp (zA D hD).2.1 (tS _)).trans (zA D hD).1,λhS=>(zA D hD).2.1 (afT D hS dp),(zA D hD).2.2⟩⟩ }
   have KH:Bv y yc=match y.pan yc with
    | none=>⟨.bool (yc != y.stop),[],[],[],none,true⟩
    | some pv=>⟨fP,[],[],[],some pv,true⟩:=by unfold Bv;rw [hs]
   cases oz:y.pan yc with
   | none =>
    rw [oz] at dk KH;simp only at dk KH;subst dk;refine hn r _ W' (by rw [KH]) ?_;have:=base.put hd.1 (v:=.bool (yc != y.stop)) (by trivial);rw [KH];simpa [ren,aW,aw,aF,bH] using this
   | some pv =>
    rw [oz] at dk KH;simp only at dk KH;subst dk;exact eG pv W' (yc+1) (by rw [KH]) base
  | some s =>
   obtain ⟨Dx,ja⟩:=Q4 s hs;unfold YG.lies at qw;rw [hs] at qw;obtain ⟨kF,Kw,axR⟩:=qw;unfold YG.fine at zK;rw [hs] at zK;obtain ⟨_,_,AM⟩:=zK;unfold YG.has at Vt;rw [hs] at Vt;simp only at Vt;have tS:∀ k,k≠s.a->¬y.at k:=λk hk qx=>by unfold YG.at at qx;rw [hs] at qx;exact hk qx
   have hD:dom (upd hp s.w (some (s.ob (yc+1))))=dom hp:=by
    funext k;unfold dom upd;by_cases c:k=s.w
    ·rw [ag c];subst c;simp only [ne_eq,reduceCtorEq,not_false_eq_true,jv,true_iff];exact Dx
    ·rw [ae c]
   have base:RI C n d r ts (upd hp s.w (some (s.ob (yc+1)))) (yc+1) a W' :=
    {size:=h.size
     rel:=by rw [hD];exact h.rel
     sat:=λk b hk=>by
      rw [hD];by_cases c:k=s.w
      ·subst c;rw [cY] at hk;cases hk;exact ⟨by rw [ja,Vt,(AM (yc+1)).1 r],(AM (yc+1)).2 _⟩
      ·rw [ao _ _ c] at hk;have Zd:dom hp k:=iV;have:=h.sat k b hk;refine ⟨?_,this.2⟩;by_cases pf:k<100
       ·exact aix aiL k b pf hk
       ·exact (wH _ (h.lt Zd) (ND k Zd zO) (tS _ λe1=>c (h.inj k s.w Zd Dx (e1.trans ja.symm)))).trans this.1
     inj:=by rw [hD];exact h.inj
     ext:=⟨S',ms,yG,aqt,λi hi h1i hS=>by rw [hD] at hi;exact ND i hi h1i (afT _ hS (h.lt hi)),Sp,λD zJ=>by
      have dp:=(aO.1 (zA D zJ).1).1;exact ⟨(wH D dp (zA D zJ).2.1 (tS _ λe1=>h.ne_mark Dx (zA D zJ).1 (ja.trans e1.symm))).trans (zA D zJ).1,λhS=>(zA D zJ).2.1 (afT D hS dp),(zA D zJ).2.2⟩⟩
     keep:=λi hi=>⟨by rw [hD];exact (h.keep i hi).1,(h.keep i hi).2⟩
     glob:=λk hk=>by rw [ao _ _ zO];exact h.glob k hk
     low:=λk hk hd=>by rw [hD] at hd;exact h.low k hk hd }
   have oz:y.pan yc=none:=by unfold YG.pan;rw [axR];split<;>rfl
   have KH:Bv y yc=⟨.bool (yc != y.stop),[s.w],[(s.w,s.ob (yc+1))],[],none,true⟩:=by unfold Bv;rw [oz,hs]
   rw [oz] at dk;simp only at dk;subst dk;refine hn r _ W' (by rw [KH]) ?_;have:=base.put hd.1 (v:=.bool (yc != y.stop)) (by trivial);rw [KH]
   have e9:bH hp ([(s.w,s.ob (yc+1))]++[])=upd hp s.w (some (s.ob (yc+1))):=by
    funext k;simp [bH]
   rw [e9];simpa [ren,aW,aw,aF] using this

end
theorem xF {p:Prop} (h:p:=by simp [Array.getD,ht]):p:=h
theorem xh {p:Prop} (h:p:=by simpa using mF ht):p:=h
theorem sR {p:Prop} (h:p:=by simpa using hi.free):p:=h
theorem xH {p:Prop} (h:p:=by rw [hg];simp [fP]):p:=h
theorem sS {p:Prop} (h:p:=by rw [e1];exact size):p:=h
theorem DH {p:Prop} (h:p:=by obtain ⟨p,hp1,rfl⟩:=aC.1 hm;exact H6 p hp1 rfl):p:=h
theorem F5 {p:Prop} (h:p:=by
 have hm:args[t]∈args:=jV ht;have e:args.getD t undef=args[t]:=xF;rw [e];refine ⟨?_,ha _ hm⟩;have:t<(args.map (ren r)).size:=by simpa using ht
 simp [CE this,ht]):p:=h
theorem yp {p:Prop} (h:p:=by
 rw [da (λhm=>?_)]
 ·exact hn x zO
 ·have:x∈ak e.ws\/x∈ak e.ns:=by simpa [ak] using hm
  rcases this with h|h
  ·exact (hs.ws x h).2.1 (hn x zO)
  ·have:=hs.ns x h;omega):p:=h
theorem yU {p:Prop} (h:p:=by
 exact ⟨e₂,a₂,w₂,Vz,.of_steps (ff jf (.one (fenced_calm (F:=Fw P ro) (n:=0) NF (oR P _) rfl) stepR_inLoop)) tR⟩):p:=h
theorem Gj {p:Prop} (h:p:=by
 obtain ⟨e,a',w',hq,jf⟩:=key m0 s0 h0 r a W (hi.weak hw) b k cs Kv hb;exact ⟨e,a',w',hq,.of_steps (.one (fenced_calm hb hr rfl) stepR_loop) jf⟩):p:=h
theorem Hc {p:Prop} (h:p:=by
 simp only [lr] at CS;have e0:e.ws=[]:=by have:=CS.2;simpa using this
 have hh:=hs0 CS.1 k' b jR;rw [e0,bq,da (λhm=>by have:=hs.ns k' hm;rw [hn k' zO] at hh;cases hh)];exact hh):p:=h
theorem Eu {p:Prop} (h:p:=by
 rw [oz] at h3;obtain ⟨_,CS,fN⟩:=h3;simp only [lr] at CS;exact xu pv ts hp Bw r a W' fN (hs0 CS.1) Ah cS):p:=h
theorem Rh {p:Prop} (h:p:=by
 simpa using this):p:=h
theorem yx {p:Prop} (h:p:=by
 unfold dom at hk
 cases hb:rst hp rs k with
 | none=>exact absurd hb hk
 | some b=>exact (aO.1 (jU k b hb).1).1):p:=h
theorem Gc {p:Prop} (h:p:=by
 dsimp only;by_cases ht:t<args.size
 ·exact F5
 ·have e:args.getD t undef=undef:=by simp [fG (mF ht)]
  rw [e];refine ⟨?_,mY _⟩;rw [kI];simp only [jY];rw [vH xh,mN];split<;>rfl):p:=h
theorem xZ {p:Prop} (h:p:=by
 rw [hW _ (λhm=>cS.ri.ne_mark iv (rX _ hm).1 rfl)];exact (cS.ri.sat i b hb).1):p:=h
theorem Gd {p:Prop} (h:p:=by
 have:=mine gS e5 i b e;rw [(pY i ot).2,agc b (oM i b hb)] at this;rw [this,(jU i b hb).1]):p:=h
theorem nO {p:Prop} (h:p:=by
 rcases he with rfl|rfl
 ·show LeavesInM _ _ _ _ _ _ a'.defers _ _;rw [vp,eP];exact zd zS ms W' B4 (λD hD=>(rX D hD).1) dk
 ·show LeavesInM _ _ _ _ _ _ a'.defers _ _;rw [vp,eP];exact zd zS ms W' B4 (λD hD=>(rX D hD).1) dk):p:=h
theorem EM {p:Prop} (h:p:=by
 rw [zX eg]
 cases hg:G x with
 | none=>rfl
 | some b=>have:=(eg x b hg).1;omega):p:=h
theorem En {p:Prop} (h:p:=by
 unfold dom at hk
 cases hg:G k with
 | none=>exact absurd hg hk
 | some b=>exact (eg k b hg).1):p:=h
abbrev jW := @List.mem_cons_self
abbrev db := @decide_eq_true_eq
abbrev ff := @Go.StepsIn.trans
abbrev rh := @Array.ext'
abbrev fu := @List.nodup_cons
abbrev ju := @Nat.le_trans
abbrev jX := @List.nodup_nil
abbrev CE := @Array.getElem?_append_left
abbrev mF := @Nat.le_of_not_lt
abbrev vH := @Array.getElem?_append_right
abbrev og := List Oper

abbrev Tr:=List (Nat×List Nat×List Nat)
def ako (xs ys:List Nat):Bool:=xs.all λx=>!ys.contains x
def chk (md:Region.Mode) (ops:Array Oper):Tr->Bool
 | []=>true
 | (i,rd,wr)::tl=>(tl.all λq=>(ako rd q.2.2&&ako wr q.2.1)||wU md ops i q.1)&&chk md ops tl
def oa (k:Nat) (rd wr:List Nat) (tr:Tr):Tr :=
 match rd with
 | []=>match wr with
  | []=>tr
  | _::_=>(k,rd,wr)::tr
 | _::_=>(k,rd,wr)::tr

def ph (P:Program) (G:Hp) (V:XV) (ops:Array Oper) (base:Nat) (Q:(Nat->Value)->Hp->Tr->Nat->Prop) (Qp:Value->Tr->Prop):Nat->List Oper->(Nat->Value)->Hp->Tr->Nat->Bool->Bool->Prop
 | _,[],ts,hp,tr,yc,_,_=>Q ts hp tr yc
 | k,o::rest,ts,hp,tr,yc,wr,yd=>match gp ops o ts with
  | some true=>opX P G V yc o ts hp (base+8*k) λe=>(e.yl=true->e.ws=[]->yd=false)/\match e.pan with
   | none=>ph P G V ops base Q Qp (k+1) rest (cJ ts o.dst e.v) (bH hp (e.ws++e.ns)) (oa k (e.rs++ak e.ns) (ak e.ws++ak e.ns) tr) (if e.yl then yc+1 else yc) (wr||!e.ws.isEmpty) (yd||(e.yl&&e.ws.isEmpty))
   | some pv=>(V.dr=true->rest=[])/\(wr||!e.ws.isEmpty)=false/\Qp pv (oa k (e.rs++ak e.ns) (ak e.ws++ak e.ns) tr)
  | some false=>unD o ts/\ph P G V ops base Q Qp (k+1) rest (cJ ts o.dst undef) hp tr yc wr yd
  | none=>False

theorem P5 (k:Nat) (rd wr:List Nat) (tr:Tr):oa k rd wr tr=(k,rd,wr)::tr\/(rd=[]/\wr=[]/\oa k rd wr tr=tr):=by
 cases rd with
 | nil=>cases wr with
  | nil=>exact .inr ⟨rfl,rfl,rfl⟩
  | cons=>exact .inl rfl
 | cons=>exact .inl rfl

theorem BP {md:Region.Mode} {ops:Array Oper} {k:Nat} {rd wr:List Nat} {tr:Tr} (h:chk md ops (oa k rd wr tr)=true) :
  chk md ops tr=true/\∀ q∈tr,((∀ x∈rd,x∉q.2.2)/\(∀ x∈wr,x∉q.2.1))\/wU md ops k q.1=true:=by
 rcases P5 k rd wr tr with e|⟨h1,h2,e⟩
 ·rw [e] at h;simp only [chk,bn,cX,rF] at h;refine ⟨h.2,λq hq=>(h.1 q hq).imp (λh=>⟨λx hx=>?_,λx hx=>?_⟩) id⟩
  ·have:=cX.1 h.1 x hx;simpa using this
  ·have:=cX.1 h.2 x hx;simpa using this
 ·rw [e] at h;subst h1;subst h2;exact ⟨h,λq _=>.inl ⟨λx hx=>(by cases hx),λx hx=>(by cases hx)⟩⟩

section
variable {P:Program} {G:Hp} {V:XV}

def U1 (lg:Nat->List Nat×List Nat) (tr:Tr):Prop :=
 ∀ j,lg j=([],[])\/∃ rd wr,(j,rd,wr)∈tr/\(∀ x∈(lg j).1,x∈rd)/\(∀ x∈(lg j).2,x∈wr)

theorem U1.step {lg:Nat->List Nat×List Nat} {tr:Tr} (h:U1 lg tr) (k:Nat) (e:Eff):U1 (upd lg k (e.rs,ak e.ws++ak e.ns)) (oa k (e.rs++ak e.ns) (ak e.ws++ak e.ns) tr):=by
 intro j;rcases P5 k (e.rs++ak e.ns) (ak e.ws++ak e.ns) tr with e1|⟨h1,h2,e1⟩
 ·rw [e1];by_cases hj:j=k
  ·subst hj;rw [cY];exact .inr ⟨_,_,jW ..,λx hx=>eE _ hx,λx hx=>hx⟩
  ·rw [ao _ _ hj];exact (h j).imp id λ⟨rd,wr,hm,a,b⟩=>⟨rd,wr,aD _ hm,a,b⟩
 ·rw [e1];by_cases hj:j=k
  ·subst hj;rw [cY];have:e.rs=[]:=(List.append_eq_nil_iff.1 h1).1;exact .inl (by rw [this,h2])
  ·rw [ao _ _ hj];exact h j

theorem Jt {ops:Array Oper} {base:Nat} {K:(Nat->Value)->Hp->Nat->Prop} {Kp:fQ} (eg:c7 G) (hb:100<=base):∀ (l:og) (k:Nat) (ts:fp) (hp:Hp) (tr:Tr) (yc:Nat) (wr yd:Bool),(∀ x,x<100->hp x=G x) ->
  ph P G V ops base (λts hp tr yc=>chk .any ops tr=true/\K ts hp yc) (λpv tr=>chk .any ops tr=true/\Kp pv) k l ts hp tr yc wr yd->chk .any ops tr=true
 | [],_,_,_,_,_,_,_,_,h=>h.1
 | o::l,k,ts,hp,tr,yc,wr,yd,hG,h=>by
  simp only [ph] at h;split at h
  ·obtain ⟨e,_,hs,_,h3⟩:=ub eg hG h;split at h3
   ·refine (BP (Jt eg hb l _ _ _ _ _ _ _ (λx hx=>?_) h3)).1;rw [da (λhm=>?_)]
    ·exact hG x hx
    ·have:x∈ak e.ws\/x∈ak e.ns:=by simpa [ak] using hm
     rcases this with h|h
     ·have:=(hs.ws x h).2.2;omega
     ·have:=hs.ns x h;omega
   ·exact (BP h3.2.2.1).1
  ·exact Jt eg hb l _ _ _ _ _ _ _ hG h.2
  ·exact R2

def awa (Kn:(Nat->Value)->Hp->Nat->Prop) (Kp:fQ) (B:Nat) (s:St):Prop :=
 (s.pn=none->Kn s.ts s.hp s.yc/\∀ x,B<=x->s.hp x=none)/\∀ pv,s.pn=some pv->s.wr=false/\Kp pv

theorem Al {ops:Array Oper} {base:Nat} {K:(Nat->Value)->Hp->Nat->Prop} {Kp:fQ} (eg:c7 G) (hb:100<=base) (hdr:V.dr=true):∀ (l:og) (k:Nat) (ts:fp) (hp:Hp) (tr:Tr) (yc:Nat) (wr yd:Bool) (lg:Nat->List Nat×List Nat),(∀ x,x<100->hp x=G x) ->
  (∀ x,base+8*k<=x->hp x=none)->U1 lg tr->(∀ j,k<=j->lg j=([],[]))->(∀ o∈l,unC P o) ->
  ph P G V ops base (λts hp tr yc=>chk .any ops tr=true/\K ts hp yc) (λpv tr=>chk .any ops tr=true/\Kp pv) k l ts hp tr yc wr yd ->
  CZ (okp P V.Y) .any ops base (awa K Kp (base+8*(k+l.length))) k l ⟨ts,hp,lg,yc,yd,none,wr⟩
 | [],k,ts,hp,tr,yc,wr,yd,lg,hG,hn,hl,hz,hu,h=>⟨λ_=>⟨h.2,by simpa using hn⟩,λ_ h=>fj⟩
 | o::l,k,ts,hp,tr,yc,wr,yd,lg,hG,hn,hl,hz,hu,h=>by
  have hlen:k+(o::l).length=(k+1)+l.length:=aB;rw [hlen];simp only [ph] at h;simp only [CZ]
  cases hw:gp ops o ts with
  | none=>rw [hw] at h;exact h.elim
  | some b =>
   rw [hw] at h
   cases b with
   | true =>
    simp only at h |-;obtain ⟨e,h1,hs,hyd,h3⟩:=ub eg hG h
    have big:∀ x∈ak (e.ws++e.ns),100<=x:=λx hm=>by
     have:x∈ak e.ws\/x∈ak e.ns:=pK;rcases this with h|h
     ·exact (hs.ws x h).2.2
     ·have:=hs.ns x h;omega
    have hG':∀ x,x<100->bH hp (e.ws++e.ns) x=G x:=λx hx=>by
     rw [da (λhm=>by have:=big x hm;omega)];exact hG x hx
    have Kt:∀ x,base+8*(k+1)<=x->bH hp (e.ws++e.ns) x=none:=λx hx=>by
     exact yp
    have fits:chk .any ops (oa k (e.rs++ak e.ns) (ak e.ws++ak e.ns) tr)=true->Fits .any ops base k ⟨ts,hp,lg,yc,yd,none,wr⟩ e:=λhc=>by
     have hc:=BP hc;refine ⟨hs.ws,λx hx=>?_,λx hx=>?_,hs.once,λj hj=>?_,hz k (aA _),λ_=>rfl,hyd⟩
     ·have:=hs.ns x hx;omega
     ·have:=hs.ns x hx;exact hn x zO
     ·rcases hl j with h0|⟨rd,wr,hm,a,b⟩
      ·simp only [h0];exact ⟨λ_ _ h=>(by cases h),λ_ _ h=>(by cases h)⟩
      ·rcases hc.2 _ hm with ⟨c1,c2⟩|c
       ·exact ⟨λx hx hm=>c1 x hx (b x hm),λx hx hm=>c2 x hx (a x hm)⟩
       ·rw [hj] at c;cases c
    cases oz:e.pan with
    | none =>
     rw [oz] at h3;simp only at h3;refine ⟨e,h1,fits (Jt eg hb l _ _ _ _ _ _ _ hG' h3),?_⟩;have:=Al eg hb hdr l (k+1) _ _ _ _ _ _ _ hG' Kt (hl.step k e) (λj hj=>by rw [ao _ _ zO];exact hz j zO) (λo ho=>hu o (aD _ ho)) h3;simpa [St.after,oz] using this
    | some pv =>
     rw [oz] at h3;obtain ⟨AT,CS,hch,fN⟩:=h3;obtain rfl:=AT hdr;refine ⟨e,h1,fits hch,?_⟩;simp only [CZ,St.after,oz];refine ⟨λh=>?_,λpv' h=>?_⟩
     ·simp at h
     ·simp at h;subst h;exact ⟨CS,fN⟩
   | false =>
    simp only at h |-;exact ⟨⟨h.1,hu o zS⟩,Al eg hb hdr l (k+1) _ _ _ _ _ _ _ hG (λx hx=>hn x zO) hl (λj hj=>hz j zO) (λo ho=>hu o (aD _ ho)) h.2⟩

def Av (P:Program) (ops:og):Bool:=ops.all λo=>match o.op with
 | .call c=>match c.callee with
  | .value (.func f)=>decide (f<P.funcs.size)
  | _=>true
 | _=>true
theorem uj {ops:og} (h:Av P ops=true):∀ o∈ops,unC P o:=λo ho=>by
 have:=cX.1 h o ho;unfold unC;split
 ·rename_i c hc;simp only [hc] at this;split
  ·rename_i f fM;simp only [fM,db] at this;exact ⟨_,jw this⟩
  ·trivial
 ·trivial

structure GS where
 ts:Nat->Value
 hp:Hp
 B:Nat
 yc:Nat

structure GI (P:Program) (C:Ctx) (n:Nat) (d:List Deferred) (r:dR) (s:GS) (a:Act) (W:World):Prop where
 ri:RI C n d r s.ts s.hp s.yc a W
 free:∀ x,s.B<=x->s.hp x=none
 low:100<=s.B
 flat:c7 C.G
 rounds:∀ y,C.Y=some y->ux P C y

def GW (P:Program) (C:Ctx) (n:Nat) (d:List Deferred) (ro:Option Nat) (c:Code) (s:GS) (K:Exit->GS->Prop):Prop :=
 ∀ r a W,GI P C n d r s a W->c.wpIn (Fw P ro) 0 P (λe a' W'=>∃ s' r',K e s'/\GI P C n d r' s' a' W') a W

variable {C:Ctx} {n:Nat} {d:List Deferred} {ro:Option Nat} {s:GS} {K:Exit->GS->Prop} {yc:Nat}

def dY (next:GS->Prop) (K:Exit->GS->Prop):Exit->GS->Prop
 | .normal,s=>next s
 | e,s=>K e s

theorem gn {c:Code} {K':Exit->GS->Prop} (h:GW P C n d ro c s K) (hk:∀ e s,K e s->K' e s):GW P C n d ro c s K' :=
 λr a W hi=>wpIn_mono (h r a W hi) λ_ _ _ ⟨s',r',k,i⟩=>⟨s',r',hk _ _ k,i⟩

theorem tu {x y:Code} (h:GW P C n d ro x s (dY (λs'=>GW P C n d ro y s' K) K)):GW P C n d ro (.seq x y) s K:=by
 intro r a W hi;refine wpIn_seq (wpIn_mono (h r a W hi) ?_);rintro e a' W' ⟨s',r',k,i⟩
 cases e with
 | normal=>exact k r' a' W' i
 | _=>exact ⟨s',r',k,i⟩

theorem U0 (h:K .normal s):GW P C n d ro .skip s K:=λr _ _ hi=>wpIn_skip ⟨s,r,h,hi⟩
theorem Zu (h:K .ret s):GW P C n d ro .ret s K:=λr _ _ hi=>wpIn_ret ⟨s,r,h,hi⟩
theorem aeP {id:Nat} (h:K (.exit id) s):GW P C n d ro (.exit id) s K:=λr _ _ hi=>wpIn_exit ⟨s,r,h,hi⟩
theorem aeQ {id:Nat} (h:K (.goto id) s):GW P C n d ro (.goto id) s K:=λr _ _ hi=>wpIn_goto ⟨s,r,h,hi⟩
theorem NL {id:Nat} (h:K .normal s):GW P C n d ro (.label id) s K:=λr _ _ hi=>wpIn_label ⟨s,r,h,hi⟩

theorem L9 {t:Tmp} {x y:Code} {b:Bool} (hb:s.ts t=.bool b) (ht:b=true->GW P C n d ro x s K) (hf:b=false->GW P C n d ro y s K):GW P C n d ro (.cond (.tmp t) x y) s K:=by
 intro r a W hi
 have he:a.eval (.tmp t)=.bool b:=by
  have:=(hi.ri.rel t).resolve_left (by rw [hb];simp [fP]);rw [hb] at this;exact this.1
 exact wpIn_cond_split he (λh=>ht h r a W hi) (λh=>hf h r a W hi)

def l8 (id:Nat) (K:Exit->GS->Prop):Exit->GS->Prop
 | .exit id',s=>if id'=id then K .normal s else K (.exit id') s
 | e,s=>K e s

theorem Is {id:Nat} {c:Code} (h:GW P C n d ro c s (l8 id K)):GW P C n d ro (.block id c) s K:=by
 intro r a W hi;refine wpIn_block (wpIn_mono (h r a W hi) ?_);rintro e a' W' ⟨s',r',k,i⟩
 cases e with
 | exit id' =>
  simp only [Exit.inBlock,l8] at k |-;split
  ·rename_i h;rw [ag h] at k;exact ⟨s',r',k,i⟩
  ·rename_i h;rw [ae h] at k;exact ⟨s',r',k,i⟩
 | _=>exact ⟨s',r',k,i⟩

structure Weak (C:Ctx) (s s':GS):Prop where
 ts:∀ t,s'.ts t=fP\/(s'.ts t=s.ts t/\aL (dom s'.hp) (s'.ts t))
 hp:∀ k,100<=k->s'.hp k=none\/s'.hp k=s.hp k
 ids:∀ k b,s'.hp k=some b->b.ids (dom s'.hp)
 keep:∀ k,100<=k->dom C.hp0 k->s'.hp k=s.hp k
 glob:∀ k,k<100->s'.hp k=C.G k
 yc:s'.yc=s.yc
 free:∀ x,s'.B<=x->s'.hp x=none
 low:100<=s'.B

theorem GI.weak {r:dR} {a:Act} {W:World} {s':GS} (h:GI P C n d r s a W) (hw:Weak C s s'):GI P C n d r s' a W:=by
 have H4:∀ k,s'.hp k=none\/s'.hp k=s.hp k:=λk=>by
  by_cases hk:100<=k
  ·exact hw.hp k hk
  ·exact .inr ((hw.glob k zO).trans (h.ri.glob k zO).symm)
 have sub:∀ k,dom s'.hp k->dom s.hp k:=λk hk=>by
  rcases H4 k with h|h
  ·exact absurd h hk
  ·unfold dom at *;rwa [<-h]
 refine ⟨{ h.ri with rel:=λt=>?_,sat:=λk b hb=>?_,inj:=λk l hk hl=>h.ri.inj k l (sub k hk) (sub l hl),ext:=?_,keep:=λi hi=>?_,glob:=hw.glob,low:=λk hk hd=>h.ri.low k hk (sub k hd) },hw.free,hw.low,h.flat,h.rounds⟩
 ·rcases hw.ts t with e|⟨e,hi⟩
  ·exact .inl e
  ·rcases h.ri.rel t with e'|e'
   ·exact .inl (e.trans e')
   ·exact .inr ⟨by rw [e];exact e'.1,hi⟩
 ·rcases H4 k with e|e
  ·rw [e] at hb;cases hb
  ·exact ⟨(h.ri.sat k b (by rw [<-e];exact hb)).1,hw.ids k b hb⟩
 ·obtain ⟨S,ms,h1,h2,h3,h4⟩:=h.ri.ext;exact ⟨S,ms,by rw [hw.yc];exact h1,h2,λi hi=>h3 i (sub i hi),h4⟩
 ·have:=h.ri.keep i hi
  exact ⟨by unfold dom;rw [show s'.hp i=s.hp i by
   by_cases h1:100<=i
   ·exact hw.keep i h1 hi
   ·exact (hw.glob i zO).trans (h.ri.glob i zO).symm];exact this.1,this.2⟩

theorem H0 {c:Code} {s':GS} (hw:Weak C s s') (h:GW P C n d ro c s' K):GW P C n d ro c s K :=
 λr a W hi=>h r a W (hi.weak hw)

theorem aeR {c:Code} (I:Nat->GS->Prop) {m0:Nat} {s0:GS} (hw:Weak C s s0) (h0:I m0 s0)
  (round:∀ m s,I m s->GW P C n d ro c s (dY (λs'=>∃ vk m',Weak C s' vk/\I m' vk/\m'<m) K)):GW P C n d ro (.loop c) s K:=by
 have key:∀ (m:Nat) (s:GS),I m s->∀ r a W,GI P C n d r s a W->∀ (b:Frame) (k:List Item) (cs:List Frame),b.roundOf=ro ->
   (Fs P).fn b.fn->∃ e a' w',(∃ s' r',K e s'/\GI P C n d r' s' a' w')/\ArrivesIn (Machine.fenced P (Fw P ro)) P (lone (b.atR a (.code c::.inLoop c::k)) cs W) b k cs e a' w':=by
  intro m
  induction m using Nat.strongRecOn with
  | _ m ih =>
   intro s hI r a W hi b k cs Kv NF;obtain ⟨e,a₁,w₁,⟨s',r',hk,cS⟩,jf⟩:=round m s hI r a W hi b (.inLoop c::k) cs Kv NF (oR P _)
   cases e with
   | normal =>
    obtain ⟨vk,m',alQ,akW,dp⟩:=hk;obtain ⟨e₂,a₂,w₂,Vz,tR⟩:=ih m' dp vk akW r' a₁ w₁ (cS.weak alQ) b k cs Kv NF;exact yU
   | exit id=>exact ⟨_,a₁,w₁,⟨s',r',hk,cS⟩,.pass (x:=.inLoop c) rfl (λ_ _=>.inl zS) jf⟩
   | goto l=>exact ⟨_,a₁,w₁,⟨s',r',hk,cS⟩,.pass (x:=.inLoop c) rfl (λ_ _=>.inl zS) jf⟩
   | ret=>exact ⟨_,a₁,w₁,⟨s',r',hk,cS⟩,.pass (x:=.inLoop c) rfl (λ_ _=>.inl zS) jf⟩
   | panic ch=>exact ⟨_,a₁,w₁,⟨s',r',hk,cS⟩,.pass (x:=.inLoop c) rfl (λ_ _=>.inl zS) jf⟩
   | outgrown=>exact ⟨_,a₁,w₁,⟨s',r',hk,cS⟩,.pass (x:=.inLoop c) rfl (λ_ _=>.inl zS) jf⟩
 intro r a W hi b k cs Kv hb hr;exact Gj

theorem fD {c:Code} (N:Nat) (St:Nat->GS) (hw:Weak C s (St 0)) (round:∀ i,i<N->GW P C n d ro c (St i) (dY (λs'=>Weak C s' (St (i+1))) K))
  (last:GW P C n d ro c (St N) (dY (λ_=>False) K)):GW P C n d ro (.loop c) s K:=by
 refine aeR (m0:=N) (λm s=>∃ i,i+m=N/\s=St i) hw ⟨0,zO,rfl⟩ ?_;rintro m _ ⟨i,hi,rfl⟩
 cases m with
 | zero =>
  obtain rfl:i=N:=zO;refine gn last λe s h=>?_;cases e<;>first|exact h|exact h.elim
 | succ m =>
  refine gn (round i zO) λe s h=>?_;cases e<;>first|exact h|exact ⟨St (i+1),m,h,⟨i+1,zO,rfl⟩,zO⟩

theorem PY {b:Frame} {a:Act} {c:Code} {k:List Item} {cs:List Frame} {w:World}:step P (lone (b.atR a (.code (.scope c)::k)) cs w)=.next (lone (b.atR a (.code c::.inScope c::k)) cs w):=by
 exact step_lone_go (by simp [stepG,stepG.exec,Frame.atR])
theorem KQ {b:Frame} {a:Act} {c:Code} {k:List Item} {cs:List Frame} {w:World}:step P (lone (b.atR a (.inScope c::k)) cs w)=.next (lone (b.atR a k) cs w):=by
 exact step_lone_go (by simp [stepG,stepG.exec,Frame.atR])
def tY (l:Nat) (J:GS->Prop) (K:Exit->GS->Prop):Exit->GS->Prop
 | .goto l',s=>l'=l/\J s
 | e,s=>K e s
theorem Zv {c rest:Code} (l:Nat) (I:Nat->GS->Prop) (AM:findLabel c l=some rest) (first:GW P C n d ro c s (tY l (λs'=>∃ vk m',Weak C s' vk/\I m' vk) K))
  (pass:∀ m s,I m s->GW P C n d ro rest s (tY l (λs'=>∃ vk m',Weak C s' vk/\I m' vk/\m'<m) K)):GW P C n d ro (.scope c) s K:=by
 intro r a W hi b k cs Kv hb hr;have hg:gotoIn l (.inScope c::k)=some (.code rest::.inScope c::k):=by simp [gotoIn,AM]
 have sIn:∀ {a W},StepsIn (Machine.fenced P (Fw P ro)) P (lone (b.atR a (.inScope c::k)) cs W) (lone (b.atR a k) cs W):=λ{a W} =>
  .one (fenced_calm (F:=Fw P ro) (n:=0) hb (oR P _) rfl) KQ
 have s0:StepsIn (Machine.fenced P (Fw P ro)) P (lone (b.atR a (.code (.scope c)::k)) cs W) (lone (b.atR a (.code c::.inScope c::k)) cs W) :=
  .one (fenced_calm (F:=Fw P ro) (n:=0) hb (oR P _) rfl) PY
 have key:∀ (m:Nat) (s:GS),I m s->∀ r a W,GI P C n d r s a W ->
   ∃ e a' w',(∃ s' r',K e s'/\GI P C n d r' s' a' w')/\ArrivesIn (Machine.fenced P (Fw P ro)) P (lone (b.atR a (.code rest::.inScope c::k)) cs W) b k cs e a' w':=by
  intro m
  induction m using Nat.strongRecOn with
  | _ m ih =>
   intro s hI r a W hi;obtain ⟨e,a₁,w₁,⟨s',r',hk,cS⟩,jf⟩:=pass m s hI r a W hi b (.inScope c::k) cs Kv hb hr
   cases e with
   | normal=>exact ⟨.normal,a₁,w₁,⟨s',r',hk,cS⟩,ff jf sIn⟩
   | goto l' =>
    obtain ⟨rfl,vk,m',hw,Xp,dp⟩:=hk;obtain ⟨e₂,a₂,w₂,Vz,tR⟩:=ih m' dp vk Xp r' a₁ w₁ (cS.weak hw);exact ⟨e₂,a₂,w₂,Vz,.of_steps (jf.1 _ hg) tR⟩
   | exit id=>exact ⟨_,a₁,w₁,⟨s',r',hk,cS⟩,λk' hk=>jf.1 k' (by simp [exitTo,hk]),λKu hk=>jf.2 Ku (by simpa [exitTo] using hk)⟩
   | ret=>exact ⟨_,a₁,w₁,⟨s',r',hk,cS⟩,jf⟩
   | panic ch=>exact ⟨_,a₁,w₁,⟨s',r',hk,cS⟩,jf⟩
   | outgrown=>exact ⟨_,a₁,w₁,⟨s',r',hk,cS⟩,jf⟩
 obtain ⟨e,a₁,w₁,⟨s',r',hk,cS⟩,jf⟩:=first r a W hi b (.inScope c::k) cs Kv hb hr
 cases e with
 | normal=>exact ⟨.normal,a₁,w₁,⟨s',r',hk,cS⟩,ff s0 (ff jf sIn)⟩
 | goto l' =>
  obtain ⟨rfl,vk,m',hw,Xp⟩:=hk;obtain ⟨e₂,a₂,w₂,Vz,tR⟩:=key m' vk Xp r' a₁ w₁ (cS.weak hw);exact ⟨e₂,a₂,w₂,Vz,.of_steps (ff s0 (jf.1 _ hg)) tR⟩
 | exit id=>exact ⟨_,a₁,w₁,⟨s',r',hk,cS⟩,.of_steps s0 (e:=.exit id) ⟨λk' hk=>jf.1 k' (by simp [exitTo,hk]),λKu hk=>jf.2 Ku (by simpa [exitTo] using hk)⟩⟩
 | ret=>exact ⟨_,a₁,w₁,⟨s',r',hk,cS⟩,.of_steps s0 jf⟩
 | panic ch=>exact ⟨_,a₁,w₁,⟨s',r',hk,cS⟩,.of_steps s0 jf⟩
 | outgrown=>exact ⟨_,a₁,w₁,⟨s',r',hk,cS⟩,.of_steps s0 jf⟩

def r4 (l:og) (ts:fp):Nat->Value:=λt=>if l.any (λo=>o.dst==some t) then fP else ts t
theorem GI.panicked {l:og} {r r':dR} {a a':Act} {W W':World} {ov:fp} {eG:Hp} {Bw:Nat} (h0:GI P C n d r s a W) (hs:∀ k b,s.hp k=some b->eG k=some b) (Ah:∀ t,(∀ o∈l,o.dst≠some t)->ov t=s.ts t) (h:RI C n d r' ov eG Bw a' W') :
  GI P C n d r' ⟨r4 l s.ts,s.hp,s.B,Bw⟩ a' W':=by
 have sub:∀ k,dom s.hp k->dom eG k:=λk hk=>by
  unfold dom at *
  cases hb:s.hp k with
  | none=>exact absurd hb hk
  | some b=>rw [hs k b hb];simp
 exact ⟨{ h with
  rel:=λt=>by
   show (if l.any (λo=>o.dst==some t) then fP else s.ts t)=fP\/_
   cases hd:l.any (λo=>o.dst==some t) with
   | true=>exact .inl rfl
   | false =>
    have ht:=Ah t (λo ho e=>by
     have:=oV.1 hd o ho;rw [e] at this;simp at this)
    rcases h0.ri.rel t with e|e
    ·exact .inl e
    ·rcases h.rel t with e'|e'
     ·exact .inl (ht.symm.trans e')
     ·refine .inr ⟨?_,?_⟩
      ·rw [e'.1,ht];simp [r4,hd]
      ·simp only [r4,hd];exact e.2
  sat:=λk b hk=>⟨(h.sat k b (hs k b hk)).1,(h0.ri.sat k b hk).2⟩
  inj:=λk l hk hl=>h.inj k l (sub k hk) (sub l hl)
  ext:=by
   obtain ⟨S,ms,h1,h2,h3,h4⟩:=h.ext;exact ⟨S,ms,h1,h2,λi hi=>h3 i (sub i hi),h4⟩
  keep:=λi hi=>⟨(h0.ri.keep i hi).1,(h.keep i hi).2⟩
  glob:=h0.ri.glob
  low:=λk hk hd=>h.low k hk (sub k hd) },h0.free,h0.low,h0.flat,h0.rounds⟩

theorem aeO {id:Nat} {l:og} (pn:List FuncId) (hm:P.follows .mixedOrders=true) (hB:Region.lexFrom .any l.toArray l.length 0 (Array.replicate l.length false)=true) (jJ:(pW n l&&Av P l)=true)
  (h:∀ (Q:(Nat->Value)->Hp->Tr->Nat->Prop) (Qp:Value->Tr->Prop),(∀ ts hp tr yc,chk .any l.toArray tr=true->K .normal ⟨ts,hp,s.B+8*l.length,yc⟩->Q ts hp tr yc) ->
   (∀ pv tr,chk .any l.toArray tr=true->(∀ yc,K (.panic [{ v:=pv,recovered:=false }]) ⟨r4 l s.ts,s.hp,s.B,yc⟩)->Qp pv tr)->ph P C.G ⟨C.Y,pn,true⟩ l.toArray s.B Q Qp 0 l s.ts s.hp [] s.yc false false):GW P C n d ro (.region id l.toArray true) s K:=by
 intro r a W hi;simp only [bn] at jJ;replace h:=h (λts hp tr yc=>chk .any l.toArray tr=true/\K .normal ⟨ts,hp,s.B+8*l.length,yc⟩) (λpv tr=>chk .any l.toArray tr=true/\∀ yc,K (.panic [{ v:=pv,recovered:=false }]) ⟨r4 l s.ts,s.hp,s.B,yc⟩) (λ_ _ _ _ a b=>⟨a,b⟩) (λ_ _ a b=>⟨a,b⟩);have hw:=Al (P:=P) (G:=C.G) (V:=⟨C.Y,pn,true⟩) (base:=s.B) (K:=λts hp yc=>K .normal ⟨ts,hp,s.B+8*l.length,yc⟩) (Kp:=λpv=>∀ yc,K (.panic [{ v:=pv,recovered:=false }]) ⟨r4 l s.ts,s.hp,s.B,yc⟩) hi.flat hi.low rfl l 0 s.ts s.hp [] s.yc false false (λ_=>([],[])) hi.ri.glob sR (λ_=>.inl rfl) (λ_ _=>rfl) (uj jJ.2) h;refine PG (VQ hi.flat hi.rounds) M8 hm hB jJ.1 hi.ri hw ?_ ?_ ?_
 ·rintro s' hk oz r' a' W' cS;obtain ⟨hk,hf⟩:=hk.1 oz;exact ⟨⟨s'.ts,s'.hp,s.B+8*l.length,s'.yc⟩,r',hk,cS,by simpa using hf,by have:=hi.low;simp;omega,hi.flat,hi.rounds⟩
 ·intro s' pv hk oz _ r' a' W' ov eG Bw hs Ah cS;exact ⟨_,r',(hk.2 pv oz).2 Bw,hi.panicked hs Ah cS⟩
 ·intro s' hk oz
  cases hp:s'.pn with
  | none=>exact absurd hp oz
  | some pv=>exact (hk.2 pv hp).1

theorem qV {ops:Array Oper} {base:Nat} {pn:List FuncId} {Q:Exit->Act->World->Prop} {Kn:(Nat->Value)->Hp->Nat->Prop} {Kp:fQ} {hp0:Hp} {jK:fp} {l0:og} (eg:c7 C.G) (hR:∀ y,C.Y=some y->ux P C y) (hb:100<=base):∀ (l:og) (k:Nat) (ts:fp) (hp:Hp) (tr:Tr) (yc:Nat) (wr yd:Bool) (r:dR) (a:Act) (W:World),
  (∀ o∈l,(((∀ dd,o.dst=some dd->dd<n)/\∀ c,o.op≠.defer c)/\unC P o)/\o∈l0)->(∀ t,(∀ o∈l0,o.dst≠some t)->ts t=jK t)->RI C n d r ts hp yc a W->(∀ x,base+8*k<=x->hp x=none)->(wr=false->∀ k b,hp0 k=some b->hp k=some b) ->
  (∀ ts hp yc r a W,Kn ts hp yc->RI C n d r ts hp yc a W->(∀ x,base+8*(k+l.length)<=x->hp x=none)->Q .normal a W) ->
  (∀ pv ts hp yc r a W,Kp pv->(∀ k b,hp0 k=some b->hp k=some b)->(∀ t,(∀ o∈l0,o.dst≠some t)->ts t=jK t)->RI C n d r ts hp yc a W->Q (.panic [{ v:=pv,recovered:=false }]) a W) ->
  ph P C.G ⟨C.Y,pn,false⟩ ops base (λts hp _ yc=>Kn ts hp yc) (λpv _=>Kp pv) k l ts hp tr yc wr yd->wpListIn (Fw P ro) 0 P ops Q l a W
 | [],k,ts,hp,tr,yc,wr,yd,r,a,W,_,_,hi,hn,_,hQ,_,h=>hQ ts hp yc r a W h hi (by simpa using hn)
 | o::l,k,ts,hp,tr,yc,wr,yd,r,a,W,hd,Ah,hi,hn,hs0,hQ,xu,h=>by
  have hlen:k+(o::l).length=(k+1)+l.length:=aB;rw [hlen] at hQ;refine wpListIn_step λK hK=>?_;simp only [ph] at h
  cases hw:gp ops o ts with
  | none=>rw [hw] at h;exact h.elim
  | some b =>
   rw [hw] at h;rw [mB hi.rel hw]
   cases b with
   | true =>
    simp only at h;simp only [aV];obtain ⟨e,h1,hs,hyd,h3⟩:=ub eg hi.glob h
    have HU:(wr||!e.ws.isEmpty)=false->∀ k b,hp0 k=some b->bH hp (e.ws++e.ns) k=some b:=λCS k' b jR=>by
     exact Hc
    refine VQ eg hR o e ts hp yc r a W 0 _ _ hi (hd o zS).1.1 h1 (λx hx=>(hs.ws x hx).2) (λx hx=>?_) (λr' a' W' oz cS=>hK _ _ ?_) (λpv W' Bw oz cS=>?_)
    ·have:=hs.ns x hx;exact ⟨hn x zO,zO⟩
    ·rw [oz] at h3;refine qV eg hR hb l (k+1) _ _ _ _ _ _ r' a' W' (λo ho=>hd o (aD _ ho)) (λt ht=>(m8 (ht o (hd o zS).2)).trans (Ah t ht)) cS (λx hx=>?_) HU hQ xu h3;exact yp
    ·exact Eu
   | false =>
    simp only at h;simp only [kP,cw];exact ⟨M8 (Y:=none) o ts r _ a W hi.rel ⟨h.1,(hd o zS).1.2⟩,hK _ _ (qV eg hR hb l (k+1) _ _ _ _ _ _ r _ W (λo ho=>hd o (aD _ ho)) (λt ht=>(m8 (ht o (hd o zS).2)).trans (Ah t ht)) (hi.put_undef (hd o zS).1.1.1) (λx hx=>hn x zO) hs0 hQ xu h.2)⟩

theorem WE {id:Nat} {l:og} (pn:List FuncId) (jJ:(pW n l&&Av P l)=true) (h:∀ (Q:(Nat->Value)->Hp->Tr->Nat->Prop) (Qp:Value->Tr->Prop),(∀ ts hp tr yc,K .normal ⟨ts,hp,s.B+8*l.length,yc⟩->Q ts hp tr yc) ->
   (∀ pv tr,(∀ yc,K (.panic [{ v:=pv,recovered:=false }]) ⟨r4 l s.ts,s.hp,s.B,yc⟩)->Qp pv tr)->ph P C.G ⟨C.Y,pn,false⟩ l.toArray s.B Q Qp 0 l s.ts s.hp [] s.yc false false):GW P C n d ro (.region id l.toArray false) s K:=by
 intro r a W hi;simp only [bn] at jJ;replace h:=h (λts hp _ yc=>K .normal ⟨ts,hp,s.B+8*l.length,yc⟩) (λpv _=>∀ yc,K (.panic [{ v:=pv,recovered:=false }]) ⟨r4 l s.ts,s.hp,s.B,yc⟩) (λ_ _ _ _ a=>a) (λ_ _ a=>a);refine wpIn_region_lit (qV (Kn:=λts hp yc=>K .normal ⟨ts,hp,s.B+8*l.length,yc⟩) (Kp:=λpv=>∀ yc,K (.panic [{ v:=pv,recovered:=false }]) ⟨r4 l s.ts,s.hp,s.B,yc⟩) (hp0:=s.hp) (jK:=s.ts) (l0:=l) hi.flat hi.rounds hi.low l 0 s.ts s.hp [] s.yc false false r a W (λo ho=>⟨⟨qI jJ.1 ho,uj jJ.2 o ho⟩,ho⟩) (λ_ _=>rfl) hi.ri sR (λ_ _ _ h=>h) ?_ ?_ h)
 ·intro ts hp yc r' a' W' hk cS hf;exact ⟨⟨ts,hp,s.B+8*l.length,yc⟩,r',hk,cS,by simpa using hf,by have:=hi.low;simp;omega,hi.flat,hi.rounds⟩
 ·intro pv ts hp yc r' a' W' hk hs Ah cS;exact ⟨_,r',hk yc,hi.panicked hs Ah cS⟩

def Bi (P:Program) (ts:fp) (hp:Hp):ResultVar->Option Value
 | .tmp t=>if kz (ts t) then some (ts t) else none
 | .cell t T=>match ts t with
  | .pointer (some ⟨k,off,none⟩)=>match hp k with
   | some b=>match fB P T b off with
    | some v=>if kz v then some v else none
    | none=>none
   | none=>none
  | _=>none
def vg (P:Program) (ts:fp) (hp:Hp):List ResultVar->Option (List Value)
 | []=>some []
 | x::l=>match Bi P ts hp x with
  | some v=>match vg P ts hp l with
   | some vs=>some (v::vs)
   | none=>none
  | none=>none
def tB (P:Program) (rs:List ResultVar) (ts:fp) (hp:Hp):Option Value :=
 match vg P ts hp rs with
 | some [v]=>some v
 | some vs=>some (.tuple vs.toArray)
 | none=>none

def JW (tmps:ca):ResultVar->Sem Value
 | .tmp t=>pure (tmps.getD t undef)
 | .cell a t=>do loadVar t (<-asAddr (tmps.getD a undef))
theorem Ui (fn:Func) (tmps:ca):results fn tmps=(do let vs <-fn.results.mapM (JW tmps);pure (if h:vs.size=1 then vs[0] else .tuple vs)):=by
 unfold results;congr 2

theorem Yx {r:dR} {D:iH} {ts:fp} {hp:Hp} {a:Act} {W:World} (h:Rel r D ts a) (hs:Sat r D hp W) {x:ResultVar} {v:Value} (hv:Bi P ts hp x=some v) :
  (JW a.tmps x).run P W=.ok (ren r v) W/\kz v=true:=by
 cases x with
 | tmp t =>
  simp only [Bi] at hv;split at hv
  ·rename_i hn;cases hv;have:=(h t).resolve_left (by intro e;rw [e] at hn;simp [kz,fP] at hn);exact ⟨by simp only [JW,cK,this.1],hn⟩
  ·cases hv
 | cell t T =>
  simp only [Bi] at hv;split at hv
  ·rename_i k off hg;split at hv
   ·rename_i b hb;split at hv
    ·rename_i u hu;split at hv
     ·rename_i hn;cases hv;have h1:=(h t).resolve_left xH;rw [hg] at h1;have h3:a.tmps.getD t undef=.pointer (some ⟨r k,off,none⟩):=h1.1;refine ⟨?_,hn⟩;simp only [JW,h3,asAddr];have:=zY hu (hs k b hb).1;exact Rh
     ·cases hv
    ·cases hv
   ·cases hv
  ·cases hv

theorem LM {r:dR} {D:iH} {ts:fp} {hp:Hp} {a:Act} {W:World} (h:Rel r D ts a) (hs:Sat r D hp W):∀ (l:List ResultVar) (vs:List Value),vg P ts hp l=some vs ->
  (l.mapM (JW a.tmps)).run P W=.ok (vs.map (ren r)) W/\∀ v∈vs,kz v=true
 | [],vs,hv=>by simp only [vg,bf] at hv;subst hv;simp
 | x::l,vs,hv=>by
  simp only [vg] at hv;split at hv
  ·rename_i v h1;split at hv
   ·rename_i us h2;cases hv;have e1:=Yx h hs h1;have e2:=LM h hs l us h2;refine ⟨?_,λu hu=>?_⟩
    ·rw [List.mapM_cons,aX,e1.1];simp only [bJ,aX,e2.1,cK,bI]
    ·rcases aj.1 hu with rfl|hu
     ·exact e1.2
     ·exact e2.2 u hu
   ·cases hv
  ·cases hv

theorem Uh {r:dR} {v:Value} (h:kz v=true):ren r v=aW r v:=by cases v<;>simp_all [kz,ren]

theorem lW {fn:Func} {r:dR} {D:iH} {ts:fp} {hp:Hp} {a:Act} {W:World} (h:Rel r D ts a) (hs:Sat r D hp W) {v:Value} (hv:tB P fn.results.toList ts hp=some v):(results fn a.tmps).run P W=.ok (ren r v) W:=by
 unfold tB at hv
 have key:∀ vs,vg P ts hp fn.results.toList=some vs->(results fn a.tmps).run P W=.ok (if h:(vs.map (ren r)).toArray.size=1 then (vs.map (ren r)).toArray[0] else .tuple (vs.map (ren r)).toArray) W/\∀ v∈vs,kz v=true:=λvs hvs=>by
  have e:=LM h hs _ _ hvs;refine ⟨?_,e.2⟩;rw [Ui,Array.mapM_eq_mapM_toList];simp only [aX,Sem.run_map,e.1,bJ,cK]
 split at hv
 ·rename_i u hu;cases hv;have:=(key _ hu).1;exact Rh
 ·rename_i vs hn hu;cases hv;have e:=key _ hu;rw [e.1]
  have hlen:vs.length≠1:=λhl=>by
   match vs,hl with
   | [u],_=>exact hn u rfl
  rw [dif_neg (by simpa using hlen)];simp only [ren];congr 2;apply rh;simp only [j9];exact gK λv hv=>Uh (e.2 v hv)
 ·cases hv

theorem zd {n:Nat} {fn:Func} {tmps:ca} {R:Ending->World->Prop} {u:FrameMode} (hu:u≠.run):∀ (ms:List Nat) (W:World),ms.Nodup->(∀ D∈ms,W.heap[D]? = some (.deferred (some []))) ->
  (∀ W':World,W'.heap.size=W.heap.size->W'.os=W.os->W'.tape=W.tape->W'.output=W.output->(∀ k,k∉ms->W'.heap[k]? = W.heap[k]?)->LeavesIn (Fw P none) n P fn tmps R [] u W')->LeavesInM (Fw P none) n P fn tmps R (ms.map HX) u W
 | [],W,_,_,h=>h W rfl rfl rfl rfl λ_ _=>rfl
 | D::ms,W,hn,hd,h=>by
  have hD:=hd D zS;have Kt:=fu.1 hn;refine ⟨hu,.inl ⟨D,_,rfl,run_takeDeferred hD,zd hu ms _ Kt.2 (λE hE=>?_) λW' e1 e2 e3 e4 e5=>h W' ?_ e2 e3 e4 λk hk=>?_⟩⟩
  ·rw [eC (λe=>Kt.1 (by rw [<-e];exact hE))];exact hd E (aD _ hE)
  ·rw [e1,gO]
  ·simp only [aj,not_or] at hk;rw [e5 k hk.2,eC (λe=>hk.1 e)]

def jM (W:World) (D:iH):Ext where
 X _ S W':=(∀ k,S k↔k<W.heap.size/\¬D k)/\W'.os=W.os/\W'.tape=W.tape/\W'.output=W.output/\W.heap.size<=W'.heap.size/\∀ k,S k->W'.heap[k]? = W.heap[k]?
 ok _ _ _ _ h hs os tape output size:=⟨h.1,os.trans h.2.1,tape.trans h.2.2.1,output.trans h.2.2.2.1,ju h.2.2.2.2.1 size,λk hk=>(hs k hk).trans (h.2.2.2.2.2 k hk)⟩

def am8 (P:Program) (fn:Func) (hp:Hp) (res:Res) (e:Exit) (s:GS):Prop :=
 match res with
 | .ret v ws=>(e=.normal\/e=.ret)/\tB P fn.results.toList s.ts s.hp=some v/\∀ k,dom hp k->s.hp k=bH hp ws k
 | .pan v=>e=.panic [{ v:=v,recovered:=false }]/\∀ k,dom hp k->s.hp k=hp k
 | .new _ _=>False

theorem zm:∀ {ws:cf} {hp:Hp} {p:Nat×Blk},p∈ws->(∀ k b c,(k,b)∈ws->(k,c)∈ws->b=c)->bH hp ws p.1=some p.2:=λ{ws hp p} hp1 ho=>by
 have hd:dom (bH hp ws) p.1:=Bt.2 (.inr (aC.2 ⟨p,hp1,rfl⟩));unfold dom at hd
 cases hb:bH hp ws p.1 with
 | none=>exact absurd hb hd
 | some b =>
  rcases P8 hb with ⟨_,h2⟩|h2
  ·exact absurd (aC.2 ⟨p,hp1,rfl⟩) h2
  ·rw [ho p.1 b p.2 h2 hp1]

theorem wu {f:FuncId} {fn:Func} {c:Code} {args:ca} {hp:Hp} {rs:List Nat} {res:Res} {B:Nat} (eg:c7 G) (hG:∀ k,k<100->hp k=G k) (hf:P.funcs[f]? = some fn) (hb:fn.body=some c) (gC:∀ a w,(callFunc f a).run P w=.ok (.enter f a) w)
  (ha:∀ x∈args,aL (dom (rst hp rs)) x) (oM:∀ k b,rst hp rs k=some b->b.ids (dom (rst hp rs))) (eI:res.fits hp rs) (hn:args.size<=fn.ntmps) (hB:100<=B) (eU:∀ x,B<=x->rst hp rs x=none)
  (h:∀ C:Ctx,C.G=G->C.hp0=rst hp rs->C.Y=none->GW P C fn.ntmps [] none c ⟨λt=>args.getD t undef,rst hp rs,B,0⟩ (am8 P fn (rst hp rs) res)):Fun P G f args hp rs res:=by
 refine ⟨gC,ha,oM,eI,λr W kE jU jk bC=>callsIn_of_wp_marks hf hb ⟨fn,hf⟩ ?_⟩
 have RL:∀ k,dom (rst hp rs) k->r k<W.heap.size:=λk hk=>by
  exact yx
 let im:Nat->Prop:=λj=>∃ i,dom (rst hp rs) i/\r i=j;let C:Ctx:=⟨jM W im,rst hp rs,r,G,none⟩
 have hi:GI P C fn.ntmps [] r ⟨λt=>args.getD t undef,rst hp rs,B,0⟩ { tmps:=args.map (ren r)++Array.replicate (fn.ntmps - (args.map (ren r)).size) undef,defers:=[] } W:=by
  refine ⟨⟨aB,λt=>?_,jU,jk,⟨λk=>k<W.heap.size/\¬im k,[],⟨λ_=>gM,rfl,rfl,rfl,aA _,λ_ _=>rfl⟩,λk hk=>hk.1,λi hi _ hS=>hS.2 ⟨i,hi,rfl⟩,⟨rfl,jX⟩,zS⟩,
   λi hi=>⟨hi,rfl⟩,λk hk=>?_,bC⟩,eU,hB,eg,λy hy=>by cases hy⟩
  ·right
   exact Gc
  ·show rst hp rs k=G k;simp [rst,hk,hG k hk]
 refine wpIn_mono (h C rfl rfl rfl r _ W hi) ?_;rintro e a' W' ⟨s',r',Ae,cS⟩;obtain ⟨S,ms,⟨hS,os,tape,output,size,wH⟩,xR,ND,⟨vp,B4⟩,rX⟩:=cS.ri.ext;have pY:∀ i,dom (rst hp rs) i->dom s'.hp i/\r' i=r i:=cS.ri.keep;have agc:∀ b:Blk,b.ids (dom (rst hp rs))->b.obj r'=b.obj r:=λb hb=>Blk.obj_congr (λk hk=>(pY k hk).2) hb
 -- Ws blocks of Qh was there
 have old:∀ gS:World,(∀ k,k∉ms->gS.heap[k]? = W'.heap[k]?)->∀ k,k<W.heap.size->¬im k->gS.heap[k]? = W.heap[k]?:=λgS hW k hk hi=>by
  have dz:S k:=(hS k).2 ⟨hk,hi⟩;rw [hW k (λhm=>(rX k hm).2.1 dz)];exact wH k dz
 have mine:∀ gS:World,(∀ k,k∉ms->gS.heap[k]? = W'.heap[k]?)->∀ i b,s'.hp i=some b->gS.heap[r' i]? = some (b.obj r'):=λgS hW i b hb=>by
  exact xZ
 cases res with
 | ret v ws =>
  obtain ⟨he,hr,H4⟩:=Ae
  have dk:∀ gS:World,gS.heap.size=W'.heap.size->gS.os=W'.os->gS.tape=W'.tape->gS.output=W'.output->(∀ k,k∉ms->gS.heap[k]? = W'.heap[k]?) ->
    LeavesIn (Fw P none) 0 P fn a'.tmps ((Res.ret v ws).holds r (dom (rst hp rs)) W) [] .returning gS:=λgS e1 e2 e3 e4 e5=>by
   have tU:Sat r' (dom s'.hp) s'.hp gS:=λk b hk=>⟨mine gS e5 k b hk,(cS.ri.sat k b hk).2⟩
   have gU:=lW (fn:=fn) cS.ri.rel tU hr;rw [jQ (λk hk=>(pY k hk).2) eI.1] at gU;refine ⟨_,gU,rfl,?_⟩;refine ⟨e2.trans os,e3.trans tape,e4.trans output,sS,λk hk H6=>?_,λp hp1=>?_,zS,zS⟩
   ·by_cases jR:im k
    ·obtain ⟨i,ot,rfl⟩:=jR;have hiw:i∉ak ws:=λhm=>DH
     cases hb:rst hp rs i with
     | none=>exact absurd hb ot
     | some b =>
      have e:s'.hp i=some b:=by rw [H4 i ot,da hiw];exact hb
      exact Gd
    ·exact old gS e5 k hk jR
   ·simp only [eP] at hp1;have hk:=eI.2.1 p.1 (aC.2 ⟨p,hp1,rfl⟩);have hdm:dom (rst hp rs) p.1:=by unfold dom rst at *;simp [hk.1];exact hk.2.1
    have e:s'.hp p.1=some p.2:=by rw [H4 _ hdm];exact zm hp1 eI.2.2.1
    have:=mine gS e5 _ _ e;have kL:=eI.2.2.2 p hp1;rw [(pY _ hdm).2,agc _ kL] at this;exact ⟨this,Blk.ids_mono (λk hk=>.inl hk) kL⟩
  exact nO
 | new v ns=>exact Ae.elim
 | pan v =>
  obtain ⟨rfl,H4⟩:=Ae;show LeavesInM _ _ _ _ _ _ a'.defers _ _;rw [vp,eP];refine zd zS ms W' B4 (λD hD=>(rX D hD).1) λgS e1 e2 e3 e4 e5=>?_;refine ⟨rfl,e2.trans os,e3.trans tape,e4.trans output,sS,λk hk=>?_⟩;by_cases jR:im k
  ·obtain ⟨i,ot,rfl⟩:=jR
   cases hb:rst hp rs i with
   | none=>exact absurd hb ot
   | some b =>
    have e:s'.hp i=some b:=by rw [H4 i ot];exact hb
    exact Gd
  ·exact old gS e5 k hk jR

theorem zX (eg:c7 G) (rs:List Nat):rst G rs=G:=funext λk=>by
 unfold rst;split
 ·rfl
 ·rename_i hk
  cases hg:G k with
  | none=>rfl
  | some b=>exact absurd (.inl (eg k b hg).1) hk

theorem Vq (eg:c7 G) {W:World} (h:GOK G W):Sat id (dom G) G W:=λk b hk=>by
 obtain ⟨_,AM⟩:=eg k b hk;refine ⟨?_,Blk.flat_ids AM⟩;rw [id,h k b hk];exact yb

theorem Uj {f:FuncId} {args:ca} {v:Value} (eg:c7 G) (hv:bp v=true) (ha:∀ x∈args,bp x=true) (h:Fun P G f args G [] (.ret v [])):Ret P G f args v:=by
 refine ⟨hv,ha,h.enter,λW hW=>?_⟩;have gU:=h.run id W hW (by rw [zX eg];exact Vq eg hW) (λ_ _ _ _ e=>e) (λ_ _ _=>rfl);rw [fi (λx hx=>bS (ha x hx))] at gU;refine gU.mono λe W' ⟨he,ht⟩=>?_;rw [bS hv] at he;exact ⟨he,ht.os,ht.tape,ht.output,ht.size,λk hk=>ht.same k hk zS⟩

theorem aU {f:FuncId} {fn:Func} {c:Code} {args:ca} {v:Value} (eg:c7 G) (hf:P.funcs[f]? = some fn) (hb:fn.body=some c) (gC:∀ a w,(callFunc f a).run P w=.ok (.enter f a) w)
  (hv:bp v=true) (ha:∀ x∈args,bp x=true) (hn:args.size<=fn.ntmps)
  (h:∀ C:Ctx,C.G=G->C.hp0=G->C.Y=none->GW P C fn.ntmps [] none c ⟨λt=>args.getD t undef,G,200,0⟩ (λe s=>(e=.normal\/e=.ret)/\tB P fn.results.toList s.ts s.hp=some v)):Ret P G f args v:=by
 refine Uj eg hv ha (wu (B:=200) eg (λ_ _=>rfl) hf hb gC (λx hx=>bw (ha x hx)) (λk b hk=>?_) ⟨bw hv,ai,zS,zS⟩ hn zO (λx hx=>?_) λC h1 h2 h3=>?_)
 ·rw [zX eg] at hk |-;exact Blk.flat_ids ((eg k b hk).2)
 ·exact EM
 ·rw [zX eg] at h2 |-;intro r a W hi;refine wpIn_mono (h C h1 h2 h3 r a W hi) ?_;rintro e a' W' ⟨s',r',⟨he,hr⟩,cS⟩;refine ⟨s',r',⟨he,hr,λk hk=>?_⟩,cS⟩
  have dp:k<100:=by
   exact En
  simp only [bH];rw [cS.ri.glob k dp,h1]

theorem Bj {f:FuncId} {fn:Func} {c:Code} {args:ca} {oc:Out} (eg:c7 G) (hf:P.funcs[f]? = some fn) (hb:fn.body=some c) (gC:∀ a w,(callFunc f a).run P w=.ok (.enter f a) w)
  (hv:∀ v,oc=.ret v->bp v=true) (ha:∀ x∈args,bp x=true) (hn:args.size<=fn.ntmps)
  (h:∀ C:Ctx,C.G=G->C.hp0=G->C.Y=none->GW P C fn.ntmps [] none c ⟨λt=>args.getD t undef,G,200,0⟩ (λe s=>match oc with
   | .ret v=>(e=.normal\/e=.ret)/\tB P fn.results.toList s.ts s.hp=some v
   | .pan v=>e=.panic [{ v:=v,recovered:=false }])):BI P G f args oc:=by
 refine ⟨hv,ha,gC,λW hW=>?_⟩
 have low:∀ k,dom G k->k<100:=λk hk=>by
  exact En
 cases oc with
 | ret v =>
  have hr:=aU (v:=v) eg hf hb gC (hv v rfl) ha hn h;exact hr.2.2.2 W hW
 | pan v =>
  have axn:Fun P G f args G [] (.pan v):=by
   refine wu (B:=200) eg (λ_ _=>rfl) hf hb gC (λx hx=>bw (ha x hx)) (λk b hk=>?_) trivial hn zO (λx hx=>?_) λC h1 h2 h3=>?_
   ·rw [zX eg] at hk |-;exact Blk.flat_ids ((eg k b hk).2)
   ·exact EM
   ·rw [zX eg] at h2 |-;intro r a W hi;refine wpIn_mono (h C h1 h2 h3 r a W hi) ?_;rintro e a' W' ⟨s',r',he,cS⟩;exact ⟨s',r',⟨he,λk hk=>by rw [cS.ri.glob k (low k hk),h1]⟩,cS⟩
  have gU:=axn.run id W hW (by rw [zX eg];exact Vq eg hW) (λ_ _ _ _ e=>e) (λ_ _ _=>rfl);rw [fi (λx hx=>bS (ha x hx))] at gU;exact gU

theorem Ret.unique {f:FuncId} {args:ca} {v u:Value} (hW:∃ W,GOK G W) (hi:P.inits.idxOf? f=none) (h:Ret P G f args v) (h':Ret P G f args u):v=u:=by
 obtain ⟨W,hW⟩:=hW
 have mk:∀ {v:Value},Ret P G f args v->∃ k w',runN P k (lone (Frame.enter P f args .normal) [] W)=.ended (.done v) w':=λ{v} h=>by
  have:=(h.2.2.2 W hW).calls.mono (R':=λ| .returned x,_=>x=v|_,_=>False) (λe w' ⟨he,_⟩=>by subst he;rfl);obtain ⟨k,x,w',h1,h2⟩:=this.done hi;exact ⟨k,w',by rw [h1];cases h2;rfl⟩
 obtain ⟨k,w1,h1⟩:=mk h;obtain ⟨l,w2,h2⟩:=mk h'
 have more:∀ {k:Nat} {x:Value} {w:World},runN P k (lone (Frame.enter P f args .normal) [] W)=.ended (.done x) w->∀ m,runN P (k+m) (lone (Frame.enter P f args .normal) [] W)=.ended (.done x) w:=λ{k x w} hk m=>by
  rw [runN_add,hk]
 have e1:=more h1 l;have e2:=more h2 k;rw [Nat.add_comm] at e2;rw [e1] at e2;injection e2 with e2;injection e2

theorem ar {f:FuncId} {args:ca} {v:Value} {K:fQ} (hW:∃ W,GOK G W) (hi:P.inits.idxOf? f=none) (h:Ret P G f args v):bl P G f args K↔K v:=by
 refine ⟨λ⟨u,hu,hk⟩=>?_,λhk=>⟨v,.inl h,hk⟩⟩;rcases hu with hu|hu
 ·exact Ret.unique hW hi h hu▸hk
 ·have:=h.2.2.1 args default;rw [hu.2.2 default] at this;cases this
theorem SU {f:FuncId} {args:ca} {v:Value} {K:fQ} (h:aeX P f args v):bl P G f args K↔K v:=by
 refine ⟨λ⟨u,hu,hk⟩=>?_,λhk=>⟨v,.inr h,hk⟩⟩;rcases hu with hu|hu
 ·have:=hu.2.2.1 args default;rw [h.2.2 default] at this;cases this
 ·have:=hu.2.2 default;rw [h.2.2 default] at this;injection this with this;injection this with this;subst this;exact hk

end
theorem xI {p:Prop} (h:p:=by rw [e1];exact aA _):p:=h
theorem pt {p:Prop} (h:p:=by have:=MH k hk;omega):p:=h
theorem xi {p:Prop} (h:p:=by have:=(aO.1 (rX D hD).1).1;omega):p:=h
theorem pr {p:Prop} (h:p:=by have:=tH _ hc;omega):p:=h
theorem w9 {p:Prop} (h:p:=by have:=ma.ri.lt (sub i hd);omega):p:=h
theorem xG {p:Prop} (h:p:=by rw [ma.ri.size];exact H7 _ (by simpa using (Cv hp1).1)):p:=h
theorem xn {p:Prop} (h:p:=by simpa using (Cv hp1).2):p:=h
theorem nD {p:Prop} (h:p:=by rw [my]):p:=h
theorem Dk {p:Prop} (h:p:=by have:=Pf k hm;have:=CN k (MZ k hk);omega):p:=h
theorem Dc {p:Prop} (h:p:=by have:=Pf D hm;have:=CN D (NI D hD);omega):p:=h
theorem xD {p:Prop} (h:p:=by unfold dom;rw [mu hk];simp):p:=h
theorem EZ {p:Prop} (h:p:=by
 dsimp only;rw [arc];generalize hA:#[Value.func (.yield l) #[] #[]]++bF=A
 have hAi:∀ x∈A,aL (dom (rst hp rs)) x:=λx hx=>by
  rw [<-hA] at hx;rcases CF.1 hx with hx|hx
  ·simp at hx;subst hx;simp [aL,cQ,aI]
  ·exact (ha x hx).2
 by_cases ht:t<A.size
 ·have hm:A[t]∈A:=jV ht;have e:A.getD t undef=A[t]:=xF;rw [e];refine ⟨?_,hAi _ hm⟩;have:t<(A.map (ren r)).size:=by simpa using ht
  simp [CE this,ht]
 ·have e:A.getD t undef=undef:=by simp [fG (mF ht)]
  rw [e];refine ⟨?_,mY _⟩;rw [kI];simp only [jY];rw [vH xh,mN];split<;>rfl):p:=h
theorem GK {p:Prop} (h:p:=by
 refine ⟨⟨gi.ri.size,gi.ri.rel,λk b hk=>⟨(eC (λe=>gi.ri.not_loop BC ⟨k,iV,e⟩)).trans (gi.ri.sat k b hk).1,(gi.ri.sat k b hk).2⟩,gi.ri.inj,
  ⟨λk=>k<(V1.putObj l (.loop (rec .busy none))).heap.size/\¬D1 k,m1,⟨λ_=>gM,rfl,rfl,rfl,aA _,λ_ _=>rfl⟩,λk hk=>hk.1,λi hd _ hS=>hS.2 (.inl ⟨i,hd,rfl⟩),df1,λD hD=>⟨?_,(λhS=>hS.2 (.inr hD)),λh=>nomatch h⟩⟩,
  λi hd=>gi.ri.keep i hd,gi.ri.glob,gi.ri.low⟩,gi.free,gi.low,gi.flat,λy hy=>by cases hy⟩
 rw [eC (λe=>?_)]
 ·exact (GG D hD).1
 ·have:=(GG D hD).1;rw [e,BC] at this;cases this):p:=h
theorem EG {p:Prop} (h:p:=by
 rcases hD with h|h
 ·exact h
 ·have h2:=(GG k h).2.1;rw [Sn] at h2;obtain ⟨i,hd,e⟩:=bu λhc=>h2 ⟨hk,hc⟩;have h3:=(GG k h).1;by_cases nZ:100<=i
  ·have:dom s1.hp i/\r1 i=rc i:=gi.ri.keep i hd;exact ⟨i,this.1,this.2.trans e⟩
  ·have:dom s1.hp i/\r1 i=rc i:=gi.ri.keep i hd;exact ⟨i,this.1,this.2.trans e⟩):p:=h
theorem yS {p:Prop} (h:p:=by
 exact .inr ⟨h,by
  unfold dom at hd
  cases hb:hp2 i with
  | none=>exact absurd hb hd
  | some b=>have:=(aO.1 (q2.sat i b hb).1).1;rwa [sz] at this⟩):p:=h
theorem GQ {p:Prop} (h:p:=by
 by_cases hk:100<=i
 ·exact hw.hp i hk
 ·exact .inr ((hw.glob i zO).trans (ma.ri.glob i zO).symm)):p:=h
theorem FV {p:Prop} (h:p:=by
 have Ag:(#[Value.func (.yield l) #[] #[]]++bF.map (ren r)).size=(#[Value.func (.yield l) #[] #[]]++bF).size:=zS;have arc:#[Value.func (.yield l) #[] #[]]++bF.map (ren r)=(#[Value.func (.yield l) #[] #[]]++bF).map (ren r):=by simp [ren,aW,aw]
 refine ⟨⟨?_,λt=>?_,jU,jk,⟨S,[],hX,hS,λi hi h1=>nS i hi h1,⟨rfl,jX⟩,zS⟩,λi hi=>⟨hi,rfl⟩,λk hk=>?_,bC⟩,eU,hB,eg,λy hy=>by cases hy;exact ⟨hR,eX⟩⟩
 ·simp only [Cw,Cy,Ag];simp;omega
 ·right
  exact EZ
 ·show rst hp rs k=G k;simp [rst,hk,hG k hk]):p:=h
theorem xN {p:Prop} (h:p:=by
 rw [<-hy];exact E.ok _ _ _ _ yG (λk hk=>e5 k λhm=>(rX k hm).2.1 hk) e2 e3 e4 xI):p:=h
theorem ya {p:Prop} (h:p:=by
 have:=((ma.ri.rel t).resolve_left xH).1;rw [hg] at this;simpa [ren,aW,aw,Act.eval] using this):p:=h
theorem Ev {p:Prop} (h:p:=by
 rw [<-yn];have:=mU (W.alloc (.deferred (some []))) (.loop (rec .ready none));rwa [Cz] at this):p:=h
theorem yO {p:Prop} (h:p:=by
 have:=ma.ri.inj j i (nS j hj).2 hd e;exact this▸hj):p:=h
theorem xV {p:Prop} (h:p:=by
 obtain ⟨dp,AM⟩:=ma.flat k b hk;have hb:vx k=some b:=(h2 k dp).trans hk;have h9:=(h1 k b hb).1;rw [h3 k dp iv] at h9;rw [h9];rw [Blk.obj_flat (λx hx=>AM x hx)]):p:=h
theorem yB {p:Prop} (h:p:=by
 rcases wC with h|h
 ·exact h
 ·omega):p:=h
theorem yy {p:Prop} (h:p:=by
 refine ⟨⟨abL,?_,c8.sat,c8.inj,⟨λk=>k<V.heap.size/\¬im k,[],⟨λ_=>gM,rfl,rfl,rfl,aA _,λ_ _=>rfl⟩,λk hk=>hk.1,λi hd _ hS=>hS.2 ⟨i,hd,rfl⟩,⟨rfl,jX⟩,zS⟩,λi hd=>⟨hd,rfl⟩,c8.glob,c8.low⟩,Ts,hw.low,ma.flat,λy hy=>by cases hy⟩;rw [Q5];exact abI):p:=h
theorem Gk {p:Prop} (h:p:=by
 have vu:GI P C2 n [] r1 s1 a1 (V1.putObj l (.loop (rec .busy none))):=by
  exact GK
 refine wpIn_mono (pf C2 rfl rfl rfl r1 a1 _ vu) ?_;rintro e2 a2 V2 ⟨s2,r2,qx,RT⟩;refine dk e2 s2 r2 V1 V2 a1 a2 r1 s1.ts s1.hp s1.yc D1 (λk hk hD=>?_) (λhD=>?_) qx gi.ri RT
 ·exact EG
 ·rcases hD with h|h
  ·exact gi.ri.not_loop BC h
  ·have:=(GG l h).1;rw [BC] at this;cases this):p:=h
theorem Ge {p:Prop} (h:p:=by
 rcases q3 i hd with h|h
 ·exact yS
 ·exact .inl h):p:=h
theorem G5 {p:Prop} (h:p:=by
 have OF:l<V2.heap.size:=(aO.1 q1).1;refine λV' k1 k2 k3 k4 k5=>⟨q2.supp (S:=λk=>S k\/(V.heap.size<=k/\k<V2.heap.size)) (λk hk=>.inl (MZ k hk)) (λi hd=>?_) (λD hD=>.inl (NI D hD)) V' k1 k2 k3 k4 k5,(k1 l (.inl kl)).trans (kV OF),(k1 D0 (.inl kD)).trans RV⟩
 rcases q3 i hd with h|h
 ·exact yS
 ·exact .inl h):p:=h
theorem yf {p:Prop} (h:p:=by
 rw [sz];rcases hk with h|h
 ·exact iQ (CN k h) q4
 ·exact h.2):p:=h
theorem EW {p:Prop} (h:p:=by
 have h1:(YG.mk l xs N pn none).pan c=none:=by
  show (if c=N then pn else none)=none;rw [ae zO]
 have h2:(c != N)=true:=aB;rw [h1,h2];rfl):p:=h
theorem xX {p:Prop} (h:p:=by
 show (if c=c then pn else none)=pn;rw [ag rfl]):p:=h
theorem EE {p:Prop} (h:p:=by
 intro V' k1 k2 k3 k4 k5;obtain ⟨q1,q2⟩:=lR V' k1 k2 k3 k4 k5;refine ⟨q1,q2.2,λj' QZ=>?_⟩;rw [ho] at QZ;cases QZ;simpa [my] using q2):p:=h
theorem yQ {p:Prop} (h:p:=by
 cases e<;>simp only [fq,bf,reduceCtorEq] at ho
 ·subst ho;exact hR
 ·subst ho;exact hR
 ·subst ho;exact hR):p:=h
theorem yj {p:Prop} (h:p:=by
 simp only [resolve,Le];simp [go_sem,Act.eval]):p:=h
theorem yi {p:Prop} (h:p:=by
 simp [Target.leads] at Vs;subst Vs;exact CL (pT.enter #[] default)):p:=h
theorem yD {p:Prop} (h:p:=by
 unfold dom at *
 cases hb:rst s.hp rs k with
 | none=>exact absurd hb hk
 | some b=>rw [mu hb];simp):p:=h
theorem GP {p:Prop} (h:p:=by
 have dk:=run_endLoop (P:=P) hl (by rw [my];exact Af);refine ⟨by rw [my] at dk |-;exact dk,?_⟩;have dp:l<V.heap.size:=(aO.1 hl).1;have szV:∀ ob,(V.putObj l ob).heap.size=V.heap.size:=λob=>gO _ _ _
 refine ⟨⟨ma.ri.size,c8.ri,λk b hk=>⟨(eC (λe=>?_)).trans (c8.sat k b hk).1,(c8.sat k b hk).2⟩,c8.inj,
  ⟨So,D0::ms,C.E.ok _ _ _ _ c8.X (λk hk=>eC (λe=>pt)) rfl rfl rfl (by rw [szV];exact aA _),λk hk=>by rw [szV];have:=MH k hk;omega,c8.sep,⟨by simp [vp],fu.2 ⟨λhm=>?_,B4⟩⟩,λD zJ=>?_⟩,
  c8.keep,c8.glob,c8.low⟩,eU,Tm,ma.flat,ma.rounds⟩
 ·have:=(c8.sat k b hk).1;rw [e,hl] at this;exact (Blk.obj_loop this).elim
 ·have:=(aO.1 (rX D0 hm).1).1;omega
 ·rcases aj.1 zJ with rfl|zJ
  ·exact ⟨(eC zO).trans hD,(λhS=>by have:=MH _ hS;omega),QO⟩
  ·exact ⟨(eC (λe=>by have:=c8.mks D zJ;rw [e,hl] at this;cases this)).trans (c8.mks D zJ),(rX D zJ).2⟩):p:=h
theorem Gi {p:Prop} (h:p:=by
 rcases ho with ⟨_,ho⟩|⟨pv,h1,_⟩
 ·cases KL:fq e with
  | none=>rw [KL] at ho;cases ho
  | some j =>
   obtain ⟨f1,f2⟩:=Te .done (some j) rc ou BE zS eU Tm c8 (th j KL);refine ⟨some j,_,f1,?_⟩;cases e<;>simp only [fq,bf,reduceCtorEq] at KL
   ·subst KL;exact wpIn_exit ⟨_,rc,hk,f2⟩
   ·subst KL;exact wpIn_goto ⟨_,rc,hk,f2⟩
   ·subst KL;exact wpIn_ret ⟨_,rc,hk,f2⟩
 ·cases h1):p:=h
theorem yq {p:Prop} (h:p:=by
 refine ⟨i,?_,h1,rfl⟩;unfold dom rst at hd;split at hd
 ·rename_i h;exact h.resolve_left zO
 ·exact absurd rfl hd):p:=h
abbrev Cw := @Array.size_append
abbrev Cy := @Array.size_replicate
abbrev CF := @Array.mem_append
abbrev bu := @Classical.byContradiction
abbrev gJ := @Array.getElem?_setIfInBounds
abbrev Cz := @Go.World.size_alloc
abbrev fX := @Nat.zero_le
abbrev mD := @List.mem_of_getElem?
abbrev Cv := @List.of_mem_zip
abbrev vQ := @Array.toList_zip
abbrev mK := @List.getElem?_eq_some_iff
abbrev l6 := Exit -> GS -> Prop

section
variable {P:Program} {G:Hp}

theorem qG.of_none {E:Ext} {y:YG} (hs:y.sh=none) (h:∀ c x S W,GOK G W->y.xs[c]? = some x->c<=y.stop->E.X c S W->(∀ k,S k->k<W.heap.size) ->
  YieldAt (Fs P) 0 P y.l x W λe W'=>(match y.pan c with|none=>e=.returned (.bool (c != y.stop))|some pv=>e=.panicked [{ v:=pv,recovered:=false }])/\GOK G W'/\W.heap.size<=W'.heap.size/\(∀ k,k<W.heap.size->¬S k->W'.heap[k]? = W.heap[k]?) /\
   ∃ S',E.X (c+1) S' W'/\(∀ k,S' k->k<W'.heap.size)/\∀ k,S' k->k<W.heap.size->S k):qG P G E y:=by
 intro c x S W h1 h2 h3 h4 h5 _;obtain ⟨fn,tmps,assign,body,hy,hr⟩:=h c x S W h1 h2 h3 h4 h5;refine ⟨fn,tmps,assign,body,hy,RoundIn.mono hr ?_⟩;rintro e W' ⟨a1,a2,a3,a4,a5⟩;exact ⟨a1,a2,a3,λk hk hS _=>a4 k hk hS,by unfold YG.has;rw [hs];trivial,a5⟩
structure IterX (pn:Option Value) (P:Program) (G:Hp) (f:FuncId) (bF:ca) (hp:Hp) (rs:List Nat) (xs:List (Array Value)):Prop where
 enter:∀ a w,(callFunc f a).run P w=.ok (.enter f a) w
 cids:∀ x∈bF,eh x=true/\aL (dom (rst hp rs)) x
 closed:∀ k b,rst hp rs k=some b->b.ids (dom (rst hp rs))
 run:∀ (E:Ext) (l stop:Nat) r S W,GOK G W->Sat r (dom (rst hp rs)) (rst hp rs) W->Inj r (dom (rst hp rs))->(∀ k,k<100->dom (rst hp rs) k->r k=k)->(pn≠none->stop<xs.length)->qG P G E ⟨l,xs,stop,pn,none⟩->E.X 0 S W->(∀ k,S k->k<W.heap.size) ->
  (∀ i,dom (rst hp rs) i->100<=i->¬S (r i)) ->
  l7 P f (#[Value.func (.yield l) #[] #[]]++bF.map (ren r)) W λe W'=>match pn with
   | none=>(∃ v,e=.returned v)/\∃ S',E.X (min (stop+1) xs.length) S' W'
   | some pv=>e=.panicked [{ v:=pv,recovered:=false }]/\∃ c S',E.X c S' W'
abbrev q9 (P:Program) (G:Hp) (f:FuncId) (bF:ca) (hp:Hp) (rs:List Nat) (xs:List (Array Value)):Prop:=IterX none P G f bF hp rs xs
theorem abZ (pn:Option Value) {f:FuncId} {fn:Func} {c:Code} {bF:ca} {hp:Hp} {rs:List Nat} {xs:List (Array Value)} {B:Nat} {v:Value} (eg:c7 G) (hG:∀ k,k<100->hp k=G k) (hf:P.funcs[f]? = some fn) (hb:fn.body=some c) (gC:∀ a w,(callFunc f a).run P w=.ok (.enter f a) w)
  (ha:∀ x∈bF,eh x=true/\aL (dom (rst hp rs)) x) (oM:∀ k b,rst hp rs k=some b->b.ids (dom (rst hp rs))) (hn:bF.size+1<=fn.ntmps) (hB:100<=B) (eU:∀ x,B<=x->rst hp rs x=none)
  (h:∀ (C:Ctx) (l stop:Nat),C.G=G->C.hp0=rst hp rs->(pn≠none->stop<xs.length)->C.Y=some ⟨l,xs,stop,pn,none⟩->GW P C fn.ntmps [] none c ⟨λt=>(#[Value.func (.yield l) #[] #[]]++bF).getD t undef,rst hp rs,B,0⟩
   (λe s=>match pn with
    | none=>(e=.normal\/e=.ret)/\tB P fn.results.toList s.ts s.hp=some v/\s.yc=min (stop+1) xs.length
    | some pv=>e=.panic [{ v:=pv,recovered:=false }])):IterX pn P G f bF hp rs xs:=by
 refine ⟨gC,ha,oM,λE l stop r S W kE jU jk bC hlen hR hX hS nS=>callsIn_of_wp_marks hf hb ⟨fn,hf⟩ ?_⟩;let C:Ctx:=⟨E,rst hp rs,r,G,some ⟨l,xs,stop,pn,none⟩⟩
 have hi:GI P C fn.ntmps [] r ⟨λt=>(#[Value.func (.yield l) #[] #[]]++bF).getD t undef,rst hp rs,B,0⟩
   { tmps:=(#[Value.func (.yield l) #[] #[]]++bF.map (ren r))++Array.replicate (fn.ntmps - (#[Value.func (.yield l) #[] #[]]++bF.map (ren r)).size) undef,defers:=[] } W:=by
  exact FV
 refine wpIn_mono (h C l stop rfl rfl hlen rfl r _ W hi) ?_;rintro e a' W' ⟨s',r',Ae,cS⟩;obtain ⟨S',ms,yG,xR,ND,⟨vp,B4⟩,rX⟩:=cS.ri.ext
 cases pn with
 | none =>
  obtain ⟨he,hr,hy⟩:=Ae
  have dk:∀ gS:World,gS.heap.size=W'.heap.size->gS.os=W'.os->gS.tape=W'.tape->gS.output=W'.output->(∀ k,k∉ms->gS.heap[k]? = W'.heap[k]?) ->
    LeavesIn (Fw P none) 0 P fn a'.tmps (λe W'=>(∃ v,e=.returned v)/\∃ S',E.X (min (stop+1) xs.length) S' W') [] .returning gS:=λgS e1 e2 e3 e4 e5=>by
   have tU:Sat r' (dom s'.hp) s'.hp gS:=λk b hk=>⟨by
    rw [e5 _ (λhm=>cS.ri.ne_mark iV (rX _ hm).1 rfl)];exact (cS.ri.sat k b hk).1,(cS.ri.sat k b hk).2⟩
   refine ⟨_,lW (fn:=fn) cS.ri.rel tU hr,⟨_,rfl⟩,S',?_⟩;exact xN
  exact nO
 | some pv =>
  subst Ae;show LeavesInM _ _ _ _ _ _ a'.defers _ _;rw [vp,eP];refine zd zS ms W' B4 (λD hD=>(rX D hD).1) λgS e1 e2 e3 e4 e5=>?_;exact ⟨rfl,_,S',E.ok _ _ _ _ yG (λk hk=>e5 k λhm=>(rX k hm).2.1 hk) e2 e3 e4 xI⟩
theorem MW {f:FuncId} {fn:Func} {c:Code} {bF:ca} {hp:Hp} {rs:List Nat} {xs:List (Array Value)} {B:Nat} {v:Value} (eg:c7 G) (hG:∀ k,k<100->hp k=G k) (hf:P.funcs[f]? = some fn) (hb:fn.body=some c) (gC:∀ a w,(callFunc f a).run P w=.ok (.enter f a) w)
  (ha:∀ x∈bF,eh x=true/\aL (dom (rst hp rs)) x) (oM:∀ k b,rst hp rs k=some b->b.ids (dom (rst hp rs))) (hn:bF.size+1<=fn.ntmps) (hB:100<=B) (eU:∀ x,B<=x->rst hp rs x=none)
  (h:∀ (C:Ctx) (l stop:Nat),C.G=G->C.hp0=rst hp rs->C.Y=some ⟨l,xs,stop,none,none⟩->GW P C fn.ntmps [] none c ⟨λt=>(#[Value.func (.yield l) #[] #[]]++bF).getD t undef,rst hp rs,B,0⟩
   (λe s=>(e=.normal\/e=.ret)/\tB P fn.results.toList s.ts s.hp=some v/\s.yc=min (stop+1) xs.length)):q9 P G f bF hp rs xs :=
 abZ none (v:=v) eg hG hf hb gC ha oM hn hB eU λC l stop h1 h2 _ h3=>h C l stop h1 h2 h3
def bG (ps:List Tmp) (x:List Value) (ts:fp):Nat->Value:=(ps.zip x).foldl (λts p=>upd ts p.1 p.2) ts

def fq:Exit->Option Code
 | .ret=>some .ret
 | .exit id=>some (.exit id)
 | .goto l=>some (.goto l)
 | _=>none

variable {C:Ctx} {n:Nat} {d:List Deferred} {s:GS} {K:l6}

theorem Weak.ctx {C C':Ctx} {s s':GS} (h:C.hp0=C'.hp0) (hG:C.G=C'.G) (hw:Weak C s s'):Weak C' s s':=⟨hw.ts,hw.hp,hw.ids,by rw [<-h];exact hw.keep,by rw [<-hG];exact hw.glob,hw.yc,hw.free,hw.low⟩

def uy (S:iH) (W:World) (Φ:World->Prop):Prop :=
 ∀ W':World,(∀ k,S k->W'.heap[k]? = W.heap[k]?)->W'.os=W.os->W'.tape=W.tape->W'.output=W.output->W.heap.size<=W'.heap.size->Φ W'
theorem uy.trans {S S':iH} {W W':World} {Φ:World->Prop} (h:uy S W Φ) (hs:∀ k,S k->S' k) (h1:∀ k,S k->W'.heap[k]? = W.heap[k]?) (h2:W'.os=W.os) (h3:W'.tape=W.tape) (h4:W'.output=W.output) (h5:W.heap.size<=W'.heap.size):uy S' W' Φ :=
 λgS k1 k2 k3 k4 k5=>h gS (λk hk=>(k1 k (hs k hk)).trans (h1 k hk)) (k2.trans h2) (k3.trans h3) (k4.trans h4) (ju h5 k5)
theorem uy.here {S:iH} {W:World} {Φ:World->Prop} (h:uy S W Φ):Φ W:=h W (λ_ _=>rfl) rfl rfl rfl (aA _)

structure Own0 (C:Ctx) (d:List Deferred) (So:iH) (ms:List Nat) (yc:Nat) (a:Act) (r:dR) (ts:fp) (hp:Hp) (V:World):Prop where
 ri:Rel r (dom hp) ts a
 sat:Sat r (dom hp) hp V
 inj:Inj r (dom hp)
 X:C.E.X yc So V
 sep:∀ i,dom hp i->100<=i->¬So (r i)
 mks:∀ D∈ms,V.heap[D]? = some (.deferred (some []))
 keep:∀ i,dom C.hp0 i->dom hp i/\r i=C.r0 i
 glob:∀ k,k<100->hp k=C.G k
 low:∀ k,k<100->dom hp k->r k=k

theorem Own0.supp {So:iH} {ms:List Nat} {yc:Nat} {a:Act} {r:dR} {ts:fp} {hp:Hp} {V:World} {S:iH} (h:Own0 C d So ms yc a r ts hp V) (h1:∀ k,So k->S k) (h2:∀ i,dom hp i->S (r i)) (h3:∀ D∈ms,S D):uy S V (Own0 C d So ms yc a r ts hp) :=
 λW' k1 k2 k3 k4 k5=>⟨h.ri,λk b hk=>⟨(k1 _ (h2 k iV)).trans (h.sat k b hk).1,(h.sat k b hk).2⟩,h.inj,C.E.ok _ _ _ _ h.X (λk hk=>k1 k (h1 k hk)) k2 k3 k4 k5,h.sep,λD hD=>(k1 D (h3 D hD)).trans (h.mks D hD),h.keep,h.glob,h.low⟩

theorem qL:∀ (l:List (Tmp×Value)) (A:ca),(l.foldl (λt (p:Tmp×Value)=>t.setIfInBounds p.1 p.2) A).size=A.size
 | [],_=>rfl
 | p::l,A=>by rw [o6,qL l];simp

theorem JY {r:dR} {D:iH}:∀ (l:List (Tmp×Value)) (ts:fp) (A:ca),(∀ p∈l,p.1<A.size/\bp p.2=true)->Rel r D ts { tmps:=A,defers:=[] } ->
  Rel r D (l.foldl (λts p=>upd ts p.1 p.2) ts) { tmps:=l.foldl (λt (p:Tmp×Value)=>t.setIfInBounds p.1 p.2) A,defers:=[] }
 | [],_,_,_,h=>h
 | p::l,ts,A,hl,h=>by
  have hp:=hl p zS;refine JY l (upd ts p.1 p.2) (A.setIfInBounds p.1 p.2) (λq hq=>by simpa using hl q (aD _ hq)) ?_;have:=h.put (dst:=some p.1) (λd hd=>by cases hd;exact hp.1) (bw (D:=D) hp.2);rw [bS hp.2] at this;exact this

def imO (r:dR) (hp:Hp):Nat->Prop:=λj=>∃ i,dom hp i/\r i=j

theorem RI.not_loop {C:Ctx} {r:dR} {ts:fp} {hp:Hp} {yc:Nat} {a:Act} {V:World} (h:RI C n d r ts hp yc a V) {l:Nat} {L:Loop} (hl:V.heap[l]? = some (.loop L)):¬imO r hp l:=by
 rintro ⟨i,hd,rfl⟩;unfold dom at hd
 cases hb:hp i with
 | none=>exact hd hb
 | some b=>have:=(h.sat i b hb).1;rw [hl] at this;exact (Blk.obj_loop this).elim

theorem Ch {d0:List Deferred} {So S:iH} {ms:List Nat} {yc y1 y2 n0:Nat} {a a1 a2:Act} {V V1 V2:World} {rc r1 r2:dR} {gw ts1 ts2:fp} {vx hp1 hp2:Hp} {l:Nat} {L0 L1 L2:Loop} (eg:c7 C.G)
  (c8:Own0 C d0 So ms yc a rc gw vx V) (To:¬So l) (CN:∀ k,S k->k<V.heap.size) (MZ:∀ k,So k->S k) (NI:∀ D∈ms,S D) (qj:∀ i,dom vx i->S (rc i)) (hl:V.heap[l]? = some (.loop L0))
  (BD:RI ⟨jM V (imO rc vx),vx,rc,C.G,none⟩ n0 [] r1 ts1 hp1 y1 a1 V1)
  {D1:iH} (I8:∀ k,k<V.heap.size->D1 k->imO r1 hp1 k) (tz:¬D1 l) (Nm:RI ⟨jM (V1.putObj l (.loop L1)) D1,vx,rc,C.G,none⟩ n0 [] r2 ts2 hp2 y2 a2 V2) :
  V1.heap[l]? = some (.loop L0)/\V2.heap[l]? = some (.loop L1)/\Own0 C d0 So ms yc a r2 gw hp2 (V2.putObj l (.loop L2))/\(∀ i,dom hp2 i->V.heap.size<=r2 i\/S (r2 i))/\V.heap.size<=V2.heap.size /\
   (∀ k,k<V.heap.size->¬imO rc vx k->k≠l->(V2.putObj l (.loop L2)).heap[k]? = V.heap[k]?)/\GOK C.G (V2.putObj l (.loop L2)):=by
 obtain ⟨T1,m1,⟨Sn,os1,tp1,ou1,sz1,RN⟩,ak1,Yz,_,_⟩:=BD.ext;obtain ⟨T2,m2,⟨Rz,os2,tp2,ou2,sz2,sm2⟩,awZ,as4,_,_⟩:=Nm.ext;have hlV:l<V.heap.size:=(aO.1 hl).1
 have hl0:¬imO rc vx l:=by
  rintro ⟨i,hd,rfl⟩;unfold dom at hd
  cases hb:vx i with
  | none=>exact hd hb
  | some b=>have:=(c8.sat i b hb).1;rw [hl] at this;exact (Blk.obj_loop this).elim
 have BC:V1.heap[l]? = some (.loop L0):=(RN l ((Sn l).2 ⟨hlV,hl0⟩)).trans hl;have aDi:¬imO r1 hp1 l:=BD.not_loop BC;have KJ:l<V1.heap.size:=(aO.1 BC).1;have szp:(V1.putObj l (.loop L1)).heap.size=V1.heap.size:=gO _ _ _;have uH:V2.heap[l]? = some (.loop L1):=(sm2 l ((Rz l).2 ⟨by rw [szp];exact KJ,tz⟩)).trans (kV KJ);have size:V.heap.size<=V2.heap.size:=by rw [szp] at sz2;omega
 have g1:∀ k,k<100->hp1 k=C.G k:=BD.glob;have g2:∀ k,k<100->hp2 k=C.G k:=Nm.glob;have gc:=c8.glob;have eqd:∀ {h h':Hp} {k:Nat},h k=h' k->dom h k->dom h' k:=λ{h h' k} e hd=>by unfold dom at *;rw [<-e];exact hd
 -- an old place of a new state is an old place of an old state
 have im1:∀ k,k<V.heap.size->imO r1 hp1 k->imO rc vx k:=λk hk ⟨i,hd,e⟩=>by
  by_cases h1:100<=i
  ·have:=Yz i hd h1;rw [Sn,e] at this;exact bu λhc=>this ⟨hk,hc⟩
  ·have vc:dom vx i:=eqd ((g1 i zO).trans (gc i zO).symm) hd;exact ⟨i,vc,by rw [<-e,BD.low i zO hd,c8.low i zO vc]⟩
 have im2:∀ k,k<V.heap.size->imO r2 hp2 k->imO rc vx k:=λk hk ⟨i,hd,e⟩=>by
  by_cases h1:100<=i
  ·have:=as4 i hd h1;rw [Rz,e,szp] at this;exact im1 k hk (I8 k hk (bu λhc=>this ⟨zO,hc⟩))
  ·have vc:dom vx i:=eqd ((g2 i zO).trans (gc i zO).symm) hd;exact ⟨i,vc,by rw [<-e,Nm.low i zO hd,c8.low i zO vc]⟩
 have VJ:∀ i,dom vx i->dom hp2 i/\r2 i=rc i:=Nm.keep
 have old:∀ i,dom hp2 i->r2 i<V.heap.size->dom vx i/\r2 i=rc i:=λi hd dp=>by
  obtain ⟨q,hq,e⟩:=im2 _ dp ⟨i,hd,rfl⟩;have:=VJ q hq;have e2:q=i:=Nm.inj q i this.1 hd (this.2.trans e);subst e2;exact ⟨hq,this.2⟩
 have frame:∀ k,k<V.heap.size->¬imO rc vx k->k≠l->(V2.putObj l (.loop L2)).heap[k]? = V.heap[k]?:=λk hk hi cW=>by
  rw [eC cW,sm2 k ((Rz k).2 ⟨by rw [szp];omega,λhc=>hi (im1 k hk (I8 k hk hc))⟩),eC cW,RN k ((Sn k).2 ⟨hk,hi⟩)]
 have as1:Sat r2 (dom hp2) hp2 (V2.putObj l (.loop L2)):=λk b hk=>by
  have h:=Nm.sat k b hk;exact ⟨(eC (λe=>Nm.not_loop uH ⟨k,iV,e⟩)).trans h.1,h.2⟩
 have gok:∀ {r:dR} {h:Hp} {W:World},Sat r (dom h) h W->(∀ k,k<100->h k=C.G k)->(∀ k,k<100->dom h k->r k=k)->GOK C.G W:=λ{r h W} h1 h2 h3 k b hk=>by
  obtain ⟨dp,AM⟩:=eg k b hk;have hb:h k=some b:=(h2 k dp).trans hk;have h9:=(h1 k b hb).1;rw [h3 k dp iv] at h9;rw [h9];exact yb
 have aqj:=gok as1 g2 Nm.low;have awE:=gok c8.sat gc c8.low;refine ⟨BC,uH,⟨c8.ri.mono (λk hk=>(VJ k hk).1) (λk hk=>(VJ k hk).2),as1,Nm.inj,?_,λi hd h1 hS=>?_,λD hD=>?_,λi hi=>?_,g2,Nm.low⟩,λi hd=>?_,size,frame,aqj⟩
 ·refine C.E.ok _ _ _ _ c8.X (λk hk=>?_) (os2.trans os1) (tp2.trans tp1) (ou2.trans ou1) (by rw [gO];exact size);by_cases hi:imO rc vx k
  ·obtain ⟨i,hd,rfl⟩:=hi;by_cases h1:100<=i
   ·exact absurd hk (c8.sep i hd h1)
   ·have e:=c8.low i zO hd;rw [e];have hg:C.G i≠none:=by rw [<-gc i zO];exact hd
    cases hb:C.G i with
    | none=>exact absurd hb hg
    | some b=>rw [aqj i b hb,awE i b hb]
  ·by_cases hkl:k=l
   ·exact absurd (hkl▸hk) To
   ·exact frame k (CN k (MZ k hk)) hi hkl
 ·have dp:=CN _ (MZ _ hS);have:=old i hd dp;exact c8.sep i this.1 h1 (this.2▸hS)
 ·have QH:=c8.mks D hD;rw [frame D (CN D (NI D hD)) (λ⟨i,hd,e⟩=>?_) (λe=>by rw [e,hl] at QH;cases QH)]
  ·exact QH
  ·unfold dom at hd
   cases hb:vx i with
   | none=>exact hd hb
   | some b=>have:=(c8.sat i b hb).1;rw [e,QH] at this;exact (Blk.obj_def this).elim
 ·have:=c8.keep i hi;have k2:=VJ i this.1;exact ⟨k2.1,k2.2.trans this.2⟩
 ·by_cases dp:r2 i<V.heap.size
  ·have:=old i hd dp;exact .inr (by rw [this.2];exact qj i this.1)
  ·exact .inl zO

theorem Ya {W:World} {l:Nat} {ob:Obj} (h:W.heap[l]? = some ob):W.putObj l ob=W:=by
 unfold World.putObj;congr 1;apply gI;intro i;rw [gJ];split
 ·rename_i e;subst e;rw [h];obtain ⟨dp,_⟩:=aO.1 h;simp [dp]
 ·rfl

def mA (F:Fence) (m:Nat) (P:Program) (fn:Func) (l:Nat) (R:Ending->World->Prop):Exit->Act->World->Prop
 | .panic chain,a,w=>LeavesInM F m P fn a.tmps (λe w'=>(∃ ch,e=.panicked ch)/\R e w') a.defers (.panicking chain) w
 | e,a,w=>roundPost P l R e a w
theorem oF {F:Fence} {m:Nat} {l:Nat} {f:FuncId} {fn:Func} {tmps:ca} {assign body:Code} {w:World} {R:Ending->World->Prop} (hF:F.fn f) (NF:P.funcs[f]? = some fn)
  (h:assign.wpIn (F.inRound l) m P (Exit.then (λa₁ w₁=>∃ w₂,(Instr.beginRound l).run P w₁=.ok () w₂/\body.wpIn (F.inRound l) m P (mA F m P fn l R) a₁ w₂) (λ_ _ _=>False))
   { tmps:=tmps,defers:=[] } w) :
  RoundIn F m P l f tmps assign body w R:=by
 refine ⟨hF,λc cs hr=>?_⟩;let b:Frame:={ (default:Frame) with fn:=f,kind:=.normal,roundOf:=some l }
 have kF:Frame.round l f tmps assign body .normal=b.atR { tmps:=tmps,defers:=[] } [.code assign,.beginRound,.code body]:=by
  simp [Frame.round,Frame.atR,b]
 have Ku:(F.inRound l).room ((c::cs).length+1+m):=hr;have Rr:(F.inRound l).fn b.fn:=hF;obtain ⟨e,a₁,w₁,hq,jf⟩:=h b [.beginRound,.code body] (c::cs) rfl Rr Ku;rw [<-kF] at jf
 cases e with
 | normal =>
  obtain ⟨w₂,QS,aqD⟩:=hq
  have s1:StepsIn (Machine.fenced P (F.inRound l)) P (lone (b.atR a₁ [.beginRound,.code body]) (c::cs) w₁) (lone (b.atR a₁ [.code body]) (c::cs) w₂) :=
   .one (fenced_calm (fr:=b.atR a₁ [.beginRound,.code body]) Rr Ku rfl) (stepR_beginRound rfl QS)
  obtain ⟨e₂,a₂,w₃,Vz,tR⟩:=aqD b [] (c::cs) rfl Rr Ku
  cases e₂ with
  | normal =>
   obtain ⟨v,w₄,dk,hR⟩:=Vz;exact ⟨.returned v,w₄,hR,(ff jf s1).trans (ff tR (.one (fenced_calm (fr:=b.atR a₂ []) Rr Ku rfl) (stepR_round_end rfl rfl dk)))⟩
  | ret =>
   obtain ⟨v,w₄,dk,hR⟩:=Vz;obtain ⟨k₁,hs⟩:=tR.2 rfl;exact ⟨.returned v,w₄,hR,(ff jf s1).trans (ff hs (.one (fenced_calm (fr:=b.atR a₂ (.code .ret::k₁)) Rr Ku rfl) (stepR_round_ret rfl rfl dk)))⟩
  | exit id =>
   obtain ⟨v,w₄,dk,hR⟩:=Vz;obtain ⟨k₁,hk,hs⟩:=tR.2 rfl rfl;exact ⟨.returned v,w₄,hR,(ff jf s1).trans (ff hs (.one (fenced_calm (fr:=b.atR a₂ (.code (.exit id)::k₁)) Rr Ku rfl) (stepR_round_exit rfl rfl hk dk)))⟩
  | goto t =>
   obtain ⟨v,w₄,dk,hR⟩:=Vz;obtain ⟨k₁,hk,hs⟩:=tR.2 rfl rfl;exact ⟨.returned v,w₄,hR,(ff jf s1).trans (ff hs (.one (fenced_calm (fr:=b.atR a₂ (.code (.goto t)::k₁)) Rr Ku rfl) (stepR_round_goto rfl rfl hk dk)))⟩
  | panic chain =>
   obtain ⟨todo,hs⟩:=tR;obtain ⟨e',w₄,fr',⟨⟨ch,rfl⟩,hR⟩,pZ,axm,hl⟩:=leaves_stepsInM a₂.defers (.panicking chain) w₃ { b.atR a₂ todo with mode:=.panicking chain } (c::cs) rfl rfl rfl NF rfl hF hr Vz;refine ⟨.panicked ch,w₄,hR,(ff jf s1).trans (ff hs (ff pZ (.one (fenced_leaving (n:=m) (axm▸hF) hr hl) (step_leave_panicked hl))))⟩
  | outgrown=>exact Vz.elim
 | exit id=>exact hq.elim
 | goto t=>exact hq.elim
 | ret=>exact hq.elim
 | panic chain=>exact hq.elim
 | outgrown=>exact hq.elim

theorem WD (pn:Option Value) {t:Tmp} {ps:Array Tmp} {assign body:Code} {f:FuncId} {bF:ca} {rs:List Nat} {xs:List (Array Value)} (hg:s.ts t=.func (.func f) #[] bF) (pT:IterX pn P C.G f bF s.hp rs xs)
  (zE:∀ x∈xs,x.size=ps.size/\∀ v∈x,bp v=true) (H7:∀ p∈ps,p<n) (gw:fp) (hp:Nat->Hp) (B:Nat) (N:Nat) (hN:N<=xs.length)
  (hw:Weak C s ⟨gw,hp 0,B,s.yc⟩) (nS:∀ k∈rs,hp 0 k=none/\dom s.hp k) (zC:∀ i,i<=N->∀ t,aL (dom (hp i)) (gw t))
  (rounds:∀ i x,i<N->xs[i]? = some x->∀ (C1:Ctx) (l:Nat),C1.G=C.G->C1.hp0=hp i->C1.Y=none->GW P C1 n [] (some l) assign ⟨bG ps.toList x.toList gw,hp i,B,0⟩
   (dY (λs1=>∀ C2:Ctx,C2.G=C.G->C2.hp0=hp i->C2.Y=none->GW P C2 n [] (some l) body s1 (dY (λs2=>Weak C1 s2 ⟨λ_=>fP,hp (i+1),B,s2.yc⟩) (λ_ _=>False))) (λ_ _=>False)))
  (fin:match pn with
   | none=>(N=xs.length/\K .normal ⟨gw,hp N,B,s.yc⟩)\/∃ x,xs[N]? = some x/\∀ (C1:Ctx) (l:Nat),C1.G=C.G->C1.hp0=hp N->C1.Y=none->GW P C1 n [] (some l) assign ⟨bG ps.toList x.toList gw,hp N,B,0⟩
    (dY (λs1=>∀ C2:Ctx,C2.G=C.G->C2.hp0=hp N->C2.Y=none->GW P C2 n [] (some l) body s1 (λe s2=>(fq e).isSome=true/\(∀ t,aL (dom s2.hp) (gw t))/\K e ⟨gw,s2.hp,s2.B,s.yc⟩)) (λ_ _=>False))
   | some pv=>(∀ c,c<=N->K (.panic [{ v:=pv,recovered:=false }]) ⟨gw,hp c,B,s.yc⟩)/\∃ x,xs[N]? = some x/\∀ (C1:Ctx) (l:Nat),C1.G=C.G->C1.hp0=hp N->C1.Y=none->GW P C1 n [] (some l) assign ⟨bG ps.toList x.toList gw,hp N,B,0⟩
    (dY (λs1=>∀ C2:Ctx,C2.G=C.G->C2.hp0=hp N->C2.Y=none->GW P C2 n [] (some l) body s1 (λe s2=>e=.panic [{ v:=pv,recovered:=false }]/\(∀ t,aL (dom s2.hp) (gw t))/\K e ⟨gw,s2.hp,s2.B,s.yc⟩)) (λ_ _=>False))) (QO:C.Y≠some .still:=by first|assumption|(intro h;simp_all [YG.still])) :
  GW P C n d none (.rangeFunc (.tmp t) ps assign body) s K:=by
 intro r a W ma;have hi:=ma.weak hw;obtain ⟨So,ms,Y8,MH,Jj,⟨vp,B4⟩,rX⟩:=ma.ri.ext
 have Le:a.eval (.tmp t)=.func (.func f) #[] (bF.map (aF r)):=by
  exact ya
 have eK:bF.map (aF r)=bF.map (ren r):=bY λx hx=>(kA (pT.cids x hx).1).symm;rw [eK] at Le;refine wpIn_rangeFunc ?_;rintro fn ⟨bR,Ox⟩;obtain ⟨rec,my⟩:∃ rec:LoopState->Option Code->Loop,rec=λst pe=>{ state:=st,pending:=pe,fn,tmps:=a.tmps,params:=ps,assign,body,defers:=W.heap.size }:=⟨_,rfl⟩
 obtain ⟨W1,yn⟩:∃ W1,(W.alloc (.deferred (some []))).alloc (.loop (rec .ready none))=W1:=⟨_,rfl⟩
 have QK:W1.heap[W.heap.size+1]? = some (.loop (rec .ready none)):=by
  exact Ev
 have Qr:W1.heap[W.heap.size]? = some (.deferred (some [])):=by
  rw [<-yn];exact (rG _ _ _ zS).trans (mU W _)
 have arv:W1.heap.size=W.heap.size+2:=by rw [<-yn];simp
 have lY:Below W.heap.size W W1:=by
  rw [<-yn];exact (((mG _ W).alloc (aA _) _).alloc zS _)
 let l:=W.heap.size+1;let D0:=W.heap.size;let zv:Nat->Prop:=λj=>∃ i,i∈rs/\100<=i/\r i=j
 -- Qh is said U6 two rounds
 let Lv:LoopState->Option Code->World->Prop:=λst pe V=>V.heap[l]? = some (.loop (rec st pe))/\V.heap[D0]? = some (.deferred (some []))
 let XX:Nat->(Nat->Prop)->World->Prop:=λc S V=>(∀ k,So k->S k)/\(∀ D∈ms,S D)/\S l/\S D0 /\
  ((c<=N/\(∀ x,B<=x->hp c x=none)/\∃ rc,(∀ i,dom (hp c) i->S (rc i))/\uy S V (λV'=>Own0 C d So ms s.yc a rc gw (hp c) V'/\Lv .ready none V')) \/
  (c=N+1/\∃ e ou BE rc,((pn=none/\(fq e).isSome=true)\/∃ pv,pn=some pv/\e=.panic [{ v:=pv,recovered:=false }])/\K e ⟨gw,ou,BE,s.yc⟩/\(∀ x,BE<=x->ou x=none)/\100<=BE/\(∀ i,dom ou i->S (rc i))/\uy S V (λV'=>Own0 C d So ms s.yc a rc gw ou V'/\V'.heap[D0]? = some (.deferred (some []))/\∀ j,fq e=some j->Lv .done (some j) V')))
 let E:Ext:=⟨XX,λc S V V' h hs os tape output size=>⟨h.1,h.2.1,h.2.2.1,h.2.2.2.1,h.2.2.2.2.imp (λ⟨hc,hf,rc,h1,h2⟩=>⟨hc,hf,rc,h1,h2.trans (λ_ h=>h) hs os tape output size⟩)
  (λ⟨hc,e,ou,BE,rc,h1,h2,h3,h4,h5,h6⟩=>⟨hc,e,ou,BE,rc,h1,h2,h3,h4,h5,h6.trans (λ_ h=>h) hs os tape output size⟩)⟩⟩
 have sub:∀ i,dom (hp 0) i->dom s.hp i:=λi hd=>by
  have H4:hp 0 i=none\/hp 0 i=s.hp i:=by
   exact GQ
  rcases H4 with e|e
  ·exact absurd e hd
  ·have e:hp 0 i=s.hp i:=e;unfold dom at *;rw [<-e];exact hd
 have Ao:Own0 C d So ms s.yc a r gw (hp 0) W1:=⟨hi.ri.rel,λk b hk=>⟨(lY.block _ (hi.ri.lt (k:=k) (by unfold dom;show hp 0 k≠none;rw [hk];simp))).trans (hi.ri.sat k b hk).1,(hi.ri.sat k b hk).2⟩,hi.ri.inj,
  C.E.ok _ _ _ _ Y8 (λk hk=>lY.block k (MH k hk)) lY.os lY.tape lY.output lY.size,λi hd h1=>Jj i (sub i hd) h1,
  λD hD=>(lY.block D (aO.1 (rX D hD).1).1).trans (rX D hD).1,hi.ri.keep,hi.ri.glob,hi.ri.low⟩
 have OU:∀ i,dom s.hp i->zv (r i)->i∈rs:=λi hd ⟨j,hj,_,e⟩=>by
  exact yO
 let S1:Nat->Prop:=λk=>k<W1.heap.size/\¬zv k;have tH:∀ k,zv k->k<W.heap.size:=λk ⟨i,ot,_,e⟩=>e▸ma.ri.lt (nS i ot).2;have PR:∀ k,So k->S1 k:=λk hk=>⟨pt,λ⟨i,ot,h1,e⟩=>Jj i (nS i ot).2 h1 (e▸hk)⟩
 have PT:∀ D∈ms,S1 D:=λD hD=>⟨xi,λ⟨i,ot,_,e⟩=>ma.ri.ne_mark (nS i ot).2 (rX D hD).1 e⟩
 have Rc:S1 l:=⟨zO,λhc=>pr⟩
 have Rb:S1 D0:=⟨zO,λhc=>pr⟩
 have PS:∀ i,dom (hp 0) i->S1 (r i):=λi hd=>⟨w9,λhc=>hd (nS i (OU i (sub i hd) hc)).1⟩
 have X0:XX 0 S1 W1:=⟨PR,PT,Rc,Rb,.inl ⟨fX _,hw.free,r,PS,λV k1 k2 k3 k4 k5=>⟨Ao.supp PR PS PT V k1 k2 k3 k4 k5,(k1 l Rc).trans QK,(k1 D0 Rb).trans Qr⟩⟩⟩
 have Oo:∀ {rc:dR} {vx:Hp} {V:World},Sat rc (dom vx) vx V->(∀ k,k<100->vx k=C.G k)->(∀ k,k<100->dom vx k->rc k=k)->GOK C.G V:=λ{rc vx V} h1 h2 h3 k b hk=>by
  exact xV
 -- one round
 have wG:qG P C.G E ⟨l,xs,N,pn,none⟩:=by
  refine qG.of_none rfl ?_;intro c x S V kE hx hc hXc CN;obtain ⟨MZ,NI,kl,kD,wC⟩:=hXc;have hcN:c<=N:=hc
  obtain ⟨qX,Ts,rc,qj,ml⟩:c<=N/\(∀ x,B<=x->hp c x=none)/\∃ rc,(∀ i,dom (hp c) i->S (rc i))/\uy S V (λV'=>Own0 C d So ms s.yc a rc gw (hp c) V'/\Lv .ready none V'):=by
   exact yB
  obtain ⟨c8,hl,hD⟩:=ml.here;have Q7:=zE x (mD hx);have hy:=run_yield (P:=P) (args:=x) hl (by rw [my];exact Q7.1);rw [my] at hy;refine ⟨fn,_,assign,body,hy,oF ⟨bR,Ox⟩ Ox ?_⟩;have abI:=JY (r:=rc) (D:=dom (hp c)) (ps.toList.zip x.toList) gw a.tmps (λp hp1=>⟨xG,Q7.2 _ xn⟩) c8.ri
  have Q5:(ps.zip x).foldl (λt (p:Tmp×Value)=>t.setIfInBounds p.1 p.2) a.tmps=(ps.toList.zip x.toList).foldl (λt (p:Tmp×Value)=>t.setIfInBounds p.1 p.2) a.tmps:=by
   rw [<-re,vQ]
  have abL:((ps.zip x).foldl (λt (p:Tmp×Value)=>t.setIfInBounds p.1 p.2) a.tmps).size=n:=by
   rw [Q5,qL,ma.ri.size]
  let im:Nat->Prop:=imO rc (hp c)
  let RR:Ending->World->Prop:=λe W'=>(match (YG.mk l xs N pn none).pan c with|none=>e=.returned (.bool (c != N))|some pv=>e=.panicked [{ v:=pv,recovered:=false }])/\GOK C.G W'/\V.heap.size<=W'.heap.size/\(∀ k,k<V.heap.size->¬S k->W'.heap[k]? = V.heap[k]?) /\
      ∃ S',XX (c+1) S' W'/\(∀ k,S' k->k<W'.heap.size)/\∀ k,S' k->k<V.heap.size->S k
  -- Ws assignment to Ws acd LV
  let C1:Ctx:=⟨jM V im,hp c,rc,C.G,none⟩
  have ltV:∀ i,dom (hp c) i->rc i<V.heap.size:=λi hd=>CN _ (qj i hd)
  have Sd:GI P C1 n [] rc ⟨bG ps.toList x.toList gw,hp c,B,0⟩ { tmps:=(ps.zip x).foldl (λt (p:Tmp×Value)=>t.setIfInBounds p.1 p.2) a.tmps,defers:=[] } V:=by
   exact yy
  have To:¬So l:=λh=>by have:=MH _ h;omega
  -- a Nn frame,from its assignment on
  have both:∀ (Kb:l6),GW P C1 n [] (some l) assign ⟨bG ps.toList x.toList gw,hp c,B,0⟩ (dY (λs1=>∀ C2:Ctx,C2.G=C.G->C2.hp0=hp c->C2.Y=none->GW P C2 n [] (some l) body s1 Kb) (λ_ _=>False)) ->
    (∀ e s2 (r2:dR) (V1 V2:World) (a1 a2:Act) (r1:dR) (ts1:fp) (hp1:Hp) (y1:Nat) (D1:iH),(∀ k,k<V.heap.size->D1 k->imO r1 hp1 k)->¬D1 l->Kb e s2->RI ⟨jM V im,hp c,rc,C.G,none⟩ n [] r1 ts1 hp1 y1 a1 V1 ->
     GI P ⟨jM (V1.putObj l (.loop (rec .busy none))) D1,hp c,rc,C.G,none⟩ n [] r2 s2 a2 V2->mA (Fs P) 0 P bR l RR e a2 V2) ->
    assign.wpIn ((Fs P).inRound l) 0 P (Exit.then (λa₁ w₁=>∃ w₂,(Instr.beginRound l).run P w₁=.ok () w₂/\body.wpIn ((Fs P).inRound l) 0 P (mA (Fs P) 0 P bR l RR) a₁ w₂) (λ_ _ _=>False))
     { tmps:=(ps.zip x).foldl (λt (p:Tmp×Value)=>t.setIfInBounds p.1 p.2) a.tmps,defers:=[] } V:=λKb hgw dk=>by
   refine wpIn_mono (hgw rc _ V Sd) ?_;rintro e a1 V1 ⟨s1,r1,pf,gi⟩
   cases e with
   | normal =>
    obtain ⟨T1,m1,⟨Sn,os1,tp1,ou1,sz1,RN⟩,ak1,Yz,df1,GG⟩:=gi.ri.ext
    have BC:V1.heap[l]? = some (.loop (rec .ready none)):=by
     rw [RN l ((Sn l).2 ⟨CN l kl,?_⟩)]
     ·exact hl
     ·rintro ⟨i,hd,e⟩;unfold dom at hd
      cases hb:hp c i with
      | none=>exact hd hb
      | some b=>have:=(c8.sat i b hb).1;rw [e,hl] at this;exact (Blk.obj_loop this).elim
    refine ⟨_,run_beginRound BC nD,?_⟩;have Ez:{ rec .ready none with state:=.busy }=rec .busy none:=nD;rw [Ez];have KJ:l<V1.heap.size:=(aO.1 BC).1;let D1:Nat->Prop:=λk=>imO r1 s1.hp k\/k∈m1;let C2:Ctx:=⟨jM (V1.putObj l (.loop (rec .busy none))) D1,hp c,rc,C.G,none⟩
    exact Gk
   | _=>exact pf.elim
  -- Qh a round leaves,put P6
  have post:∀ (st:LoopState) (pe:Option Code) (r2:dR) (V1 V2:World) (a1 a2:Act) (r1:dR) (ts1 ts2:fp) (hp1 hp2:Hp) (y1 y2:Nat) (D1:iH),(∀ k,k<V.heap.size->D1 k->imO r1 hp1 k)->¬D1 l->RI ⟨jM V im,hp c,rc,C.G,none⟩ n [] r1 ts1 hp1 y1 a1 V1 ->
    RI ⟨jM (V1.putObj l (.loop (rec .busy none))) D1,hp c,rc,C.G,none⟩ n [] r2 ts2 hp2 y2 a2 V2 ->
    V2.heap[l]? = some (.loop (rec .busy none))/\GOK C.G (V2.putObj l (.loop (rec st pe)))/\V.heap.size<=(V2.putObj l (.loop (rec st pe))).heap.size/\(∀ k,k<V.heap.size->¬S k->(V2.putObj l (.loop (rec st pe))).heap[k]? = V.heap[k]?) /\
    ∃ S':Nat->Prop,(∀ k,So k->S' k)/\(∀ D∈ms,S' D)/\S' l/\S' D0/\(∀ i,dom hp2 i->S' (r2 i))/\uy S' (V2.putObj l (.loop (rec st pe))) (λV'=>Own0 C d So ms s.yc a r2 gw hp2 V'/\Lv st pe V') /\
     (∀ k,S' k->k<(V2.putObj l (.loop (rec st pe))).heap.size)/\∀ k,S' k->k<V.heap.size->S k:=λst pe r2 V1 V2 a1 a2 r1 ts1 ts2 hp1 hp2 y1 y2 D1 I8 tz BD Nm=>by
   obtain ⟨_,q1,q2,q3,q4,q5,q6⟩:=Ch (L2:=rec st pe) ma.flat c8 To CN MZ NI qj hl BD I8 tz Nm;have sz:(V2.putObj l (.loop (rec st pe))).heap.size=V2.heap.size:=gO _ _ _;have abC:∀ k,¬S k->¬imO rc (hp c) k:=λk hk ⟨i,hd,e⟩=>hk (e▸qj i hd);refine ⟨q1,q6,by rw [sz];exact q4,λk hk MO=>q5 k hk (abC k MO) (λe=>MO (e▸kl)),λk=>S k\/(V.heap.size<=k/\k<V2.heap.size),λk hk=>.inl (MZ k hk),λD hD=>.inl (NI D hD),.inl kl,.inl kD,λi hd=>?_,?_,λk hk=>?_,λk hk dp=>?_⟩
   ·exact Ge
   ·have RV:(V2.putObj l (.loop (rec st pe))).heap[D0]? = some (.deferred (some [])):=by
     rw [q5 D0 (CN D0 kD) (λ⟨i,vc,e⟩=>by
      unfold dom at vc
      cases hb:hp c i with
      | none=>exact vc hb
      | some b=>have:=(c8.sat i b hb).1;rw [e,hD] at this;exact (Blk.obj_def this).elim) zO]
     exact hD
    exact G5
   ·exact yf
   ·exact hk.resolve_right zO
  by_cases QT:c<N
  ·refine both _ (rounds c x QT hx C1 l rfl rfl rfl) ?_;intro e s2 r2 V1 V2 a1 a2 r1 ts1 hp1 y1 D1 I8 tz hk BD vu
   cases e with
   | normal =>
    have RT:=vu.weak (Weak.ctx (C:=C1) rfl rfl hk);obtain ⟨p1,p2,p3,p4,S',p5,p6,p7,p8,p9,lR,lZ,m7⟩:=post .ready none r2 V1 V2 a1 a2 r1 ts1 _ hp1 _ y1 _ D1 I8 tz BD RT.ri;have dk:=run_endRound (P:=P) none p1;rw [my] at dk p2 p3 p4 lR lZ;refine ⟨_,_,dk,?_,p2,p3,p4,S',⟨p5,p6,p7,p8,.inl ⟨QT,RT.free,r2,p9,?_⟩⟩,lZ,m7⟩
    ·exact EW
    ·simpa [my] using lR
   | _=>exact hk.elim
  ·obtain rfl:c=N:=zO
   have Ll:(YG.mk l xs c pn none).pan c=pn:=by
    exact xX
   cases pn with
   | none =>
    rcases fin with ⟨e,_⟩|⟨x',qy,Ad⟩
    ·obtain ⟨h9,_⟩:=mK.1 hx;have h9:c<xs.length:=h9;omega
    ·have hx:xs[c]? = some x:=hx;rw [hx] at qy;cases qy;refine both _ (Ad C1 l rfl rfl rfl) ?_;intro e s2 r2 V1 V2 a1 a2 r1 ts1 hp1 y1 D1 I8 tz hk BD vu;obtain ⟨pf,qx,Ks⟩:=hk
     cases ho:fq e with
     | none=>rw [ho] at pf;cases pf
     | some j =>
      obtain ⟨p1,p2,p3,p4,S',p5,p6,p7,p8,p9,lR,lZ,m7⟩:=post .done (some j) r2 V1 V2 a1 a2 r1 ts1 _ hp1 _ y1 _ D1 I8 tz BD vu.ri;have dk:=run_endRound (P:=P) (some j) p1;rw [my] at dk p2 p3 p4 lR lZ
      have hR:∃ v w',(Instr.endRound l (some j)).run P V2=.ok v w'/\RR (.returned v) w':=by
       refine ⟨_,_,dk,?_,p2,p3,p4,S',⟨p5,p6,p7,p8,.inr ⟨rfl,e,s2.hp,s2.B,r2,.inl ⟨rfl,pf⟩,Ks,vu.free,vu.low,p9,?_⟩⟩,lZ,m7⟩
       ·rw [Ll];simp
       ·exact EE
      exact yQ
   | some pv =>
    obtain ⟨_,x',qy,Ad⟩:=fin;have hx:xs[c]? = some x:=hx;rw [hx] at qy;cases qy;refine both _ (Ad C1 l rfl rfl rfl) ?_;intro e s2 r2 V1 V2 a1 a2 r1 ts1 hp1 y1 D1 I8 tz hk BD vu;obtain ⟨rfl,qx,Ks⟩:=hk;obtain ⟨p1,p2,p3,p4,S',p5,p6,p7,p8,p9,lR,lZ,m7⟩:=post .busy none r2 V1 V2 a1 a2 r1 ts1 _ hp1 _ y1 _ D1 I8 tz BD vu.ri;have kL:V2.putObj l (.loop (rec .busy none))=V2:=Ya p1;rw [kL] at p2 p3 p4 lR lZ;obtain ⟨T2,m2,⟨Rz,os2,tp2,ou2,sz2,sm2⟩,awZ,as4,⟨df2,nd2⟩,QF⟩:=vu.ri.ext
    have lt1:V.heap.size<=(V1.putObj l (.loop (rec .busy none))).heap.size:=by
     rw [gO];obtain ⟨_,_,⟨_,_,_,_,z1,_⟩,_⟩:=BD.ext;exact z1
    -- a HX of Ws Nn own lies behind Qh was there
    have Pf:∀ D∈m2,V.heap.size<=D:=λD hD=>by
     have h1:=(QF D hD).1;have h2:=(QF D hD).2.1;refine bu λdp=>?_;have dp:D<V.heap.size:=zO;rw [Rz] at h2;have awR:D1 D:=bu λhc=>h2 ⟨zO,hc⟩;obtain ⟨i,hd,e⟩:=I8 D dp awR;by_cases hz:100<=i
     ·obtain ⟨T1,m1,⟨Sn,_⟩,_,Yz,_⟩:=BD.ext;have h3:=Yz i hd hz;rw [Sn,e] at h3;obtain ⟨q,hq,e2⟩:=bu λhc=>h3 ⟨dp,hc⟩;have hk5:dom s2.hp q/\r2 q=rc q:=vu.ri.keep q hq;exact vu.ri.ne_mark hk5.1 h1 (hk5.2.trans e2)
     ·have e3:hp1 i=C.G i:=BD.glob i zO;have e4:s2.hp i=C.G i:=vu.ri.glob i zO;have zA:dom s2.hp i:=by unfold dom at *;rw [e4,<-e3];exact hd
      exact vu.ri.ne_mark zA h1 (by rw [vu.ri.low i zO zA,<-e,BD.low i zO hd])
    show LeavesInM _ _ _ _ _ _ a2.defers _ _;rw [df2,eP];refine zd zS m2 V2 nd2 (λD hD=>(QF D hD).1) λgS e1 e2 e3 e4 e5=>?_;refine ⟨⟨_,rfl⟩,?_⟩
    have ayO:GOK C.G gS:=λk b hk=>by
     rw [e5 k (λhm=>by have:=(QF k hm).1;rw [p2 k b hk] at this;exact (Blk.obj0_def this.symm).elim)];exact p2 k b hk
    refine ⟨?_,ayO,by rw [e1];exact p3,λk hk MO=>?_,λk=>S' k/\k∉m2,⟨λk hk=>⟨p5 k hk,λhm=>?_⟩,λD hD=>⟨p6 D hD,λhm=>?_⟩,⟨p7,λhm=>?_⟩,⟨p8,λhm=>?_⟩,.inr ⟨rfl,_,s2.hp,s2.B,r2,.inr ⟨pv,rfl,rfl⟩,Ks,vu.free,vu.low,λi hd=>⟨p9 i hd,λhm=>?_⟩,?_⟩⟩,λk hk=>?_,λk hk dp=>m7 k hk.1 dp⟩
    ·rw [Ll]
    ·rw [e5 k (λhm=>by have:=Pf k hm;omega)];exact p4 k hk MO
    ·have:=Pf k hm;have:=CN k (MZ k hk);omega
    ·have:=Pf D hm;have:=CN D (NI D hD);omega
    ·have:=(QF l hm).1;rw [p1] at this;cases this
    ·have:=Pf D0 hm;have:=CN D0 kD;omega
    ·exact vu.ri.ne_mark hd (QF _ hm).1 rfl
    ·intro V' k1 k2 k3 k4 k5;have hh:=λk (hk:S' k/\k∉m2)=>(k1 k hk).trans (e5 k hk.2)
     have alP:uy (λk=>S' k/\k∉m2) gS (λV'=>Own0 C d So ms s.yc a r2 gw s2.hp V'/\V'.heap[D0]? = some (.deferred (some []))):=by
      obtain ⟨own2,_,hD2⟩:=lR.here;have ayu:Own0 C d So ms s.yc a r2 gw s2.hp gS:=own2.supp (S:=λk=>S' k/\k∉m2) (λk hk=>⟨p5 k hk,λhm=>Dk⟩) (λi hd=>⟨p9 i hd,λhm=>vu.ri.ne_mark hd (QF _ hm).1 rfl⟩) (λD hD=>⟨p6 D hD,λhm=>Dc⟩) gS (λk hk=>e5 k hk.2) e2 e3 e4 xI;have hD3:gS.heap[D0]? = some (.deferred (some [])):=(e5 D0 (λhm=>by have:=Pf D0 hm;have:=CN D0 kD;omega)).trans hD2;exact λV' k1 k2 k3 k4 k5=>⟨ayu.supp (S:=λk=>S' k/\k∉m2) (λk hk=>⟨p5 k hk,λhm=>Dk⟩) (λi hd=>⟨p9 i hd,λhm=>vu.ri.ne_mark hd (QF _ hm).1 rfl⟩) (λD hD=>⟨p6 D hD,λhm=>Dc⟩) V' k1 k2 k3 k4 k5,(k1 D0 ⟨p8,λhm=>by have:=Pf D0 hm;have:=CN D0 kD;omega⟩).trans hD3⟩
     obtain ⟨q1,q2⟩:=alP V' k1 k2 k3 k4 k5;exact ⟨q1,q2,λj hj=>by simp [fq] at hj⟩
    ·rw [e1];exact lZ k hk.1
 -- behind Ws iterator
 refine ⟨l,[HX D0],W1,{ target:=.fn (.func f) (bF.map (ren r)),args:=#[.func (.yield l) #[] #[]] },W1,f,#[Value.func (.yield l) #[] #[]]++bF.map (ren r),W1,?_,?_,λf' Vs=>?_,?_,λh=>fj,?_⟩
 ·rw [<-yn,my];exact run_enterLoop_outer _ _ _ _ _
 ·exact yj
 ·exact yi
 ·simp [invoke,go_sem,pT.enter]
 ·have ON:Sat r (dom (rst s.hp rs)) (rst s.hp rs) W1:=λk b hk=>⟨(lY.block _ (ma.ri.lt (k:=k) xD)).trans (ma.ri.sat k b (mu hk)).1,pT.closed k b hk⟩
  have vd:∀ k,dom (rst s.hp rs) k->dom s.hp k:=λk hk=>by
   exact yD
  have hlen:pn≠none->N<xs.length:=λhp1=>by
   cases pn with
   | none=>exact absurd rfl hp1
   | some pv =>
    obtain ⟨_,x',qy,_⟩:=fin;exact (mK.1 qy).1
  have BY:=pT.run E l N r S1 W1 (Oo Ao.sat Ao.glob Ao.low) ON (λk l' hk hl=>ma.ri.inj k l' (vd k hk) (vd l' hl)) (λk hk hd=>ma.ri.low k hk (vd k hd)) hlen wG X0 (λk hk=>hk.1) (λi hd h1 hS=>hS.2 ?_)
  ·refine o5 (BY:CallsIn (Fw P none) 0 P _ _ _ _) ?_
   -- Ws ahi SH,behind it all
   have giV:∀ (rc:dR) (ou:Hp) (BE:Nat) (V:World),(∀ x,BE<=x->ou x=none)->100<=BE->Own0 C d So ms s.yc a rc gw ou V->V.heap[D0]? = some (.deferred (some []))->W.heap.size<=V.heap.size ->
     GI P C n d rc ⟨gw,ou,BE,s.yc⟩ { a with defers:=[HX D0]++a.defers } V:=λrc ou BE V eU Tm c8 hD Ag =>
    ⟨⟨ma.ri.size,c8.ri,c8.sat,c8.inj,
     ⟨So,D0::ms,c8.X,λk hk=>iQ (MH k hk) Ag,c8.sep,⟨by simp [vp],fu.2 ⟨λhm=>by have:=(aO.1 (rX D0 hm).1).1;omega,B4⟩⟩,λD zJ=>by
      rcases aj.1 zJ with rfl|zJ
      ·exact ⟨hD,(λhS=>by have:=MH _ hS;omega),QO⟩
      ·exact ⟨c8.mks D zJ,(rX D zJ).2⟩⟩,
     c8.keep,c8.glob,c8.low⟩,eU,Tm,ma.flat,ma.rounds⟩
   have ayT:∀ {S:iH} {V:World} {c:Nat},XX c S V->(∀ V,XX c S V->S l->True)->V.heap[D0]? = some (.deferred (some []))->W.heap.size<=V.heap.size:=λ{S V c} _ _ h=>by
    have:=(aO.1 h).1;omega
   cases pn with
   | some pv =>
    rintro e V ⟨rfl,c,S',hX⟩;obtain ⟨MZ,NI,kl,kD,wC⟩:=hX;obtain ⟨afV,_⟩:=fin;rcases wC with ⟨qX,eU,rc,qj,ml⟩|⟨qX,e,ou,BE,rc,ho,hk,eU,Tm,qj,ml⟩
    ·obtain ⟨c8,hl,hD⟩:=ml.here;exact ⟨_,rc,afV c qX,giV rc _ B V eU hw.low c8 hD (by have:=(aO.1 hD).1;omega)⟩
    ·obtain ⟨c8,hD,_⟩:=ml.here;rcases ho with ⟨h1,_⟩|⟨pv',h1,rfl⟩
     ·cases h1
     ·cases h1;exact ⟨_,rc,hk,giV rc _ BE V eU Tm c8 hD (by have:=(aO.1 hD).1;omega)⟩
   | none =>
   rintro e V ⟨⟨v,rfl⟩,S',hX⟩;obtain ⟨MZ,NI,kl,kD,wC⟩:=hX
   have Te:∀ (st:LoopState) (pe:Option Code) (rc:dR) (ou:Hp) (BE:Nat),st≠.busy->(∀ x,BE<=x->ou x=none)->100<=BE->Own0 C d So ms s.yc a rc gw ou V->Lv st pe V ->
     (Instr.endLoop l).run P V=.ok pe (V.putObj l (.loop { rec st pe with state:=.exhausted }))/\GI P C n d rc ⟨gw,ou,BE,s.yc⟩ { a with defers:=[HX D0]++a.defers } (V.putObj l (.loop { rec st pe with state:=.exhausted })):=λst pe rc ou BE Af eU Tm c8 ⟨hl,hD⟩=>by
    exact GP
   rcases wC with ⟨qX,eU,rc,qj,ml⟩|⟨qX,e,ou,BE,rc,ho,hk,eU,Tm,qj,ml⟩
   ·obtain ⟨c8,th⟩:=ml.here;have hNl:N=xs.length:=zO;have abz:min (N+1) xs.length=N:=zO;rw [abz] at eU c8;obtain ⟨f1,f2⟩:=Te .ready none rc (hp N) B zS eU hw.low c8 th;rcases fin with ⟨_,hK⟩|⟨x',qy,_⟩
    ·exact ⟨none,_,f1,_,rc,hK,f2⟩
    ·obtain ⟨h9,_⟩:=mK.1 qy;omega
   ·obtain ⟨c8,_,th⟩:=ml.here;exact Gi
  ·exact yq

theorem Ay {t:Tmp} {ps:Array Tmp} {assign body:Code} {f:FuncId} {bF:ca} {rs:List Nat} {xs:List (Array Value)} (hg:s.ts t=.func (.func f) #[] bF) (pT:q9 P C.G f bF s.hp rs xs)
  (zE:∀ x∈xs,x.size=ps.size/\∀ v∈x,bp v=true) (H7:∀ p∈ps,p<n) (gw:fp) (hp:Nat->Hp) (B:Nat) (N:Nat) (hN:N<=xs.length)
  (hw:Weak C s ⟨gw,hp 0,B,s.yc⟩) (nS:∀ k∈rs,hp 0 k=none/\dom s.hp k) (zC:∀ i,i<=N->∀ t,aL (dom (hp i)) (gw t))
  (rounds:∀ i x,i<N->xs[i]? = some x->∀ (C1:Ctx) (l:Nat),C1.G=C.G->C1.hp0=hp i->C1.Y=none->GW P C1 n [] (some l) assign ⟨bG ps.toList x.toList gw,hp i,B,0⟩
   (dY (λs1=>∀ C2:Ctx,C2.G=C.G->C2.hp0=hp i->C2.Y=none->GW P C2 n [] (some l) body s1 (dY (λs2=>Weak C1 s2 ⟨λ_=>fP,hp (i+1),B,s2.yc⟩) (λ_ _=>False))) (λ_ _=>False)))
  (fin:(N=xs.length/\K .normal ⟨gw,hp N,B,s.yc⟩)\/∃ x,xs[N]? = some x/\∀ (C1:Ctx) (l:Nat),C1.G=C.G->C1.hp0=hp N->C1.Y=none->GW P C1 n [] (some l) assign ⟨bG ps.toList x.toList gw,hp N,B,0⟩
   (dY (λs1=>∀ C2:Ctx,C2.G=C.G->C2.hp0=hp N->C2.Y=none->GW P C2 n [] (some l) body s1 (λe s2=>(fq e).isSome=true/\(∀ t,aL (dom s2.hp) (gw t))/\K e ⟨gw,s2.hp,s2.B,s.yc⟩)) (λ_ _=>False))) (QO:C.Y≠some .still:=by first|assumption|(intro h;simp_all [YG.still])) :
  GW P C n d none (.rangeFunc (.tmp t) ps assign body) s K :=
 WD none hg pT zE H7 gw hp B N hN hw nS zC rounds fin QO
end
end Go.Gy
