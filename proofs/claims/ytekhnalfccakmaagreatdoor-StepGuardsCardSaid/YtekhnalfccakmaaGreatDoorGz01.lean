/-
  Lemmas of this claim, in their order (GyE, GyF, GyR).
  Conditions: those of each theorem.
-/
import Derived.Test.YtekhnalfccakmaaGreatDoorGz00
set_option linter.unusedSimpArgs false
set_option linter.unusedVariables false
namespace Go.Gy
open Go Go.RowKit
theorem fF {p:Prop} (h:p:=by unfold dom;rw [hb];simp):p:=h
theorem vO {p:Prop} (h:p:=by rw [<-er];exact h.ids):p:=h
theorem wv {p:Prop} (h:p:=by rw [<-er];exact h.closed):p:=h
theorem wa {p:Prop} (h:p:=by rw [<-er];exact h.run):p:=h
theorem bu {p:Prop} (h:p:=by simp [ho,Op.operands]):p:=h
theorem mf {p:Prop} (h:p:=by rw [LH zS];exact hb):p:=h
theorem v8 {p:Prop} (h:p:=by rw [gS];exact aG _):p:=h
theorem iT {p:Prop} (h:p:=by simp [aN,cp,aL,aR]):p:=h
theorem mo {p:Prop} (h:p:=by simpa [aN,cp,aL,aR] using h1.2):p:=h
theorem cG {p:Prop} (h:p:=by simpa using hx):p:=h
theorem wG {p:Prop} (h:p:=by cases first;simpa using IW):p:=h
theorem ov {p:Prop} (h:p:=by simp [ho,hc,Op.operands,Call.operands]):p:=h
theorem oD {p:Prop} (h:p:=by rw [h1.1];simp [ren,aT,aw]):p:=h
theorem rQ {p:Prop} (h:p:=by simp [ho,Op.operands,Call.operands,hx]):p:=h
theorem oA {p:Prop} (h:p:=by simpa using hp1):p:=h
theorem lR {p:Prop} (h:p:=by trivial):p:=h
theorem Ch {p:Prop} (h:p:=by simp [execOp,ho,Instr.arrayAt,h3,run_underlying hu,hn,ren,aT,aw,aA]):p:=h
theorem CB {p:Prop} (h:p:=by simp [Builtin.len_,run_underlying hu,ren,aT,aw,aA,goInt]):p:=h
theorem rR {p:Prop} (h:p:=by simp [Res.eff,ak]):p:=h
theorem gD {p:Prop} (h:p:=by unfold dom;rw [hk];simp):p:=h
theorem Fq {p:Prop} (h:p:=by
 obtain ⟨p,hp,rfl|rfl⟩:=h
 ·exact .inl ⟨_,rfl⟩
 ·exact .inr ⟨p,hp,rfl⟩):p:=h
theorem Dl {p:Prop} (h:p:=by
 have:=evR hR (x:=x) (by simp [ho,Op.operands,hx]) h.1 ba hD;exact ⟨by rw [this.1,hU h.2],(jF h.2).1 this.2⟩):p:=h
theorem xz {p:Prop} (h:p:=by
 simp [execOp,ho,resolve,hc,h3,Deferred.ofValue,invoke,kv,hen]):p:=h
theorem Fo {p:Prop} (h:p:=by
 rw [ba k cA hDk] at h2;rw [h2.1];rw [Blk.obj_flat (λx hx=>BR x hx)]):p:=h
theorem Dg {p:Prop} (h:p:=by
 exact ⟨rfl,r,λ_ _=>rfl,(bM hv).symm,cb hv,Turn.of_below hb⟩):p:=h
theorem xE {p:Prop} (h:p:=by
 simp [execOp,ho,resolve,hc,h3,Deferred.ofValue,invoke,kv,hr.enter]):p:=h
theorem xN {p:Prop} (h:p:=by
 rw [nU];congr 1;exact bK λx hx=>(dS x hx).symm):p:=h
theorem Dy {p:Prop} (h:p:=by
 simp only [iH,kY,lx];refine dK λp hp1=>?_;simp only [Function.comp];rw [(e1 p hp1).1]):p:=h
theorem Fi {p:Prop} (h:p:=by
 split at h
 ·rename_i q hq;rw [bM (key hq).1,bM (key hq).2];exact h0
 ·cases h):p:=h
theorem D4 {p:Prop} (h:p:=by
 refine ⟨?_,cb hs.2⟩;rw [bM hs.2];simp only [execOp,ho,h1.1];rw [aY,hs.1]
 rfl):p:=h
theorem DQ {p:Prop} (h:p:=by
 cases z with
 | tuple vs=>exact absurd rfl (hJ hzc vs)
 | agg WH=>exact cV.1 y9 x hx
 | _=>simp only [Value.cells] at hx;simp at hx;subst hx;exact y9):p:=h
theorem C5 {p:Prop} (h:p:=by
 obtain ⟨j,_,rfl⟩:=dA.1 hx;by_cases cA:j%z.cells.size<z.cells.size
 ·rw [getElem!_pos z.cells _ cA];exact hzi _ (jj cA)
 ·rw [getElem!_neg z.cells _ cA];rfl):p:=h
theorem Ge {p:Prop} (h:p:=by
 cases x<;>simp only [zb,aht] at h<;>first|(cases h;done)|skip
 cases h;rfl):p:=h
theorem aK {p:Prop} (h:p:=by
 exact h.elim):p:=h
theorem xy {p:Prop} (h:p:=by
 obtain ⟨h1,v,hv,hr,hC⟩:=h;exact ⟨_,.inl ⟨rfl,V4 (λcs b e=>by simp_all) h1 hv hr⟩,.val,hC⟩):p:=h
theorem De {p:Prop} (h:p:=by
 have h9:=(h.sat k b hb).1;rw [h.low k cA fF] at h9;rw [h9];rw [Blk.obj_flat (λx hx=>BR x hx)]):p:=h
abbrev qq := @Go.RowKit.Below.refl
abbrev lF := @Go.RowKit.Below.heap_alloc
abbrev bE := @List.mem_singleton
abbrev uX := @Go.World.alloc_heap_new
abbrev eH := @Go.World.putObj_heap_other
abbrev dY := @List.append_nil
abbrev jr := @Iff.rfl
abbrev fz := @List.mem_toArray
abbrev qK := @List.mem_flatMap
abbrev aB := @List.not_mem_nil
abbrev aC := @or_false
abbrev fw := @Array.map_map
abbrev dA := @Array.mem_map
abbrev nU := @Array.map_append
abbrev ab := @if_neg
abbrev qu := @List.foldl_cons
abbrev nM := @Array.foldl_toList
abbrev uW := @Array.size_map
abbrev uE := @List.getElem_mem
abbrev lx := @List.map_map
abbrev dK := @List.map_congr_left
abbrev eG := @trivial
abbrev cU := @Int.mul_le_mul
abbrev j0 := @Nat.mul_le_mul
abbrev aX := @decide_eq_false
abbrev gL := @Option.map_some
abbrev qG := @Option.map_none
abbrev dM := @Prod.mk.injEq
abbrev qO := @Option.bind_eq_some_iff
abbrev nV := @Go.RoundIn.mono
abbrev iC := @eq_iff_iff
abbrev bS := List (Nat × Blk)

def val (v:Value) (rs:List Nat):Eff:=⟨v,rs,[],[],none,false⟩
def th (k:Nat):Value:=.pointer (some ⟨k,0,none⟩)

def ct (G:Hp):Prop:=∀ k b,G k=some b->k<100/\∀ x∈b.c,bP x=true

inductive Out
 | ret (v:Value)
 | pan (v:Value)
def Out.eff:Out->Eff
 | .ret v=>val v []
 | .pan v=>⟨eY,[],[],[],some v,false⟩
def Out.holds (W:World):Out->Ending->World->Prop
 | .ret v,e,W'=>e=.returned v/\Below W.heap.size W W'
 | .pan v,e,W'=>e=.panicked [{ v:=v,recovered:=false }]/\Below W.heap.size W W'

def Ret (P:Program) (G:Hp) (f:FuncId) (args:bV) (v:Value):Prop :=
 bz v=true/\(∀ x∈args,bz x=true)/\(∀ a w,(callFunc f a).run P w=.ok (.enter f a) w) /\
  ∀ W,GOK G W->jD P f args W λe W'=>e=.returned v/\Below W.heap.size W W'
def aaF (P:Program) (f:FuncId) (args:bV) (v:Value):Prop:=bz v=true/\(∀ x∈args,bz x=true)/\∀ w,(callFunc f args).run P w=.ok (.value v) w
def yP (P:Program) (G:Hp) (f:FuncId) (args:bV) (o:Out):Prop :=
 (∀ v,o=.ret v->bz v=true)/\(∀ x∈args,bz x=true)/\(∀ a w,(callFunc f a).run P w=.ok (.enter f a) w)/\∀ W,GOK G W->jD P f args W (o.holds W)
def Hy (P:Program) (G:Hp) (f:FuncId) (args:bV) (C:Eff->Prop):Prop:=∃ o,yP P G f args o/\C o.eff
theorem mB {P:Program} {G:Hp} {f:FuncId} {args:bV} {C:Eff->Prop} {o:Out} (h:yP P G f args o) (hk:C o.eff):Hy P G f args C:=⟨o,h,hk⟩
def cu (P:Program) (G:Hp) (f:FuncId) (args:bV) (K:iQ):Prop:=∃ v,(Ret P G f args v\/aaF P f args v)/\K v

inductive Res
 | ret (v:Value) (ws:bS)
 | pan (v:Value)
 | new (v:Value) (ns:bS)
def Res.eff (rs:List Nat):Res->Eff
 | .ret v ws=>⟨v,rs,ws,[],none,false⟩
 | .pan v=>⟨eY,rs,[],[],some v,false⟩
 | .new v ns=>⟨v,rs,[],ns,none,false⟩
def Res.holds (r:cI) (D:gA) (W:World):Res->Ending->World->Prop
 | .new v ns,e,W'=>(∀ k∈ak ns,¬D k)->∃ r',(∀ k,D k->r' k=r k)/\e=.returned (ren r' v)/\Turn r' (cJ D ns) W W' [] ns
 | .ret v ws,e,W'=>e=.returned (ren r v)/\Turn r (cJ D []) W W' ws []
 | .pan v,e,W'=>e=.panicked [{ v:=v,recovered:=false }]/\Below W.heap.size W W'
def Res.fits (hp:Hp) (rs:List Nat):Res->Prop
 | .ret v ws=>aN (dom (rst hp rs)) v/\(∀ k∈ak ws,k∈rs/\dom hp k/\100<=k)/\(∀ k b c,(k,b)∈ws->(k,c)∈ws->b=c)/\∀ p∈ws,p.2.ids (dom (rst hp rs))
 | .pan _=>True
 | .new v ns=>aN (cJ (dom (rst hp rs)) ns) v/\(∀ k∈ak ns,100<=k)/\(∀ k b c,(k,b)∈ns->(k,c)∈ns->b=c)

structure Fun (P:Program) (G:Hp) (f:FuncId) (args:bV) (hp:Hp) (rs:List Nat) (res:Res):Prop where
 enter:∀ a w,(callFunc f a).run P w=.ok (.enter f a) w
 ids:∀ x∈args,aN (dom (rst hp rs)) x
 closed:∀ k b,rst hp rs k=some b->b.ids (dom (rst hp rs))
 fits:res.fits hp rs
 run:∀ r W,GOK G W->Sat r (dom (rst hp rs)) (rst hp rs) W->Inj r (dom (rst hp rs))->(∀ k,k<100->dom (rst hp rs) k->r k=k)->jD P f (args.map (ren r)) W (res.holds r (dom (rst hp rs)) W)
def Res.at (nk:Nat):Res->Prop
 | .new _ ns=>∀ k∈ak ns,nk<=k/\k<nk+8
 | _=>True
def pI (P:Program) (G:Hp) (f:FuncId) (args:bV) (hp:Hp) (nk:Nat) (K:Eff->Prop):Prop:=∃ db rs res,(∀ k∈rs,db k=hp k)/\(∀ k,k<100->db k=G k)/\Fun P G f args db rs res/\res.at nk/\K (res.eff rs)
theorem Fun.under {P:Program} {G:Hp} {f:FuncId} {args:bV} {hp db:Hp} {rs:List Nat} {res:Res} (h:Fun P G f args db rs res) (e:∀ k,(k<100\/k∈rs)->db k=hp k):Fun P G f args hp rs res:=by
 have er:rst db rs=rst hp rs:=pz e;refine ⟨h.enter,vO,wv,?_,wa⟩;have hf:=h.fits
 cases res with
 | ret v ws =>
  simp only [Res.fits] at hf |-;rw [<-er];refine ⟨hf.1,λk hk=>?_,hf.2.2⟩;have:=hf.2.1 k hk;exact ⟨this.1,by unfold dom at *;rw [<-e k (.inr this.1)];exact this.2.1,this.2.2⟩
 | pan v=>trivial
 | new v ns=>simp only [Res.fits] at hf |-;rw [<-er];exact hf

structure XV where
 Y:Option YG
 pn:List FuncId
 dr:Bool

def jH:Value->Bool
 | .tuple _=>false
 | .complex _ _ _=>false
 | _=>true
def da:Value->Bool
 | .tuple _=>false
 | .agg _=>false
 | .func _ _ _=>false
 | .iface _ _=>false
 | _=>true
theorem hU {r:cI} {v:Value} (h:da v=true):ren r v=aA r v:=by cases v<;>simp_all [da,ren,aT,aw]
theorem jF {D:gA} {v:Value} (h:da v=true):aN D v↔aR D v:=by cases v<;>simp_all [da,aN,cp,aL]

def kY (ts:eM) (parts:Array (Nat×Operand)):List (Nat×Value):=parts.toList.map λp=>(p.1,gev ts p.2)

def eL (P:Program) (T:TypeId):Option (List (Nat×Nat) ⊕ Nat) :=
 match P.underlying T with
 | some (.array _ e)=>(bA P e).map .inr
 | some (.struct fs)=>(fs.toList.mapM λf=>(P.info? f.type).map λi=>(f.offset,i.size)).map .inl
 | _=>none
def LA:List (Nat×Nat) ⊕ Nat->Nat->Option (Nat×Nat)
 | .inl l,i=>l[i]?
 | .inr m,i=>some (i*m,m)
def n6 (pl:List (Nat×Nat) ⊕ Nat) (cells:bV):List (Nat×Value)->Option (Array Value)
 | []=>some cells
 | (i,v)::rest =>
  match LA pl i with
  | none=>none
  | some (off,size)=>if v.cells.size=size/\off+v.cells.size<=cells.size then n6 pl (gh cells off v.cells.toList) rest else none

def hiG (len cap:Nat):Option Value->Option Nat
 | none=>some len
 | some (.int _ m)=>if 0<=m/\m<=cap then some m.toNat else none
 | _=>none
def loG (h:Nat):Option Value->Option Nat
 | none=>some 0
 | some (.int _ m)=>if 0<=m/\m<=h then some m.toNat else none
 | _=>none
def la (len cap:Nat) (lo hi:Option Value):Option (Nat×Nat) :=
 match hiG len cap hi with
 | none=>none
 | some h=>(loG h lo).map λl=>(l,h)
def slV (a:Option (Nat×Nat)) (s c:Nat):Option (Nat×Nat)->Option Value
 | some (l,h)=>some (.slice (a.map λp=>⟨p.1,if c=l then p.2 else p.2+l*s,none⟩) (h - l) (c - l))
 | none=>none
def slS (s:ByteArray):Option (Nat×Nat)->Option Value
 | some (l,h)=>some (.string (s.extract l h))
 | none=>none
def slX (P:Program) (T:TypeId) (v:Value) (lo hi:Option Value):Option Value :=
 match P.underlying T with
 | some (.array n e)=>match v with
  | .pointer (some ⟨k,off,none⟩)=>match bA P e with
   | some s=>slV (some (k,off)) s n (la n n lo hi)
   | none=>none
  | _=>none
 | some (.slice e)=>match v with
  | .slice (some ⟨k,off,none⟩) n c=>match bA P e with
   | some s=>slV (some (k,off)) s c (la n c lo hi)
   | none=>none
  | .slice none n c=>match bA P e with
   | some s=>slV none s c (la n c lo hi)
   | none=>none
  | _=>none
 | some .string=>match v with
  | .string s=>slS s (la s.size s.size lo hi)
  | _=>none
 | _=>none
def Th (P:Program) (T:TypeId) (v:Value):Option Value :=
 match P.underlying T with
 | some (.array n _)=>match v with
  | .slice a len _=>if n<=len then some (.pointer a) else none
  | _=>none
 | _=>none
def T9 (P:Program) (T:TypeId) (v:Value):Option Value :=
 match P.underlying T with
 | some .string=>match v with
  | .string s=>some (.int .i64 s.size)
  | _=>none
 | some (.array n _)=>some (.int .i64 n)
 | some (.slice _)=>match v with
  | .slice _ n _=>some (.int .i64 n)
  | _=>none
 | _=>none
def Kc (b:Bool) (x y:Value):Option Value :=
 match x,y with
 | .int k a,.int _ c=>some (.int k (if b then (if a<c then c else a) else (if c<a then c else a)))
 | _,_=>none
def aht:Value->Option Value
 | .int k a=>some (.int k a)
 | _=>none
def zb (b:Bool) (x:Value):List Value->Option Value
 | []=>aht x
 | y::l=>match Kc b x y with
  | some z=>zb b z l
  | none=>none
def Ia (b:Bool):List Value->Option Value
 | []=>none
 | x::l=>zb b x l
def AR (P:Program) (ts:eM) (c:Call):Option Value :=
 match c.callee with
 | .builtin .len=>match c.args.toList,c.argTypes.toList with
  | [x],[T]=>T9 P T (gev ts x)
  | _,_=>none
 | .builtin .max=>Ia true (c.args.toList.map (gev ts))
 | .builtin .min=>Ia false (c.args.toList.map (gev ts))
 | _=>none
def fdX (P:Program) (T:TypeId) (f:Nat):Option (TypeId×Nat) :=
 match P.underlying T with
 | some (.struct fs)=>match fs[f]? with
  | some fd=>match bA P fd.type with
   | some (_+1)=>some (fd.type,fd.offset)
   | _=>none
  | none=>none
 | _=>none

def Kl (P:Program) (o:Oper) (ts:eM) (hp:Hp) (K:iQ):Prop :=
 (∀ x∈o.op.operands.toList,okX ts hp x/\bz (gev ts x)=true)/\∃ v,bz v=true/\(∀ W,(execOp (gev ts) o).run P W=.ok (.value v) W)/\K v

def okT (ts:eM):Operand->Prop
 | .tmp t=>nj (ts t)
 | .const v=>bz v=true
 | .func _=>True
 | _=>False
def Bw (y:YG) (yc:Nat):Eff :=
 match y.pan yc with
 | none=>match y.sh with
  | none=>⟨.bool (yc != y.stop),[],[],[],none,true⟩
  | some s=>⟨.bool (yc != y.stop),[s.w],[(s.w,s.ob (yc+1))],[],none,true⟩
 | some pv=>⟨eY,[],[],[],some pv,true⟩
def ahG (w:Nat) (v:Value):Bool:=match v with
 | .agg cs=>cs.all λx=>match x with
  | .pointer (some a)=>a.block==w
  | x=>bP x
 | .pointer (some a)=>a.block==w
 | v=>bz v
def YG.arg (y:YG) (v:Value):Bool:=match y.sh with
 | none=>bz v
 | some s=>ahG s.w v
def YG.act (y:YG) (v:Value):Value:=match y.sh with
 | none=>v
 | some s=>ren (λ_=>s.a) v
def YG.lies (y:YG) (yc:Nat) (hp:Hp):Prop:=match y.sh with
 | none=>True
 | some s=>hp s.w=some (s.ob yc)/\100<=s.w/\y.pn=none
def OpY (Y:Option YG) (o:Oper) (ts:eM) (yc:Nat) (hp:Hp) (e:Eff):Prop :=
 ∃ y f args T,Y=some y/\o.op=.call ⟨.value f,args,T⟩/\okT ts f/\(∀ x∈args.toList,okT ts x/\y.arg (gev ts x)=true)/\gev ts f=.func (.yield y.l) #[] #[]/\yc<=y.stop/\y.xs[yc]? = some (args.map λx=>y.act (gev ts x)) /\
  e=Bw y yc/\y.lies yc hp
def IS (Y:Option YG) (yc l:Nat) (hp:Hp) (args:bV) (C:Eff->Prop):Prop :=
 match Y with
 | some y=>l=y.l/\yc<=y.stop/\(∀ v∈args.toList,y.arg v=true)/\y.xs[yc]? = some (args.map y.act)/\y.lies yc hp/\C (Bw y yc)
 | none=>False

def xY (P:Program) (G:Hp) (V:XV) (nk yc:Nat) (ts:eM) (hp:Hp) (v:Value) (args:Array Operand) (C:Eff->Prop):Prop :=
 match v with
 | .func (.func g) first cap=>first.size=0/\(∀ x∈args.toList,okX ts hp x) /\
   if cap.size=0/\V.pn.contains g=false/\(args.map (gev ts)).all bz=true then (if V.pn.contains (g+1000000)=true then Hy P G g (args.map (gev ts)) C else cu P G g (args.map (gev ts)) λv=>C (val v [])) else cap.all da=true/\pI P G g (args.map (gev ts)++cap) hp nk C
 | .func (.yield l) first cap=>first.size=0/\cap.size=0/\(∀ x∈args.toList,okT ts x)/\IS V.Y yc l hp (args.map (gev ts)) C
 | _=>False
def JA (P:Program) (G:Hp) (V:XV) (nk yc:Nat) (ts:eM) (hp:Hp) (c:Call) (C:Eff->Prop):Prop :=
 match c.callee with
 | .value f=>okT ts f/\xY P G V nk yc ts hp (gev ts f) c.args C
 | _=>(∀ x∈c.args.toList,okX ts hp x)/\match AR P ts c with
  | some v=>C (val v [])
  | none=>False

def fnV:Value->Bool
 | .func _ _ _=>true
 | _=>false
def J6 (b:Option Blk) (k:Nat) (s:ByteArray) (v:Value) (C:Eff->Prop):Prop:=match b.bind Qc with
 | some l=>gH s l=none/\100<=k/\C ⟨undef,[k],[(k,mpB (l++[(s,v)]))],[],none,false⟩
 | none=>False
def HZ (b:Option Blk) (k:Nat) (s:Int) (v:Value) (C:Eff->Prop):Prop:=match b.bind Qd with
 | some l=>jT s l=none/\100<=k/\C ⟨undef,[k],[(k,muB (l++[(s,v)]))],[],none,false⟩
 | none=>False
def Nd (hp:Hp) (m k v:Value) (C:Eff->Prop):Prop:=match m with
 | .map (some q)=>(match k with | .string s=>J6 (hp q) q s v C | .int .u8 i=>HZ (hp q) q i v C|_=>False)
 | _=>False
def Ud (b:Option Blk) (k:Nat) (s:ByteArray) (C:Eff->Prop):Prop:=match b.bind Qc with
 | some l=>(match gH s l with|some v=>fnV v=true/\C (val v [k])|none=>False)
 | none=>False
def Uc (b:Option Blk) (k:Nat) (s:Int) (C:Eff->Prop):Prop:=match b.bind Qd with
 | some l=>(match jT s l with|some v=>fnV v=true/\C (val v [k])|none=>False)
 | none=>False
def lkX (hp:Hp) (m k:Value) (C:Eff->Prop):Prop:=match m with
 | .map (some q)=>(match k with | .string s=>Ud (hp q) q s C | .int .u8 i=>Uc (hp q) q i C|_=>False)
 | _=>False
def ncX (v:Value) (C:Eff->Prop):Prop :=
 match v with
 | .pointer (some ⟨k,o,none⟩)=>C (val (.pointer (some ⟨k,o,none⟩)) [])
 | _=>False
def tyB (P:Program) (T:TypeId):Option Nat:=(P.info? T).map (·.bytes)
def msZ (P:Program) (e m nk:Nat) (z:Option Value) (b:Option Nat) (v w:Value) (C:Eff->Prop):Prop :=
 match z,b,v with
 | some z,some b,.int .i64 l=>w=.int .i64 l/\cw z=true/\bz z=true/\(0<l/\l<=4096)/\b<=4096/\0<m/\C ⟨.slice (some ⟨nk,0,none⟩) l.toNat l.toNat,[],[],[(nk,⟨(Array.range (l.toNat*m)).map (z.cells[·%z.cells.size]!),e⟩)],none,false⟩
 | _,_,_=>False
def msM (P:Program) (e nk:Nat) (m:Option Nat) (v w:Value) (C:Eff->Prop):Prop :=
 match m with
 | some m=>msZ P e m nk (cT P e) (tyB P e) v w C
 | none=>False
def msU (P:Program) (nk:Nat) (u:Option TypeDesc) (v w:Value) (C:Eff->Prop):Prop :=
 match u with
 | some (.slice e)=>msM P e nk (bA P e) v w C
 | _=>False
def opX (P:Program) (G:Hp) (V:XV) (yc:Nat) (o:Oper) (ts:eM) (hp:Hp) (nk:Nat) (C:Eff->Prop):Prop :=
 match o.op with
 | .move x=>okX ts hp x/\C (val (gev ts x) [])
 | .assign x=>okX ts hp x/\C (val (gev ts x) [])
 | .pick c x y=>okX ts hp c/\match gev ts c with
  | .bool b=>(b=true->okX ts hp x)/\(b=false->okX ts hp y)/\C (val (if b then gev ts x else gev ts y) [])
  | _=>False
 | .alloc T=>match cT P T with
  | some z=>cw z=true/\bz z=true/\C ⟨th nk,[],[],[(nk,⟨z.cells,T⟩)],none,false⟩
  | none=>False
 | .box T x=>okX ts hp x/\cw (gev ts x)=true/\C ⟨th nk,[],[],[(nk,⟨(gev ts x).cells,T⟩)],none,false⟩
 | .load T x=>okX ts hp x/\match gev ts x with
  | .pointer (some ⟨k,off,none⟩)=>match hp k with
   | some b=>match ft P T b off with
    | some v=>C (val v [k])
    | none=>False
   | none=>False
  | _=>False
 | .store T x y=>okX ts hp x/\okX ts hp y/\match gev ts x with
  | .pointer (some ⟨k,off,none⟩)=>match hp k with
   | some b=>b.T.own=true/\cw (gev ts y)=true/\bA P T=some (gev ts y).cells.size/\off+(gev ts y).cells.size<=b.c.size/\100<=k /\
     C ⟨undef,[k],[(k,⟨gh b.c off (gev ts y).cells.toList,b.T⟩)],[],none,false⟩
   | none=>False
  | _=>False
 | .extract x i=>okX ts hp x/\match gev ts x with
  | .tuple vs=>match vs[i]? with
   | some v=>jH v=true/\C (val v [])
   | none=>False
  | _=>False
 | .indexAddr T x i=>okX ts hp x/\okX ts hp i/\match gev ts i with
  | .int _ m=>match P.underlying T with
   | some (.array len e)=>match gev ts x with
    | .pointer (some ⟨k,off,none⟩)=>(0<=m/\m<len)/\match bA P e with
     | some s=>C (val (.pointer (some ⟨k,off+m.toNat*s,none⟩)) [])
     | none=>False
    | _=>False
   | some (.slice e)=>match gev ts x with
    | .slice (some ⟨k,off,none⟩) len _=>(0<=m/\m<len)/\match bA P e with
     | some s=>C (val (.pointer (some ⟨k,off+m.toNat*s,none⟩)) [])
     | none=>False
    | _=>False
   | _=>False
  | _=>False
 | .index T x i=>okX ts hp x/\okX ts hp i/\match gev ts i with
  | .int _ m=>match P.underlying T with
   | some (.array len e)=>match gev ts x with
    | .agg cs=>(0<=m/\m<len)/\match bA P e with
     | some s=>match eh P e cs (m.toNat*s) with
      | some v=>C (val v [])
      | none=>False
     | none=>False
    | _=>False
   | some .string=>match gev ts x with
    | .string s=>match (if 0<=m then s[m.toNat]? else none) with
     | some b=>C (val (.int .u8 b.toNat) [])
     | none=>False
    | _=>False
   | _=>False
  | _=>False
 | .field T x f=>okX ts hp x/\match fdX P T f with
  | some (t,off)=>match gev ts x with
   | .agg cs=>match eh P t cs off with
    | some v=>C (val v [])
    | none=>False
   | _=>False
  | none=>False
 | .fieldAddr T x f=>okX ts hp x/\match fdX P T f with
  | some (_,off)=>match gev ts x with
   | .pointer (some ⟨k,o,none⟩)=>C (val (.pointer (some ⟨k,o+off,none⟩)) [])
   | _=>False
  | none=>False
 | .slice T x lo hi mx=>okX ts hp x/\(∀ y∈lo.toList,okX ts hp y)/\(∀ y∈hi.toList,okX ts hp y)/\mx.isNone=true/\match slX P T (gev ts x) (lo.map (gev ts)) (hi.map (gev ts)) with
  | some v=>C (val v [])
  | none=>False
 | .sliceToArrayPointer T x=>okX ts hp x/\match Th P T (gev ts x) with
  | some v=>C (val v [])
  | none=>False
 | .makeFunc fn first cap=>(∀ x∈first.toList,okX ts hp x/\da (gev ts x)=true)/\(∀ x∈cap.toList,okX ts hp x/\da (gev ts x)=true)/\C (val (.func fn (first.map (gev ts)) (cap.map (gev ts))) [])
 | .build T parts=>(∀ p∈parts.toList,okX ts hp p.2/\cw (gev ts p.2)=true)/\match cT P T with
  | some z=>cw z=true/\bz z=true/\match eL P T with
   | some pl=>match n6 pl z.cells (kY ts parts) with
    | some cs=>C (val (.agg cs) [])
    | none=>False
   | none=>False
  | none=>False
 | .buildSlice T len parts=>(∀ p∈parts.toList,okX ts hp p.2/\cw (gev ts p.2)=true)/\match P.underlying T with
  | some (.slice e)=>match bA P e with
   | some m=>match cT P e with
    | some z=>cw z=true/\bz z=true/\0<len*m/\len*m<=16777216/\match n6 (.inr m) ((Array.range (len*m)).map (z.cells[·%z.cells.size]!)) (kY ts parts) with
     | some cs=>C ⟨.slice (some ⟨nk,0,none⟩) len len,[],[],[(nk,⟨cs,e⟩)],none,false⟩
     | none=>False
    | none=>False
   | none=>False
  | _=>False
 | .makeInterface T x=>okX ts hp x/\da (gev ts x)=true/\match P.underlying T with
  | some (.interface _)=>False
  | some _=>C (val (.iface T (gev ts x)) [])
  | none=>False
 | .binOp op T x y _=>okX ts hp x/\okX ts hp y/\match vc P op T (gev ts x) (gev ts y) with
  | some v=>C (val v [])
  | none=>Kl P o ts hp λv=>C (val v [])
 | .unOp op _ x=>okX ts hp x/\match un1 op (gev ts x) with
  | some v=>C (val v [])
  | none=>False
 | .convert S T x=>okX ts hp x/\match zF P S T (gev ts x) with
  | some v=>C (val v [])
  | none=>Kl P o ts hp λv=>C (val v [])
 | .call c=>JA P G V nk yc ts hp c C
 | .panic x=>okX ts hp x/\bz (gev ts x)=true/\match gev ts x with
  | .iface T u=>C ⟨eY,[],[],[],some (.iface T u),false⟩
  | _=>False
 | .makeMap _ y=>y.isNone=true/\C ⟨.map (some nk),[],[],[(nk,mpB [])],none,false⟩
 | .insert T m k x=>okX ts hp m/\okX ts hp k/\okX ts hp x/\Ka P T (gev ts k)=true/\fnV (gev ts x)=true/\Nd hp (gev ts m) (gev ts k) (gev ts x) C
 | .lookup T x i ok=>okX ts hp x/\okX ts hp i/\ok=false/\Ka P T (gev ts i)=true/\lkX hp (gev ts x) (gev ts i) C
 | .select _ _=>False
 | .nilCheck x=>okX ts hp x/\ncX (gev ts x) C
 | .makeSlice T x y=>okX ts hp x/\okX ts hp y/\msU P nk (P.underlying T) (gev ts x) (gev ts y) C
 | _=>Kl P o ts hp λv=>C (val v [])

structure Shape (hp:Hp) (nk:Nat) (e:Eff):Prop where
 ws:∀ k∈ak e.ws,k∈e.rs/\dom hp k/\100<=k
 ns:∀ k∈ak e.ns,nk<=k/\k<nk+8
 once:∀ k b c,(k,b)∈e.ws++e.ns->(k,c)∈e.ws++e.ns->b=c

theorem Shape.val {hp:Hp} {nk:Nat} {v:Value} {rs:List Nat}:Shape hp nk (val v rs):=⟨by simp [Gy.val,ak],by simp [Gy.val,ak],by simp [Gy.val]⟩
theorem Shape.new {hp:Hp} {nk:Nat} {v:Value} {b:Blk}:Shape hp nk ⟨v,[],[],[(nk,b)],none,false⟩:=⟨ah,ah,by simp;rintro k b c h1 h2 h3 h4;rw [h2,h4]⟩
theorem Shape.wr {hp:Hp} {nk k:Nat} {v:Value} {b:Blk} (hk:dom hp k) (h1:100<=k):Shape hp nk ⟨v,[k],[(k,b)],[],none,false⟩:=⟨by simp [ak];exact ⟨hk,h1⟩,ah,by simp;rintro k b c h1 h2 h3 h4;rw [h2,h4]⟩

section
variable {P:Program} {o:Oper} {ts:eM} {hp:Hp} {nk:Nat} {G:Hp} {V:XV} {yc:Nat}

theorem sP {D:gA}:cJ D []=D:=funext λk=>by simp [cJ,ak]

theorem evR {r:cI} {D:gA} {a:Act} {rs:List Nat} {x:Operand} (h:zx o r D ts a) (hx:x∈o.op.operands) (hk:okX ts hp x) (ba:∀ k,k<100->D k->r k=k)
  (hD:∀ k,dom (rst hp rs) k->D k):a.eval x=ren r (gev ts x)/\aN D (gev ts x) :=
 ev h hx hk ba λk g8 hd=>hD k (by unfold dom rst at *;simp [g8,hd])

theorem fN {v:Value} {rs:List Nat} (h:∀ r D a W,zx o r D ts a->Sat r D (rst hp rs) W->(∀ k,k<100->D k->r k=k)->(∀ k,dom (rst hp rs) k->D k) ->
  (execOp a.eval o).run P W=.ok (.value (ren r v)) W/\aN D v):OpD P o ts (rst hp (val v rs).rs) (val v rs):=by
 intro r D a W hR hS _ ba hD _;obtain ⟨h1,h2⟩:=h r D a W hR hS ba hD;unfold pW;rw [h1];exact ⟨rfl,r,λ_ _=>rfl,rfl,by simp only [val,sP];exact h2,Turn.of_below (qq _ _)⟩

theorem Mi {x:Operand} (ho:o.op=.move x\/o.op=.assign x) (hx:okX ts hp x):OpD P o ts (rst hp (val (gev ts x) []).rs) (val (gev ts x) []) :=
 fN λr D a W hR _ ba hD=>by
  have:=evR hR (x:=x) (by rcases ho with h|h<;>simp [h,Op.operands]) hx ba hD;refine ⟨?_,this.2⟩;rcases ho with h|h<;>simp [execOp,h,this.1]

theorem V3 {c x y:Operand} {b:Bool} (ho:o.op=.pick c x y) (hc:okX ts hp c) (hb:gev ts c=.bool b) (hx:b=true->okX ts hp x) (hy:b=false->okX ts hp y) :
  OpD P o ts (rst hp (val (if b then gev ts x else gev ts y) []).rs) (val (if b then gev ts x else gev ts y) []) :=
 fN λr D a W hR _ ba hD=>by
  have h1:=evR hR (x:=c) bu hc ba hD;rw [hb] at h1;have RB:a.eval c=.bool b:=h1.1
  cases b with
  | true =>
   have:=evR hR (x:=x) bu (hx rfl) ba hD;exact ⟨by simp [execOp,ho,RB,asBool,this.1],this.2⟩
  | false =>
   have:=evR hR (x:=y) bu (hy rfl) ba hD;exact ⟨by simp [execOp,ho,RB,asBool,this.1],this.2⟩

theorem zw {b:Blk} {v:Value} (yA:aN (λk=>k=nk) v) (h:∀ r D a W,zx o r D ts a->Sat r D (rst hp []) W->(∀ k,k<100->D k->r k=k)->(∀ k,dom (rst hp []) k->D k) ->
  (execOp a.eval o).run P W=.ok (.value (ren (λ_=>W.heap.size) v)) (W.alloc (b.obj r))/\b.ids D) :
  OpD P o ts (rst hp (Eff.mk v [] [] [(nk,b)] none false).rs) ⟨v,[],[],[(nk,b)],none,false⟩:=by
 intro r D a W hR hS _ ba hD hns;obtain ⟨h1,h2⟩:=h r D a W hR hS ba hD;have mZ:¬D nk:=(hns (nk,b) zS).1;have hr:∀ k,D k->upd r nk W.heap.size k=r k:=λk hk=>aj _ _ (λe=>mZ (e▸hk));unfold pW;rw [h1];refine ⟨rfl,upd r nk W.heap.size,hr,(jg (D:=λk=>k=nk) (λk hk=>by subst hk;exact (bj _ _ _).symm) yA),il (λk hk=>.inr (by simp [ak,hk])) yA,?_⟩;refine ⟨rfl,rfl,rfl,zS,λk hk _=>lF _ _ _ hk,λp hp1=>?_,λp hp1=>?_,λp hp1 q nc _=>?_⟩
 ·simp only [bw,bE] at hp1;subst hp1;refine ⟨?_,Blk.ids_mono (λk hk=>.inl hk) h2⟩;simp only [bj];rw [Blk.obj_congr hr h2];exact uX W _
 ·simp only [bE] at hp1;subst hp1;simp [bj]
 ·simp only [bE] at hp1 nc;rw [hp1,nc]

theorem Rf {b:Blk} (h:∀ r D a W,zx o r D ts a->Sat r D (rst hp []) W->(∀ k,k<100->D k->r k=k)->(∀ k,dom (rst hp []) k->D k) ->
  (execOp a.eval o).run P W=.ok (.value (.pointer (some ⟨W.heap.size,0,none⟩))) (W.alloc (b.obj r))/\b.ids D) :
  OpD P o ts (rst hp (Eff.mk (th nk) [] [] [(nk,b)] none false).rs) ⟨th nk,[],[],[(nk,b)],none,false⟩ :=
 zw (by simp [th,aN,cp,aL,aR]) λr D a W hR hS hl hD=>by
  have:=h r D a W hR hS hl hD;exact ⟨by rw [this.1];simp [th,ren,aT,aw,aA],this.2⟩

theorem IA {T:TypeId} {v:Value} (W:World):(newVar T v).run P W=.ok ⟨W.heap.size,0,none⟩ (W.alloc (.cells v.cells T)):=by
 simp [newVar,newRow,newObj,Sem.run]

theorem S3 {T:TypeId} {z:Value} (ho:o.op=.alloc T) (hz:cT P T=some z) (hc:cw z=true) (hf:bz z=true) :
  OpD P o ts (rst hp (Eff.mk (th nk) [] [] [(nk,⟨z.cells,T⟩)] none false).rs) ⟨th nk,[],[],[(nk,⟨z.cells,T⟩)],none,false⟩ :=
 Rf λr D a W _ _ _ _=>by
  have h1:z.cells.map (aw r)=z.cells:=by rw [<-sN (hJ hc),bM hf]
  refine ⟨?_,?_⟩
  ·simp [execOp,ho,Instr.alloc,sy hz,IA,Blk.obj,h1]
  ·exact sL (hJ hc) (cb hf)

theorem aaC {T:TypeId} {x:Operand} (ho:o.op=.box T x) (hx:okX ts hp x) (hc:cw (gev ts x)=true) :
  OpD P o ts (rst hp (Eff.mk (th nk) [] [] [(nk,⟨(gev ts x).cells,T⟩)] none false).rs) ⟨th nk,[],[],[(nk,⟨(gev ts x).cells,T⟩)],none,false⟩ :=
 Rf λr D a W hR _ ba hD=>by
  have h1:=evR hR (x:=x) bu hx ba hD;refine ⟨?_,sL (hJ hc) h1.2⟩;simp [execOp,ho,Instr.box,IA,h1.1,sN (hJ hc),Blk.obj]

theorem LH {k:Nat} {rs:List Nat} (h:k∈rs):rst hp rs k=hp k:=by simp [rst,h]

theorem VZ {T:TypeId} {x:Operand} {k off:Nat} {b:Blk} {v:Value} (ho:o.op=.load T x) (hx:okX ts hp x) (hg:gev ts x=.pointer (some ⟨k,off,none⟩)) (hb:hp k=some b) (hv:ft P T b off=some v) :
  OpD P o ts (rst hp (val v [k]).rs) (val v [k]) :=
 fN λr D a W hR hS ba hD=>by
  have h1:=evR hR (x:=x) bu hx ba hD;rw [hg] at h1;have h2:=hS k b mf;have h3:a.eval x=.pointer (some ⟨r k,off,none⟩):=h1.1;refine ⟨?_,Ue hv h2.2⟩;simp [execOp,ho,Instr.loadAt,Instr.sureAddr,h3,yK hv h2.1]

theorem gS (W:World) (k:Nat) (ob:Obj):(W.putObj k ob).heap.size=W.heap.size:=by simp [World.putObj]

theorem Tb {T:TypeId} {x y:Operand} {k off:Nat} {b:Blk} (ho:o.op=.store T x y) (hx:okX ts hp x) (hy:okX ts hp y) (hg:gev ts x=.pointer (some ⟨k,off,none⟩)) (hb:hp k=some b) (dj:b.T.own=true)
  (hc:cw (gev ts y)=true) (hs:bA P T=some (gev ts y).cells.size) (hle:off+(gev ts y).cells.size<=b.c.size) :
  OpD P o ts (rst hp (Eff.mk undef [k] [(k,⟨gh b.c off (gev ts y).cells.toList,b.T⟩)] [] none false).rs) ⟨undef,[k],[(k,⟨gh b.c off (gev ts y).cells.toList,b.T⟩)],[],none,false⟩:=by
 intro r D a W hR hS _ ba hD _;have h1:=evR hR (x:=x) bu hx ba hD;have RB:=evR hR (x:=y) bu hy ba hD;rw [hg] at h1;have h2:=hS k b mf;have h3:a.eval x=.pointer (some ⟨r k,off,none⟩):=h1.1;obtain ⟨bc,bt⟩:=b
 cases bt with
 | raw _ _=>cases dj
 | mp=>cases dj
 | ty bt =>
 have eE:=Bp (P:=P) (r:=r) (T:=T) hc hs hle h2.1;have cA:r k<W.heap.size:=(a9.1 h2.1).1
 have:(execOp a.eval o).run P W=.ok .skip (W.putObj (r k) (.cells ((gh bc off (gev ts y).cells.toList).map (aw r)) bt (0,0))):=by
  simp [execOp,ho,Instr.storeAt,Instr.sureAddr,h3,RB.1,eE]
 unfold pW;rw [this];refine ⟨rfl,r,λ_ _=>rfl,(ir r).symm,kT _,?_⟩;refine ⟨rfl,rfl,rfl,v8,λj _ hn=>eH (λe=>hn _ (bE.2 rfl) e.symm),λp hp1=>?_,zS,zS⟩;simp only [dY,bE] at hp1;subst hp1;refine ⟨jq cA,?_⟩;simp only [sP];exact QK (Q:=aL D) _ (λz hz=>sL (hJ hc) RB.2 z (by simpa using hz)) _ _ h2.2

theorem GR {v:Value} (h:fnV v=true) (r:cI):ren r v=aw r v:=by cases v<;>first|rfl|cases h
theorem GQ {v:Value} (h:fnV v=true) {D:gA}:aN D v↔aL D v:=by cases v<;>first|exact jr|cases h
theorem acw {l:List (ByteArray×Value)} {x:Value} (h:x∈mpC l):(∃ s,x=.string s)\/∃ p∈l,x=p.2:=by
 simp only [mpC,fz,qK,al,aB,aC] at h;exact Fq
theorem Ad {l:List (ByteArray×Value)} {D:gA}:(mpB l).ids D↔∀ p∈l,aL D p.2:=by
 constructor
 ·intro h p hp;refine h p.2 ?_;simp only [mpB,mpC,fz,qK];exact ⟨p,hp,zS⟩
 ·intro h x hx;rcases acw hx with ⟨s,rfl⟩|⟨p,hp,rfl⟩
  ·trivial
  ·exact h p hp
theorem JJ {s:ByteArray} {v:Value}:∀ {l:List (ByteArray×Value)},gH s l=some v->∃ p∈l,p.2=v
 | [],h=>ew
 | p::l,h=>by
  simp only [gH] at h;split at h
  ·cases h;exact ⟨p,zS,rfl⟩
  ·obtain ⟨q,hq,e⟩:=JJ h;exact ⟨q,br _ hq,e⟩
theorem Mh {T:TypeId} {y:Option Operand} (ho:o.op=.makeMap T y) (hy:y.isNone=true):OpD P o ts (rst hp (Eff.mk (.map (some nk)) [] [] [(nk,mpB [])] none false).rs) ⟨.map (some nk),[],[],[(nk,mpB [])],none,false⟩ :=
 zw iT λr D a W _ _ _ _=>by
  obtain rfl:y=none:=rj;refine ⟨?_,Ad.2 zS⟩;rw [Ln];simp [execOp,ho,Instr.makeMap,newObj,Sem.run,ren,aT,aw,aA,uf]
theorem O2 {T:TypeId} {m k x:Operand} {q:Nat} {s:ByteArray} {l:List (ByteArray×Value)} (ho:o.op=.insert T m k x) (hm:okX ts hp m) (hk:okX ts hp k) (hx:okX ts hp x) (hT:tM P T=true) (hf:fnV (gev ts x)=true) (hgm:gev ts m=.map (some q)) (hgk:gev ts k=.string s) (hb:hp q=some (mpB l)) (hn:gH s l=none) :
  OpD P o ts (rst hp (Eff.mk undef [q] [(q,mpB (l++[(s,gev ts x)]))] [] none false).rs) ⟨undef,[q],[(q,mpB (l++[(s,gev ts x)]))],[],none,false⟩:=by
 intro r D a W hR hS _ ba hD _;have h1:=evR hR (x:=m) bu hm ba hD;have h2:=evR hR (x:=k) bu hk ba hD;have h3:=evR hR (x:=x) bu hx ba hD;rw [hgm] at h1;rw [hgk] at h2;have hs:=hS q _ mf;have e1:a.eval m=.map (some (r q)):=h1.1;have e2:a.eval k=.string s:=h2.1;have eE:=QD (P:=P) (T:=T) (x:=a.eval x) (v:=gev ts x) hT hs.1 hn (by rw [h3.1,GR hf]);have cA:r q<W.heap.size:=(a9.1 hs.1).1
 have:(execOp a.eval o).run P W=.ok .skip (W.putObj (r q) ((mpB (l++[(s,gev ts x)])).obj r)):=by
  simp [execOp,ho,e1,e2,eE]
 unfold pW;rw [this];refine ⟨rfl,r,λ_ _=>rfl,(ir r).symm,kT _,?_⟩;refine ⟨rfl,rfl,rfl,v8,λj _ hn=>eH (λe=>hn _ (bE.2 rfl) e.symm),λp hp1=>?_,zS,zS⟩;simp only [dY,bE] at hp1;subst hp1;refine ⟨jq cA,?_⟩;simp only [sP];refine Ad.2 λp hp2=>?_;rcases cN.1 hp2 with hp2|hp2
 ·exact Ad.1 hs.2 p hp2
 ·simp only [bE] at hp2;subst hp2;exact (GQ hf).1 h3.2
theorem O3 {T:TypeId} {m k:Operand} {q:Nat} {s:ByteArray} {l:List (ByteArray×Value)} {v:Value} (ho:o.op=.lookup T m k false) (hm:okX ts hp m) (hk:okX ts hp k) (hT:tM P T=true) (hgm:gev ts m=.map (some q)) (hgk:gev ts k=.string s) (hb:hp q=some (mpB l)) (hn:gH s l=some v) (hf:fnV v=true) :
  OpD P o ts (rst hp (val v [q]).rs) (val v [q]) :=
 fN λr D a W hR hS ba hD=>by
  have h1:=evR hR (x:=m) bu hm ba hD;have h2:=evR hR (x:=k) bu hk ba hD;rw [hgm] at h1;rw [hgk] at h2;have hs:=hS q _ mf;have e1:a.eval m=.map (some (r q)):=h1.1;have e2:a.eval k=.string s:=h2.1;have eE:=QE (P:=P) (T:=T) hT hs.1 hn;refine ⟨by simp [execOp,ho,e1,e2,eE,GR hf],?_⟩;obtain ⟨p,hp,rfl⟩:=JJ hn;exact (GQ hf).2 (Ad.1 hs.2 p hp)
theorem acy {l:List (Int×Value)} {x:Value} (h:x∈muC l):(∃ s,x=.int .u8 s)\/∃ p∈l,x=p.2:=by
 simp only [muC,fz,qK,al,aB,aC] at h;exact Fq
theorem G6 {l:List (Int×Value)} {D:gA}:(muB l).ids D↔∀ p∈l,aL D p.2:=by
 constructor
 ·intro h p hp;refine h p.2 ?_;simp only [muB,muC,fz,qK];exact ⟨p,hp,zS⟩
 ·intro h x hx;rcases acy hx with ⟨s,rfl⟩|⟨p,hp,rfl⟩
  ·trivial
  ·exact h p hp
theorem JK {s:Int} {v:Value}:∀ {l:List (Int×Value)},jT s l=some v->∃ p∈l,p.2=v
 | [],h=>ew
 | p::l,h=>by
  simp only [jT] at h;split at h
  ·cases h;exact ⟨p,zS,rfl⟩
  ·obtain ⟨q,hq,e⟩:=JK h;exact ⟨q,br _ hq,e⟩
theorem Mf {T:TypeId} {m k x:Operand} {q:Nat} {s:Int} {l:List (Int×Value)} (ho:o.op=.insert T m k x) (hm:okX ts hp m) (hk:okX ts hp k) (hx:okX ts hp x) (hT:Ay P T=true) (hf:fnV (gev ts x)=true) (hgm:gev ts m=.map (some q)) (hgk:gev ts k=.int .u8 s) (hb:hp q=some (muB l)) (hn:jT s l=none) :
  OpD P o ts (rst hp (Eff.mk undef [q] [(q,muB (l++[(s,gev ts x)]))] [] none false).rs) ⟨undef,[q],[(q,muB (l++[(s,gev ts x)]))],[],none,false⟩:=by
 intro r D a W hR hS _ ba hD _;have h1:=evR hR (x:=m) bu hm ba hD;have h2:=evR hR (x:=k) bu hk ba hD;have h3:=evR hR (x:=x) bu hx ba hD;rw [hgm] at h1;rw [hgk] at h2;have hs:=hS q _ mf;have e1:a.eval m=.map (some (r q)):=h1.1;have e2:a.eval k=.int .u8 s:=h2.1;have eE:=Ob (P:=P) (T:=T) (x:=a.eval x) (v:=gev ts x) hT hs.1 hn (by rw [h3.1,GR hf]);have cA:r q<W.heap.size:=(a9.1 hs.1).1
 have:(execOp a.eval o).run P W=.ok .skip (W.putObj (r q) ((muB (l++[(s,gev ts x)])).obj r)):=by
  simp [execOp,ho,e1,e2,eE]
 unfold pW;rw [this];refine ⟨rfl,r,λ_ _=>rfl,(ir r).symm,kT _,?_⟩;refine ⟨rfl,rfl,rfl,v8,λj _ hn=>eH (λe=>hn _ (bE.2 rfl) e.symm),λp hp1=>?_,zS,zS⟩;simp only [dY,bE] at hp1;subst hp1;refine ⟨jq cA,?_⟩;simp only [sP];refine G6.2 λp hp2=>?_;rcases cN.1 hp2 with hp2|hp2
 ·exact G6.1 hs.2 p hp2
 ·simp only [bE] at hp2;subst hp2;exact (GQ hf).1 h3.2
theorem Mg {T:TypeId} {m k:Operand} {q:Nat} {s:Int} {l:List (Int×Value)} {v:Value} (ho:o.op=.lookup T m k false) (hm:okX ts hp m) (hk:okX ts hp k) (hT:Ay P T=true) (hgm:gev ts m=.map (some q)) (hgk:gev ts k=.int .u8 s) (hb:hp q=some (muB l)) (hn:jT s l=some v) (hf:fnV v=true) :
  OpD P o ts (rst hp (val v [q]).rs) (val v [q]) :=
 fN λr D a W hR hS ba hD=>by
  have h1:=evR hR (x:=m) bu hm ba hD;have h2:=evR hR (x:=k) bu hk ba hD;rw [hgm] at h1;rw [hgk] at h2;have hs:=hS q _ mf;have e1:a.eval m=.map (some (r q)):=h1.1;have e2:a.eval k=.int .u8 s:=h2.1;have eE:=Oc (P:=P) (T:=T) hT hs.1 hn;refine ⟨by simp [execOp,ho,e1,e2,eE,GR hf],?_⟩;obtain ⟨p,hp,rfl⟩:=JK hn;exact (GQ hf).2 (G6.1 hs.2 p hp)
theorem Me {x:Operand} {i:Nat} {vs:bV} {v:Value} (ho:o.op=.extract x i) (hx:okX ts hp x) (hg:gev ts x=.tuple vs) (hv:vs[i]? = some v) (hn:jH v=true) :
  OpD P o ts (rst hp (val v []).rs) (val v []) :=
 fN λr D a W hR _ ba hD=>by
  have h1:=evR hR (x:=x) bu hx ba hD;rw [hg] at h1;have h3:a.eval x=.tuple (vs.map (aT r)):=h1.1;have h4:ren r v=aT r v:=by cases v<;>simp_all [jH,ren]
  refine ⟨by simp [execOp,ho,Instr.extract,h3,hv,h4],?_⟩;have:=h1.2 v (ke hv);cases v<;>simp_all [jH,aN]

theorem uq (k off m:Nat):(⟨k,off,none⟩:Addr).add m=⟨k,off+m,none⟩:=Addr.add_mid k off m

theorem O0 {T e:TypeId} {x i:Operand} {kd:IntKind} {m:Int} {len k off s:Nat} (ho:o.op=.indexAddr T x i) (hx:okX ts hp x) (hi:okX ts hp i) (TP:gev ts i=.int kd m)
  (hu:P.underlying T=some (.array len e)) (hg:gev ts x=.pointer (some ⟨k,off,none⟩)) (h0:0<=m) (hl:m<len) (hs:bA P e=some s) :
  OpD P o ts (rst hp (val (.pointer (some ⟨k,off+m.toNat*s,none⟩)) []).rs) (val (.pointer (some ⟨k,off+m.toNat*s,none⟩)) []) :=
 fN λr D a W hR _ ba hD=>by
  have h1:=evR hR (x:=x) bu hx ba hD;have h2:=evR hR (x:=i) bu hi ba hD;rw [hg] at h1;rw [TP] at h2;have h3:a.eval x=.pointer (some ⟨r k,off,none⟩):=h1.1;have h4:a.eval i=.int kd m:=h2.1;refine ⟨?_,h1.2⟩;have hD':D k:=mo;simp [execOp,ho,Instr.indexAt,h3,h4,asIntOf,run_underlying hu,Instr.sureAddr,h0,hl,fu hs,uq,ren,aT,aw,aA]

theorem O1 {T e:TypeId} {x i:Operand} {kd:IntKind} {m:Int} {len cap k off s:Nat} (ho:o.op=.indexAddr T x i) (hx:okX ts hp x) (hi:okX ts hp i) (TP:gev ts i=.int kd m)
  (hu:P.underlying T=some (.slice e)) (hg:gev ts x=.slice (some ⟨k,off,none⟩) len cap) (h0:0<=m) (hl:m<len) (hs:bA P e=some s) :
  OpD P o ts (rst hp (val (.pointer (some ⟨k,off+m.toNat*s,none⟩)) []).rs) (val (.pointer (some ⟨k,off+m.toNat*s,none⟩)) []) :=
 fN λr D a W hR _ ba hD=>by
  have h1:=evR hR (x:=x) bu hx ba hD;have h2:=evR hR (x:=i) bu hi ba hD;rw [hg] at h1;rw [TP] at h2;have h3:a.eval x=.slice (some ⟨r k,off,none⟩) len cap:=h1.1;have h4:a.eval i=.int kd m:=h2.1;refine ⟨?_,mo⟩;simp [execOp,ho,Instr.indexAt,h3,h4,asIntOf,run_underlying hu,h0,hl,fu hs,uq,ren,aT,aw,aA]

theorem KJ {fn:Fn} {first cap:Array Operand} (ho:o.op=.makeFunc fn first cap) (h1:∀ x∈first.toList,okX ts hp x/\da (gev ts x)=true) (h2:∀ x∈cap.toList,okX ts hp x/\da (gev ts x)=true) :
  OpD P o ts (rst hp (val (.func fn (first.map (gev ts)) (cap.map (gev ts))) []).rs) (val (.func fn (first.map (gev ts)) (cap.map (gev ts))) []) :=
 fN λr D a W hR _ ba hD=>by
  have e1:∀ x∈first,a.eval x=aA r (gev ts x)/\aR D (gev ts x):=λx hx=>by
   have h:=h1 x cG;exact Dl
  have e2:∀ x∈cap,a.eval x=aA r (gev ts x)/\aR D (gev ts x):=λx hx=>by
   have h:=h2 x cG;exact Dl
  refine ⟨?_,?_⟩
  ·simp only [execOp,ho,Instr.makeFunc,ren,aT,aw,fw];rw [bK (g:=aA r∘gev ts) (λx hx=>(e1 x hx).1),bK (g:=aA r∘gev ts) (λx hx=>(e2 x hx).1)]
   rfl
  ·refine ⟨λv hv=>?_,λv hv=>?_⟩
   ·obtain ⟨x,hx,rfl⟩:=dA.1 hv;exact (e1 x hx).2
   ·obtain ⟨x,hx,rfl⟩:=dA.1 hv;exact (e2 x hx).2

theorem V4 {v:Value} (hs:∀ cs b,o.op≠.select cs b) (h1:∀ x∈o.op.operands.toList,okX ts hp x/\bz (gev ts x)=true) (hv:bz v=true) (hr:∀ W,(execOp (gev ts) o).run P W=.ok (.value v) W) :
  OpD P o ts (rst hp (val v []).rs) (val v []) :=
 fN λr D a W hR _ ba hD=>by
  refine ⟨?_,cb hv⟩;rw [bM hv,<-hr W];congr 1;refine execOp_congr o hs λx hx=>?_;have h:=h1 x cG;rw [(evR hR hx h.1 ba hD).1,bM h.2]

theorem VX {c:Call} {f:Operand} {g:FuncId} {first cap:bV} {v:Value} (cK:ct G) (hG:∀ k,k<100->hp k=G k) (ho:o.op=.call c) (hc:c.callee=.value f) (hf:okX ts hp f) (AF:gev ts f=.func (.func g) first cap)
  (IW:first.size=0) (hca:cap.size=0) (ha:∀ x∈c.args.toList,okX ts hp x) (hr:Ret P G g (c.args.map (gev ts)) v\/aaF P g (c.args.map (gev ts)) v):OpD P o ts (rst hp (val v []).rs) (val v []):=by
 intro r D a W hR hS _ ba hD _;have BR:∀ x∈c.args.map (gev ts),bz x=true:=hr.elim (λh=>h.2.1) (λh=>h.2.1);obtain rfl:first=#[]:=wG
 obtain rfl:cap=#[]:=by cases cap;simpa using hca
 have h1:=evR hR (x:=f) ov hf ba hD;rw [AF] at h1;have h3:a.eval f=.func (.func g) #[] #[]:=oD
 have kv:c.args.map a.eval=c.args.map (gev ts):=bK λx hx=>by
  rw [(evR hR (x:=x) rQ (ha x cG) ba hD).1];exact bM (BR _ (dA.2 ⟨x,hx,rfl⟩))
 rcases hr with hr|⟨hv,_,hen⟩
 rotate_left
 ·have eE:(execOp a.eval o).run P W=.ok (.value v) W:=by
   exact xz
  unfold pW;rw [eE];exact ⟨rfl,r,λ_ _=>rfl,(bM hv).symm,cb hv,Turn.of_below (qq _ _)⟩
 obtain ⟨hv,_,hen,eP⟩:=hr
 have eE:(execOp a.eval o).run P W=.ok (.enter g (c.args.map (gev ts))) W:=by
  exact xz
 have fM:GOK G W:=λk b hk=>by
  obtain ⟨cA,BR⟩:=cK k b hk;have hb:rst hp [] k=some b:=by simp [rst,cA,hG k cA,hk]
  have h2:=hS k b hb;have hDk:D k:=hD k (by unfold dom;show rst hp [] k≠none;rw [hb];simp);exact Fo
 unfold pW;rw [eE];refine (eP W fM).mono λe gF ⟨he,hb⟩=>?_;subst he;exact Dg

theorem K3 {r:cI} {D:gA} {W:World} {rs:List Nat} (cK:ct G) (hG:∀ k,k<100->hp k=G k) (hS:Sat r D (rst hp rs) W) (ba:∀ k,k<100->D k->r k=k) (hD:∀ k,dom (rst hp rs) k->D k):GOK G W:=λk b hk=>by
 obtain ⟨cA,BR⟩:=cK k b hk;have hb:rst hp rs k=some b:=by simp [rst,cA,hG k cA,hk]
 have h2:=hS k b hb;have hDk:D k:=hD k fF;exact Fo

theorem yi {x:Operand} (h:okT ts x):okX ts hp x:=by cases x<;>first|exact h|exact h.elim

theorem aaD {c:Call} {f:Operand} {g:FuncId} {first cap:bV} {rs:List Nat} {res:Res} (cK:ct G) (hG:∀ k,k<100->hp k=G k) (ho:o.op=.call c) (hc:c.callee=.value f) (hf:okT ts f) (AF:gev ts f=.func (.func g) first cap)
  (IW:first.size=0) (JV:cap.all da=true) (ha:∀ x∈c.args.toList,okX ts hp x) (hr:Fun P G g (c.args.map (gev ts)++cap) hp rs res):OpD P o ts (rst hp (res.eff rs).rs) (res.eff rs):=by
 have ers:(res.eff rs).rs=rs:=by cases res<;>rfl
 rw [ers];intro r D a W hR hS gu ba hD arC;obtain rfl:first=#[]:=wG
 have hD':∀ k,k<100->dom hp k->D k:=λk hk hd=>hD k (by unfold dom rst at *;simp [hk,hd]);have h1:=ev hR (x:=f) ov (yi (hp:=hp) hf) ba hD';rw [AF] at h1;have h3:a.eval f=.func (.func g) #[] (cap.map (aA r)):=oD
 have kv:c.args.map a.eval=(c.args.map (gev ts)).map (ren r):=by
  rw [fw];exact bK λx hx=>(ev hR (x:=x) rQ (ha x cG) ba hD').1
 have eE:(execOp a.eval o).run P W=.ok (.enter g ((c.args.map (gev ts)).map (ren r)++cap.map (aA r))) W:=by
  exact xE
 have hS':Sat r (dom (rst hp rs)) (rst hp rs) W:=λk b hk=>⟨(hS k b hk).1,hr.closed k b hk⟩
 have eP:=hr.run r W (K3 cK hG hS ba hD) hS' (λk l hk hl=>gu k l (hD k hk) (hD l hl)) (λk hk hd=>ba k hk (hD k hd));have dS:∀ x∈cap,ren r x=aA r x:=λx hx=>hU (cV.1 JV x hx)
 have e2:(c.args.map (gev ts)).map (ren r)++cap.map (aA r)=(c.args.map (gev ts)++cap).map (ren r):=by
  exact xN
 unfold pW;rw [eE];dsimp only;rw [e2];refine eP.mono λe gF he=>?_
 cases res with
 | ret v ws =>
  obtain ⟨rfl,ht⟩:=he;refine ⟨rfl,r,λ_ _=>rfl,rfl,il (λk hk=>.inl (hD k hk)) hr.fits.1,{ ht with has:=λp hp1=>⟨(ht.has p hp1).1,Blk.ids_mono (λk hk=>hk.imp (hD k) id) (ht.has p hp1).2⟩ }⟩
 | pan v =>
  obtain ⟨rfl,hb⟩:=he;exact ⟨v,rfl,rfl,hb⟩
 | new v ns =>
  have hns:∀ k∈ak ns,¬D k:=λk hk=>by
   obtain ⟨p,hp1,rfl⟩:=aI.1 hk;exact (arC p hp1).1
  obtain ⟨r1,h1,rfl,ht⟩:=he (λk hk hd=>hns k hk (hD k hd));let r2:Nat->Nat:=λk=>if k∈ak ns then r1 k else r k
  have e1:∀ k,cJ (dom (rst hp rs)) ns k->r2 k=r1 k:=λk hk=>by
   by_cases h:k∈ak ns
   ·simp [r2,h]
   ·have g8:=hk.resolve_right h;simp only [r2,h,bY];exact (h1 k g8).symm
  have e2:∀ k,D k->r2 k=r k:=λk hk=>by simp only [r2,ab (λh=>hns k h hk)]
  have e3:∀ p∈ns,r2 p.1=r1 p.1:=λp hp1=>e1 _ (.inr (aI.2 ⟨p,hp1,rfl⟩));refine ⟨rfl,r2,e2,(jg e1 hr.fits.1).symm,il (λk hk=>hk.imp (hD k) id) hr.fits.1,ht.os,ht.tape,ht.output,ht.size,λk hk _=>ht.same k hk zS,λp hp1=>?_,λp hp1=>by rw [e3 p hp1];exact ht.fresh p hp1,λp hp1 q nc h=>ht.apart p hp1 q nc (by rw [<-e3 p hp1,<-e3 q nc];exact h)⟩;have hp1:p∈ns:=by simpa [Res.eff] using hp1
  have hh:=ht.has p oA;rw [e3 p hp1,Blk.obj_congr e1 hh.2];exact ⟨hh.1,Blk.ids_mono (λk hk=>hk.imp (hD k) id) hh.2⟩


theorem yE (f:Value->Value) (off:Nat):∀ (l:List (Value×Nat)) (cs:bV),
  (l.map λp=>(f p.1,p.2)).foldl (λcs (p:Value×Nat)=>cs.setIfInBounds (off+p.2) p.1) (cs.map f)=(l.foldl (λcs (p:Value×Nat)=>cs.setIfInBounds (off+p.2) p.1) cs).map f
 | [],cs=>rfl
 | p::l,cs=>by
  simp only [bJ,qu];rw [<-Array.map_setIfInBounds,yE f off l]
theorem yF {Q:iQ} (off:Nat):∀ (l:List (Value×Nat)) (cs:bV),(∀ p∈l,Q p.1)->(∀ x∈cs,Q x)->∀ x∈l.foldl (λcs (p:Value×Nat)=>cs.setIfInBounds (off+p.2) p.1) cs,Q x
 | [],_,_,h=>h
 | p::l,cs,hl,h=>by
  simp only [qu];refine yF off l _ (λq hq=>hl q (br _ hq)) (λx hx=>?_);rcases BK hx with h'|h'
  ·exact h x h'
  ·exact h'▸hl p zS
theorem yv (off:Nat) (vs cs:bV):vs.zipIdx.foldl (λcs (c,j)=>cs.setIfInBounds (off+j) c) cs=vs.toList.zipIdx.foldl (λcs (p:Value×Nat)=>cs.setIfInBounds (off+p.2) p.1) cs:=by
 rw [<-nM,Array.toList_zipIdx]

theorem zL {r:cI} {pl:Nat->Option (Nat×Nat)}:∀ (parts:List (Nat×Value)) (cells cs:bV),(∀ p∈parts,cw p.2=true)->Instr.fill pl cells parts=some cs ->
  Instr.fill pl (cells.map (aw r)) (parts.map λp=>(p.1,ren r p.2))=some (cs.map (aw r))
 | [],cells,cs,_,h=>by simp only [Instr.fill,bg] at h;subst h;rfl
 | (i,v)::rest,cells,cs,hp,h=>by
  simp only [Instr.fill,bJ] at h |-
  cases tk:pl i with
  | none=>simp [tk] at h
  | some os =>
   obtain ⟨off,size⟩:=os;simp only [tk] at h |-;have hc:=sN (r:=r) (hJ (hp (i,v) zS));rw [hc];simp only [uW];split at h
   ·cases h
   ·rename_i hn;rw [ab hn];have:=zL (r:=r) rest _ cs (λp db=>hp p (br _ db)) h;rw [<-this];congr 1;rw [yv,yv,<-yE];congr 1;simp [List.zipIdx_map]

theorem zK {D:gA} {pl:Nat->Option (Nat×Nat)}:∀ (parts:List (Nat×Value)) (cells cs:bV),(∀ p∈parts,cw p.2=true/\aN D p.2)->(∀ x∈cells,aL D x)->Instr.fill pl cells parts=some cs->∀ x∈cs,aL D x
 | [],cells,cs,_,hc,h=>by simp only [Instr.fill,bg] at h;subst h;exact hc
 | (i,v)::rest,cells,cs,hp,hc,h=>by
  simp only [Instr.fill] at h
  cases tk:pl i with
  | none=>simp [tk] at h
  | some os =>
   obtain ⟨off,size⟩:=os;simp only [tk] at h;split at h
   ·cases h
   ·refine zK rest _ cs (λp db=>hp p (br _ db)) ?_ h;rw [yv];have h0:=hp (i,v) zS;refine yF off _ _ (λq hq=>?_) hc
    have:q.1∈v.cells.toList:=by
     have:=List.mem_zipIdx' (x:=q.1) (i:=q.2) (by simpa using hq);rw [this.2];exact uE _
    exact sL (hJ h0.1) h0.2 _ (by simpa using this)

theorem Tk {r:cI} {T:TypeId} {parts:List (Nat×Value)} {cs:bV} {z:Value} (hz:cT P T=some z) (hzc:cw z=true) (y9:bz z=true) (hp:∀ p∈parts,cw p.2=true)
  (h:P.built T parts=some cs):P.built T (parts.map λp=>(p.1,ren r p.2))=some (cs.map (aw r)):=by
 have hzm:z.cells.map (aw r)=z.cells:=by rw [<-sN (hJ hzc),bM y9]
 unfold Program.built at h |-;unfold cT at hz
 cases hi:P.info? T with
 | none=>simp [hi] at hz
 | some it =>
  simp [hi] at hz;simp only [hi] at h |-
  cases hu:P.underlying T with
  | none=>simp [hu] at h
  | some dd =>
   cases dd<;>try (simp [hu] at h;done)
   case array n e =>
    simp only [hu,hz] at h |-
    cases hie:P.info? e with
    | none=>simp [hie] at h
    | some ie =>
     simp only [hie] at h |-;rw [<-hzm];exact zL _ _ _ hp h
   case struct fs =>
    simp only [hu,hz] at h |-
    cases hm:fs.toList.mapM (λf=>(P.info? f.type).map λi=>(f.offset,i.size)) with
    | none=>simp [hm] at h
    | some pl =>
     simp only [hm] at h |-;rw [<-hzm];exact zL _ _ _ hp h

theorem Tj {D:gA} {T:TypeId} {parts:List (Nat×Value)} {cs:bV} {z:Value} (hz:cT P T=some z) (hzc:cw z=true) (y9:bz z=true) (hp:∀ p∈parts,cw p.2=true/\aN D p.2)
  (h:P.built T parts=some cs):∀ x∈cs,aL D x:=by
 have hzi:∀ x∈z.cells,aL D x:=sL (hJ hzc) (cb y9);unfold Program.built at h;unfold cT at hz
 cases hi:P.info? T with
 | none=>simp [hi] at hz
 | some it =>
  simp [hi] at hz;simp only [hi] at h
  cases hu:P.underlying T with
  | none=>simp [hu] at h
  | some dd =>
   cases dd<;>try (simp [hu] at h;done)
   case array n e =>
    simp only [hu,hz] at h
    cases hie:P.info? e with
    | none=>simp [hie] at h
    | some ie =>
     simp only [hie] at h;exact zK _ _ _ hp hzi h
   case struct fs =>
    simp only [hu,hz] at h
    cases hm:fs.toList.mapM (λf=>(P.info? f.type).map λi=>(f.offset,i.size)) with
    | none=>simp [hm] at h
    | some pl =>
     simp only [hm] at h;exact zK _ _ _ hp hzi h

theorem S4 {T:TypeId} {parts:Array (Nat×Operand)} {z:Value} {cs:bV} (ho:o.op=.build T parts) (h1:∀ p∈parts.toList,okX ts hp p.2/\cw (gev ts p.2)=true)
  (hz:cT P T=some z) (hzc:cw z=true) (y9:bz z=true) (K8:P.built T (kY ts parts)=some cs):OpD P o ts (rst hp (val (.agg cs) []).rs) (val (.agg cs) []) :=
 fN λr D a W hR _ ba hD=>by
  have e1:∀ p∈parts.toList,a.eval p.2=ren r (gev ts p.2)/\aN D (gev ts p.2):=λp hp1 =>
   evR hR (x:=p.2) (by
    simp only [ho,Op.operands];simp only [fz,aD];exact ⟨p,hp1,rfl⟩) (h1 p hp1).1 ba hD
  have e2:(parts.map λ(i,x)=>(i,a.eval x)).toList=(kY ts parts).map λp=>(p.1,ren r p.2):=by
   exact Dy
  have h3:=Tk (r:=r) hz hzc y9 (λp hp1=>by
   simp only [kY,aD] at hp1;obtain ⟨q,hq,rfl⟩:=hp1;exact (h1 q hq).2) K8
  rw [<-e2] at h3;refine ⟨?_,Tj (D:=D) hz hzc y9 (λp hp1=>?_) K8⟩
  ·simp only [execOp,ho,aY,run_build W T _ _ h3,bD,cx,ren,aT]
  ·simp only [kY,aD] at hp1;obtain ⟨q,hq,rfl⟩:=hp1;exact ⟨(h1 q hq).2,(e1 q hq).2⟩

theorem Av (off:Nat):∀ (l:List Value) (j:Nat) (cs:bV),(l.zipIdx j).foldl (λcs (p:Value×Nat)=>cs.setIfInBounds (off+p.2) p.1) cs=gh cs (off+j) l
 | [],_,_=>rfl
 | v::l,j,cs=>by
  simp only [List.zipIdx_cons,qu,gh];rw [Av off l (j+1)]
  rfl
theorem A4 {pl:List (Nat×Nat) ⊕ Nat}:∀ (parts:List (Nat×Value)) (cells cs:bV),n6 pl cells parts=some cs->Instr.fill (LA pl) cells parts=some cs
 | [],_,_,h=>h
 | (i,v)::rest,cells,cs,h=>by
  simp only [n6] at h;simp only [Instr.fill]
  cases tk:LA pl i with
  | none=>simp [tk] at h
  | some os =>
   obtain ⟨off,size⟩:=os;simp only [tk] at h |-;split at h
   ·rename_i hc;rw [ab (by simp [hc.1];rw [<-hc.1];exact hc.2),yv];have:=Av off v.cells.toList 0 cells;rw [this];exact A4 rest _ cs h
   ·cases h
theorem Hw {T:TypeId} {z:Value} {pl:List (Nat×Nat) ⊕ Nat} {parts:List (Nat×Value)} {cs:bV} (hz:cT P T=some z) (tk:eL P T=some pl) (h:n6 pl z.cells parts=some cs):P.built T parts=some cs:=by
 have h:=A4 _ _ _ h;unfold cT at hz;unfold eL at tk;unfold Program.built
 cases hi:P.info? T with
 | none=>simp [hi] at hz
 | some it =>
  have hz':it.zero=some z:=by simpa [hi] using hz
  cases hu:P.underlying T with
  | none=>simp [hu] at tk
  | some dd =>
   cases dd<;>try (simp [hu] at tk;done)
   case array n e =>
    simp only [hu] at tk |-;unfold bA at tk
    cases hie:P.info? e with
    | none=>simp [hie] at tk
    | some ie =>
     simp [hie] at tk;subst tk;simp only [hz'];exact h
   case struct fs =>
    simp only [hu] at tk |-
    cases hm:fs.toList.mapM (λf=>(P.info? f.type).map λi=>(f.offset,i.size)) with
    | none=>simp [hm] at tk
    | some l =>
     simp [hm] at tk;subst tk;simp only [hz'];have:(λx=>l.toArray[x]?)=LA (.inl l):=by funext x;simp [LA]
     rw [this];exact h

theorem S7 {T:TypeId} {x:Operand} {dd:TypeDesc} (ho:o.op=.makeInterface T x) (hx:okX ts hp x) (h1:da (gev ts x)=true) (hu:P.underlying T=some dd) (hn:∀ ms,dd≠.interface ms) :
  OpD P o ts (rst hp (val (.iface T (gev ts x)) []).rs) (val (.iface T (gev ts x)) []) :=
 fN λr D a W hR _ ba hD=>by
  have:=evR hR (x:=x) bu hx ba hD;refine ⟨?_,(jF h1).1 this.2⟩;simp only [execOp,ho,Instr.makeInterface,aY,run_underlying hu,bD];rw [this.1,hU h1]
  cases dd<;>first
   | exact absurd rfl (hn _)
   | simp [ren,aT,aw]

theorem JG:∀ (xs ys:List Value) (r:Bool),Gu xs ys=some r->(∀ x∈xs,bP x=true)/\(∀ y∈ys,bP y=true)
 | [],[],_,_=>⟨zS,zS⟩
 | .int k a::xs,.int k' b::ys,r,h=>by
  simp only [Gu] at h;split at h
  ·split at h
   ·rename_i q hq;have:=JG xs ys q hq;exact ⟨by simpa [bP,mD] using this.1,by simpa [bP,mD] using this.2⟩
   ·cases h
  ·cases h

theorem Wo {op:BinOp} {T:TypeId} {x y v:Value} (r:cI) (h:vc P op T x y=some v):vc P op T (ren r x) (ren r y)=some v:=by
 have key:∀ {xs ys:bV} {q:Bool},KL P T xs ys=some q->bz (.agg xs)=true/\bz (.agg ys)=true:=λ{xs ys q} h=>by
  unfold KL Jy at h;split at h
  ·unfold I8 at h;split at h
   ·split at h
    ·have:=JG _ _ _ h;exact ⟨cV.2 (λx hx=>this.1 x cG),cV.2 (λx hx=>this.2 x cG)⟩
    ·cases h
   ·cases h
  ·split at h
   ·split at h
    ·rename_i hf;simp only [bO] at hf;exact hf
    ·cases h
   ·cases h
 have h0:=h;unfold vc at h;split at h
 ·exact h0
 ·exact h0
 ·split at h
  ·exact Fi
  ·exact Fi
  ·cases h
 ·rename_i p l c
  cases p with
  | none=>exact h0
  | some a=>exact h0
 ·cases h

theorem aaB {op:BinOp} {T yT:TypeId} {x y:Operand} {v:Value} (ho:o.op=.binOp op T x y yT) (hx:okX ts hp x) (hy:okX ts hp y) (hv:vc P op T (gev ts x) (gev ts y)=some v) :
  OpD P o ts (rst hp (val v []).rs) (val v []) :=
 fN λr D a W hR _ ba hD=>by
  have h1:=evR hR (x:=x) bu hx ba hD;have h2:=evR hR (x:=y) bu hy ba hD;have hs:=Pa (ox:=x) (oy:=y) (Wo r hv) W;refine ⟨?_,cb hs.2⟩;rw [bM hs.2];have:=hs.1;simp only [execOp,ho,h1.1,h2.1];rw [aY,this]
  rfl

theorem ZA {op:UnOp} {x v:Value} (h:un1 op x=some v):bz x=true:=by
 unfold un1 at h;split at h<;>first|rfl|cases h

theorem afy {op:UnOp} {T:TypeId} {x:Operand} {v:Value} (ho:o.op=.unOp op T x) (hx:okX ts hp x) (hv:un1 op (gev ts x)=some v):OpD P o ts (rst hp (val v []).rs) (val v []) :=
 fN λr D a W hR _ ba hD=>by
  have h1:=evR hR (x:=x) bu hx ba hD;have hs:=U7 (P:=P) hv W;rw [bM (ZA hv)] at h1;exact D4

theorem Po {S T:TypeId} {x v:Value} (h:zF P S T x=some v):bz x=true:=by
 unfold zF at h;split at h<;>first|rfl|cases h

theorem VY {S T:TypeId} {x:Operand} {v:Value} (ho:o.op=.convert S T x) (hx:okX ts hp x) (hv:zF P S T (gev ts x)=some v):OpD P o ts (rst hp (val v []).rs) (val v []) :=
 fN λr D a W hR _ ba hD=>by
  have h1:=evR hR (x:=x) bu hx ba hD;have hs:=Mz hv W;rw [bM (Po hv)] at h1;exact D4

theorem Hk {T e:TypeId} {len m:Nat} {parts:Array (Nat×Operand)} {z:Value} {cs:bV} (ho:o.op=.buildSlice T len parts) (h0:∀ p∈parts.toList,okX ts hp p.2/\cw (gev ts p.2)=true)
  (hu:P.underlying T=some (.slice e)) (hm:bA P e=some m) (hz:cT P e=some z) (hzc:cw z=true) (y9:bz z=true) (TU:0<len*m) (hle:len*m<=16777216)
  (K8:n6 (.inr m) ((Array.range (len*m)).map (z.cells[·%z.cells.size]!)) (kY ts parts)=some cs) :
  OpD P o ts (rst hp (Eff.mk (.slice (some ⟨nk,0,none⟩) len len) [] [] [(nk,⟨cs,e⟩)] none false).rs) ⟨.slice (some ⟨nk,0,none⟩) len len,[],[],[(nk,⟨cs,e⟩)],none,false⟩ :=
 zw iT λr D a W hR _ ba hD=>by
  have e1:∀ p∈parts.toList,a.eval p.2=ren r (gev ts p.2)/\aN D (gev ts p.2):=λp hp1 =>
   evR hR (x:=p.2) (by
    simp only [ho,Op.operands];simp only [fz,aD];exact ⟨p,hp1,rfl⟩) (h0 p hp1).1 ba hD
  have e2:(parts.map λ(i,x)=>(i,a.eval x)).toList=(kY ts parts).map λp=>(p.1,ren r p.2):=by
   exact Dy
  have hzi:∀ x∈z.cells,bP x=true:=λx hx=>by
   exact DQ
  have MT:∀ x∈(Array.range (len*m)).map (z.cells[·%z.cells.size]!),bP x=true:=λx hx=>by
   exact C5
  have mU:((Array.range (len*m)).map (z.cells[·%z.cells.size]!)).map (aw r)=(Array.range (len*m)).map (z.cells[·%z.cells.size]!):=eK λx hx=>eU (MT x hx);have hf:=A4 _ _ _ K8
  have XB:∀ p∈kY ts parts,cw p.2=true/\aN D p.2:=λp hp1=>by
   simp only [kY,aD] at hp1;obtain ⟨q,hq,rfl⟩:=hp1;exact ⟨(h0 q hq).2,(e1 q hq).2⟩
  have L5:=zL (r:=r) _ _ _ (λp hp1=>(XB p hp1).1) hf;rw [mU,<-e2] at L5;refine ⟨?_,zK (D:=D) _ _ _ XB (λx hx=>jd (MT x hx)) hf⟩;have df:¬len*m=0:=zO;have arw:¬len*m>2^24:=zO;simp only [execOp,ho,Instr.buildSlice,aY,run_underlying hu,bD,fu hm,df,arw,bY,sy hz,cx];have:LA (.inr m)=λi=>some (i*m,m):=rfl;rw [this] at L5;rw [L5];simp [newRow,newObj,Sem.run,ren,aT,aw,aA,Blk.obj]

theorem Od {r:cI} {T:TypeId} {cs:bV} {off:Nat} {v:Value} (h:eh P T cs off=some v) (W:World):(part T (cs.map (aw r)) off).run P W=.ok (ren r v) W:=by
 unfold eh at h;unfold part
 cases ha:oe P T with
 | none=>simp [ha] at h
 | some bb =>
  rw [aY,pA ha];simp only [bD]
  cases bb with
  | true =>
   simp only [ha] at h
   cases hs:bA P T with
   | none=>simp [hs] at h
   | some m =>
    simp only [hs] at h;split at h
    ·cases h;simp [aY,fu hs,ren,aT]
    ·simp at h
  | false =>
   simp only [ha] at h
   cases hc:cs[off]? with
   | none=>simp [hc] at h
   | some u =>
    simp only [hc] at h;split at h
    ·rename_i hsc;cases h;simp [hc,N7 hsc]
    ·cases h

theorem MJ {T:TypeId} {f:Nat} {t:TypeId} {off:Nat} (h:fdX P T f=some (t,off)):∃ fs fd,P.underlying T=some (.struct fs)/\fs[f]? = some fd/\fd.type=t/\fd.offset=off/\∃ m,bA P fd.type=some (m+1):=by
 unfold fdX at h;split at h
 ·rename_i fs hu;split at h
  ·rename_i fd hf;split at h
   ·rename_i m hs;cases h;exact ⟨fs,fd,hu,hf,rfl,rfl,m,hs⟩
   ·cases h
  ·cases h
 ·cases h

theorem S8 {T e:TypeId} {x i:Operand} {kd:IntKind} {m:Int} {len s:Nat} {cs:bV} {v:Value} (ho:o.op=.index T x i) (hx:okX ts hp x) (hi:okX ts hp i) (TP:gev ts i=.int kd m)
  (hu:P.underlying T=some (.array len e)) (hg:gev ts x=.agg cs) (h0:0<=m) (hl:m<len) (hs:bA P e=some s) (hv:eh P e cs (m.toNat*s)=some v) :
  OpD P o ts (rst hp (val v []).rs) (val v []) :=
 fN λr D a W hR _ ba hD=>by
  have h1:=evR hR (x:=x) bu hx ba hD;have h2:=evR hR (x:=i) bu hi ba hD;rw [hg] at h1;rw [TP] at h2;have h3:a.eval x=.agg (cs.map (aw r)):=h1.1;have h4:a.eval i=.int kd m:=h2.1;refine ⟨?_,Be hv h1.2⟩;have:=Od (r:=r) hv W;simp [execOp,ho,Instr.index,h3,h4,asIntOf,run_underlying hu,h0,hl,fu hs,this]

theorem KI {T:TypeId} {x i:Operand} {kd:IntKind} {m:Int} {s:ByteArray} {b:UInt8} (ho:o.op=.index T x i) (hx:okX ts hp x) (hi:okX ts hp i) (TP:gev ts i=.int kd m)
  (hu:P.underlying T=some .string) (hg:gev ts x=.string s) (hb:(if 0<=m then s[m.toNat]? else none)=some b) :
  OpD P o ts (rst hp (val (.int .u8 b.toNat) []).rs) (val (.int .u8 b.toNat) []) :=
 fN λr D a W hR _ ba hD=>by
  have h1:=evR hR (x:=x) bu hx ba hD;have h2:=evR hR (x:=i) bu hi ba hD;rw [hg] at h1;rw [TP] at h2;have h3:a.eval x=.string s:=h1.1;have h4:a.eval i=.int kd m:=h2.1;refine ⟨?_,eG⟩;simp [execOp,ho,Instr.index,h3,h4,asIntOf,run_underlying hu,hb,ren,aT,aw,aA]

theorem S6 {T t:TypeId} {x:Operand} {f off:Nat} {cs:bV} {v:Value} (ho:o.op=.field T x f) (hx:okX ts hp x) (hf:fdX P T f=some (t,off)) (hg:gev ts x=.agg cs) (hv:eh P t cs off=some v) :
  OpD P o ts (rst hp (val v []).rs) (val v []) :=
 fN λr D a W hR _ ba hD=>by
  have h1:=evR hR (x:=x) bu hx ba hD;rw [hg] at h1;obtain ⟨fs,fd,hu,hfd,rfl,rfl,_⟩:=MJ hf;have h3:a.eval x=.agg (cs.map (aw r)):=h1.1;refine ⟨?_,Be hv h1.2⟩;have:=Od (r:=r) hv W;simp [execOp,ho,Instr.field,h3,asAgg,run_underlying hu,hfd,this]

theorem I3 {T t:TypeId} {x:Operand} {f off k oo:Nat} (ho:o.op=.fieldAddr T x f) (hx:okX ts hp x) (hf:fdX P T f=some (t,off)) (hg:gev ts x=.pointer (some ⟨k,oo,none⟩)) :
  OpD P o ts (rst hp (val (.pointer (some ⟨k,oo+off,none⟩)) []).rs) (val (.pointer (some ⟨k,oo+off,none⟩)) []) :=
 fN λr D a W hR _ ba hD=>by
  have h1:=evR hR (x:=x) bu hx ba hD;rw [hg] at h1;obtain ⟨fs,fd,hu,hfd,rfl,rfl,m,hs⟩:=MJ hf;have h3:a.eval x=.pointer (some ⟨r k,oo,none⟩):=h1.1;refine ⟨?_,mo⟩;simp [execOp,ho,Instr.fieldAt,h3,Instr.sureAddr,run_underlying hu,hfd,fieldPlace,fu hs,uq,ren,aT,aw,aA]

theorem KK {x:Operand} {k oo:Nat} (ho:o.op=.nilCheck x) (hx:okX ts hp x) (hg:gev ts x=.pointer (some ⟨k,oo,none⟩)) :
  OpD P o ts (rst hp (val (.pointer (some ⟨k,oo,none⟩)) []).rs) (val (.pointer (some ⟨k,oo,none⟩)) []) :=
 fN λr D a W hR _ ba hD=>by
  have h1:=evR hR (x:=x) bu hx ba hD;rw [hg] at h1;have h3:a.eval x=.pointer (some ⟨r k,oo,none⟩):=h1.1;refine ⟨?_,h1.2⟩;simp [execOp,ho,h3,ren,aT,aw,aA]

theorem Q4 (l:Int) (h0:0<l) (h1:l<=4096):IntKind.i64.wrap l=l:=by
 simp only [IntKind.wrap,IntKind.bits,IntKind.signed];simp;omega
theorem I4 {T e:TypeId} {m b:Nat} {l:Int} {x y:Operand} {z:Value} (ho:o.op=.makeSlice T x y) (h0:okX ts hp x) (h1:okX ts hp y) (hx:gev ts x=.int .i64 l) (hy:gev ts y=.int .i64 l)
  (hu:P.underlying T=some (.slice e)) (hm:bA P e=some m) (hz:cT P e=some z) (hb:tyB P e=some b) (hzc:cw z=true) (y9:bz z=true) (Xx:0<l) (HU:l<=4096) (ju:b<=4096) (TU:0<m) :
  OpD P o ts (rst hp (Eff.mk (.slice (some ⟨nk,0,none⟩) l.toNat l.toNat) [] [] [(nk,⟨(Array.range (l.toNat*m)).map (z.cells[·%z.cells.size]!),e⟩)] none false).rs) ⟨.slice (some ⟨nk,0,none⟩) l.toNat l.toNat,[],[],[(nk,⟨(Array.range (l.toNat*m)).map (z.cells[·%z.cells.size]!),e⟩)],none,false⟩ :=
 zw iT λr D a W hR _ ba hD=>by
  have e1:=evR hR (x:=x) bu h0 ba hD;have e2:=evR hR (x:=y) bu h1 ba hD;rw [hx] at e1;rw [hy] at e2;have e1:a.eval x=.int .i64 l:=e1.1;have e2:a.eval y=.int .i64 l:=e2.1
  have hzi:∀ x∈z.cells,bP x=true:=λx hx=>by
   exact DQ
  have MT:∀ x∈(Array.range (l.toNat*m)).map (z.cells[·%z.cells.size]!),bP x=true:=λx hx=>by
   exact C5
  have mU:((Array.range (l.toNat*m)).map (z.cells[·%z.cells.size]!)).map (aw r)=(Array.range (l.toNat*m)).map (z.cells[·%z.cells.size]!):=eK λx hx=>eU (MT x hx);refine ⟨?_,λx hx=>jd (MT x hx)⟩;have hw:IntKind.i64.wrap l=l:=Q4 l Xx HU
  have Ji:(b:Int)*l<=16777216:=by
   have:=cU (a:=(b:Int)) (b:=l) (c:=4096) (d:=4096) zO HU zO zO;omega
  have hbn:l.toNat*b<=16777216:=by
   have:=j0 (zO:l.toNat<=4096) ju;omega
  have t1:(decide (l<0)||decide ((b:Int)*l>2^48))=false:=by
   rw [kn];exact ⟨aX zO,aX zO⟩
  have t2:¬l.toNat*b>roomBytes:=by unfold roomBytes;omega
  have t3:¬l.toNat*m=0:=by
   have:=Nat.mul_pos (zO:0<l.toNat) TU;omega
  unfold tyB at hb
  cases hi:P.info? e with
  | none=>rw [hi] at hb;cases hb
  | some i =>
   rw [hi] at hb;simp only [gL,bg] at hb;subst hb;have hty:∀ W,(typeInfo e).run P W=.ok i W:=λW=>by simp [typeInfo,hi]
   simp only [execOp,ho,Instr.makeSlice,e1,e2,asInt,asIntOf,aY,run_underlying hu,bD,fu hm,hty,cx,hw,t1];have t5:(decide (l<0))=false:=aX zO;have t6:(decide (l>l))=false:=aX zO;simp [askRoom,t2,t3,t5,t6,fu hm,sy hz,newRow,newObj,Sem.run,ren,aT,aw,aA,Blk.obj,mU]
theorem yr {y:Nat} {k:IntKind} {m:Int} {c:BoundsCode} (h:0<=m/\m<=y) (W:World):(Instr.sliceBound (.int k m) y c).run P W=.ok m.toNat W:=by
 simp [Instr.sliceBound,asIntOf,h]
theorem lq {b:Bool} {len cap l h:Nat} {lo hi:Option Value} (hs:la len cap lo hi=some (l,h)) (W:World):(Instr.sliceBounds b len cap lo hi none).run P W=.ok (l,h,cap) W:=by
 unfold la at hs
 cases hh:hiG len cap hi with
 | none=>rw [hh] at hs;cases hs
 | some h' =>
  rw [hh] at hs;simp only [j5] at hs;obtain ⟨l',hl,e⟩:=hs;cases e;unfold Instr.sliceBounds
  cases hi with
  | none =>
   simp only [hiG,bg] at hh;subst hh
   cases lo with
   | none=>simp only [loG,bg] at hl;subst hl;simp
   | some v =>
    cases v<;>simp only [loG] at hl<;>first|(cases hl;done)|skip
    split at hl
    ·rename_i hc;cases hl;simp [yr hc]
    ·cases hl
  | some u =>
   cases u<;>simp only [hiG] at hh<;>first|(cases hh;done)|skip
   split at hh
   ·rename_i hd;cases hh
    cases lo with
    | none=>simp only [loG,bg] at hl;subst hl;simp [yr hd]
    | some v =>
     cases v<;>simp only [loG] at hl<;>first|(cases hl;done)|skip
     split at hl
     ·rename_i hc;cases hl;simp [yr hd,yr hc]
     ·cases hl
   ·cases hh

theorem QI {len cap:Nat} {lo hi:Option Value} {p:Nat×Nat} (h:la len cap lo hi=some p):(∀ v,lo=some v->bz v=true)/\(∀ v,hi=some v->bz v=true):=by
 unfold la at h;split at h
 ·cases h
 ·rename_i h' hh;refine ⟨λv e=>?_,λv e=>?_⟩
  ·subst e;cases v<;>first|rfl|(simp [loG] at h)
  ·subst e;cases v<;>first|rfl|(simp [hiG] at hh)

theorem ID {a:Option (Nat×Nat)} {s c:Nat} {p:Option (Nat×Nat)} {v:Value} (h:slV a s c p=some v):∃ l hh,p=some (l,hh)/\v=.slice (a.map λp=>⟨p.1,if c=l then p.2 else p.2+l*s,none⟩) (hh - l) (c - l):=by
 unfold slV at h;split at h
 ·rename_i l hh;cases h;exact ⟨l,hh,rfl,rfl⟩
 ·cases h

theorem Ta {T:TypeId} {x:Operand} {lo hi mx:Option Operand} {v:Value} (ho:o.op=.slice T x lo hi mx) (hx:okX ts hp x) (hlo:∀ y∈lo.toList,okX ts hp y) (hhi:∀ y∈hi.toList,okX ts hp y) (hmx:mx.isNone=true)
  (hv:slX P T (gev ts x) (lo.map (gev ts)) (hi.map (gev ts))=some v):OpD P o ts (rst hp (val v []).rs) (val v []) :=
 fN λr D a W hR _ ba hD=>by
  obtain rfl:mx=none:=by cases mx<;>simp_all
  have h1:=evR hR (x:=x) bu hx ba hD
  have key:∀ {n c:Nat} {p:Nat×Nat},la n c (lo.map (gev ts)) (hi.map (gev ts))=some p->lo.map a.eval=lo.map (gev ts)/\hi.map a.eval=hi.map (gev ts):=λ{n c p} hp1=>by
   obtain ⟨f1,f2⟩:=QI hp1;constructor
   ·cases lo with
    | none=>rfl
    | some y =>
     simp only [gL] at f1 |-;rw [(evR hR (x:=y) bu (hlo y zS) ba hD).1,bM (f1 _ rfl)]
   ·cases hi with
    | none=>rfl
    | some y =>
     simp only [gL] at f2 |-;rw [(evR hR (x:=y) bu (hhi y zS) ba hD).1,bM (f2 _ rfl)]
  have ifs:∀ (c l k o1 o2:Nat),(if c=l then (⟨k,o1,none⟩:Addr) else ⟨k,o2,none⟩)=⟨k,if c=l then o1 else o2,none⟩:=λc l k o1 o2=>by split<;>rfl
  unfold slX at hv;split at hv
  ·rename_i n e hu;split at hv
   ·rename_i k off hg;split at hv
    ·rename_i s hs;obtain ⟨l,hh,hp1,rfl⟩:=ID hv;obtain ⟨q1,q2⟩:=key hp1;rw [hg] at h1;have h3:a.eval x=.pointer (some ⟨r k,off,none⟩):=h1.1;refine ⟨?_,mo⟩;have e1:=lq (P:=P) (b:=false) hp1 W;simp only [execOp,ho,qG,q1,q2,h3,Instr.sliceAt,aY,run_underlying hu,bD,Instr.sureAddr,cx,e1,fu hs,uq];simp [ren,aT,aw,aA,ifs]
    ·cases hv
   ·cases hv
  ·rename_i e hu;split at hv
   ·rename_i k off n c hg;split at hv
    ·rename_i s hs;obtain ⟨l,hh,hp1,rfl⟩:=ID hv;obtain ⟨q1,q2⟩:=key hp1;rw [hg] at h1;have h3:a.eval x=.slice (some ⟨r k,off,none⟩) n c:=h1.1;refine ⟨?_,mo⟩;have e1:=lq (P:=P) (b:=true) hp1 W;simp only [execOp,ho,qG,q1,q2,h3,Instr.sliceAt,Instr.slice,aY,run_underlying hu,bD,cx,e1,fu hs];simp [ren,aT,aw,aA,uq];split<;>rfl
    ·cases hv
   ·rename_i n c hg;split at hv
    ·rename_i s hs;obtain ⟨l,hh,hp1,rfl⟩:=ID hv;obtain ⟨q1,q2⟩:=key hp1;rw [hg] at h1;have h3:a.eval x=.slice none n c:=h1.1;refine ⟨?_,lR⟩;have e1:=lq (P:=P) (b:=true) hp1 W;simp only [execOp,ho,qG,q1,q2,h3,Instr.sliceAt,Instr.slice,aY,run_underlying hu,bD,cx,e1,fu hs];simp [ren,aT,aw,aA]
    ·cases hv
   ·cases hv
  ·rename_i hu;split at hv
   ·rename_i s hg;unfold slS at hv;split at hv
    ·rename_i l hh hp1;cases hv;obtain ⟨q1,q2⟩:=key hp1;rw [hg] at h1;have h3:a.eval x=.string s:=h1.1;refine ⟨?_,lR⟩;have e1:=lq (P:=P) (b:=false) hp1 W;simp only [execOp,ho,qG,q1,q2,h3,Instr.sliceAt,Instr.slice,aY,run_underlying hu,bD,cx];simp [aY,e1,ren,aT,aw,aA]
    ·cases hv
   ·cases hv
  ·cases hv

theorem aaA {T:TypeId} {x:Operand} {v:Value} (ho:o.op=.sliceToArrayPointer T x) (hx:okX ts hp x) (hv:Th P T (gev ts x)=some v):OpD P o ts (rst hp (val v []).rs) (val v []) :=
 fN λr D a W hR _ ba hD=>by
  have h1:=evR hR (x:=x) bu hx ba hD;unfold Th at hv;split at hv
  ·rename_i n e hu;split at hv
   ·rename_i ad len c hg;split at hv
    ·rename_i hle;cases hv;rw [hg] at h1;have hn:¬len<n:=zO
     cases ad with
     | none =>
      have h3:a.eval x=.slice none len c:=h1.1;exact ⟨Ch,lR⟩
     | some ad =>
      have h3:a.eval x=.slice (some { ad with block:=r ad.block }) len c:=h1.1;exact ⟨Ch,mo⟩
    ·cases hv
   ·cases hv
  ·cases hv

theorem X5 {r:cI} {T t:TypeId} {u v:Value} (h:T9 P T u=some v) (W:World):(Builtin.len_ #[T] t #[ren r u]).run P W=.ok v W/\bz v=true:=by
 unfold T9 at h;split at h
 ·rename_i hu;split at h
  ·cases h;exact ⟨CB,rfl⟩
  ·cases h
 ·rename_i n e hu;cases h;exact ⟨by simp [Builtin.len_,run_underlying hu,goInt],rfl⟩
 ·rename_i e hu;split at h
  ·rename_i ad n c;cases h;cases ad<;>exact ⟨CB,rfl⟩
  ·cases h
 ·cases h
theorem Kd {b:Bool}:∀ {l:List Value} {x v:Value},zb b x l=some v->bz x=true/\(∀ x∈l,bz x=true)/\bz v=true
 | [],x,v,h=>by
  cases x<;>simp only [zb,aht] at h<;>first|(cases h;done)|skip
  cases h;exact ⟨rfl,zS,rfl⟩
 | y::l,x,v,h=>by
  simp only [zb] at h;split at h
  ·rename_i z hz;have ih:=Kd h;unfold Kc at hz;split at hz
   ·cases hz
    exact ⟨rfl,λq hq=>by
     simp only [al] at hq;rcases hq with rfl|hq
     ·rfl
     ·exact ih.2.1 q hq,ih.2.2⟩
   ·cases hz
  ·cases h
theorem Bg {b:Bool} {l:List Value} {v:Value} (h:Ia b l=some v):(∀ x∈l,bz x=true)/\bz v=true:=by
 cases l with
 | nil=>cases h
 | cons x l =>
  have:=Kd h
  exact ⟨λq hq=>by
   simp only [al] at hq;rcases hq with rfl|hq
   ·exact this.1
   ·exact this.2.1 q hq,this.2.2⟩
theorem No:∀ {l:List Value} {x v:Value} (W:World),zb true x l=some v->(l.foldlM Builtin.max2 x).run P W=.ok v W
 | [],x,v,W,h=>by
  exact Ge
 | y::l,x,v,W,h=>by
  simp only [zb] at h;split at h
  ·rename_i z hz;have hr:=No W h;unfold Kc at hz;split at hz
   ·cases hz;simp only [aU] at hr;simp only [List.foldlM_cons,aY,Builtin.max2,cx,bD];exact hr
   ·cases hz
  ·cases h
theorem Np:∀ {l:List Value} {x v:Value} (W:World),zb false x l=some v->(l.foldlM Builtin.min2 x).run P W=.ok v W
 | [],x,v,W,h=>by
  exact Ge
 | y::l,x,v,W,h=>by
  simp only [zb] at h;split at h
  ·rename_i z hz;have hr:=Np W h;unfold Kc at hz;split at hz
   ·cases hz;simp only [gB,bY] at hr;simp only [List.foldlM_cons,aY,Builtin.min2,cx,bD];exact hr
   ·cases hz
  ·cases h
theorem acr {l:List Value} {v:Value} (W:World) (h:Ia true l=some v):∃ x rest,l=x::rest/\(rest.foldlM Builtin.max2 x).run P W=.ok v W:=by
 cases l with
 | nil=>cases h
 | cons x l=>exact ⟨x,l,rfl,No W h⟩
theorem acv {l:List Value} {v:Value} (W:World) (h:Ia false l=some v):∃ x rest,l=x::rest/\(rest.foldlM Builtin.min2 x).run P W=.ok v W:=by
 cases l with
 | nil=>cases h
 | cons x l=>exact ⟨x,l,rfl,Np W h⟩
theorem S5 {c:Call} {v:Value} (ho:o.op=.call c) (hx:∀ x∈c.args.toList,okX ts hp x) (hv:AR P ts c=some v):OpD P o ts (rst hp (val v []).rs) (val v []) :=
 fN λr D a W hR _ ba hD=>by
  have RH:∀ x∈c.args,a.eval x=ren r (gev ts x):=λx PY=>(evR hR (x:=x) (by simp [ho,Op.operands,Call.operands,PY]) (hx x (by simpa using PY)) ba hD).1;have alM:c.args.toList.map a.eval=c.args.toList.map λx=>ren r (gev ts x):=dK λx PY=>RH x (by simpa using PY)
  have fl:∀ {b:Bool},Ia b (c.args.toList.map (gev ts))=some v->(c.args.map a.eval).toList=c.args.toList.map (gev ts):=λ{b} h=>by
   rw [iH,alM];exact dK λx PY=>bM ((Bg h).1 _ (aD.2 ⟨x,PY,rfl⟩))
  unfold AR at hv;split at hv
  ·rename_i hc;split at hv
   ·rename_i x T h1 h2;have e1:c.args=#[x]:=by rw [<-nR (xs:=c.args),h1]
    have e2:c.argTypes=#[T]:=by rw [<-nR (xs:=c.argTypes),h2]
    have e3:=X5 (P:=P) (r:=r) (t:=o.type) hv W;refine ⟨?_,cb e3.2⟩;have e4:=RH x (by rw [e1];simp);simp only [execOp,ho,resolve,hc,aY,cx,bD,invoke,builtin,e1,e2,bM e3.2];simp only [ff,bJ,dt,e4,e3.1,bD]
   ·cases hv
  ·rename_i hc;have e3:=Bg hv;refine ⟨?_,cb e3.2⟩;obtain ⟨x,rest,e5,e6⟩:=acr (P:=P) W hv;have e4:=fl hv;simp only [execOp,ho,resolve,hc,aY,cx,bD,invoke,builtin,Builtin.max_,e4,e5,e6,bM e3.2]
  ·rename_i hc;have e3:=Bg hv;refine ⟨?_,cb e3.2⟩;obtain ⟨x,rest,e5,e6⟩:=acv (P:=P) W hv;have e4:=fl hv;simp only [execOp,ho,resolve,hc,aY,cx,bD,invoke,builtin,Builtin.min_,e4,e5,e6,bM e3.2]
  ·cases hv

def unD (o:Oper) (ts:eM):Prop :=
 match o.op with
 | .call c=>match c.callee with
  | .value (.tmp t)=>ts t=undef
  | .value (.func _)=>True
  | .builtin _=>True
  | _=>False
 | _=>True
def unC (P:Program) (o:Oper):Prop :=
 match o.op with
 | .call c=>match c.callee with
  | .value (.func f)=>∃ fn,P.funcs[f]? = some fn
  | _=>True
 | _=>True

theorem SS {y:YG} {yc:Nat} {hp:Hp} (h:y.lies yc hp):ak (Bw y yc).ws=match y.sh with|none=>[]|some s=>[s.w]:=by
 unfold YG.lies at h;unfold Bw YG.pan
 cases hs:y.sh with
 | none=>simp only;split<;>rfl
 | some s =>
  rw [hs] at h;have e:(if yc=y.stop then y.pn else none)=none:=by split<;>first|exact h.2.2|rfl
  rw [e]
  rfl
def okp (P:Program) (Y:Option YG):OKP where
 ok o ts yc hp e:=(e.yl=false/\OpD P o ts hp e)\/(e.yl=true/\OpY Y o ts yc hp e)
 congr o ts oW yc xS hp e ht hy h:=by
  rcases h with ⟨h1,h2⟩|⟨h1,y,f,args,T,h2,h3,h4,h5,h6,h7,h8,h9,pb⟩
  ·exact .inl ⟨h1,h2.congr ht⟩
  ·have hm:∀ x∈o.op.operands,gev ts x=gev oW x:=λx hx=>by
    cases x<;>first|rfl|exact ht _ hx
   have hk:∀ x∈o.op.operands,okT ts x->okT oW x:=λx hx h=>by
    cases x<;>first|exact h|(have:=ht _ hx;simp only [okT] at h |-;rwa [<-this])
   have hf:f∈o.op.operands:=by simp [h3,Op.operands,Call.operands]
   have ha:∀ x∈args,x∈o.op.operands:=λx hx=>by simp [h3,Op.operands,Call.operands,hx]
   refine .inr ⟨h1,y,f,args,T,h2,h3,hk f hf h4,λx hx=>⟨hk x (ha x cG) (h5 x hx).1,by rw [<-hm x (ha x (by simpa using hx))];exact (h5 x hx).2⟩,by rw [<-hm f hf];exact h6,by rw [<-hy h1];exact h7,?_,by rw [<-hy h1];exact h9,by rw [<-hy h1];exact pb⟩;rw [<-hy h1,h8];congr 1;exact bK λx hx=>by rw [hm x (ha x hx)]
 yw o ts yc hp e o' oW xS db e' h h' he he':=by
  rcases h with ⟨h1,_⟩|⟨_,y,f,args,T,h2,_,_,_,_,_,_,h9,pb⟩
  ·rw [h1] at he;cases he
  ·rcases h' with ⟨k1,_⟩|⟨_,y',f',fL,T',k2,_,_,_,_,_,_,k9,k10⟩
   ·rw [k1] at he';cases he'
   ·rw [h2] at k2;cases k2;rw [h9,k9,SS pb,SS k10]
 un o ts:=unD o ts/\unC P o
 uncongr o ts oW ht h:=by
  refine ⟨?_,h.2⟩;have h1:=h.1;unfold unD at *
  split
  ·rename_i c hc;simp only [hc] at h1
   cases MV:c.callee with
   | value x =>
    simp only [MV] at h1 |-
    cases x with
    | tmp t=>simp only at h1 |-;rw [<-ht t (by simp [hc,MV,Op.operands,Call.operands])];exact h1
    | func f=>trivial
    | _=>exact h1.elim
   | invoke x m=>simp only [MV] at h1
   | builtin b=>trivial
  ·trivial

theorem Lm {Y:Option YG}:OZ P (okp P Y):=by
 intro o ts r D a W hR hu f hf;obtain ⟨h1,h2⟩:=hu;unfold Oper.about at hf;unfold unD at h1;unfold unC at h2;split at hf
 ·rename_i c hc;simp only [hc] at h1 h2
  cases MV:c.callee with
  | value x =>
   simp only [MV] at h1 h2
   cases x with
   | tmp t =>
    simp only at h1;have:=((hR t).resolve_left (by rw [h1];simp [undef,eY])).1;rw [h1,ir] at this;have he:a.eval (.tmp t)=undef:=this;simp [resolve,MV,he,Deferred.ofValue,undef,stuck] at hf
   | func g =>
    simp only at h2;simp [resolve,MV,Act.eval,Deferred.ofValue,Target.leads] at hf;subst hf;exact h2
   | _=>exact h1.elim
  | invoke x m=>simp only [MV] at h1
  | builtin b=>simp [resolve,MV,Target.leads] at hf
 ·cases hf
theorem Td {c:Call} {f:Operand} {g:FuncId} {first cap:bV} {oc:Out} (cK:ct G) (hG:∀ k,k<100->hp k=G k) (ho:o.op=.call c) (hc:c.callee=.value f) (hf:okX ts hp f) (AF:gev ts f=.func (.func g) first cap)
  (IW:first.size=0) (hca:cap.size=0) (ha:∀ x∈c.args.toList,okX ts hp x) (hr:yP P G g (c.args.map (gev ts)) oc):OpD P o ts (rst hp oc.eff.rs) oc.eff:=by
 have ers:oc.eff.rs=[]:=by cases oc<;>rfl
 rw [ers];intro r D a W hR hS _ ba hD _;have BR:∀ x∈c.args.map (gev ts),bz x=true:=hr.2.1;obtain rfl:first=#[]:=wG
 obtain rfl:cap=#[]:=by cases cap;simpa using hca
 have h1:=evR (rs:=[]) hR (x:=f) ov hf ba hD;rw [AF] at h1;have h3:a.eval f=.func (.func g) #[] #[]:=oD
 have kv:c.args.map a.eval=c.args.map (gev ts):=bK λx hx=>by
  rw [(evR (rs:=[]) hR (x:=x) rQ (ha x cG) ba hD).1];exact bM (BR _ (dA.2 ⟨x,hx,rfl⟩))
 obtain ⟨hv,_,hen,eP⟩:=hr
 have eE:(execOp a.eval o).run P W=.ok (.enter g (c.args.map (gev ts))) W:=by
  exact xz
 have fM:GOK G W:=K3 cK hG hS ba hD;unfold pW;rw [eE];refine (eP W fM).mono λe gF he=>?_
 cases oc with
 | ret v =>
  obtain ⟨rfl,hb⟩:=he;have hv:=hv v rfl;exact Dg
 | pan v =>
  obtain ⟨rfl,hb⟩:=he;exact ⟨v,rfl,rfl,hb⟩
theorem S9 {x:Operand} {T:TypeId} {u:Value} (ho:o.op=.panic x) (hx:okX ts hp x) (hf:bz (gev ts x)=true) (hg:gev ts x=.iface T u):OpD P o ts (rst hp []) ⟨eY,[],[],[],some (.iface T u),false⟩:=by
 intro r D a W hR _ _ ba hD _;have h1:=evR (rs:=[]) hR (x:=x) bu hx ba hD;have h2:a.eval x=.iface T u:=by rw [h1.1,bM hf,hg]
 unfold pW
 have:(execOp a.eval o).run P W=.halt (.panic (.iface T u)) W:=by
  simp [execOp,ho,h2,Instr.panic]
 rw [this];exact ⟨by simp [Oper.about,ho],rfl,qq _ _⟩

theorem s6 {C:Eff->Prop} (cK:ct G) (hG:∀ k,k<100->hp k=G k) (h:opX P G V yc o ts hp nk C):∃ e,(okp P V.Y).ok o ts yc (rst hp e.rs) e/\Shape hp nk e/\C e:=by
 unfold opX at h;split at h
 case h_1 x ho=>exact ⟨_,.inl ⟨rfl,Mi (.inl ho) h.1⟩,.val,h.2⟩
 case h_2 x ho=>exact ⟨_,.inl ⟨rfl,Mi (.inr ho) h.1⟩,.val,h.2⟩
 case h_3 c x y ho =>
  obtain ⟨h0,h⟩:=h;split at h
  ·rename_i b hb;exact ⟨_,.inl ⟨rfl,V3 ho h0 hb h.1 h.2.1⟩,.val,h.2.2⟩
  ·exact aK
 case h_4 T ho =>
  split at h
  ·rename_i z hz;exact ⟨_,.inl ⟨rfl,S3 ho hz h.1 h.2.1⟩,.new,h.2.2⟩
  ·exact aK
 case h_5 T x ho=>exact ⟨_,.inl ⟨rfl,aaC ho h.1 h.2.1⟩,.new,h.2.2⟩
 case h_6 T x ho =>
  obtain ⟨h0,h⟩:=h;split at h
  ·rename_i k off hg;split at h
   ·rename_i b hb;split at h
    ·rename_i v hv;exact ⟨_,.inl ⟨rfl,VZ ho h0 hg hb hv⟩,.val,h⟩
    ·exact aK
   ·exact aK
  ·exact aK
 case h_7 T x y ho =>
  obtain ⟨h0,Z4,h⟩:=h;split at h
  ·rename_i k off hg;split at h
   ·rename_i b hb;obtain ⟨dj,h1,h2,h3,h4,h5⟩:=h;exact ⟨_,.inl ⟨rfl,Tb ho h0 Z4 hg hb dj h1 h2 h3⟩,.wr fF h4,h5⟩
   ·exact aK
  ·exact aK
 case h_8 x i ho =>
  obtain ⟨h0,h⟩:=h;split at h
  ·rename_i vs hg;split at h
   ·rename_i v hv;exact ⟨_,.inl ⟨rfl,Me ho h0 hg hv h.1⟩,.val,h.2⟩
   ·exact aK
  ·exact aK
 case h_9 T x i ho =>
  obtain ⟨h0,Z4,h⟩:=h;split at h
  ·rename_i kd m TP;split at h
   ·rename_i len e hu;split at h
    ·rename_i k off hg;obtain ⟨⟨h1,h2⟩,h⟩:=h;split at h
     ·rename_i s hs;exact ⟨_,.inl ⟨rfl,O0 ho h0 Z4 TP hu hg h1 h2 hs⟩,.val,h⟩
     ·exact aK
    ·exact aK
   ·rename_i e hu;split at h
    ·rename_i k off len cap hg;obtain ⟨⟨h1,h2⟩,h⟩:=h;split at h
     ·rename_i s hs;exact ⟨_,.inl ⟨rfl,O1 ho h0 Z4 TP hu hg h1 h2 hs⟩,.val,h⟩
     ·exact aK
    ·exact aK
   ·exact aK
  ·exact aK
 case h_10 T x i ho =>
  obtain ⟨h0,Z4,h⟩:=h;split at h
  ·rename_i kd m TP;split at h
   ·rename_i len e hu;split at h
    ·rename_i cs hg;obtain ⟨⟨h1,h2⟩,h⟩:=h;split at h
     ·rename_i s hs;split at h
      ·rename_i v hv;exact ⟨_,.inl ⟨rfl,S8 ho h0 Z4 TP hu hg h1 h2 hs hv⟩,.val,h⟩
      ·exact aK
     ·exact aK
    ·exact aK
   ·rename_i hu;split at h
    ·rename_i s hg;split at h
     ·rename_i b hb;exact ⟨_,.inl ⟨rfl,KI ho h0 Z4 TP hu hg hb⟩,.val,h⟩
     ·exact aK
    ·exact aK
   ·exact aK
  ·exact aK
 case h_11 T x f ho =>
  obtain ⟨h0,h⟩:=h;split at h
  ·rename_i t off hf;split at h
   ·rename_i cs hg;split at h
    ·rename_i v hv;exact ⟨_,.inl ⟨rfl,S6 ho h0 hf hg hv⟩,.val,h⟩
    ·exact aK
   ·exact aK
  ·exact aK
 case h_12 T x f ho =>
  obtain ⟨h0,h⟩:=h;split at h
  ·rename_i t off hf;split at h
   ·rename_i k oo hg;exact ⟨_,.inl ⟨rfl,I3 ho h0 hf hg⟩,.val,h⟩
   ·exact aK
  ·exact aK
 case h_13 T x lo hi mx ho =>
  obtain ⟨h0,h1,h2,h3,h⟩:=h;split at h
  ·rename_i v hv;exact ⟨_,.inl ⟨rfl,Ta ho h0 h1 h2 h3 hv⟩,.val,h⟩
  ·exact aK
 case h_14 T x ho =>
  obtain ⟨h0,h⟩:=h;split at h
  ·rename_i v hv;exact ⟨_,.inl ⟨rfl,aaA ho h0 hv⟩,.val,h⟩
  ·exact aK
 case h_15 fn first cap ho=>exact ⟨_,.inl ⟨rfl,KJ ho h.1 h.2.1⟩,.val,h.2.2⟩
 case h_16 T parts ho =>
  obtain ⟨h0,h⟩:=h;split at h
  ·rename_i z hz;obtain ⟨h1,h2,h⟩:=h;split at h
   ·rename_i pl tk;split at h
    ·rename_i cs K8;exact ⟨_,.inl ⟨rfl,S4 ho h0 hz h1 h2 (Hw hz tk K8)⟩,.val,h⟩
    ·exact aK
   ·exact aK
  ·exact aK
 case h_17 T len parts ho =>
  obtain ⟨h0,h⟩:=h;split at h
  ·rename_i e hu;split at h
   ·rename_i m hm;split at h
    ·rename_i z hz;obtain ⟨h1,h2,h3,h4,h⟩:=h;split at h
     ·rename_i cs K8;exact ⟨_,.inl ⟨rfl,Hk ho h0 hu hm hz h1 h2 h3 h4 K8⟩,.new,h⟩
     ·exact aK
    ·exact aK
   ·exact aK
  ·exact aK
 case h_18 T x ho =>
  obtain ⟨h0,h1,h⟩:=h;split at h
  ·exact aK
  ·rename_i dd hn hu;exact ⟨_,.inl ⟨rfl,S7 ho h0 h1 hu (λms e=>hn ms e)⟩,.val,h⟩
  ·exact aK
 case h_19 op T x y yT ho =>
  obtain ⟨h0,h1,h⟩:=h;split at h
  ·rename_i v hv;exact ⟨_,.inl ⟨rfl,aaB ho h0 h1 hv⟩,.val,h⟩
  ·exact xy
 case h_20 op T x ho =>
  obtain ⟨h0,h⟩:=h;split at h
  ·rename_i v hv;exact ⟨_,.inl ⟨rfl,afy ho h0 hv⟩,.val,h⟩
  ·exact aK
 case h_21 S T x ho =>
  obtain ⟨h0,h⟩:=h;split at h
  ·rename_i v hv;exact ⟨_,.inl ⟨rfl,VY ho h0 hv⟩,.val,h⟩
  ·exact xy
 case h_22 c ho =>
  unfold JA at h;split at h
  ·rename_i f hc;obtain ⟨h1,h⟩:=h;unfold xY at h;split at h
   ·rename_i g first cap AF
    obtain ⟨h2,h4,h⟩:=h;split at h
    ·rename_i aen;split at h
     ·obtain ⟨oc,h5,h6⟩:=h;refine ⟨_,.inl ⟨by cases oc<;>rfl,Td cK hG ho hc (yi h1) AF h2 aen.1 h4 h5⟩,?_,h6⟩;cases oc<;>exact ⟨by simp [Out.eff,val,ak],by simp [Out.eff,val,ak],by simp [Out.eff,val]⟩
     ·obtain ⟨v,h5,h6⟩:=h;exact ⟨_,.inl ⟨rfl,VX cK hG ho hc (yi h1) AF h2 aen.1 h4 h5⟩,.val,h6⟩
    ·obtain ⟨h3,db,rs,res,nc,RQ,h5,m9,h6⟩:=h;replace h5:=h5.under (hp:=hp) λk hk=>hk.elim (λhk=>(RQ k hk).trans (hG k hk).symm) (λhk=>nc k hk);have fp:=h5.fits;refine ⟨res.eff rs,.inl ⟨by cases res<;>rfl,aaD cK hG ho hc h1 AF h2 h3 h4 h5⟩,?_,h6⟩
     cases res with
     | ret v ws=>exact ⟨λk hk=>fp.2.1 k hk,rR,λk b c hb hc=>fp.2.2.1 k b c (by simpa [Res.eff] using hb) (by simpa [Res.eff] using hc)⟩
     | pan v=>exact ⟨rR,rR,by simp [Res.eff]⟩
     | new v ns=>exact ⟨rR,m9,λk b c hb hc=>fp.2.2 k b c (by simpa [Res.eff] using hb) (by simpa [Res.eff] using hc)⟩
   ·rename_i l first cap AF
    obtain ⟨h2,h3,h4,h⟩:=h;obtain rfl:first=#[]:=by cases first;simpa using h2
    obtain rfl:cap=#[]:=by cases cap;simpa using h3
    unfold IS at h;split at h
    ·rename_i y hy;obtain ⟨rfl,h5,h8,h6,h9,h7⟩:=h;obtain ⟨callee,args,T⟩:=c;simp only at hc;subst hc
     have HV:y.lies yc (rst hp (Bw y yc).rs):=by
      unfold YG.lies at h9 |-;unfold Bw YG.pan
      cases hs:y.sh with
      | none=>trivial
      | some s =>
       rw [hs] at h9;simp only at h9 |-;rw [h9.2.2];refine ⟨?_,h9.2.1,rfl⟩;have:(if yc=y.stop then (none:Option Value) else none)=none:=by split<;>rfl
       rw [this];simp only;unfold rst;rw [ai (.inr zS)];exact h9.1
     refine ⟨_,.inr ⟨by unfold Bw;split<;>(try split)<;>rfl,y,f,args,T,hy,ho,h1,λx hx=>⟨h4 x hx,h8 _ (by simp only [iH];exact List.mem_map_of_mem hx)⟩,AF,h5,by rw [h6];simp,rfl,HV⟩,?_,h7⟩;unfold YG.lies at h9;unfold Bw;split
     ·split
      ·exact ⟨by simp [ak],by simp [ak],zS⟩
      ·rename_i s hs;rw [hs] at h9;exact ⟨by simp [ak,dom,h9.1,h9.2.1],ah,by rintro k b c hb hc;simp only [dY,bE,dM] at hb hc;rw [hb.2,hc.2]⟩
     ·exact ⟨by simp [ak],by simp [ak],zS⟩
    ·exact aK
   ·exact aK
  ·rename_i hnv;obtain ⟨h1,h⟩:=h;split at h
   ·rename_i v hv;exact ⟨_,.inl ⟨rfl,S5 ho h1 hv⟩,.val,h⟩
   ·exact aK
 case h_23 x ho =>
  obtain ⟨h0,h1,h⟩:=h;split at h
  ·rename_i T u hg;exact ⟨_,.inl ⟨rfl,S9 ho h0 h1 hg⟩,⟨ah,ah,zS⟩,h⟩
  ·exact aK
 case h_24 T y ho=>exact ⟨_,.inl ⟨rfl,Mh ho h.1⟩,.new,h.2⟩
 case h_25 T m k x ho =>
  obtain ⟨h0,h1,h2,h3,h4,h⟩:=h;unfold Nd at h;split at h
  ·rename_i q hq;split at h
   ·rename_i s hs;rw [hs] at h3;unfold J6 at h;split at h
    ·rename_i l hl;obtain ⟨b,hb,hml⟩:=qO.1 hl;obtain rfl:=Nr hml;exact ⟨_,.inl ⟨rfl,O2 ho h0 h1 h2 h3 h4 hq hs hb h.1⟩,.wr fF h.2.1,h.2.2⟩
    ·exact aK
   ·rename_i s hs;rw [hs] at h3;unfold HZ at h;split at h
    ·rename_i l hl;obtain ⟨b,hb,hml⟩:=qO.1 hl;obtain rfl:=Nt hml;exact ⟨_,.inl ⟨rfl,Mf ho h0 h1 h2 h3 h4 hq hs hb h.1⟩,.wr fF h.2.1,h.2.2⟩
    ·exact aK
   ·exact aK
  ·exact aK
 case h_26 T x i ok ho =>
  obtain ⟨h0,h1,h2,h3,h⟩:=h;subst h2;unfold lkX at h;split at h
  ·rename_i q hq;split at h
   ·rename_i s hs;rw [hs] at h3;unfold Ud at h;split at h
    ·rename_i l hl;obtain ⟨b,hb,hml⟩:=qO.1 hl;obtain rfl:=Nr hml;split at h
     ·rename_i v hv;exact ⟨_,.inl ⟨rfl,O3 ho h0 h1 h3 hq hs hb hv h.1⟩,.val,h.2⟩
     ·exact aK
    ·exact aK
   ·rename_i s hs;rw [hs] at h3;unfold Uc at h;split at h
    ·rename_i l hl;obtain ⟨b,hb,hml⟩:=qO.1 hl;obtain rfl:=Nt hml;split at h
     ·rename_i v hv;exact ⟨_,.inl ⟨rfl,Mg ho h0 h1 h3 hq hs hb hv h.1⟩,.val,h.2⟩
     ·exact aK
    ·exact aK
   ·exact aK
  ·exact aK
 case h_27 cs b ho=>exact h.elim
 case h_28 x ho =>
  obtain ⟨h0,h⟩:=h;unfold ncX at h;split at h
  ·rename_i k oo hg;exact ⟨_,.inl ⟨rfl,KK ho h0 hg⟩,.val,h⟩
  ·exact aK
 case h_29 T x y ho =>
  obtain ⟨h0,h1,h⟩:=h;unfold msU at h;split at h
  ·rename_i e hu;unfold msM at h;split at h
   ·rename_i m hm;unfold msZ at h;split at h
    ·rename_i z b l hz hb hx;obtain ⟨hy,h2,h3,h4,h5,h6,h⟩:=h;exact ⟨_,.inl ⟨rfl,I4 ho h0 h1 hx hy hu hm hz hb h2 h3 h4.1 h4.2 h5 h6⟩,.new,h⟩
    ·exact aK
   ·exact aK
  ·exact aK
 case h_30 hns =>
  exact xy

theorem Yx {w a:Nat} {r:cI} {v:Value} (h:ahG w v=true) (hr:r w=a):ren r v=ren (λ_=>a) v:=by
 subst hr;unfold ahG at h;split at h
 ·rename_i cs;simp only [ren,aT];congr 1;refine bK λx hx=>?_;have VD:=Array.all_eq_true'.1 h x hx;split at VD
  ·rename_i q;simp only [aw,aA];have:q.block=w:=by simpa using VD
   rw [this]
  ·rename_i x h2;rw [eU VD,eU VD]
 ·rename_i q;simp only [ren,aT,aw,aA];have:q.block=w:=kA;rw [this]
 ·rw [bM h,bM h]
theorem R7 {C:Ctx} {n:Nat} {d:List Deferred} {ro:Option Nat} (cK:ct C.G) (hR:∀ y,C.Y=some y->qc P C y):VV P C n d ro (okp P C.Y):=by
 intro o e ts hp yc r a W m next Q h hd fJ OU hns hn db
 rcases fJ with ⟨h1,h2⟩|⟨h1,y,f,args,T,h2,h3,h4,h5,h6,h7,h8,rfl,pb⟩
 ·rw [h1] at hn;exact Zs h hd h2 OU hns hn (λpv W' o7 hi=>db pv W' yc o7 hi)
 ·obtain ⟨arI,yG⟩:=hR y h2
  have evT:∀ {x:Operand},okT ts x->bz (gev ts x)=true->a.eval x=gev ts x:=λ{x} hk hf=>by
   cases x with
   | tmp t =>
    have:=((h.rel t).resolve_left (Yr hk)).1;rw [bM (by exact hf)] at this;exact this
   | const v=>rfl
   | func f=>rfl
   | global g=>exact hk.elim
  have hrw:∀ s,y.sh=some s->dom hp s.w/\r s.w=s.a:=λs hs=>by
   unfold YG.fine at yG;rw [hs] at yG;have hk:=h.keep s.w yG.1;exact ⟨hk.1,hk.2.trans yG.2.1⟩
  have evA:∀ {x:Operand},okT ts x->y.arg (gev ts x)=true->a.eval x=y.act (gev ts x):=λ{x} hk hf=>by
   unfold YG.arg at hf;unfold YG.act
   cases hs:y.sh with
   | none =>
    rw [hs] at hf;exact evT hk hf
   | some s =>
    rw [hs] at hf;simp only at hf |-
    cases x with
    | tmp t =>
     have:=((h.rel t).resolve_left (Yr hk)).1;have e2:=Yx (r:=r) hf (hrw s hs).2;exact this.trans e2
    | const v=>exact (bM hk).symm
    | func f=>simp [Act.eval,gev,ren,aT,aw,aA]
    | global g=>exact hk.elim
  have hfv:a.eval f=.func (.yield y.l) #[] #[]:=by rw [evT h4 (by rw [h6];simp [bz,o6,bP]),h6]
  have kv:args.map a.eval=args.map λx=>y.act (gev ts x):=bK λx hx=>evA (h5 x cG).1 (h5 x cG).2;obtain ⟨S,ms,hX,MP,HM,RG,yb⟩:=h.ext
  have aei:∀ {W':World},GOK C.G W'->∀ k b,k<100->hp k=some b->W'.heap[r k]? = some (b.obj r):=λ{W'} hg k b hk hb=>by
   have e1:r k=k:=h.low k hk fF;have e2:C.G k=some b:=by rw [<-h.glob k hk];exact hb
   rw [e1,hg k b e2];rw [Blk.obj_flat (λx hx=>(cK k b e2).2 x hx)]
  have fM:GOK C.G W:=λk b hk=>by
   obtain ⟨cA,BR⟩:=cK k b hk;have hb:hp k=some b:=(h.glob k cA).trans hk;exact De
  have agA:y.has yc W:=by
   unfold YG.has;unfold YG.lies at pb
   cases hs:y.sh with
   | none=>trivial
   | some s =>
    rw [hs] at pb;unfold YG.fine at yG;rw [hs] at yG;have:=(h.sat s.w _ (iO pb.1)).1;rw [(hrw s hs).2,(yG.2.2 yc).1 r] at this;exact this
  obtain ⟨fn,tmps,assign,body,hy,nD⟩:=arI yc _ S W fM h8 h7 hX MP agA
  have eE:(execOp a.eval o).run P W=.ok (.round y.l fn tmps assign body) W:=by
   simp [execOp,h3,resolve,hfv,Deferred.ofValue,invoke,kv,hy]
  refine ⟨Ho eE,?_⟩;have e:(Fw P ro).round=ro:=rfl;rw [e,Oper.semAt_eq ro a.eval o hd.2,eE];refine ⟨λh=>ew,?_⟩;have Ld:RoundIn (Fw P ro) (m - 1) P _ _ _ _ _ _ _:=⟨nD.1,λc cs _=>nD.2 c cs (mJ P _)⟩
  refine nV Ld ?_;rintro e' W' ⟨cm,JW,yg,mH,RJ,S',RF,TN,K7⟩
  cases hs:y.sh with
  | none =>
   have m9:∀ k,¬y.at k:=λk hk=>by unfold YG.at at hk;rw [hs] at hk;exact hk
   have base:RI C n d r ts hp (yc+1) a W' :=
    { h with
     sat:=λk b hk=>by
      have HR:dom hp k:=gD;have:=h.sat k b hk;refine ⟨?_,this.2⟩;by_cases nz:k<100
      ·exact aei JW k b nz hk
      ·exact (mH _ (h.lt HR) (HM k HR zO) (m9 _)).trans this.1
     ext:=⟨S',ms,RF,TN,λi hi h1i hS=>HM i hi h1i (K7 _ hS (h.lt hi)),RG,λD hD=>by
      have cA:=(a9.1 (yb D hD).1).1;exact ⟨(mH D cA (yb D hD).2.1 (m9 _)).trans (yb D hD).1,λhS=>(yb D hD).2.1 (K7 D hS cA),(yb D hD).2.2⟩⟩ }
   have Jj:Bw y yc=match y.pan yc with
    | none=>⟨.bool (yc != y.stop),[],[],[],none,true⟩
    | some pv=>⟨eY,[],[],[],some pv,true⟩:=by unfold Bw;rw [hs]
   cases o7:y.pan yc with
   | none =>
    rw [o7] at cm Jj;simp only at cm Jj;subst cm;refine hn r _ W' (by rw [Jj]) ?_;have:=base.put hd.1 (v:=.bool (yc != y.stop)) lR;rw [Jj];simpa [ren,aT,aw,aA,bW] using this
   | some pv =>
    rw [o7] at cm Jj;simp only at cm Jj;subst cm;exact db pv W' (yc+1) (by rw [Jj]) base
  | some s =>
   obtain ⟨hdw,hra⟩:=hrw s hs;unfold YG.lies at pb;rw [hs] at pb;obtain ⟨A9,hw1,arF⟩:=pb;unfold YG.fine at yG;rw [hs] at yG;obtain ⟨_,_,BR⟩:=yG;unfold YG.has at RJ;rw [hs] at RJ;simp only at RJ;have m9:∀ k,k≠s.a->¬y.at k:=λk hk mN=>by unfold YG.at at mN;rw [hs] at mN;exact hk mN
   have hD:dom (upd hp s.w (some (s.ob (yc+1))))=dom hp:=by
    funext k;unfold dom upd;by_cases c:k=s.w
    ·rw [ai c];subst c;simp only [ne_eq,reduceCtorEq,not_false_eq_true,iC,true_iff];exact hdw
    ·rw [ab c]
   have base:RI C n d r ts (upd hp s.w (some (s.ob (yc+1)))) (yc+1) a W' :=
    {size:=h.size
     rel:=by rw [hD];exact h.rel
     sat:=λk b hk=>by
      rw [hD];by_cases c:k=s.w
      ·subst c;rw [bj] at hk;cases hk;exact ⟨by rw [hra,RJ,(BR (yc+1)).1 r],(BR (yc+1)).2 _⟩
      ·rw [aj _ _ c] at hk;have HR:dom hp k:=gD;have:=h.sat k b hk;refine ⟨?_,this.2⟩;by_cases nz:k<100
       ·exact aei JW k b nz hk
       ·exact (mH _ (h.lt HR) (HM k HR zO) (m9 _ λe1=>c (h.inj k s.w HR hdw (e1.trans hra.symm)))).trans this.1
     inj:=by rw [hD];exact h.inj
     ext:=⟨S',ms,RF,TN,λi hi h1i hS=>by rw [hD] at hi;exact HM i hi h1i (K7 _ hS (h.lt hi)),RG,λD IV=>by
      have cA:=(a9.1 (yb D IV).1).1;exact ⟨(mH D cA (yb D IV).2.1 (m9 _ λe1=>h.ne_mark hdw (yb D IV).1 (hra.trans e1.symm))).trans (yb D IV).1,λhS=>(yb D IV).2.1 (K7 D hS cA),(yb D IV).2.2⟩⟩
     keep:=λi hi=>⟨by rw [hD];exact (h.keep i hi).1,(h.keep i hi).2⟩
     glob:=λk hk=>by rw [aj _ _ zO];exact h.glob k hk
     low:=λk hk hd=>by rw [hD] at hd;exact h.low k hk hd }
   have o7:y.pan yc=none:=by unfold YG.pan;rw [arF];split<;>rfl
   have Jj:Bw y yc=⟨.bool (yc != y.stop),[s.w],[(s.w,s.ob (yc+1))],[],none,true⟩:=by unfold Bw;rw [o7,hs]
   rw [o7] at cm;simp only at cm;subst cm;refine hn r _ W' (by rw [Jj]) ?_;have:=base.put hd.1 (v:=.bool (yc != y.stop)) lR;rw [Jj]
   have e9:bW hp ([(s.w,s.ob (yc+1))]++[])=upd hp s.w (some (s.ob (yc+1))):=by
    funext k;simp [bW]
   rw [e9];simpa [ren,aT,aw,aA] using this

end
theorem wK {p:Prop} (h:p:=by simp [Array.getD,ht]):p:=h
theorem vV {p:Prop} (h:p:=by simpa using lA ht):p:=h
theorem ra {p:Prop} (h:p:=by simpa using hn):p:=h
theorem rv {p:Prop} (h:p:=by rw [hw.yc];exact h1):p:=h
theorem wI {p:Prop} (h:p:=by simpa using hi.free):p:=h
theorem wO {p:Prop} (h:p:=by rw [hg];simp [eY]):p:=h
theorem oK {p:Prop} (h:p:=by rw [e1];exact size):p:=h
theorem CO {p:Prop} (h:p:=by obtain ⟨p,hp1,rfl⟩:=aI.1 hm;exact Lb p hp1 rfl):p:=h
theorem ER {p:Prop} (h:p:=by
 have hm:args[t]∈args:=jj ht;have e:args.getD t undef=args[t]:=wK;rw [e];refine ⟨?_,ha _ hm⟩;have:t<(args.map (ren r)).size:=by simpa using ht
 simp [BG this,ht]):p:=h
theorem xc {p:Prop} (h:p:=by
 rw [Blk.obj_flat (λx hx=>BR x hx)]):p:=h
theorem xo {p:Prop} (h:p:=by
 rw [dw (λhm=>?_)]
 ·exact hn x zO
 ·have:x∈ak e.ws\/x∈ak e.ns:=by simpa [ak] using hm
  rcases this with h|h
  ·exact (hs.ws x h).2.1 (hn x zO)
  ·have:=hs.ns x h;omega):p:=h
theorem Fe {p:Prop} (h:p:=by
 intro r a W hi;refine wpIn_seq (wpIn_mono (h r a W hi) ?_);rintro e a' W' ⟨s',r',k,i⟩
 cases e with
 | normal=>exact k r' a' W' i
 | _=>exact ⟨s',r',k,i⟩):p:=h
theorem FV {p:Prop} (h:p:=by
 exact wpIn_cond_split he (λh=>ht h r a W hi) (λh=>hf h r a W hi)):p:=h
theorem Ev {p:Prop} (h:p:=by
 intro r a W hi;refine wpIn_block (wpIn_mono (h r a W hi) ?_);rintro e a' W' ⟨s',r',k,i⟩
 cases e with
 | exit id' =>
  simp only [Exit.inBlock,nm] at k |-;split
  ·rename_i h;rw [ai h] at k;exact ⟨s',r',k,i⟩
  ·rename_i h;rw [ab h] at k;exact ⟨s',r',k,i⟩
 | _=>exact ⟨s',r',k,i⟩):p:=h
theorem E6 {p:Prop} (h:p:=by
 rcases yY k with h|h
 ·exact absurd h hk
 ·unfold dom at *;rwa [<-h]):p:=h
theorem sn {p:Prop} (h:p:=by
 exact ⟨e₂,a₂,w₂,PV,.of_steps (ef gz (.one (fenced_calm (F:=Fw P ro) (n:=0) Gw (mJ P _) rfl) stepR_inLoop)) qT⟩):p:=h
theorem E5 {p:Prop} (h:p:=by
 obtain ⟨e,a',w',hq,gz⟩:=key m0 s0 h0 r a W (hi.weak hw) b k cs Jn hb;exact ⟨e,a',w',hq,.of_steps (.one (fenced_calm hb hr rfl) stepR_loop) gz⟩):p:=h
theorem FO {p:Prop} (h:p:=by
 simp only [kn] at J0;have e0:e.ws=[]:=by have:=J0.2;simpa using this
 have hh:=hs0 J0.1 k' b g8;rw [e0,bw,dw (λhm=>by have:=hs.ns k' hm;rw [hn k' zO] at hh;cases hh)];exact hh):p:=h
theorem Dz {p:Prop} (h:p:=by
 rw [o7] at h3;obtain ⟨_,J0,Vw⟩:=h3;simp only [kn] at J0;exact Z7 pv ts hp xS r a W' Vw (hs0 J0.1) AG cv):p:=h
theorem cZ {p:Prop} (h:p:=by
 simpa using this):p:=h
theorem se {p:Prop} (h:p:=by
 unfold dom at hk
 cases hb:rst hp rs k with
 | none=>exact absurd hb hk
 | some b=>exact (a9.1 (hZ k b hb).1).1):p:=h
theorem xw {p:Prop} (h:p:=by
 dsimp only;by_cases ht:t<args.size
 ·exact ER
 ·have e:args.getD t undef=undef:=by simp [gN (lA ht)]
  rw [e];refine ⟨?_,kT _⟩;rw [ir];simp only [jl];rw [uH vV,jm];split<;>rfl):p:=h
theorem xf {p:Prop} (h:p:=by
 show rst hp rs k=G k;simp [rst,hk,hG k hk]):p:=h
theorem w6 {p:Prop} (h:p:=by
 rw [hW _ (λhm=>cv.ri.ne_mark fF (sv _ hm).1 rfl)];exact (cv.ri.sat i b hb).1):p:=h
theorem EY {p:Prop} (h:p:=by
 have:=Jp gF e5 i b e;rw [(ig i jU).2,TT b (mM i b hb)] at this;rw [this,(hZ i b hb).1]):p:=h
theorem mq {p:Prop} (h:p:=by
 rcases he with rfl|rfl
 ·show LeavesInM _ _ _ _ _ _ a'.defers _ _;rw [pZ,dY];exact yh zS ms W' BS (λD hD=>(sv D hD).1) cm
 ·show LeavesInM _ _ _ _ _ _ a'.defers _ _;rw [pZ,dY];exact yh zS ms W' BS (λD hD=>(sv D hD).1) cm):p:=h
theorem DN {p:Prop} (h:p:=by
 rw [vA cK]
 cases hg:G x with
 | none=>rfl
 | some b=>have:=(cK x b hg).1;omega):p:=h
theorem Du {p:Prop} (h:p:=by
 unfold dom at hk
 cases hg:G k with
 | none=>exact absurd hg hk
 | some b=>exact (cK k b hg).1):p:=h
abbrev fe := @decide_eq_true_eq
abbrev ef := @Go.StepsIn.trans
abbrev jk := @Array.ext'
abbrev gO := @List.nodup_cons
abbrev fS := @Nat.le_trans
abbrev jZ := @List.nodup_nil
abbrev BG := @Array.getElem?_append_left
abbrev lA := @Nat.le_of_not_lt
abbrev uH := @Array.getElem?_append_right
abbrev og := List Oper

abbrev Tr:=List (Nat×List Nat×List Nat)
def akW (xs ys:List Nat):Bool:=xs.all λx=>!ys.contains x
def chk (md:Region.Mode) (ops:Array Oper):Tr->Bool
 | []=>true
 | (i,rd,wr)::tl=>(tl.all λq=>(akW rd q.2.2&&akW wr q.2.1)||zo md ops i q.1)&&chk md ops tl
def pR (k:Nat) (rd wr:List Nat) (tr:Tr):Tr :=
 match rd with
 | []=>match wr with
  | []=>tr
  | _::_=>(k,rd,wr)::tr
 | _::_=>(k,rd,wr)::tr

def sX (P:Program) (G:Hp) (V:XV) (ops:Array Oper) (base:Nat) (Q:(Nat->Value)->Hp->Tr->Nat->Prop) (Qp:Value->Tr->Prop):Nat->List Oper->(Nat->Value)->Hp->Tr->Nat->Bool->Bool->Prop
 | _,[],ts,hp,tr,yc,_,_=>Q ts hp tr yc
 | k,o::rest,ts,hp,tr,yc,wr,yd=>match gn ops o ts with
  | some true=>opX P G V yc o ts hp (base+8*k) λe=>(e.yl=true->e.ws=[]->yd=false)/\match e.pan with
   | none=>sX P G V ops base Q Qp (k+1) rest (dk ts o.dst e.v) (bW hp (e.ws++e.ns)) (pR k (e.rs++ak e.ns) (ak e.ws++ak e.ns) tr) (if e.yl then yc+1 else yc) (wr||!e.ws.isEmpty) (yd||(e.yl&&e.ws.isEmpty))
   | some pv=>(V.dr=true->rest=[])/\(wr||!e.ws.isEmpty)=false/\Qp pv (pR k (e.rs++ak e.ns) (ak e.ws++ak e.ns) tr)
  | some false=>unD o ts/\sX P G V ops base Q Qp (k+1) rest (dk ts o.dst undef) hp tr yc wr yd
  | none=>False

theorem On (k:Nat) (rd wr:List Nat) (tr:Tr):pR k rd wr tr=(k,rd,wr)::tr\/(rd=[]/\wr=[]/\pR k rd wr tr=tr):=by
 cases rd with
 | nil=>cases wr with
  | nil=>exact .inr ⟨rfl,rfl,rfl⟩
  | cons=>exact .inl rfl
 | cons=>exact .inl rfl

theorem AW {md:Region.Mode} {ops:Array Oper} {k:Nat} {rd wr:List Nat} {tr:Tr} (h:chk md ops (pR k rd wr tr)=true) :
  chk md ops tr=true/\∀ q∈tr,((∀ x∈rd,x∉q.2.2)/\(∀ x∈wr,x∉q.2.1))\/zo md ops k q.1=true:=by
 rcases On k rd wr tr with e|⟨h1,h2,e⟩
 ·rw [e] at h;simp only [chk,bO,dL,qv] at h;refine ⟨h.2,λq hq=>(h.1 q hq).imp (λh=>⟨λx hx=>?_,λx hx=>?_⟩) id⟩
  ·have:=dL.1 h.1 x hx;simpa using this
  ·have:=dL.1 h.2 x hx;simpa using this
 ·rw [e] at h;subst h1;subst h2;exact ⟨h,λq _=>.inl ⟨λx hx=>(by cases hx),λx hx=>(by cases hx)⟩⟩

section
variable {P:Program} {G:Hp} {V:XV}

def Re (lg:Nat->List Nat×List Nat) (tr:Tr):Prop :=
 ∀ j,lg j=([],[])\/∃ rd wr,(j,rd,wr)∈tr/\(∀ x∈(lg j).1,x∈rd)/\(∀ x∈(lg j).2,x∈wr)

theorem Re.step {lg:Nat->List Nat×List Nat} {tr:Tr} (h:Re lg tr) (k:Nat) (e:Eff):Re (upd lg k (e.rs,ak e.ws++ak e.ns)) (pR k (e.rs++ak e.ns) (ak e.ws++ak e.ns) tr):=by
 intro j;rcases On k (e.rs++ak e.ns) (ak e.ws++ak e.ns) tr with e1|⟨h1,h2,e1⟩
 ·rw [e1];by_cases hj:j=k
  ·subst hj;rw [bj];exact .inr ⟨_,_,List.mem_cons_self ..,λx hx=>fB _ hx,λx hx=>hx⟩
  ·rw [aj _ _ hj];exact (h j).imp id λ⟨rd,wr,hm,a,b⟩=>⟨rd,wr,br _ hm,a,b⟩
 ·rw [e1];by_cases hj:j=k
  ·subst hj;rw [bj];have:e.rs=[]:=(List.append_eq_nil_iff.1 h1).1;exact .inl (by rw [this,h2])
  ·rw [aj _ _ hj];exact h j

theorem H5 {ops:Array Oper} {base:Nat} {K:(Nat->Value)->Hp->Nat->Prop} {Kp:iQ} (cK:ct G) (hb:100<=base):∀ (l:og) (k:Nat) (ts:eM) (hp:Hp) (tr:Tr) (yc:Nat) (wr yd:Bool),(∀ x,x<100->hp x=G x) ->
  sX P G V ops base (λts hp tr yc=>chk .any ops tr=true/\K ts hp yc) (λpv tr=>chk .any ops tr=true/\Kp pv) k l ts hp tr yc wr yd->chk .any ops tr=true
 | [],_,_,_,_,_,_,_,_,h=>h.1
 | o::l,k,ts,hp,tr,yc,wr,yd,hG,h=>by
  simp only [sX] at h;split at h
  ·obtain ⟨e,_,hs,_,h3⟩:=s6 cK hG h;split at h3
   ·refine (AW (H5 cK hb l _ _ _ _ _ _ _ (λx hx=>?_) h3)).1;rw [dw (λhm=>?_)]
    ·exact hG x hx
    ·have:x∈ak e.ws\/x∈ak e.ns:=by simpa [ak] using hm
     rcases this with h|h
     ·have:=(hs.ws x h).2.2;omega
     ·have:=hs.ns x h;omega
   ·exact (AW h3.2.2.1).1
  ·exact H5 cK hb l _ _ _ _ _ _ _ hG h.2
  ·exact aK

def ap5 (Kn:(Nat->Value)->Hp->Nat->Prop) (Kp:iQ) (B:Nat) (s:St):Prop :=
 (s.pn=none->Kn s.ts s.hp s.yc/\∀ x,B<=x->s.hp x=none)/\∀ pv,s.pn=some pv->s.wr=false/\Kp pv

theorem za {ops:Array Oper} {base:Nat} {K:(Nat->Value)->Hp->Nat->Prop} {Kp:iQ} (cK:ct G) (hb:100<=base) (hdr:V.dr=true):∀ (l:og) (k:Nat) (ts:eM) (hp:Hp) (tr:Tr) (yc:Nat) (wr yd:Bool) (lg:Nat->List Nat×List Nat),(∀ x,x<100->hp x=G x) ->
  (∀ x,base+8*k<=x->hp x=none)->Re lg tr->(∀ j,k<=j->lg j=([],[]))->(∀ o∈l,unC P o) ->
  sX P G V ops base (λts hp tr yc=>chk .any ops tr=true/\K ts hp yc) (λpv tr=>chk .any ops tr=true/\Kp pv) k l ts hp tr yc wr yd ->
  B7 (okp P V.Y) .any ops base (ap5 K Kp (base+8*(k+l.length))) k l ⟨ts,hp,lg,yc,yd,none,wr⟩
 | [],k,ts,hp,tr,yc,wr,yd,lg,hG,hn,hl,hz,hu,h=>⟨λ_=>⟨h.2,ra⟩,λ_ h=>ew⟩
 | o::l,k,ts,hp,tr,yc,wr,yd,lg,hG,hn,hl,hz,hu,h=>by
  have hlen:k+(o::l).length=(k+1)+l.length:=aE;rw [hlen];simp only [sX] at h;simp only [B7]
  cases hw:gn ops o ts with
  | none=>rw [hw] at h;exact h.elim
  | some b =>
   rw [hw] at h
   cases b with
   | true =>
    simp only at h |-;obtain ⟨e,h1,hs,hyd,h3⟩:=s6 cK hG h
    have big:∀ x∈ak (e.ws++e.ns),100<=x:=λx hm=>by
     have:x∈ak e.ws\/x∈ak e.ns:=oI;rcases this with h|h
     ·exact (hs.ws x h).2.2
     ·have:=hs.ns x h;omega
    have hG':∀ x,x<100->bW hp (e.ws++e.ns) x=G x:=λx hx=>by
     rw [dw (λhm=>by have:=big x hm;omega)];exact hG x hx
    have JX:∀ x,base+8*(k+1)<=x->bW hp (e.ws++e.ns) x=none:=λx hx=>by
     exact xo
    have fits:chk .any ops (pR k (e.rs++ak e.ns) (ak e.ws++ak e.ns) tr)=true->Fits .any ops base k ⟨ts,hp,lg,yc,yd,none,wr⟩ e:=λhc=>by
     have hc:=AW hc;refine ⟨hs.ws,λx hx=>?_,λx hx=>?_,hs.once,λj hj=>?_,hz k (aG _),λ_=>rfl,hyd⟩
     ·have:=hs.ns x hx;omega
     ·have:=hs.ns x hx;exact hn x zO
     ·rcases hl j with h0|⟨rd,wr,hm,a,b⟩
      ·simp only [h0];exact ⟨λ_ _ h=>(by cases h),λ_ _ h=>(by cases h)⟩
      ·rcases hc.2 _ hm with ⟨c1,c2⟩|c
       ·exact ⟨λx hx hm=>c1 x hx (b x hm),λx hx hm=>c2 x hx (a x hm)⟩
       ·rw [hj] at c;cases c
    cases o7:e.pan with
    | none =>
     rw [o7] at h3;simp only at h3;refine ⟨e,h1,fits (H5 cK hb l _ _ _ _ _ _ _ hG' h3),?_⟩;have:=za cK hb hdr l (k+1) _ _ _ _ _ _ _ hG' JX (hl.step k e) (λj hj=>by rw [aj _ _ zO];exact hz j zO) (λo ho=>hu o (br _ ho)) h3;simpa [St.after,o7] using this
    | some pv =>
     rw [o7] at h3;obtain ⟨z4,J0,hch,Vw⟩:=h3;obtain rfl:=z4 hdr;refine ⟨e,h1,fits hch,?_⟩;simp only [B7,St.after,o7];refine ⟨λh=>?_,λpv' h=>?_⟩
     ·simp at h
     ·simp at h;subst h;exact ⟨J0,Vw⟩
   | false =>
    simp only at h |-;exact ⟨⟨h.1,hu o zS⟩,za cK hb hdr l (k+1) _ _ _ _ _ _ _ hG (λx hx=>hn x zO) hl (λj hj=>hz j zO) (λo ho=>hu o (br _ ho)) h.2⟩

def GJ (P:Program) (ops:og):Bool:=ops.all λo=>match o.op with
 | .call c=>match c.callee with
  | .value (.func f)=>decide (f<P.funcs.size)
  | _=>true
 | _=>true
theorem s9 {ops:og} (h:GJ P ops=true):∀ o∈ops,unC P o:=λo ho=>by
 have:=dL.1 h o ho;unfold unC;split
 ·rename_i c hc;simp only [hc] at this;split
  ·rename_i f MV;simp only [MV,fe] at this;exact ⟨_,iE this⟩
  ·trivial
 ·trivial

structure GS where
 ts:Nat->Value
 hp:Hp
 B:Nat
 yc:Nat

structure GI (P:Program) (C:Ctx) (n:Nat) (d:List Deferred) (r:cI) (s:GS) (a:Act) (W:World):Prop where
 ri:RI C n d r s.ts s.hp s.yc a W
 free:∀ x,s.B<=x->s.hp x=none
 low:100<=s.B
 flat:ct C.G
 rounds:∀ y,C.Y=some y->qc P C y

def GW (P:Program) (C:Ctx) (n:Nat) (d:List Deferred) (ro:Option Nat) (c:Code) (s:GS) (K:Exit->GS->Prop):Prop :=
 ∀ r a W,GI P C n d r s a W->c.wpIn (Fw P ro) 0 P (λe a' W'=>∃ s' r',K e s'/\GI P C n d r' s' a' W') a W

variable {C:Ctx} {n:Nat} {d:List Deferred} {ro:Option Nat} {s:GS} {K:Exit->GS->Prop} {yc:Nat}

def dU (next:GS->Prop) (K:Exit->GS->Prop):Exit->GS->Prop
 | .normal,s=>next s
 | e,s=>K e s

theorem iu {c:Code} {K':Exit->GS->Prop} (h:GW P C n d ro c s K) (hk:∀ e s,K e s->K' e s):GW P C n d ro c s K' :=
 λr a W hi=>wpIn_mono (h r a W hi) λ_ _ _ ⟨s',r',k,i⟩=>⟨s',r',hk _ _ k,i⟩

theorem te {x y:Code} (h:GW P C n d ro x s (dU (λs'=>GW P C n d ro y s' K) K)):GW P C n d ro (.seq x y) s K:=by
 exact Fe

theorem Rd (h:K .normal s):GW P C n d ro .skip s K:=λr _ _ hi=>wpIn_skip ⟨s,r,h,hi⟩
theorem VT (h:K .ret s):GW P C n d ro .ret s K:=λr _ _ hi=>wpIn_ret ⟨s,r,h,hi⟩
theorem aaw {id:Nat} (h:K (.exit id) s):GW P C n d ro (.exit id) s K:=λr _ _ hi=>wpIn_exit ⟨s,r,h,hi⟩
theorem aax {id:Nat} (h:K (.goto id) s):GW P C n d ro (.goto id) s K:=λr _ _ hi=>wpIn_goto ⟨s,r,h,hi⟩
theorem Mc {id:Nat} (h:K .normal s):GW P C n d ro (.label id) s K:=λr _ _ hi=>wpIn_label ⟨s,r,h,hi⟩

theorem KH {t:Tmp} {x y:Code} {b:Bool} (hb:s.ts t=.bool b) (ht:b=true->GW P C n d ro x s K) (hf:b=false->GW P C n d ro y s K):GW P C n d ro (.cond (.tmp t) x y) s K:=by
 intro r a W hi
 have he:a.eval (.tmp t)=.bool b:=by
  have:=(hi.ri.rel t).resolve_left (by rw [hb];simp [eY]);rw [hb] at this;exact this.1
 exact FV

def nm (id:Nat) (K:Exit->GS->Prop):Exit->GS->Prop
 | .exit id',s=>if id'=id then K .normal s else K (.exit id') s
 | e,s=>K e s

theorem uv {id:Nat} {c:Code} (h:GW P C n d ro c s (nm id K)):GW P C n d ro (.block id c) s K:=by
 exact Ev

structure Weak (C:Ctx) (s s':GS):Prop where
 ts:∀ t,s'.ts t=eY\/(s'.ts t=s.ts t/\aN (dom s'.hp) (s'.ts t))
 hp:∀ k,100<=k->s'.hp k=none\/s'.hp k=s.hp k
 ids:∀ k b,s'.hp k=some b->b.ids (dom s'.hp)
 keep:∀ k,100<=k->dom C.hp0 k->s'.hp k=s.hp k
 glob:∀ k,k<100->s'.hp k=C.G k
 yc:s'.yc=s.yc
 free:∀ x,s'.B<=x->s'.hp x=none
 low:100<=s'.B

theorem GI.weak {r:cI} {a:Act} {W:World} {s':GS} (h:GI P C n d r s a W) (hw:Weak C s s'):GI P C n d r s' a W:=by
 have yY:∀ k,s'.hp k=none\/s'.hp k=s.hp k:=λk=>by
  by_cases hk:100<=k
  ·exact hw.hp k hk
  ·exact .inr ((hw.glob k zO).trans (h.ri.glob k zO).symm)
 have sub:∀ k,dom s'.hp k->dom s.hp k:=λk hk=>by
  exact E6
 refine ⟨{ h.ri with rel:=λt=>?_,sat:=λk b hb=>?_,inj:=λk l hk hl=>h.ri.inj k l (sub k hk) (sub l hl),ext:=?_,keep:=λi hi=>?_,glob:=hw.glob,low:=λk hk hd=>h.ri.low k hk (sub k hd) },hw.free,hw.low,h.flat,h.rounds⟩
 ·rcases hw.ts t with e|⟨e,hi⟩
  ·exact .inl e
  ·rcases h.ri.rel t with e'|e'
   ·exact .inl (e.trans e')
   ·exact .inr ⟨by rw [e];exact e'.1,hi⟩
 ·rcases yY k with e|e
  ·rw [e] at hb;cases hb
  ·exact ⟨(h.ri.sat k b (by rw [<-e];exact hb)).1,hw.ids k b hb⟩
 ·obtain ⟨S,ms,h1,h2,h3,h4⟩:=h.ri.ext;exact ⟨S,ms,rv,h2,λi hi=>h3 i (sub i hi),h4⟩
 ·have:=h.ri.keep i hi
  exact ⟨by unfold dom;rw [show s'.hp i=s.hp i by
   by_cases h1:100<=i
   ·exact hw.keep i h1 hi
   ·exact (hw.glob i zO).trans (h.ri.glob i zO).symm];exact this.1,this.2⟩

theorem GM {c:Code} {s':GS} (hw:Weak C s s') (h:GW P C n d ro c s' K):GW P C n d ro c s K :=
 λr a W hi=>h r a W (hi.weak hw)

theorem aay {c:Code} (I:Nat->GS->Prop) {m0:Nat} {s0:GS} (hw:Weak C s s0) (h0:I m0 s0)
  (round:∀ m s,I m s->GW P C n d ro c s (dU (λs'=>∃ vB m',Weak C s' vB/\I m' vB/\m'<m) K)):GW P C n d ro (.loop c) s K:=by
 have key:∀ (m:Nat) (s:GS),I m s->∀ r a W,GI P C n d r s a W->∀ (b:Frame) (k:List Item) (cs:List Frame),b.roundOf=ro ->
   (Fs P).fn b.fn->∃ e a' w',(∃ s' r',K e s'/\GI P C n d r' s' a' w')/\ArrivesIn (Machine.fenced P (Fw P ro)) P (lone (b.atR a (.code c::.inLoop c::k)) cs W) b k cs e a' w':=by
  intro m
  induction m using Nat.strongRecOn with
  | _ m ih =>
   intro s hI r a W hi b k cs Jn Gw;obtain ⟨e,a₁,w₁,⟨s',r',hk,cv⟩,gz⟩:=round m s hI r a W hi b (.inLoop c::k) cs Jn Gw (mJ P _)
   cases e with
   | normal =>
    obtain ⟨vB,m',XI,Xo,cA⟩:=hk;obtain ⟨e₂,a₂,w₂,PV,qT⟩:=ih m' cA vB Xo r' a₁ w₁ (cv.weak XI) b k cs Jn Gw;exact sn
   | exit id=>exact ⟨_,a₁,w₁,⟨s',r',hk,cv⟩,.pass (x:=.inLoop c) rfl (λ_ _=>.inl zS) gz⟩
   | goto l=>exact ⟨_,a₁,w₁,⟨s',r',hk,cv⟩,.pass (x:=.inLoop c) rfl (λ_ _=>.inl zS) gz⟩
   | ret=>exact ⟨_,a₁,w₁,⟨s',r',hk,cv⟩,.pass (x:=.inLoop c) rfl (λ_ _=>.inl zS) gz⟩
   | panic ch=>exact ⟨_,a₁,w₁,⟨s',r',hk,cv⟩,.pass (x:=.inLoop c) rfl (λ_ _=>.inl zS) gz⟩
   | outgrown=>exact ⟨_,a₁,w₁,⟨s',r',hk,cv⟩,.pass (x:=.inLoop c) rfl (λ_ _=>.inl zS) gz⟩
 intro r a W hi b k cs Jn hb hr;exact E5

theorem jQ {c:Code} (N:Nat) (St:Nat->GS) (hw:Weak C s (St 0)) (round:∀ i,i<N->GW P C n d ro c (St i) (dU (λs'=>Weak C s' (St (i+1))) K))
  (last:GW P C n d ro c (St N) (dU (λ_=>False) K)):GW P C n d ro (.loop c) s K:=by
 refine aay (m0:=N) (λm s=>∃ i,i+m=N/\s=St i) hw ⟨0,zO,rfl⟩ ?_;rintro m _ ⟨i,hi,rfl⟩
 cases m with
 | zero =>
  obtain rfl:i=N:=zO;refine iu last λe s h=>?_;cases e<;>first|exact h|exact h.elim
 | succ m =>
  refine iu (round i zO) λe s h=>?_;cases e<;>first|exact h|exact ⟨St (i+1),m,h,⟨i+1,zO,rfl⟩,zO⟩

theorem Ol {b:Frame} {a:Act} {c:Code} {k:List Item} {cs:List Frame} {w:World}:step P (lone (b.atR a (.code (.scope c)::k)) cs w)=.next (lone (b.atR a (.code c::.inScope c::k)) cs w):=by
 exact step_lone_go (by simp [stepG,stepG.exec,Frame.atR])
theorem Jt {b:Frame} {a:Act} {c:Code} {k:List Item} {cs:List Frame} {w:World}:step P (lone (b.atR a (.inScope c::k)) cs w)=.next (lone (b.atR a k) cs w):=by
 exact step_lone_go (by simp [stepG,stepG.exec,Frame.atR])
def sV (l:Nat) (J:GS->Prop) (K:Exit->GS->Prop):Exit->GS->Prop
 | .goto l',s=>l'=l/\J s
 | e,s=>K e s
theorem VU {c rest:Code} (l:Nat) (I:Nat->GS->Prop) (BR:findLabel c l=some rest) (first:GW P C n d ro c s (sV l (λs'=>∃ vB m',Weak C s' vB/\I m' vB) K))
  (pass:∀ m s,I m s->GW P C n d ro rest s (sV l (λs'=>∃ vB m',Weak C s' vB/\I m' vB/\m'<m) K)):GW P C n d ro (.scope c) s K:=by
 intro r a W hi b k cs Jn hb hr;have hg:gotoIn l (.inScope c::k)=some (.code rest::.inScope c::k):=by simp [gotoIn,BR]
 have sIn:∀ {a W},StepsIn (Machine.fenced P (Fw P ro)) P (lone (b.atR a (.inScope c::k)) cs W) (lone (b.atR a k) cs W):=λ{a W} =>
  .one (fenced_calm (F:=Fw P ro) (n:=0) hb (mJ P _) rfl) Jt
 have s0:StepsIn (Machine.fenced P (Fw P ro)) P (lone (b.atR a (.code (.scope c)::k)) cs W) (lone (b.atR a (.code c::.inScope c::k)) cs W) :=
  .one (fenced_calm (F:=Fw P ro) (n:=0) hb (mJ P _) rfl) Ol
 have key:∀ (m:Nat) (s:GS),I m s->∀ r a W,GI P C n d r s a W ->
   ∃ e a' w',(∃ s' r',K e s'/\GI P C n d r' s' a' w')/\ArrivesIn (Machine.fenced P (Fw P ro)) P (lone (b.atR a (.code rest::.inScope c::k)) cs W) b k cs e a' w':=by
  intro m
  induction m using Nat.strongRecOn with
  | _ m ih =>
   intro s hI r a W hi;obtain ⟨e,a₁,w₁,⟨s',r',hk,cv⟩,gz⟩:=pass m s hI r a W hi b (.inScope c::k) cs Jn hb hr
   cases e with
   | normal=>exact ⟨.normal,a₁,w₁,⟨s',r',hk,cv⟩,ef gz sIn⟩
   | goto l' =>
    obtain ⟨rfl,vB,m',hw,hI',cA⟩:=hk;obtain ⟨e₂,a₂,w₂,PV,qT⟩:=ih m' cA vB hI' r' a₁ w₁ (cv.weak hw);exact ⟨e₂,a₂,w₂,PV,.of_steps (gz.1 _ hg) qT⟩
   | exit id=>exact ⟨_,a₁,w₁,⟨s',r',hk,cv⟩,λk' hk=>gz.1 k' (by simp [exitTo,hk]),λIZ hk=>gz.2 IZ (by simpa [exitTo] using hk)⟩
   | ret=>exact ⟨_,a₁,w₁,⟨s',r',hk,cv⟩,gz⟩
   | panic ch=>exact ⟨_,a₁,w₁,⟨s',r',hk,cv⟩,gz⟩
   | outgrown=>exact ⟨_,a₁,w₁,⟨s',r',hk,cv⟩,gz⟩
 obtain ⟨e,a₁,w₁,⟨s',r',hk,cv⟩,gz⟩:=first r a W hi b (.inScope c::k) cs Jn hb hr
 cases e with
 | normal=>exact ⟨.normal,a₁,w₁,⟨s',r',hk,cv⟩,ef s0 (ef gz sIn)⟩
 | goto l' =>
  obtain ⟨rfl,vB,m',hw,hI'⟩:=hk;obtain ⟨e₂,a₂,w₂,PV,qT⟩:=key m' vB hI' r' a₁ w₁ (cv.weak hw);exact ⟨e₂,a₂,w₂,PV,.of_steps (ef s0 (gz.1 _ hg)) qT⟩
 | exit id=>exact ⟨_,a₁,w₁,⟨s',r',hk,cv⟩,.of_steps s0 (e:=.exit id) ⟨λk' hk=>gz.1 k' (by simp [exitTo,hk]),λIZ hk=>gz.2 IZ (by simpa [exitTo] using hk)⟩⟩
 | ret=>exact ⟨_,a₁,w₁,⟨s',r',hk,cv⟩,.of_steps s0 gz⟩
 | panic ch=>exact ⟨_,a₁,w₁,⟨s',r',hk,cv⟩,.of_steps s0 gz⟩
 | outgrown=>exact ⟨_,a₁,w₁,⟨s',r',hk,cv⟩,.of_steps s0 gz⟩

def sW (l:og) (ts:eM):Nat->Value:=λt=>if l.any (λo=>o.dst==some t) then eY else ts t
theorem GI.panicked {l:og} {r r':cI} {a a':Act} {W W':World} {oW:eM} {db:Hp} {xS:Nat} (h0:GI P C n d r s a W) (hs:∀ k b,s.hp k=some b->db k=some b) (AG:∀ t,(∀ o∈l,o.dst≠some t)->oW t=s.ts t) (h:RI C n d r' oW db xS a' W') :
  GI P C n d r' ⟨sW l s.ts,s.hp,s.B,xS⟩ a' W':=by
 have sub:∀ k,dom s.hp k->dom db k:=λk hk=>by
  unfold dom at *
  cases hb:s.hp k with
  | none=>exact absurd hb hk
  | some b=>rw [hs k b hb];simp
 exact ⟨{ h with
  rel:=λt=>by
   show (if l.any (λo=>o.dst==some t) then eY else s.ts t)=eY\/_
   cases hd:l.any (λo=>o.dst==some t) with
   | true=>exact .inl rfl
   | false =>
    have ht:=AG t (λo ho e=>by
     have:=jY.1 hd o ho;rw [e] at this;simp at this)
    rcases h0.ri.rel t with e|e
    ·exact .inl e
    ·rcases h.rel t with e'|e'
     ·exact .inl (ht.symm.trans e')
     ·refine .inr ⟨?_,?_⟩
      ·rw [e'.1,ht];simp [sW,hd]
      ·simp only [sW,hd];exact e.2
  sat:=λk b hk=>⟨(h.sat k b (hs k b hk)).1,(h0.ri.sat k b hk).2⟩
  inj:=λk l hk hl=>h.inj k l (sub k hk) (sub l hl)
  ext:=by
   obtain ⟨S,ms,h1,h2,h3,h4⟩:=h.ext;exact ⟨S,ms,h1,h2,λi hi=>h3 i (sub i hi),h4⟩
  keep:=λi hi=>⟨(h0.ri.keep i hi).1,(h.keep i hi).2⟩
  glob:=h0.ri.glob
  low:=λk hk hd=>h.low k hk (sub k hd) },h0.free,h0.low,h0.flat,h0.rounds⟩

theorem aav {id:Nat} {l:og} (pn:List FuncId) (hm:P.follows .mixedOrders=true) (hB:Region.lexFrom .any l.toArray l.length 0 (Array.replicate l.length false)=true) (jL:(sO n l&&GJ P l)=true)
  (h:∀ (Q:(Nat->Value)->Hp->Tr->Nat->Prop) (Qp:Value->Tr->Prop),(∀ ts hp tr yc,chk .any l.toArray tr=true->K .normal ⟨ts,hp,s.B+8*l.length,yc⟩->Q ts hp tr yc) ->
   (∀ pv tr,chk .any l.toArray tr=true->(∀ yc,K (.panic [{ v:=pv,recovered:=false }]) ⟨sW l s.ts,s.hp,s.B,yc⟩)->Qp pv tr)->sX P C.G ⟨C.Y,pn,true⟩ l.toArray s.B Q Qp 0 l s.ts s.hp [] s.yc false false):GW P C n d ro (.region id l.toArray true) s K:=by
 intro r a W hi;simp only [bO] at jL;replace h:=h (λts hp tr yc=>chk .any l.toArray tr=true/\K .normal ⟨ts,hp,s.B+8*l.length,yc⟩) (λpv tr=>chk .any l.toArray tr=true/\∀ yc,K (.panic [{ v:=pv,recovered:=false }]) ⟨sW l s.ts,s.hp,s.B,yc⟩) (λ_ _ _ _ a b=>⟨a,b⟩) (λ_ _ a b=>⟨a,b⟩);have hw:=za (P:=P) (G:=C.G) (V:=⟨C.Y,pn,true⟩) (base:=s.B) (K:=λts hp yc=>K .normal ⟨ts,hp,s.B+8*l.length,yc⟩) (Kp:=λpv=>∀ yc,K (.panic [{ v:=pv,recovered:=false }]) ⟨sW l s.ts,s.hp,s.B,yc⟩) hi.flat hi.low rfl l 0 s.ts s.hp [] s.yc false false (λ_=>([],[])) hi.ri.glob wI (λ_=>.inl rfl) (λ_ _=>rfl) (s9 jL.2) h;refine N6 (R7 hi.flat hi.rounds) Lm hm hB jL.1 hi.ri hw ?_ ?_ ?_
 ·rintro s' hk o7 r' a' W' cv;obtain ⟨hk,hf⟩:=hk.1 o7;exact ⟨⟨s'.ts,s'.hp,s.B+8*l.length,s'.yc⟩,r',hk,cv,by simpa using hf,by have:=hi.low;simp;omega,hi.flat,hi.rounds⟩
 ·intro s' pv hk o7 _ r' a' W' oW db xS hs AG cv;exact ⟨_,r',(hk.2 pv o7).2 xS,hi.panicked hs AG cv⟩
 ·intro s' hk o7
  cases hp:s'.pn with
  | none=>exact absurd hp o7
  | some pv=>exact (hk.2 pv hp).1

theorem pU {ops:Array Oper} {base:Nat} {pn:List FuncId} {Q:Exit->Act->World->Prop} {Kn:(Nat->Value)->Hp->Nat->Prop} {Kp:iQ} {hp0:Hp} {iP:eM} {l0:og} (cK:ct C.G) (hR:∀ y,C.Y=some y->qc P C y) (hb:100<=base):∀ (l:og) (k:Nat) (ts:eM) (hp:Hp) (tr:Tr) (yc:Nat) (wr yd:Bool) (r:cI) (a:Act) (W:World),
  (∀ o∈l,(((∀ dd,o.dst=some dd->dd<n)/\∀ c,o.op≠.defer c)/\unC P o)/\o∈l0)->(∀ t,(∀ o∈l0,o.dst≠some t)->ts t=iP t)->RI C n d r ts hp yc a W->(∀ x,base+8*k<=x->hp x=none)->(wr=false->∀ k b,hp0 k=some b->hp k=some b) ->
  (∀ ts hp yc r a W,Kn ts hp yc->RI C n d r ts hp yc a W->(∀ x,base+8*(k+l.length)<=x->hp x=none)->Q .normal a W) ->
  (∀ pv ts hp yc r a W,Kp pv->(∀ k b,hp0 k=some b->hp k=some b)->(∀ t,(∀ o∈l0,o.dst≠some t)->ts t=iP t)->RI C n d r ts hp yc a W->Q (.panic [{ v:=pv,recovered:=false }]) a W) ->
  sX P C.G ⟨C.Y,pn,false⟩ ops base (λts hp _ yc=>Kn ts hp yc) (λpv _=>Kp pv) k l ts hp tr yc wr yd->wpListIn (Fw P ro) 0 P ops Q l a W
 | [],k,ts,hp,tr,yc,wr,yd,r,a,W,_,_,hi,hn,_,hQ,_,h=>hQ ts hp yc r a W h hi ra
 | o::l,k,ts,hp,tr,yc,wr,yd,r,a,W,hd,AG,hi,hn,hs0,hQ,Z7,h=>by
  have hlen:k+(o::l).length=(k+1)+l.length:=aE;rw [hlen] at hQ;refine wpListIn_step λK hK=>?_;simp only [sX] at h
  cases hw:gn ops o ts with
  | none=>rw [hw] at h;exact h.elim
  | some b =>
   rw [hw] at h;rw [pS hi.rel hw]
   cases b with
   | true =>
    simp only at h;simp only [aU];obtain ⟨e,h1,hs,hyd,h3⟩:=s6 cK hi.glob h
    have BU:(wr||!e.ws.isEmpty)=false->∀ k b,hp0 k=some b->bW hp (e.ws++e.ns) k=some b:=λJ0 k' b g8=>by
     exact FO
    refine R7 cK hR o e ts hp yc r a W 0 _ _ hi (hd o zS).1.1 h1 (λx hx=>(hs.ws x hx).2) (λx hx=>?_) (λr' a' W' o7 cv=>hK _ _ ?_) (λpv W' xS o7 cv=>?_)
    ·have:=hs.ns x hx;exact ⟨hn x zO,zO⟩
    ·rw [o7] at h3;refine pU cK hR hb l (k+1) _ _ _ _ _ _ r' a' W' (λo ho=>hd o (br _ ho)) (λt ht=>(py (ht o (hd o zS).2)).trans (AG t ht)) cv (λx hx=>?_) BU hQ Z7 h3;exact xo
    ·exact Dz
   | false =>
    simp only at h;simp only [gB,bY];exact ⟨Lm (Y:=none) o ts r _ a W hi.rel ⟨h.1,(hd o zS).1.2⟩,hK _ _ (pU cK hR hb l (k+1) _ _ _ _ _ _ r _ W (λo ho=>hd o (br _ ho)) (λt ht=>(py (ht o (hd o zS).2)).trans (AG t ht)) (hi.put_undef (hd o zS).1.1.1) (λx hx=>hn x zO) hs0 hQ Z7 h.2)⟩

theorem SY {id:Nat} {l:og} (pn:List FuncId) (jL:(sO n l&&GJ P l)=true) (h:∀ (Q:(Nat->Value)->Hp->Tr->Nat->Prop) (Qp:Value->Tr->Prop),(∀ ts hp tr yc,K .normal ⟨ts,hp,s.B+8*l.length,yc⟩->Q ts hp tr yc) ->
   (∀ pv tr,(∀ yc,K (.panic [{ v:=pv,recovered:=false }]) ⟨sW l s.ts,s.hp,s.B,yc⟩)->Qp pv tr)->sX P C.G ⟨C.Y,pn,false⟩ l.toArray s.B Q Qp 0 l s.ts s.hp [] s.yc false false):GW P C n d ro (.region id l.toArray false) s K:=by
 intro r a W hi;simp only [bO] at jL;replace h:=h (λts hp _ yc=>K .normal ⟨ts,hp,s.B+8*l.length,yc⟩) (λpv _=>∀ yc,K (.panic [{ v:=pv,recovered:=false }]) ⟨sW l s.ts,s.hp,s.B,yc⟩) (λ_ _ _ _ a=>a) (λ_ _ a=>a);refine wpIn_region_lit (pU (Kn:=λts hp yc=>K .normal ⟨ts,hp,s.B+8*l.length,yc⟩) (Kp:=λpv=>∀ yc,K (.panic [{ v:=pv,recovered:=false }]) ⟨sW l s.ts,s.hp,s.B,yc⟩) (hp0:=s.hp) (iP:=s.ts) (l0:=l) hi.flat hi.rounds hi.low l 0 s.ts s.hp [] s.yc false false r a W (λo ho=>⟨⟨pG jL.1 ho,s9 jL.2 o ho⟩,ho⟩) (λ_ _=>rfl) hi.ri wI (λ_ _ _ h=>h) ?_ ?_ h)
 ·intro ts hp yc r' a' W' hk cv hf;exact ⟨⟨ts,hp,s.B+8*l.length,yc⟩,r',hk,cv,by simpa using hf,by have:=hi.low;simp;omega,hi.flat,hi.rounds⟩
 ·intro pv ts hp yc r' a' W' hk hs AG cv;exact ⟨_,r',hk yc,hi.panicked hs AG cv⟩

def Ar (P:Program) (ts:eM) (hp:Hp):ResultVar->Option Value
 | .tmp t=>if jH (ts t) then some (ts t) else none
 | .cell t T=>match ts t with
  | .pointer (some ⟨k,off,none⟩)=>match hp k with
   | some b=>match ft P T b off with
    | some v=>if jH v then some v else none
    | none=>none
   | none=>none
  | _=>none
def ub (P:Program) (ts:eM) (hp:Hp):List ResultVar->Option (List Value)
 | []=>some []
 | x::l=>match Ar P ts hp x with
  | some v=>match ub P ts hp l with
   | some vs=>some (v::vs)
   | none=>none
  | none=>none
def qa (P:Program) (rs:List ResultVar) (ts:eM) (hp:Hp):Option Value :=
 match ub P ts hp rs with
 | some [v]=>some v
 | some vs=>some (.tuple vs.toArray)
 | none=>none

def Iw (tmps:bV):ResultVar->Sem Value
 | .tmp t=>pure (tmps.getD t undef)
 | .cell a t=>do loadVar t (<-asAddr (tmps.getD a undef))
theorem Qw (fn:Func) (tmps:bV):results fn tmps=(do let vs <-fn.results.mapM (Iw tmps);pure (if h:vs.size=1 then vs[0] else .tuple vs)):=by
 unfold results;congr 2

theorem US {r:cI} {D:gA} {ts:eM} {hp:Hp} {a:Act} {W:World} (h:Rel r D ts a) (hs:Sat r D hp W) {x:ResultVar} {v:Value} (hv:Ar P ts hp x=some v) :
  (Iw a.tmps x).run P W=.ok (ren r v) W/\jH v=true:=by
 cases x with
 | tmp t =>
  simp only [Ar] at hv;split at hv
  ·rename_i hn;cases hv;have:=(h t).resolve_left (by intro e;rw [e] at hn;simp [jH,eY] at hn);exact ⟨by simp only [Iw,cx,this.1],hn⟩
  ·cases hv
 | cell t T =>
  simp only [Ar] at hv;split at hv
  ·rename_i k off hg;split at hv
   ·rename_i b hb;split at hv
    ·rename_i u hu;split at hv
     ·rename_i hn;cases hv;have h1:=(h t).resolve_left wO;rw [hg] at h1;have h3:a.tmps.getD t undef=.pointer (some ⟨r k,off,none⟩):=h1.1;refine ⟨?_,hn⟩;simp only [Iw,h3,asAddr];have:=yK hu (hs k b hb).1;exact cZ
     ·cases hv
    ·cases hv
   ·cases hv
  ·cases hv

theorem Kt {r:cI} {D:gA} {ts:eM} {hp:Hp} {a:Act} {W:World} (h:Rel r D ts a) (hs:Sat r D hp W):∀ (l:List ResultVar) (vs:List Value),ub P ts hp l=some vs ->
  (l.mapM (Iw a.tmps)).run P W=.ok (vs.map (ren r)) W/\∀ v∈vs,jH v=true
 | [],vs,hv=>by simp only [ub,bg] at hv;subst hv;simp
 | x::l,vs,hv=>by
  simp only [ub] at hv;split at hv
  ·rename_i v h1;split at hv
   ·rename_i us h2;cases hv;have e1:=US h hs h1;have e2:=Kt h hs l us h2;refine ⟨?_,λu hu=>?_⟩
    ·rw [List.mapM_cons,aY,e1.1];simp only [bD,aY,e2.1,cx,bJ]
    ·rcases al.1 hu with rfl|hu
     ·exact e1.2
     ·exact e2.2 u hu
   ·cases hv
  ·cases hv

theorem Qv {r:cI} {v:Value} (h:jH v=true):ren r v=aT r v:=by cases v<;>simp_all [jH,ren]

theorem jP {fn:Func} {r:cI} {D:gA} {ts:eM} {hp:Hp} {a:Act} {W:World} (h:Rel r D ts a) (hs:Sat r D hp W) {v:Value} (hv:qa P fn.results.toList ts hp=some v):(results fn a.tmps).run P W=.ok (ren r v) W:=by
 unfold qa at hv
 have key:∀ vs,ub P ts hp fn.results.toList=some vs->(results fn a.tmps).run P W=.ok (if h:(vs.map (ren r)).toArray.size=1 then (vs.map (ren r)).toArray[0] else .tuple (vs.map (ren r)).toArray) W/\∀ v∈vs,jH v=true:=λvs hvs=>by
  have e:=Kt h hs _ _ hvs;refine ⟨?_,e.2⟩;rw [Qw,Array.mapM_eq_mapM_toList];simp only [aY,Sem.run_map,e.1,bD,cx]
 split at hv
 ·rename_i u hu;cases hv;have:=(key _ hu).1;exact cZ
 ·rename_i vs hn hu;cases hv;have e:=key _ hu;rw [e.1]
  have hlen:vs.length≠1:=λhl=>by
   match vs,hl with
   | [u],_=>exact hn u rfl
  rw [dif_neg (by simpa using hlen)];simp only [ren];congr 2;apply jk;simp only [iH];exact dK λv hv=>Qv (e.2 v hv)
 ·cases hv

theorem yh {n:Nat} {fn:Func} {tmps:bV} {R:Ending->World->Prop} {u:FrameMode} (hu:u≠.run):∀ (ms:List Nat) (W:World),ms.Nodup->(∀ D∈ms,W.heap[D]? = some (.deferred (some []))) ->
  (∀ W':World,W'.heap.size=W.heap.size->W'.os=W.os->W'.tape=W.tape->W'.output=W.output->(∀ k,k∉ms->W'.heap[k]? = W.heap[k]?)->LeavesIn (Fw P none) n P fn tmps R [] u W')->LeavesInM (Fw P none) n P fn tmps R (ms.map H9) u W
 | [],W,_,_,h=>h W rfl rfl rfl rfl λ_ _=>rfl
 | D::ms,W,hn,hd,h=>by
  have hD:=hd D zS;have JX:=gO.1 hn;refine ⟨hu,.inl ⟨D,_,rfl,run_takeDeferred hD,yh hu ms _ JX.2 (λE hE=>?_) λW' e1 e2 e3 e4 e5=>h W' ?_ e2 e3 e4 λk hk=>?_⟩⟩
  ·rw [eH (λe=>JX.1 (by rw [<-e];exact hE))];exact hd E (br _ hE)
  ·rw [e1,gS]
  ·simp only [al,not_or] at hk;rw [e5 k hk.2,eH (λe=>hk.1 e)]

def iI (W:World) (D:gA):Ext where
 X _ S W':=(∀ k,S k↔k<W.heap.size/\¬D k)/\W'.os=W.os/\W'.tape=W.tape/\W'.output=W.output/\W.heap.size<=W'.heap.size/\∀ k,S k->W'.heap[k]? = W.heap[k]?
 ok _ _ _ _ h hs os tape output size:=⟨h.1,os.trans h.2.1,tape.trans h.2.2.1,output.trans h.2.2.2.1,fS h.2.2.2.2.1 size,λk hk=>(hs k hk).trans (h.2.2.2.2.2 k hk)⟩

def ah6 (P:Program) (fn:Func) (hp:Hp) (res:Res) (e:Exit) (s:GS):Prop :=
 match res with
 | .ret v ws=>(e=.normal\/e=.ret)/\qa P fn.results.toList s.ts s.hp=some v/\∀ k,dom hp k->s.hp k=bW hp ws k
 | .pan v=>e=.panic [{ v:=v,recovered:=false }]/\∀ k,dom hp k->s.hp k=hp k
 | .new _ _=>False

theorem Kx:∀ {ws:bS} {hp:Hp} {p:Nat×Blk},p∈ws->(∀ k b c,(k,b)∈ws->(k,c)∈ws->b=c)->bW hp ws p.1=some p.2:=λ{ws hp p} hp1 ho=>by
 have hd:dom (bW hp ws) p.1:=Az.2 (.inr (aI.2 ⟨p,hp1,rfl⟩));unfold dom at hd
 cases hb:bW hp ws p.1 with
 | none=>exact absurd hb hd
 | some b =>
  rcases Ow hb with ⟨_,h2⟩|h2
  ·exact absurd (aI.2 ⟨p,hp1,rfl⟩) h2
  ·rw [ho p.1 b p.2 h2 hp1]

theorem pH {f:FuncId} {fn:Func} {c:Code} {args:bV} {hp:Hp} {rs:List Nat} {res:Res} {B:Nat} (cK:ct G) (hG:∀ k,k<100->hp k=G k) (hf:P.funcs[f]? = some fn) (hb:fn.body=some c) (eP:∀ a w,(callFunc f a).run P w=.ok (.enter f a) w)
  (ha:∀ x∈args,aN (dom (rst hp rs)) x) (mM:∀ k b,rst hp rs k=some b->b.ids (dom (rst hp rs))) (fp:res.fits hp rs) (hn:args.size<=fn.ntmps) (hB:100<=B) (dx:∀ x,B<=x->rst hp rs x=none)
  (h:∀ C:Ctx,C.G=G->C.hp0=rst hp rs->C.Y=none->GW P C fn.ntmps [] none c ⟨λt=>args.getD t undef,rst hp rs,B,0⟩ (ah6 P fn (rst hp rs) res)):Fun P G f args hp rs res:=by
 refine ⟨eP,ha,mM,fp,λr W fM hZ gu ba=>callsIn_of_wp_marks hf hb ⟨fn,hf⟩ ?_⟩
 have VE:∀ k,dom (rst hp rs) k->r k<W.heap.size:=λk hk=>by
  exact se
 let im:Nat->Prop:=λj=>∃ i,dom (rst hp rs) i/\r i=j;let C:Ctx:=⟨iI W im,rst hp rs,r,G,none⟩
 have hi:GI P C fn.ntmps [] r ⟨λt=>args.getD t undef,rst hp rs,B,0⟩ { tmps:=args.map (ren r)++Array.replicate (fn.ntmps - (args.map (ren r)).size) undef,defers:=[] } W:=by
  refine ⟨⟨aE,λt=>?_,hZ,gu,⟨λk=>k<W.heap.size/\¬im k,[],⟨λ_=>jr,rfl,rfl,rfl,aG _,λ_ _=>rfl⟩,λk hk=>hk.1,λi hi _ hS=>hS.2 ⟨i,hi,rfl⟩,⟨rfl,jZ⟩,zS⟩,
   λi hi=>⟨hi,rfl⟩,λk hk=>?_,ba⟩,dx,hB,cK,λy hy=>by cases hy⟩
  ·right
   exact xw
  ·exact xf
 refine wpIn_mono (h C rfl rfl rfl r _ W hi) ?_;rintro e a' W' ⟨s',r',HW,cv⟩;obtain ⟨S,ms,⟨hS,os,tape,output,size,mH⟩,MP,HM,⟨pZ,BS⟩,sv⟩:=cv.ri.ext;have ig:∀ i,dom (rst hp rs) i->dom s'.hp i/\r' i=r i:=cv.ri.keep;have TT:∀ b:Blk,b.ids (dom (rst hp rs))->b.obj r'=b.obj r:=λb hb=>Blk.obj_congr (λk hk=>(ig k hk).2) hb
 -- VH blocks of Vc was there
 have old:∀ gF:World,(∀ k,k∉ms->gF.heap[k]? = W'.heap[k]?)->∀ k,k<W.heap.size->¬im k->gF.heap[k]? = W.heap[k]?:=λgF hW k hk hi=>by
  have hSk:S k:=(hS k).2 ⟨hk,hi⟩;rw [hW k (λhm=>(sv k hm).2.1 hSk)];exact mH k hSk
 have Jp:∀ gF:World,(∀ k,k∉ms->gF.heap[k]? = W'.heap[k]?)->∀ i b,s'.hp i=some b->gF.heap[r' i]? = some (b.obj r'):=λgF hW i b hb=>by
  exact w6
 cases res with
 | ret v ws =>
  obtain ⟨he,hr,yY⟩:=HW
  have cm:∀ gF:World,gF.heap.size=W'.heap.size->gF.os=W'.os->gF.tape=W'.tape->gF.output=W'.output->(∀ k,k∉ms->gF.heap[k]? = W'.heap[k]?) ->
    LeavesIn (Fw P none) 0 P fn a'.tmps ((Res.ret v ws).holds r (dom (rst hp rs)) W) [] .returning gF:=λgF e1 e2 e3 e4 e5=>by
   have qU:Sat r' (dom s'.hp) s'.hp gF:=λk b hk=>⟨Jp gF e5 k b hk,(cv.ri.sat k b hk).2⟩
   have eE:=jP (fn:=fn) cv.ri.rel qU hr;rw [jg (λk hk=>(ig k hk).2) fp.1] at eE;refine ⟨_,eE,rfl,?_⟩;refine ⟨e2.trans os,e3.trans tape,e4.trans output,oK,λk hk Lb=>?_,λp hp1=>?_,zS,zS⟩
   ·by_cases g8:im k
    ·obtain ⟨i,jU,rfl⟩:=g8;have hiw:i∉ak ws:=λhm=>CO
     cases hb:rst hp rs i with
     | none=>exact absurd hb jU
     | some b =>
      have e:s'.hp i=some b:=by rw [yY i jU,dw hiw];exact hb
      exact EY
    ·exact old gF e5 k hk g8
   ·simp only [dY] at hp1;have hk:=fp.2.1 p.1 (aI.2 ⟨p,hp1,rfl⟩);have hdm:dom (rst hp rs) p.1:=by unfold dom rst at *;simp [hk.1];exact hk.2.1
    have e:s'.hp p.1=some p.2:=by rw [yY _ hdm];exact Kx hp1 fp.2.2.1
    have:=Jp gF e5 _ _ e;have iZ:=fp.2.2.2 p hp1;rw [(ig _ hdm).2,TT _ iZ] at this;exact ⟨this,Blk.ids_mono (λk hk=>.inl hk) iZ⟩
  exact mq
 | new v ns=>exact HW.elim
 | pan v =>
  obtain ⟨rfl,yY⟩:=HW;show LeavesInM _ _ _ _ _ _ a'.defers _ _;rw [pZ,dY];refine yh zS ms W' BS (λD hD=>(sv D hD).1) λgF e1 e2 e3 e4 e5=>?_;refine ⟨rfl,e2.trans os,e3.trans tape,e4.trans output,oK,λk hk=>?_⟩;by_cases g8:im k
  ·obtain ⟨i,jU,rfl⟩:=g8
   cases hb:rst hp rs i with
   | none=>exact absurd hb jU
   | some b =>
    have e:s'.hp i=some b:=by rw [yY i jU];exact hb
    exact EY
  ·exact old gF e5 k hk g8

theorem vA (cK:ct G) (rs:List Nat):rst G rs=G:=funext λk=>by
 unfold rst;split
 ·rfl
 ·rename_i hk
  cases hg:G k with
  | none=>rfl
  | some b=>exact absurd (.inl (cK k b hg).1) hk

theorem RA (cK:ct G) {W:World} (h:GOK G W):Sat id (dom G) G W:=λk b hk=>by
 obtain ⟨_,BR⟩:=cK k b hk;refine ⟨?_,Blk.flat_ids BR⟩;rw [id,h k b hk];exact xc

theorem Qx {f:FuncId} {args:bV} {v:Value} (cK:ct G) (hv:bz v=true) (ha:∀ x∈args,bz x=true) (h:Fun P G f args G [] (.ret v [])):Ret P G f args v:=by
 refine ⟨hv,ha,h.enter,λW hW=>?_⟩;have eE:=h.run id W hW (by rw [vA cK];exact RA cK hW) (λ_ _ _ _ e=>e) (λ_ _ _=>rfl);rw [eK (λx hx=>bM (ha x hx))] at eE;refine eE.mono λe W' ⟨he,ht⟩=>?_;rw [bM hv] at he;exact ⟨he,ht.os,ht.tape,ht.output,ht.size,λk hk=>ht.same k hk zS⟩

theorem ck {f:FuncId} {fn:Func} {c:Code} {args:bV} {v:Value} (cK:ct G) (hf:P.funcs[f]? = some fn) (hb:fn.body=some c) (eP:∀ a w,(callFunc f a).run P w=.ok (.enter f a) w)
  (hv:bz v=true) (ha:∀ x∈args,bz x=true) (hn:args.size<=fn.ntmps)
  (h:∀ C:Ctx,C.G=G->C.hp0=G->C.Y=none->GW P C fn.ntmps [] none c ⟨λt=>args.getD t undef,G,200,0⟩ (λe s=>(e=.normal\/e=.ret)/\qa P fn.results.toList s.ts s.hp=some v)):Ret P G f args v:=by
 refine Qx cK hv ha (pH (B:=200) cK (λ_ _=>rfl) hf hb eP (λx hx=>cb (ha x hx)) (λk b hk=>?_) ⟨cb hv,ah,zS,zS⟩ hn zO (λx hx=>?_) λC h1 h2 h3=>?_)
 ·rw [vA cK] at hk |-;exact Blk.flat_ids ((cK k b hk).2)
 ·exact DN
 ·rw [vA cK] at h2 |-;intro r a W hi;refine wpIn_mono (h C h1 h2 h3 r a W hi) ?_;rintro e a' W' ⟨s',r',⟨he,hr⟩,cv⟩;refine ⟨s',r',⟨he,hr,λk hk=>?_⟩,cv⟩
  have cA:k<100:=by
   exact Du
  simp only [bW];rw [cv.ri.glob k cA,h1]

theorem tJ {f:FuncId} {fn:Func} {c:Code} {args:bV} {oc:Out} (cK:ct G) (hf:P.funcs[f]? = some fn) (hb:fn.body=some c) (eP:∀ a w,(callFunc f a).run P w=.ok (.enter f a) w)
  (hv:∀ v,oc=.ret v->bz v=true) (ha:∀ x∈args,bz x=true) (hn:args.size<=fn.ntmps)
  (h:∀ C:Ctx,C.G=G->C.hp0=G->C.Y=none->GW P C fn.ntmps [] none c ⟨λt=>args.getD t undef,G,200,0⟩ (λe s=>match oc with
   | .ret v=>(e=.normal\/e=.ret)/\qa P fn.results.toList s.ts s.hp=some v
   | .pan v=>e=.panic [{ v:=v,recovered:=false }])):yP P G f args oc:=by
 refine ⟨hv,ha,eP,λW hW=>?_⟩
 have low:∀ k,dom G k->k<100:=λk hk=>by
  exact Du
 cases oc with
 | ret v =>
  have hr:=ck (v:=v) cK hf hb eP (hv v rfl) ha hn h;exact hr.2.2.2 W hW
 | pan v =>
  have aq4:Fun P G f args G [] (.pan v):=by
   refine pH (B:=200) cK (λ_ _=>rfl) hf hb eP (λx hx=>cb (ha x hx)) (λk b hk=>?_) trivial hn zO (λx hx=>?_) λC h1 h2 h3=>?_
   ·rw [vA cK] at hk |-;exact Blk.flat_ids ((cK k b hk).2)
   ·exact DN
   ·rw [vA cK] at h2 |-;intro r a W hi;refine wpIn_mono (h C h1 h2 h3 r a W hi) ?_;rintro e a' W' ⟨s',r',he,cv⟩;exact ⟨s',r',⟨he,λk hk=>by rw [cv.ri.glob k (low k hk),h1]⟩,cv⟩
  have eE:=aq4.run id W hW (by rw [vA cK];exact RA cK hW) (λ_ _ _ _ e=>e) (λ_ _ _=>rfl);rw [eK (λx hx=>bM (ha x hx))] at eE;exact eE

theorem Ret.unique {f:FuncId} {args:bV} {v u:Value} (hW:∃ W,GOK G W) (hi:P.inits.idxOf? f=none) (h:Ret P G f args v) (h':Ret P G f args u):v=u:=by
 obtain ⟨W,hW⟩:=hW
 have mk:∀ {v:Value},Ret P G f args v->∃ k w',runN P k (lone (Frame.enter P f args .normal) [] W)=.ended (.done v) w':=λ{v} h=>by
  have:=(h.2.2.2 W hW).calls.mono (R':=λ| .returned x,_=>x=v|_,_=>False) (λe w' ⟨he,_⟩=>by subst he;rfl);obtain ⟨k,x,w',h1,h2⟩:=this.done hi;exact ⟨k,w',by rw [h1];cases h2;rfl⟩
 obtain ⟨k,w1,h1⟩:=mk h;obtain ⟨l,w2,h2⟩:=mk h'
 have more:∀ {k:Nat} {x:Value} {w:World},runN P k (lone (Frame.enter P f args .normal) [] W)=.ended (.done x) w->∀ m,runN P (k+m) (lone (Frame.enter P f args .normal) [] W)=.ended (.done x) w:=λ{k x w} hk m=>by
  rw [runN_add,hk]
 have e1:=more h1 l;have e2:=more h2 k;rw [Nat.add_comm] at e2;rw [e1] at e2;injection e2 with e2;injection e2

theorem aP {f:FuncId} {args:bV} {v:Value} {K:iQ} (hW:∃ W,GOK G W) (hi:P.inits.idxOf? f=none) (h:Ret P G f args v):cu P G f args K↔K v:=by
 refine ⟨λ⟨u,hu,hk⟩=>?_,λhk=>⟨v,.inl h,hk⟩⟩;rcases hu with hu|hu
 ·exact Ret.unique hW hi h hu▸hk
 ·have:=h.2.2.1 args default;rw [hu.2.2 default] at this;cases this
theorem Pg {f:FuncId} {args:bV} {v:Value} {K:iQ} (h:aaF P f args v):cu P G f args K↔K v:=by
 refine ⟨λ⟨u,hu,hk⟩=>?_,λhk=>⟨v,.inr h,hk⟩⟩;rcases hu with hu|hu
 ·have:=hu.2.2.1 args default;rw [h.2.2 default] at this;cases this
 ·have:=hu.2.2 default;rw [h.2.2 default] at this;injection this with this;injection this with this;subst this;exact hk

end
theorem vE {p:Prop} (h:p:=by simp [ren,aT,aw]):p:=h
theorem rW {p:Prop} (h:p:=by rw [e1];exact aG _):p:=h
theorem rh {p:Prop} (h:p:=by have:=MQ k hk;omega):p:=h
theorem vY {p:Prop} (h:p:=by have:=(a9.1 (sv D hD).1).1;omega):p:=h
theorem lP {p:Prop} (h:p:=by have:=zA _ hc;omega):p:=h
theorem vJ {p:Prop} (h:p:=by have:=jM.ri.lt (sub i hd);omega):p:=h
theorem wL {p:Prop} (h:p:=by rw [jM.ri.size];exact JY _ (by simpa using (qp hp1).1)):p:=h
theorem me {p:Prop} (h:p:=by rw [n9]):p:=h
theorem Cp {p:Prop} (h:p:=by have:=Nq k hm;have:=Gv k (Lk k hk);omega):p:=h
theorem Ck {p:Prop} (h:p:=by have:=Nq D hm;have:=Gv D (L8 D hD);omega):p:=h
theorem DV {p:Prop} (h:p:=by
 dsimp only;rw [alS];generalize hA:#[Value.func (.yield l) #[] #[]]++bh=A
 have hAi:∀ x∈A,aN (dom (rst hp rs)) x:=λx hx=>by
  rw [<-hA] at hx;rcases BH.1 hx with hx|hx
  ·simp at hx;subst hx;simp [aN,cp,aL]
  ·exact (ha x hx).2
 by_cases ht:t<A.size
 ·have hm:A[t]∈A:=jj ht;have e:A.getD t undef=A[t]:=wK;rw [e];refine ⟨?_,hAi _ hm⟩;have:t<(A.map (ren r)).size:=by simpa using ht
  simp [BG this,ht]
 ·have e:A.getD t undef=undef:=by simp [gN (lA ht)]
  rw [e];refine ⟨?_,kT _⟩;rw [ir];simp only [jl];rw [uH vV,jm];split<;>rfl):p:=h
theorem Ex {p:Prop} (h:p:=by
 have:dom s1.hp i/\r1 i=rc i:=gi.ri.keep i hd;exact ⟨i,this.1,this.2.trans e⟩):p:=h
theorem Gm {p:Prop} (h:p:=by
 exact .inr ⟨h,by
  unfold dom at hd
  cases hb:hp2 i with
  | none=>exact absurd hb hd
  | some b=>have:=(a9.1 (q2.sat i b hb).1).1;rwa [sz] at this⟩):p:=h
theorem EH {p:Prop} (h:p:=by
 have yg:(#[Value.func (.yield l) #[] #[]]++bh.map (ren r)).size=(#[Value.func (.yield l) #[] #[]]++bh).size:=zS;have alS:#[Value.func (.yield l) #[] #[]]++bh.map (ren r)=(#[Value.func (.yield l) #[] #[]]++bh).map (ren r):=vE;refine ⟨⟨?_,λt=>?_,hZ,gu,⟨S,[],hX,hS,λi hi h1=>kW i hi h1,⟨rfl,jZ⟩,zS⟩,λi hi=>⟨hi,rfl⟩,λk hk=>?_,ba⟩,dx,hB,cK,λy hy=>by cases hy;exact ⟨hR,eG⟩⟩
 ·simp only [BA,BC,yg];simp;omega
 ·right
  exact DV
 ·show rst hp rs k=G k;simp [rst,hk,hG k hk]):p:=h
theorem CW {p:Prop} (h:p:=by
 rw [<-hy];exact E.ok _ _ _ _ RF (λk hk=>e5 k λhm=>(sv k hm).2.1 hk) e2 e3 e4 rW):p:=h
theorem w9 {p:Prop} (h:p:=by
 have:=((jM.ri.rel t).resolve_left wO).1;rw [hg] at this;simpa [ren,aT,aw,Act.eval] using this):p:=h
theorem wZ {p:Prop} (h:p:=by
 rw [<-hW1];have:=uX (W.alloc (.deferred (some []))) (.loop (rec .ready none));rwa [Mm] at this):p:=h
theorem w8 {p:Prop} (h:p:=by
 rw [<-hW1];exact (lF _ _ _ zS).trans (uX W _)):p:=h
theorem wV {p:Prop} (h:p:=by
 rw [<-hW1];exact (((qq _ W).alloc (aG _) _).alloc zS _)):p:=h
theorem xK {p:Prop} (h:p:=by
 by_cases hk:100<=i
 ·exact hw.hp i hk
 ·exact .inr ((hw.glob i zO).trans (jM.ri.glob i zO).symm)):p:=h
theorem wY {p:Prop} (h:p:=by
 obtain ⟨cA,BR⟩:=jM.flat k b hk;have hb:fP k=some b:=(h2 k cA).trans hk;have h9:=(h1 k b hb).1;rw [h3 k cA fF] at h9;rw [h9];rw [Blk.obj_flat (λx hx=>BR x hx)]):p:=h
theorem xA {p:Prop} (h:p:=by
 rcases mF with h|h
 ·exact h
 ·omega):p:=h
theorem xx {p:Prop} (h:p:=by
 refine ⟨⟨XH,?_,dj.sat,dj.inj,⟨λk=>k<V.heap.size/\¬im k,[],⟨λ_=>jr,rfl,rfl,rfl,aG _,λ_ _=>rfl⟩,λk hk=>hk.1,λi hd _ hS=>hS.2 ⟨i,hd,rfl⟩,⟨rfl,jZ⟩,zS⟩,λi hd=>⟨hd,rfl⟩,dj.glob,dj.low⟩,PN,hw.low,jM.flat,λy hy=>by cases hy⟩;rw [htm];exact XF):p:=h
theorem xG {p:Prop} (h:p:=by
 refine ⟨⟨gi.ri.size,gi.ri.rel,λk b hk=>⟨(eH (λe=>gi.ri.not_loop HU ⟨k,gD,e⟩)).trans (gi.ri.sat k b hk).1,(gi.ri.sat k b hk).2⟩,gi.ri.inj,
  ⟨λk=>k<(V1.putObj l (.loop (rec .busy none))).heap.size/\¬D1 k,m1,⟨λ_=>jr,rfl,rfl,rfl,aG _,λ_ _=>rfl⟩,λk hk=>hk.1,λi hd _ hS=>hS.2 (.inl ⟨i,hd,rfl⟩),df1,λD hD=>⟨?_,(λhS=>hS.2 (.inr hD)),λh=>nomatch h⟩⟩,
  λi hd=>gi.ri.keep i hd,gi.ri.glob,gi.ri.low⟩,gi.free,gi.low,gi.flat,λy hy=>by cases hy⟩
 rw [eH (λe=>?_)]
 ·exact (ZZ D hD).1
 ·have:=(ZZ D hD).1;rw [e,HU] at this;cases this):p:=h
theorem F6 {p:Prop} (h:p:=by
 rintro e2 a2 V2 ⟨s2,r2,mN,gi3⟩;refine cm e2 s2 r2 V1 V2 a1 a2 r1 s1.ts s1.hp s1.yc D1 (λk hk hD=>?_) (λhD=>?_) mN gi.ri gi3
 ·rcases hD with h|h
  ·exact h
  ·have h2:=(ZZ k h).2.1;rw [Vp] at h2;obtain ⟨i,hd,e⟩:=aO λhc=>h2 ⟨hk,hc⟩;have h3:=(ZZ k h).1;by_cases g5:100<=i
   ·exact Ex
   ·exact Ex
 ·rcases hD with h|h
  ·exact gi.ri.not_loop HU h
  ·have:=(ZZ l h).1;rw [HU] at this;cases this):p:=h
theorem sg {p:Prop} (h:p:=by
 rcases q3 i hd with h|h
 ·exact Gm
 ·exact .inl h):p:=h
theorem xd {p:Prop} (h:p:=by
 rw [sz];rcases hk with h|h
 ·exact j8 (Gv k h) q4
 ·exact h.2):p:=h
theorem DR {p:Prop} (h:p:=by
 have h1:(YG.mk l xs N pn none).pan c=none:=by
  show (if c=N then pn else none)=none;rw [ab zO]
 have h2:(c != N)=true:=aE;rw [h1,h2];rfl):p:=h
theorem xb {p:Prop} (h:p:=by
 intro V' k1 k2 k3 k4 k5;obtain ⟨q1,q2⟩:=kX V' k1 k2 k3 k4 k5;refine ⟨q1,q2.2,λj' RK=>?_⟩;rw [ho] at RK;cases RK;simpa [n9] using q2):p:=h
theorem xO {p:Prop} (h:p:=by
 cases e<;>simp only [eV,bg,reduceCtorEq] at ho
 ·subst ho;exact hR
 ·subst ho;exact hR
 ·subst ho;exact hR):p:=h
theorem wS {p:Prop} (h:p:=by
 rw [<-hW1,n9];exact run_enterLoop_outer _ _ _ _ _):p:=h
theorem xk {p:Prop} (h:p:=by
 simp only [resolve,JU];simp [go_sem,Act.eval]):p:=h
theorem xj {p:Prop} (h:p:=by
 simp [Target.leads] at Vr;subst Vr;exact BO (ny.enter #[] default)):p:=h
theorem Fb {p:Prop} (h:p:=by
 unfold dom at *
 cases hb:rst s.hp rs k with
 | none=>exact absurd hb hk
 | some b=>rw [iO hb];simp):p:=h
theorem xJ {p:Prop} (h:p:=by
 have cm:=run_endLoop (P:=P) hl (by rw [n9];exact tc);refine ⟨by rw [n9] at cm |-;exact cm,?_⟩;have cA:l<V.heap.size:=(a9.1 hl).1;have szV:∀ ob,(V.putObj l ob).heap.size=V.heap.size:=λob=>gS _ _ _
 refine ⟨⟨jM.ri.size,dj.ri,λk b hk=>⟨(eH (λe=>?_)).trans (dj.sat k b hk).1,(dj.sat k b hk).2⟩,dj.inj,
  ⟨So,D0::ms,C.E.ok _ _ _ _ dj.X (λk hk=>eH (λe=>rh)) rfl rfl rfl (by rw [szV];exact aG _),λk hk=>by rw [szV];have:=MQ k hk;omega,dj.sep,⟨by simp [pZ],gO.2 ⟨λhm=>?_,BS⟩⟩,λD IV=>?_⟩,
  dj.keep,dj.glob,dj.low⟩,dx,RC,jM.flat,jM.rounds⟩
 ·have:=(dj.sat k b hk).1;rw [e,hl] at this;exact (Blk.obj_loop this).elim
 ·have:=(a9.1 (sv D0 hm).1).1;omega
 ·rcases al.1 IV with rfl|IV
  ·exact ⟨(eH zO).trans hD,(λhS=>by have:=MQ _ hS;omega),hYn⟩
  ·exact ⟨(eH (λe=>by have:=dj.mks D IV;rw [e,hl] at this;cases this)).trans (dj.mks D IV),(sv D IV).2⟩):p:=h
theorem EK {p:Prop} (h:p:=by
 cases Jl:eV e with
 | none=>rw [Jl] at ho;cases ho
 | some j =>
  obtain ⟨f1,f2⟩:=Py .done (some j) rc mO BE zS dx RC dj (Z6 j Jl);refine ⟨some j,_,f1,?_⟩;cases e<;>simp only [eV,bg,reduceCtorEq] at Jl
  ·subst Jl;exact wpIn_exit ⟨_,rc,hk,f2⟩
  ·subst Jl;exact wpIn_goto ⟨_,rc,hk,f2⟩
  ·subst Jl;exact wpIn_ret ⟨_,rc,hk,f2⟩):p:=h
theorem Eu {p:Prop} (h:p:=by
 refine ⟨i,?_,h1,rfl⟩;unfold dom rst at hd;split at hd
 ·rename_i h;exact h.resolve_left zO
 ·exact absurd rfl hd):p:=h
abbrev BA := @Array.size_append
abbrev BC := @Array.size_replicate
abbrev BH := @Array.mem_append
abbrev aO := @Classical.byContradiction
abbrev fU := @Array.getElem?_setIfInBounds
abbrev Mm := @Go.World.size_alloc
abbrev fC := @Nat.zero_le
abbrev qg := @List.mem_of_getElem?
abbrev qp := @List.of_mem_zip
abbrev uP := @Array.toList_zip
abbrev lD := @List.getElem?_eq_some_iff
abbrev kV := Exit -> GS -> Prop

section
variable {P:Program} {G:Hp}

theorem pE.of_none {E:Ext} {y:YG} (hs:y.sh=none) (h:∀ c x S W,GOK G W->y.xs[c]? = some x->c<=y.stop->E.X c S W->(∀ k,S k->k<W.heap.size) ->
  YieldAt (Fs P) 0 P y.l x W λe W'=>(match y.pan c with|none=>e=.returned (.bool (c != y.stop))|some pv=>e=.panicked [{ v:=pv,recovered:=false }])/\GOK G W'/\W.heap.size<=W'.heap.size/\(∀ k,k<W.heap.size->¬S k->W'.heap[k]? = W.heap[k]?) /\
   ∃ S',E.X (c+1) S' W'/\(∀ k,S' k->k<W'.heap.size)/\∀ k,S' k->k<W.heap.size->S k):pE P G E y:=by
 intro c x S W h1 h2 h3 h4 h5 _;obtain ⟨fn,tmps,assign,body,hy,hr⟩:=h c x S W h1 h2 h3 h4 h5;refine ⟨fn,tmps,assign,body,hy,nV hr ?_⟩;rintro e W' ⟨a1,a2,a3,a4,a5⟩;exact ⟨a1,a2,a3,λk hk hS _=>a4 k hk hS,by unfold YG.has;rw [hs];trivial,a5⟩
structure IterX (pn:Option Value) (P:Program) (G:Hp) (f:FuncId) (bh:bV) (hp:Hp) (rs:List Nat) (xs:List (Array Value)):Prop where
 enter:∀ a w,(callFunc f a).run P w=.ok (.enter f a) w
 cids:∀ x∈bh,da x=true/\aN (dom (rst hp rs)) x
 closed:∀ k b,rst hp rs k=some b->b.ids (dom (rst hp rs))
 run:∀ (E:Ext) (l stop:Nat) r S W,GOK G W->Sat r (dom (rst hp rs)) (rst hp rs) W->Inj r (dom (rst hp rs))->(∀ k,k<100->dom (rst hp rs) k->r k=k)->(pn≠none->stop<xs.length)->pE P G E ⟨l,xs,stop,pn,none⟩->E.X 0 S W->(∀ k,S k->k<W.heap.size) ->
  (∀ i,dom (rst hp rs) i->100<=i->¬S (r i)) ->
  jD P f (#[Value.func (.yield l) #[] #[]]++bh.map (ren r)) W λe W'=>match pn with
   | none=>(∃ v,e=.returned v)/\∃ S',E.X (min (stop+1) xs.length) S' W'
   | some pv=>e=.panicked [{ v:=pv,recovered:=false }]/\∃ c S',E.X c S' W'
abbrev pD (P:Program) (G:Hp) (f:FuncId) (bh:bV) (hp:Hp) (rs:List Nat) (xs:List (Array Value)):Prop:=IterX none P G f bh hp rs xs
theorem XS (pn:Option Value) {f:FuncId} {fn:Func} {c:Code} {bh:bV} {hp:Hp} {rs:List Nat} {xs:List (Array Value)} {B:Nat} {v:Value} (cK:ct G) (hG:∀ k,k<100->hp k=G k) (hf:P.funcs[f]? = some fn) (hb:fn.body=some c) (eP:∀ a w,(callFunc f a).run P w=.ok (.enter f a) w)
  (ha:∀ x∈bh,da x=true/\aN (dom (rst hp rs)) x) (mM:∀ k b,rst hp rs k=some b->b.ids (dom (rst hp rs))) (hn:bh.size+1<=fn.ntmps) (hB:100<=B) (dx:∀ x,B<=x->rst hp rs x=none)
  (h:∀ (C:Ctx) (l stop:Nat),C.G=G->C.hp0=rst hp rs->(pn≠none->stop<xs.length)->C.Y=some ⟨l,xs,stop,pn,none⟩->GW P C fn.ntmps [] none c ⟨λt=>(#[Value.func (.yield l) #[] #[]]++bh).getD t undef,rst hp rs,B,0⟩
   (λe s=>match pn with
    | none=>(e=.normal\/e=.ret)/\qa P fn.results.toList s.ts s.hp=some v/\s.yc=min (stop+1) xs.length
    | some pv=>e=.panic [{ v:=pv,recovered:=false }])):IterX pn P G f bh hp rs xs:=by
 refine ⟨eP,ha,mM,λE l stop r S W fM hZ gu ba hlen hR hX hS kW=>callsIn_of_wp_marks hf hb ⟨fn,hf⟩ ?_⟩;let C:Ctx:=⟨E,rst hp rs,r,G,some ⟨l,xs,stop,pn,none⟩⟩
 have hi:GI P C fn.ntmps [] r ⟨λt=>(#[Value.func (.yield l) #[] #[]]++bh).getD t undef,rst hp rs,B,0⟩
   { tmps:=(#[Value.func (.yield l) #[] #[]]++bh.map (ren r))++Array.replicate (fn.ntmps - (#[Value.func (.yield l) #[] #[]]++bh.map (ren r)).size) undef,defers:=[] } W:=by
  exact EH
 refine wpIn_mono (h C l stop rfl rfl hlen rfl r _ W hi) ?_;rintro e a' W' ⟨s',r',HW,cv⟩;obtain ⟨S',ms,RF,MP,HM,⟨pZ,BS⟩,sv⟩:=cv.ri.ext
 cases pn with
 | none =>
  obtain ⟨he,hr,hy⟩:=HW
  have cm:∀ gF:World,gF.heap.size=W'.heap.size->gF.os=W'.os->gF.tape=W'.tape->gF.output=W'.output->(∀ k,k∉ms->gF.heap[k]? = W'.heap[k]?) ->
    LeavesIn (Fw P none) 0 P fn a'.tmps (λe W'=>(∃ v,e=.returned v)/\∃ S',E.X (min (stop+1) xs.length) S' W') [] .returning gF:=λgF e1 e2 e3 e4 e5=>by
   have qU:Sat r' (dom s'.hp) s'.hp gF:=λk b hk=>⟨by
    rw [e5 _ (λhm=>cv.ri.ne_mark gD (sv _ hm).1 rfl)];exact (cv.ri.sat k b hk).1,(cv.ri.sat k b hk).2⟩
   refine ⟨_,jP (fn:=fn) cv.ri.rel qU hr,⟨_,rfl⟩,S',?_⟩;exact CW
  exact mq
 | some pv =>
  subst HW;show LeavesInM _ _ _ _ _ _ a'.defers _ _;rw [pZ,dY];refine yh zS ms W' BS (λD hD=>(sv D hD).1) λgF e1 e2 e3 e4 e5=>?_;exact ⟨rfl,_,S',E.ok _ _ _ _ RF (λk hk=>e5 k λhm=>(sv k hm).2.1 hk) e2 e3 e4 rW⟩
theorem G2 {f:FuncId} {fn:Func} {c:Code} {bh:bV} {hp:Hp} {rs:List Nat} {xs:List (Array Value)} {B:Nat} {v:Value} (cK:ct G) (hG:∀ k,k<100->hp k=G k) (hf:P.funcs[f]? = some fn) (hb:fn.body=some c) (eP:∀ a w,(callFunc f a).run P w=.ok (.enter f a) w)
  (ha:∀ x∈bh,da x=true/\aN (dom (rst hp rs)) x) (mM:∀ k b,rst hp rs k=some b->b.ids (dom (rst hp rs))) (hn:bh.size+1<=fn.ntmps) (hB:100<=B) (dx:∀ x,B<=x->rst hp rs x=none)
  (h:∀ (C:Ctx) (l stop:Nat),C.G=G->C.hp0=rst hp rs->C.Y=some ⟨l,xs,stop,none,none⟩->GW P C fn.ntmps [] none c ⟨λt=>(#[Value.func (.yield l) #[] #[]]++bh).getD t undef,rst hp rs,B,0⟩
   (λe s=>(e=.normal\/e=.ret)/\qa P fn.results.toList s.ts s.hp=some v/\s.yc=min (stop+1) xs.length)):pD P G f bh hp rs xs :=
 XS none (v:=v) cK hG hf hb eP ha mM hn hB dx λC l stop h1 h2 _ h3=>h C l stop h1 h2 h3
def bC (ps:List Tmp) (x:List Value) (ts:eM):Nat->Value:=(ps.zip x).foldl (λts p=>upd ts p.1 p.2) ts

def eV:Exit->Option Code
 | .ret=>some .ret
 | .exit id=>some (.exit id)
 | .goto l=>some (.goto l)
 | _=>none

variable {C:Ctx} {n:Nat} {d:List Deferred} {s:GS} {K:kV}

theorem Weak.ctx {C C':Ctx} {s s':GS} (h:C.hp0=C'.hp0) (hG:C.G=C'.G) (hw:Weak C s s'):Weak C' s s':=⟨hw.ts,hw.hp,hw.ids,by rw [<-h];exact hw.keep,by rw [<-hG];exact hw.glob,hw.yc,hw.free,hw.low⟩

def tf (S:gA) (W:World) (Φ:World->Prop):Prop :=
 ∀ W':World,(∀ k,S k->W'.heap[k]? = W.heap[k]?)->W'.os=W.os->W'.tape=W.tape->W'.output=W.output->W.heap.size<=W'.heap.size->Φ W'
theorem tf.trans {S S':gA} {W W':World} {Φ:World->Prop} (h:tf S W Φ) (hs:∀ k,S k->S' k) (h1:∀ k,S k->W'.heap[k]? = W.heap[k]?) (h2:W'.os=W.os) (h3:W'.tape=W.tape) (h4:W'.output=W.output) (h5:W.heap.size<=W'.heap.size):tf S' W' Φ :=
 λgF k1 k2 k3 k4 k5=>h gF (λk hk=>(k1 k (hs k hk)).trans (h1 k hk)) (k2.trans h2) (k3.trans h3) (k4.trans h4) (fS h5 k5)
theorem tf.here {S:gA} {W:World} {Φ:World->Prop} (h:tf S W Φ):Φ W:=h W (λ_ _=>rfl) rfl rfl rfl (aG _)

structure Own0 (C:Ctx) (d:List Deferred) (So:gA) (ms:List Nat) (yc:Nat) (a:Act) (r:cI) (ts:eM) (hp:Hp) (V:World):Prop where
 ri:Rel r (dom hp) ts a
 sat:Sat r (dom hp) hp V
 inj:Inj r (dom hp)
 X:C.E.X yc So V
 sep:∀ i,dom hp i->100<=i->¬So (r i)
 mks:∀ D∈ms,V.heap[D]? = some (.deferred (some []))
 keep:∀ i,dom C.hp0 i->dom hp i/\r i=C.r0 i
 glob:∀ k,k<100->hp k=C.G k
 low:∀ k,k<100->dom hp k->r k=k

theorem Own0.supp {So:gA} {ms:List Nat} {yc:Nat} {a:Act} {r:cI} {ts:eM} {hp:Hp} {V:World} {S:gA} (h:Own0 C d So ms yc a r ts hp V) (h1:∀ k,So k->S k) (h2:∀ i,dom hp i->S (r i)) (h3:∀ D∈ms,S D):tf S V (Own0 C d So ms yc a r ts hp) :=
 λW' k1 k2 k3 k4 k5=>⟨h.ri,λk b hk=>⟨(k1 _ (h2 k gD)).trans (h.sat k b hk).1,(h.sat k b hk).2⟩,h.inj,C.E.ok _ _ _ _ h.X (λk hk=>k1 k (h1 k hk)) k2 k3 k4 k5,h.sep,λD hD=>(k1 D (h3 D hD)).trans (h.mks D hD),h.keep,h.glob,h.low⟩

theorem mE:∀ (l:List (Tmp×Value)) (A:bV),(l.foldl (λt (p:Tmp×Value)=>t.setIfInBounds p.1 p.2) A).size=A.size
 | [],_=>rfl
 | p::l,A=>by rw [qu,mE l];simp

theorem Iy {r:cI} {D:gA}:∀ (l:List (Tmp×Value)) (ts:eM) (A:bV),(∀ p∈l,p.1<A.size/\bz p.2=true)->Rel r D ts { tmps:=A,defers:=[] } ->
  Rel r D (l.foldl (λts p=>upd ts p.1 p.2) ts) { tmps:=l.foldl (λt (p:Tmp×Value)=>t.setIfInBounds p.1 p.2) A,defers:=[] }
 | [],_,_,_,h=>h
 | p::l,ts,A,hl,h=>by
  have hp:=hl p zS;refine Iy l (upd ts p.1 p.2) (A.setIfInBounds p.1 p.2) (λq hq=>by simpa using hl q (br _ hq)) ?_;have:=h.put (dst:=some p.1) (λd hd=>by cases hd;exact hp.1) (cb (D:=D) hp.2);rw [bM hp.2] at this;exact this

def imO (r:cI) (hp:Hp):Nat->Prop:=λj=>∃ i,dom hp i/\r i=j

theorem RI.not_loop {C:Ctx} {r:cI} {ts:eM} {hp:Hp} {yc:Nat} {a:Act} {V:World} (h:RI C n d r ts hp yc a V) {l:Nat} {L:Loop} (hl:V.heap[l]? = some (.loop L)):¬imO r hp l:=by
 rintro ⟨i,hd,rfl⟩;unfold dom at hd
 cases hb:hp i with
 | none=>exact hd hb
 | some b=>have:=(h.sat i b hb).1;rw [hl] at this;exact (Blk.obj_loop this).elim

theorem Bo {d0:List Deferred} {So S:gA} {ms:List Nat} {yc y1 y2 n0:Nat} {a a1 a2:Act} {V V1 V2:World} {rc r1 r2:cI} {fX ts1 ts2:eM} {fP hp1 hp2:Hp} {l:Nat} {L0 L1 L2:Loop} (cK:ct C.G)
  (dj:Own0 C d0 So ms yc a rc fX fP V) (PK:¬So l) (Gv:∀ k,S k->k<V.heap.size) (Lk:∀ k,So k->S k) (L8:∀ D∈ms,S D) (nC:∀ i,dom fP i->S (rc i)) (hl:V.heap[l]? = some (.loop L0))
  (AH:RI ⟨iI V (imO rc fP),fP,rc,C.G,none⟩ n0 [] r1 ts1 hp1 y1 a1 V1)
  {D1:gA} (HL:∀ k,k<V.heap.size->D1 k->imO r1 hp1 k) (sr:¬D1 l) (N8:RI ⟨iI (V1.putObj l (.loop L1)) D1,fP,rc,C.G,none⟩ n0 [] r2 ts2 hp2 y2 a2 V2) :
  V1.heap[l]? = some (.loop L0)/\V2.heap[l]? = some (.loop L1)/\Own0 C d0 So ms yc a r2 fX hp2 (V2.putObj l (.loop L2))/\(∀ i,dom hp2 i->V.heap.size<=r2 i\/S (r2 i))/\V.heap.size<=V2.heap.size /\
   (∀ k,k<V.heap.size->¬imO rc fP k->k≠l->(V2.putObj l (.loop L2)).heap[k]? = V.heap[k]?)/\GOK C.G (V2.putObj l (.loop L2)):=by
 obtain ⟨T1,m1,⟨Vp,os1,tp1,ou1,sz1,sm1⟩,ago,UU,_,_⟩:=AH.ext;obtain ⟨T2,m2,⟨hT2,os2,tp2,ou2,sz2,sm2⟩,aqG,anv,_,_⟩:=N8.ext;have hlV:l<V.heap.size:=(a9.1 hl).1
 have Xx:¬imO rc fP l:=by
  rintro ⟨i,hd,rfl⟩;unfold dom at hd
  cases hb:fP i with
  | none=>exact hd hb
  | some b=>have:=(dj.sat i b hb).1;rw [hl] at this;exact (Blk.obj_loop this).elim
 have HU:V1.heap[l]? = some (.loop L0):=(sm1 l ((Vp l).2 ⟨hlV,Xx⟩)).trans hl;have awo:¬imO r1 hp1 l:=AH.not_loop HU;have PS:l<V1.heap.size:=(a9.1 HU).1;have szp:(V1.putObj l (.loop L1)).heap.size=V1.heap.size:=gS _ _ _;have zv:V2.heap[l]? = some (.loop L1):=(sm2 l ((hT2 l).2 ⟨by rw [szp];exact PS,sr⟩)).trans (jq PS);have size:V.heap.size<=V2.heap.size:=by rw [szp] at sz2;omega
 have g1:∀ k,k<100->hp1 k=C.G k:=AH.glob;have g2:∀ k,k<100->hp2 k=C.G k:=N8.glob;have gc:=dj.glob;have eqd:∀ {h h':Hp} {k:Nat},h k=h' k->dom h k->dom h' k:=λ{h h' k} e hd=>by unfold dom at *;rw [<-e];exact hd
 -- an old place of a new state is an old place of an old state
 have im1:∀ k,k<V.heap.size->imO r1 hp1 k->imO rc fP k:=λk hk ⟨i,hd,e⟩=>by
  by_cases h1:100<=i
  ·have:=UU i hd h1;rw [Vp,e] at this;exact aO λhc=>this ⟨hk,hc⟩
  ·have tV:dom fP i:=eqd ((g1 i zO).trans (gc i zO).symm) hd;exact ⟨i,tV,by rw [<-e,AH.low i zO hd,dj.low i zO tV]⟩
 have im2:∀ k,k<V.heap.size->imO r2 hp2 k->imO rc fP k:=λk hk ⟨i,hd,e⟩=>by
  by_cases h1:100<=i
  ·have:=anv i hd h1;rw [hT2,e,szp] at this;exact im1 k hk (HL k hk (aO λhc=>this ⟨zO,hc⟩))
  ·have tV:dom fP i:=eqd ((g2 i zO).trans (gc i zO).symm) hd;exact ⟨i,tV,by rw [<-e,N8.low i zO hd,dj.low i zO tV]⟩
 have RY:∀ i,dom fP i->dom hp2 i/\r2 i=rc i:=N8.keep
 have old:∀ i,dom hp2 i->r2 i<V.heap.size->dom fP i/\r2 i=rc i:=λi hd cA=>by
  obtain ⟨q,hq,e⟩:=im2 _ cA ⟨i,hd,rfl⟩;have:=RY q hq;have e2:q=i:=N8.inj q i this.1 hd (this.2.trans e);subst e2;exact ⟨hq,this.2⟩
 have frame:∀ k,k<V.heap.size->¬imO rc fP k->k≠l->(V2.putObj l (.loop L2)).heap[k]? = V.heap[k]?:=λk hk hi df=>by
  rw [eH df,sm2 k ((hT2 k).2 ⟨by rw [szp];omega,λhc=>hi (im1 k hk (HL k hk hc))⟩),eH df,sm1 k ((Vp k).2 ⟨hk,hi⟩)]
 have ans:Sat r2 (dom hp2) hp2 (V2.putObj l (.loop L2)):=λk b hk=>by
  have h:=N8.sat k b hk;exact ⟨(eH (λe=>N8.not_loop zv ⟨k,gD,e⟩)).trans h.1,h.2⟩
 have gok:∀ {r:cI} {h:Hp} {W:World},Sat r (dom h) h W->(∀ k,k<100->h k=C.G k)->(∀ k,k<100->dom h k->r k=k)->GOK C.G W:=λ{r h W} h1 h2 h3 k b hk=>by
  obtain ⟨cA,BR⟩:=cK k b hk;have hb:h k=some b:=(h2 k cA).trans hk;have h9:=(h1 k b hb).1;rw [h3 k cA fF] at h9;rw [h9];exact xc
 have alb:=gok ans g2 N8.low;have aqp:=gok dj.sat gc dj.low;refine ⟨HU,zv,⟨dj.ri.mono (λk hk=>(RY k hk).1) (λk hk=>(RY k hk).2),ans,N8.inj,?_,λi hd h1 hS=>?_,λD hD=>?_,λi hi=>?_,g2,N8.low⟩,λi hd=>?_,size,frame,alb⟩
 ·refine C.E.ok _ _ _ _ dj.X (λk hk=>?_) (os2.trans os1) (tp2.trans tp1) (ou2.trans ou1) (by rw [gS];exact size);by_cases hi:imO rc fP k
  ·obtain ⟨i,hd,rfl⟩:=hi;by_cases h1:100<=i
   ·exact absurd hk (dj.sep i hd h1)
   ·have e:=dj.low i zO hd;rw [e];have hg:C.G i≠none:=by rw [<-gc i zO];exact hd
    cases hb:C.G i with
    | none=>exact absurd hb hg
    | some b=>rw [alb i b hb,aqp i b hb]
  ·by_cases hkl:k=l
   ·exact absurd (hkl▸hk) PK
   ·exact frame k (Gv k (Lk k hk)) hi hkl
 ·have cA:=Gv _ (Lk _ hS);have:=old i hd cA;exact dj.sep i this.1 h1 (this.2▸hS)
 ·have hD':=dj.mks D hD;rw [frame D (Gv D (L8 D hD)) (λ⟨i,hd,e⟩=>?_) (λe=>by rw [e,hl] at hD';cases hD')]
  ·exact hD'
  ·unfold dom at hd
   cases hb:fP i with
   | none=>exact hd hb
   | some b=>have:=(dj.sat i b hb).1;rw [e,hD'] at this;exact (Blk.obj_def this).elim
 ·have:=dj.keep i hi;have k2:=RY i this.1;exact ⟨k2.1,k2.2.trans this.2⟩
 ·by_cases cA:r2 i<V.heap.size
  ·have:=old i hd cA;exact .inr (by rw [this.2];exact nC i this.1)
  ·exact .inl zO

theorem UF {W:World} {l:Nat} {ob:Obj} (h:W.heap[l]? = some ob):W.putObj l ob=W:=by
 unfold World.putObj;congr 1;apply iB;intro i;rw [fU];split
 ·rename_i e;subst e;rw [h];obtain ⟨cA,_⟩:=a9.1 h;simp [cA]
 ·rfl

def lu (F:Fence) (m:Nat) (P:Program) (fn:Func) (l:Nat) (R:Ending->World->Prop):Exit->Act->World->Prop
 | .panic chain,a,w=>LeavesInM F m P fn a.tmps (λe w'=>(∃ ch,e=.panicked ch)/\R e w') a.defers (.panicking chain) w
 | e,a,w=>roundPost P l R e a w
theorem nE {F:Fence} {m:Nat} {l:Nat} {f:FuncId} {fn:Func} {tmps:bV} {assign body:Code} {w:World} {R:Ending->World->Prop} (hF:F.fn f) (Gw:P.funcs[f]? = some fn)
  (h:assign.wpIn (F.inRound l) m P (Exit.then (λa₁ w₁=>∃ w₂,(Instr.beginRound l).run P w₁=.ok () w₂/\body.wpIn (F.inRound l) m P (lu F m P fn l R) a₁ w₂) (λ_ _ _=>False))
   { tmps:=tmps,defers:=[] } w) :
  RoundIn F m P l f tmps assign body w R:=by
 refine ⟨hF,λc cs hr=>?_⟩;let b:Frame:={ (default:Frame) with fn:=f,kind:=.normal,roundOf:=some l }
 have A9:Frame.round l f tmps assign body .normal=b.atR { tmps:=tmps,defers:=[] } [.code assign,.beginRound,.code body]:=by
  simp [Frame.round,Frame.atR,b]
 have IZ:(F.inRound l).room ((c::cs).length+1+m):=hr;have hF':(F.inRound l).fn b.fn:=hF;obtain ⟨e,a₁,w₁,hq,gz⟩:=h b [.beginRound,.code body] (c::cs) rfl hF' IZ;rw [<-A9] at gz
 cases e with
 | normal =>
  obtain ⟨w₂,Vq,alu⟩:=hq
  have s1:StepsIn (Machine.fenced P (F.inRound l)) P (lone (b.atR a₁ [.beginRound,.code body]) (c::cs) w₁) (lone (b.atR a₁ [.code body]) (c::cs) w₂) :=
   .one (fenced_calm (fr:=b.atR a₁ [.beginRound,.code body]) hF' IZ rfl) (stepR_beginRound rfl Vq)
  obtain ⟨e₂,a₂,w₃,PV,qT⟩:=alu b [] (c::cs) rfl hF' IZ
  cases e₂ with
  | normal =>
   obtain ⟨v,w₄,cm,hR⟩:=PV;exact ⟨.returned v,w₄,hR,(ef gz s1).trans (ef qT (.one (fenced_calm (fr:=b.atR a₂ []) hF' IZ rfl) (stepR_round_end rfl rfl cm)))⟩
  | ret =>
   obtain ⟨v,w₄,cm,hR⟩:=PV;obtain ⟨k₁,hs⟩:=qT.2 rfl;exact ⟨.returned v,w₄,hR,(ef gz s1).trans (ef hs (.one (fenced_calm (fr:=b.atR a₂ (.code .ret::k₁)) hF' IZ rfl) (stepR_round_ret rfl rfl cm)))⟩
  | exit id =>
   obtain ⟨v,w₄,cm,hR⟩:=PV;obtain ⟨k₁,hk,hs⟩:=qT.2 rfl rfl;exact ⟨.returned v,w₄,hR,(ef gz s1).trans (ef hs (.one (fenced_calm (fr:=b.atR a₂ (.code (.exit id)::k₁)) hF' IZ rfl) (stepR_round_exit rfl rfl hk cm)))⟩
  | goto t =>
   obtain ⟨v,w₄,cm,hR⟩:=PV;obtain ⟨k₁,hk,hs⟩:=qT.2 rfl rfl;exact ⟨.returned v,w₄,hR,(ef gz s1).trans (ef hs (.one (fenced_calm (fr:=b.atR a₂ (.code (.goto t)::k₁)) hF' IZ rfl) (stepR_round_goto rfl rfl hk cm)))⟩
  | panic chain =>
   obtain ⟨todo,hs⟩:=qT;obtain ⟨e',w₄,fr',⟨⟨ch,rfl⟩,hR⟩,BT,aq2,hl⟩:=leaves_stepsInM a₂.defers (.panicking chain) w₃ { b.atR a₂ todo with mode:=.panicking chain } (c::cs) rfl rfl rfl Gw rfl hF hr PV;refine ⟨.panicked ch,w₄,hR,(ef gz s1).trans (ef hs (ef BT (.one (fenced_leaving (n:=m) (aq2▸hF) hr hl) (step_leave_panicked hl))))⟩
  | outgrown=>exact PV.elim
 | exit id=>exact hq.elim
 | goto t=>exact hq.elim
 | ret=>exact hq.elim
 | panic chain=>exact hq.elim
 | outgrown=>exact hq.elim

theorem SX (pn:Option Value) {t:Tmp} {ps:Array Tmp} {assign body:Code} {f:FuncId} {bh:bV} {rs:List Nat} {xs:List (Array Value)} (hg:s.ts t=.func (.func f) #[] bh) (ny:IterX pn P C.G f bh s.hp rs xs)
  (yH:∀ x∈xs,x.size=ps.size/\∀ v∈x,bz v=true) (JY:∀ p∈ps,p<n) (fX:eM) (hp:Nat->Hp) (B:Nat) (N:Nat) (hN:N<=xs.length)
  (hw:Weak C s ⟨fX,hp 0,B,s.yc⟩) (kW:∀ k∈rs,hp 0 k=none/\dom s.hp k) (yA:∀ i,i<=N->∀ t,aN (dom (hp i)) (fX t))
  (rounds:∀ i x,i<N->xs[i]? = some x->∀ (C1:Ctx) (l:Nat),C1.G=C.G->C1.hp0=hp i->C1.Y=none->GW P C1 n [] (some l) assign ⟨bC ps.toList x.toList fX,hp i,B,0⟩
   (dU (λs1=>∀ C2:Ctx,C2.G=C.G->C2.hp0=hp i->C2.Y=none->GW P C2 n [] (some l) body s1 (dU (λs2=>Weak C1 s2 ⟨λ_=>eY,hp (i+1),B,s2.yc⟩) (λ_ _=>False))) (λ_ _=>False)))
  (fin:match pn with
   | none=>(N=xs.length/\K .normal ⟨fX,hp N,B,s.yc⟩)\/∃ x,xs[N]? = some x/\∀ (C1:Ctx) (l:Nat),C1.G=C.G->C1.hp0=hp N->C1.Y=none->GW P C1 n [] (some l) assign ⟨bC ps.toList x.toList fX,hp N,B,0⟩
    (dU (λs1=>∀ C2:Ctx,C2.G=C.G->C2.hp0=hp N->C2.Y=none->GW P C2 n [] (some l) body s1 (λe s2=>(eV e).isSome=true/\(∀ t,aN (dom s2.hp) (fX t))/\K e ⟨fX,s2.hp,s2.B,s.yc⟩)) (λ_ _=>False))
   | some pv=>(∀ c,c<=N->K (.panic [{ v:=pv,recovered:=false }]) ⟨fX,hp c,B,s.yc⟩)/\∃ x,xs[N]? = some x/\∀ (C1:Ctx) (l:Nat),C1.G=C.G->C1.hp0=hp N->C1.Y=none->GW P C1 n [] (some l) assign ⟨bC ps.toList x.toList fX,hp N,B,0⟩
    (dU (λs1=>∀ C2:Ctx,C2.G=C.G->C2.hp0=hp N->C2.Y=none->GW P C2 n [] (some l) body s1 (λe s2=>e=.panic [{ v:=pv,recovered:=false }]/\(∀ t,aN (dom s2.hp) (fX t))/\K e ⟨fX,s2.hp,s2.B,s.yc⟩)) (λ_ _=>False))) (hYn:C.Y≠some .still:=by first|assumption|(intro h;simp_all [YG.still])) :
  GW P C n d none (.rangeFunc (.tmp t) ps assign body) s K:=by
 intro r a W jM;have hi:=jM.weak hw;obtain ⟨So,ms,hX0,MQ,sx,⟨pZ,BS⟩,sv⟩:=jM.ri.ext
 have JU:a.eval (.tmp t)=.func (.func f) #[] (bh.map (aA r)):=by
  exact w9
 have dS:bh.map (aA r)=bh.map (ren r):=bK λx hx=>(hU (ny.cids x hx).1).symm;rw [dS] at JU;refine wpIn_rangeFunc ?_;rintro fn ⟨Xg,MX⟩;obtain ⟨rec,n9⟩:∃ rec:LoopState->Option Code->Loop,rec=λst pe=>{ state:=st,pending:=pe,fn,tmps:=a.tmps,params:=ps,assign,body,defers:=W.heap.size }:=⟨_,rfl⟩
 obtain ⟨W1,hW1⟩:∃ W1,(W.alloc (.deferred (some []))).alloc (.loop (rec .ready none))=W1:=⟨_,rfl⟩
 have hL1:W1.heap[W.heap.size+1]? = some (.loop (rec .ready none)):=by
  exact wZ
 have hK1:W1.heap[W.heap.size]? = some (.deferred (some [])):=by
  exact w8
 have amb:W1.heap.size=W.heap.size+2:=by rw [<-hW1];simp
 have ju:Below W.heap.size W W1:=by
  exact wV
 let l:=W.heap.size+1;let D0:=W.heap.size;let AT:Nat->Prop:=λj=>∃ i,i∈rs/\100<=i/\r i=j
 -- Vc is said aaP two rounds
 let Lv:LoopState->Option Code->World->Prop:=λst pe V=>V.heap[l]? = some (.loop (rec st pe))/\V.heap[D0]? = some (.deferred (some []))
 let XX:Nat->(Nat->Prop)->World->Prop:=λc S V=>(∀ k,So k->S k)/\(∀ D∈ms,S D)/\S l/\S D0 /\
  ((c<=N/\(∀ x,B<=x->hp c x=none)/\∃ rc,(∀ i,dom (hp c) i->S (rc i))/\tf S V (λV'=>Own0 C d So ms s.yc a rc fX (hp c) V'/\Lv .ready none V')) \/
  (c=N+1/\∃ e mO BE rc,((pn=none/\(eV e).isSome=true)\/∃ pv,pn=some pv/\e=.panic [{ v:=pv,recovered:=false }])/\K e ⟨fX,mO,BE,s.yc⟩/\(∀ x,BE<=x->mO x=none)/\100<=BE/\(∀ i,dom mO i->S (rc i))/\tf S V (λV'=>Own0 C d So ms s.yc a rc fX mO V'/\V'.heap[D0]? = some (.deferred (some []))/\∀ j,eV e=some j->Lv .done (some j) V')))
 let E:Ext:=⟨XX,λc S V V' h hs os tape output size=>⟨h.1,h.2.1,h.2.2.1,h.2.2.2.1,h.2.2.2.2.imp (λ⟨hc,hf,rc,h1,h2⟩=>⟨hc,hf,rc,h1,h2.trans (λ_ h=>h) hs os tape output size⟩)
  (λ⟨hc,e,mO,BE,rc,h1,h2,h3,h4,h5,h6⟩=>⟨hc,e,mO,BE,rc,h1,h2,h3,h4,h5,h6.trans (λ_ h=>h) hs os tape output size⟩)⟩⟩
 have sub:∀ i,dom (hp 0) i->dom s.hp i:=λi hd=>by
  have yY:hp 0 i=none\/hp 0 i=s.hp i:=by
   exact xK
  rcases yY with e|e
  ·exact absurd e hd
  ·have e:hp 0 i=s.hp i:=e;unfold dom at *;rw [<-e];exact hd
 have zg:Own0 C d So ms s.yc a r fX (hp 0) W1:=⟨hi.ri.rel,λk b hk=>⟨(ju.block _ (hi.ri.lt (k:=k) (by unfold dom;show hp 0 k≠none;rw [hk];simp))).trans (hi.ri.sat k b hk).1,(hi.ri.sat k b hk).2⟩,hi.ri.inj,
  C.E.ok _ _ _ _ hX0 (λk hk=>ju.block k (MQ k hk)) ju.os ju.tape ju.output ju.size,λi hd h1=>sx i (sub i hd) h1,
  λD hD=>(ju.block D (a9.1 (sv D hD).1).1).trans (sv D hD).1,hi.ri.keep,hi.ri.glob,hi.ri.low⟩
 have Nc:∀ i,dom s.hp i->AT (r i)->i∈rs:=λi hd ⟨j,hj,_,e⟩=>by
  have:=jM.ri.inj j i (kW j hj).2 hd e;exact this▸hj
 let S1:Nat->Prop:=λk=>k<W1.heap.size/\¬AT k;have zA:∀ k,AT k->k<W.heap.size:=λk ⟨i,jU,_,e⟩=>e▸jM.ri.lt (kW i jU).2;have Oe:∀ k,So k->S1 k:=λk hk=>⟨rh,λ⟨i,jU,h1,e⟩=>sx i (kW i jU).2 h1 (e▸hk)⟩
 have Og:∀ D∈ms,S1 D:=λD hD=>⟨vY,λ⟨i,jU,_,e⟩=>jM.ri.ne_mark (kW i jU).2 (sv D hD).1 e⟩
 have s1l:S1 l:=⟨zO,λhc=>lP⟩
 have s1D:S1 D0:=⟨zO,λhc=>lP⟩
 have Of:∀ i,dom (hp 0) i->S1 (r i):=λi hd=>⟨vJ,λhc=>hd (kW i (Nc i (sub i hd) hc)).1⟩
 have X0:XX 0 S1 W1:=⟨Oe,Og,s1l,s1D,.inl ⟨fC _,hw.free,r,Of,λV k1 k2 k3 k4 k5=>⟨zg.supp Oe Of Og V k1 k2 k3 k4 k5,(k1 l s1l).trans hL1,(k1 D0 s1D).trans hK1⟩⟩⟩
 have MN:∀ {rc:cI} {fP:Hp} {V:World},Sat rc (dom fP) fP V->(∀ k,k<100->fP k=C.G k)->(∀ k,k<100->dom fP k->rc k=k)->GOK C.G V:=λ{rc fP V} h1 h2 h3 k b hk=>by
  exact wY
 -- one round
 have nD:pE P C.G E ⟨l,xs,N,pn,none⟩:=by
  refine pE.of_none rfl ?_;intro c x S V fM hx hc hXc Gv;obtain ⟨Lk,L8,kl,kD,mF⟩:=hXc;have hcN:c<=N:=hc
  obtain ⟨yz,PN,rc,nC,lj⟩:c<=N/\(∀ x,B<=x->hp c x=none)/\∃ rc,(∀ i,dom (hp c) i->S (rc i))/\tf S V (λV'=>Own0 C d So ms s.yc a rc fX (hp c) V'/\Lv .ready none V'):=by
   exact xA
  obtain ⟨dj,hl,hD⟩:=lj.here;have hxm:=yH x (qg hx);have hy:=run_yield (P:=P) (args:=x) hl (by rw [n9];exact hxm.1);rw [n9] at hy;refine ⟨fn,_,assign,body,hy,nE ⟨Xg,MX⟩ MX ?_⟩;have XF:=Iy (r:=rc) (D:=dom (hp c)) (ps.toList.zip x.toList) fX a.tmps (λp hp1=>⟨wL,hxm.2 _ (by simpa using (qp hp1).2)⟩) dj.ri
  have htm:(ps.zip x).foldl (λt (p:Tmp×Value)=>t.setIfInBounds p.1 p.2) a.tmps=(ps.toList.zip x.toList).foldl (λt (p:Tmp×Value)=>t.setIfInBounds p.1 p.2) a.tmps:=by
   rw [<-nM,uP]
  have XH:((ps.zip x).foldl (λt (p:Tmp×Value)=>t.setIfInBounds p.1 p.2) a.tmps).size=n:=by
   rw [htm,mE,jM.ri.size]
  let im:Nat->Prop:=imO rc (hp c)
  let RR:Ending->World->Prop:=λe W'=>(match (YG.mk l xs N pn none).pan c with|none=>e=.returned (.bool (c != N))|some pv=>e=.panicked [{ v:=pv,recovered:=false }])/\GOK C.G W'/\V.heap.size<=W'.heap.size/\(∀ k,k<V.heap.size->¬S k->W'.heap[k]? = V.heap[k]?) /\
      ∃ S',XX (c+1) S' W'/\(∀ k,S' k->k<W'.heap.size)/\∀ k,S' k->k<V.heap.size->S k
  -- VH assignment to VH ahq U9
  let C1:Ctx:=⟨iI V im,hp c,rc,C.G,none⟩
  have ltV:∀ i,dom (hp c) i->rc i<V.heap.size:=λi hd=>Gv _ (nC i hd)
  have gi1:GI P C1 n [] rc ⟨bC ps.toList x.toList fX,hp c,B,0⟩ { tmps:=(ps.zip x).foldl (λt (p:Tmp×Value)=>t.setIfInBounds p.1 p.2) a.tmps,defers:=[] } V:=by
   exact xx
  have PK:¬So l:=λh=>by have:=MQ _ h;omega
  -- a SC frame,from its assignment on
  have both:∀ (Kb:kV),GW P C1 n [] (some l) assign ⟨bC ps.toList x.toList fX,hp c,B,0⟩ (dU (λs1=>∀ C2:Ctx,C2.G=C.G->C2.hp0=hp c->C2.Y=none->GW P C2 n [] (some l) body s1 Kb) (λ_ _=>False)) ->
    (∀ e s2 (r2:cI) (V1 V2:World) (a1 a2:Act) (r1:cI) (ts1:eM) (hp1:Hp) (y1:Nat) (D1:gA),(∀ k,k<V.heap.size->D1 k->imO r1 hp1 k)->¬D1 l->Kb e s2->RI ⟨iI V im,hp c,rc,C.G,none⟩ n [] r1 ts1 hp1 y1 a1 V1 ->
     GI P ⟨iI (V1.putObj l (.loop (rec .busy none))) D1,hp c,rc,C.G,none⟩ n [] r2 s2 a2 V2->lu (Fs P) 0 P Xg l RR e a2 V2) ->
    assign.wpIn ((Fs P).inRound l) 0 P (Exit.then (λa₁ w₁=>∃ w₂,(Instr.beginRound l).run P w₁=.ok () w₂/\body.wpIn ((Fs P).inRound l) 0 P (lu (Fs P) 0 P Xg l RR) a₁ w₂) (λ_ _ _=>False))
     { tmps:=(ps.zip x).foldl (λt (p:Tmp×Value)=>t.setIfInBounds p.1 p.2) a.tmps,defers:=[] } V:=λKb hgw cm=>by
   refine wpIn_mono (hgw rc _ V gi1) ?_;rintro e a1 V1 ⟨s1,r1,nz,gi⟩
   cases e with
   | normal =>
    obtain ⟨T1,m1,⟨Vp,os1,tp1,ou1,sz1,sm1⟩,ago,UU,df1,ZZ⟩:=gi.ri.ext
    have HU:V1.heap[l]? = some (.loop (rec .ready none)):=by
     rw [sm1 l ((Vp l).2 ⟨Gv l kl,?_⟩)]
     ·exact hl
     ·rintro ⟨i,hd,e⟩;unfold dom at hd
      cases hb:hp c i with
      | none=>exact hd hb
      | some b=>have:=(dj.sat i b hb).1;rw [e,hl] at this;exact (Blk.obj_loop this).elim
    refine ⟨_,run_beginRound HU me,?_⟩;have hrb:{ rec .ready none with state:=.busy }=rec .busy none:=me;rw [hrb];have PS:l<V1.heap.size:=(a9.1 HU).1;let D1:Nat->Prop:=λk=>imO r1 s1.hp k\/k∈m1;let C2:Ctx:=⟨iI (V1.putObj l (.loop (rec .busy none))) D1,hp c,rc,C.G,none⟩
    have ug:GI P C2 n [] r1 s1 a1 (V1.putObj l (.loop (rec .busy none))):=by
     exact xG
    refine wpIn_mono (nz C2 rfl rfl rfl r1 a1 _ ug) ?_;exact F6
   | _=>exact nz.elim
  -- Vc a round leaves,put Zz
  have post:∀ (st:LoopState) (pe:Option Code) (r2:cI) (V1 V2:World) (a1 a2:Act) (r1:cI) (ts1 ts2:eM) (hp1 hp2:Hp) (y1 y2:Nat) (D1:gA),(∀ k,k<V.heap.size->D1 k->imO r1 hp1 k)->¬D1 l->RI ⟨iI V im,hp c,rc,C.G,none⟩ n [] r1 ts1 hp1 y1 a1 V1 ->
    RI ⟨iI (V1.putObj l (.loop (rec .busy none))) D1,hp c,rc,C.G,none⟩ n [] r2 ts2 hp2 y2 a2 V2 ->
    V2.heap[l]? = some (.loop (rec .busy none))/\GOK C.G (V2.putObj l (.loop (rec st pe)))/\V.heap.size<=(V2.putObj l (.loop (rec st pe))).heap.size/\(∀ k,k<V.heap.size->¬S k->(V2.putObj l (.loop (rec st pe))).heap[k]? = V.heap[k]?) /\
    ∃ S':Nat->Prop,(∀ k,So k->S' k)/\(∀ D∈ms,S' D)/\S' l/\S' D0/\(∀ i,dom hp2 i->S' (r2 i))/\tf S' (V2.putObj l (.loop (rec st pe))) (λV'=>Own0 C d So ms s.yc a r2 fX hp2 V'/\Lv st pe V') /\
     (∀ k,S' k->k<(V2.putObj l (.loop (rec st pe))).heap.size)/\∀ k,S' k->k<V.heap.size->S k:=λst pe r2 V1 V2 a1 a2 r1 ts1 ts2 hp1 hp2 y1 y2 D1 HL sr AH N8=>by
   obtain ⟨_,q1,q2,q3,q4,q5,q6⟩:=Bo (L2:=rec st pe) jM.flat dj PK Gv Lk L8 nC hl AH HL sr N8;have sz:(V2.putObj l (.loop (rec st pe))).heap.size=V2.heap.size:=gS _ _ _;have Xz:∀ k,¬S k->¬imO rc (hp c) k:=λk hk ⟨i,hd,e⟩=>hk (e▸nC i hd);refine ⟨q1,q6,by rw [sz];exact q4,λk hk IY=>q5 k hk (Xz k IY) (λe=>IY (e▸kl)),λk=>S k\/(V.heap.size<=k/\k<V2.heap.size),λk hk=>.inl (Lk k hk),λD hD=>.inl (L8 D hD),.inl kl,.inl kD,λi hd=>?_,?_,λk hk=>?_,λk hk cA=>?_⟩
   ·exact sg
   ·have hD0:(V2.putObj l (.loop (rec st pe))).heap[D0]? = some (.deferred (some [])):=by
     rw [q5 D0 (Gv D0 kD) (λ⟨i,tV,e⟩=>by
      unfold dom at tV
      cases hb:hp c i with
      | none=>exact tV hb
      | some b=>have:=(dj.sat i b hb).1;rw [e,hD] at this;exact (Blk.obj_def this).elim) zO]
     exact hD
    have agO:l<V2.heap.size:=(a9.1 q1).1;refine λV' k1 k2 k3 k4 k5=>⟨q2.supp (S:=λk=>S k\/(V.heap.size<=k/\k<V2.heap.size)) (λk hk=>.inl (Lk k hk)) (λi hd=>?_) (λD hD=>.inl (L8 D hD)) V' k1 k2 k3 k4 k5,(k1 l (.inl kl)).trans (jq agO),(k1 D0 (.inl kD)).trans hD0⟩
    exact sg
   ·exact xd
   ·exact hk.resolve_right zO
  by_cases hcn:c<N
  ·refine both _ (rounds c x hcn hx C1 l rfl rfl rfl) ?_;intro e s2 r2 V1 V2 a1 a2 r1 ts1 hp1 y1 D1 HL sr hk AH ug
   cases e with
   | normal =>
    have gi3:=ug.weak (Weak.ctx (C:=C1) rfl rfl hk);obtain ⟨p1,p2,p3,p4,S',p5,p6,p7,p8,p9,kX,ll,m8⟩:=post .ready none r2 V1 V2 a1 a2 r1 ts1 _ hp1 _ y1 _ D1 HL sr AH gi3.ri;have cm:=run_endRound (P:=P) none p1;rw [n9] at cm p2 p3 p4 kX ll;refine ⟨_,_,cm,?_,p2,p3,p4,S',⟨p5,p6,p7,p8,.inl ⟨hcn,gi3.free,r2,p9,?_⟩⟩,ll,m8⟩
    ·exact DR
    ·simpa [n9] using kX
   | _=>exact hk.elim
  ·obtain rfl:c=N:=zO
   have RP:(YG.mk l xs c pn none).pan c=pn:=by
    show (if c=c then pn else none)=pn;rw [ai rfl]
   cases pn with
   | none =>
    rcases fin with ⟨e,_⟩|⟨x',tn,PM⟩
    ·obtain ⟨h9,_⟩:=lD.1 hx;have h9:c<xs.length:=h9;omega
    ·have hx:xs[c]? = some x:=hx;rw [hx] at tn;cases tn;refine both _ (PM C1 l rfl rfl rfl) ?_;intro e s2 r2 V1 V2 a1 a2 r1 ts1 hp1 y1 D1 HL sr hk AH ug;obtain ⟨nz,mN,yZ⟩:=hk
     cases ho:eV e with
     | none=>rw [ho] at nz;cases nz
     | some j =>
      obtain ⟨p1,p2,p3,p4,S',p5,p6,p7,p8,p9,kX,ll,m8⟩:=post .done (some j) r2 V1 V2 a1 a2 r1 ts1 _ hp1 _ y1 _ D1 HL sr AH ug.ri;have cm:=run_endRound (P:=P) (some j) p1;rw [n9] at cm p2 p3 p4 kX ll
      have hR:∃ v w',(Instr.endRound l (some j)).run P V2=.ok v w'/\RR (.returned v) w':=by
       refine ⟨_,_,cm,?_,p2,p3,p4,S',⟨p5,p6,p7,p8,.inr ⟨rfl,e,s2.hp,s2.B,r2,.inl ⟨rfl,nz⟩,yZ,ug.free,ug.low,p9,?_⟩⟩,ll,m8⟩
       ·rw [RP];simp
       ·exact xb
      exact xO
   | some pv =>
    obtain ⟨_,x',tn,PM⟩:=fin;have hx:xs[c]? = some x:=hx;rw [hx] at tn;cases tn;refine both _ (PM C1 l rfl rfl rfl) ?_;intro e s2 r2 V1 V2 a1 a2 r1 ts1 hp1 y1 D1 HL sr hk AH ug;obtain ⟨rfl,mN,yZ⟩:=hk;obtain ⟨p1,p2,p3,p4,S',p5,p6,p7,p8,p9,kX,ll,m8⟩:=post .busy none r2 V1 V2 a1 a2 r1 ts1 _ hp1 _ y1 _ D1 HL sr AH ug.ri;have iZ:V2.putObj l (.loop (rec .busy none))=V2:=UF p1;rw [iZ] at p2 p3 p4 kX ll;obtain ⟨T2,m2,⟨hT2,os2,tp2,ou2,sz2,sm2⟩,aqG,anv,⟨df2,nd2⟩,dm2⟩:=ug.ri.ext
    have lt1:V.heap.size<=(V1.putObj l (.loop (rec .busy none))).heap.size:=by
     rw [gS];obtain ⟨_,_,⟨_,_,_,_,z1,_⟩,_⟩:=AH.ext;exact z1
    -- a H9 of VH SC own lies behind Vc was there
    have Nq:∀ D∈m2,V.heap.size<=D:=λD hD=>by
     have h1:=(dm2 D hD).1;have h2:=(dm2 D hD).2.1;refine aO λcA=>?_;have cA:D<V.heap.size:=zO;rw [hT2] at h2;have aqw:D1 D:=aO λhc=>h2 ⟨zO,hc⟩;obtain ⟨i,hd,e⟩:=HL D cA aqw;by_cases hz:100<=i
     ·obtain ⟨T1,m1,⟨Vp,_⟩,_,UU,_⟩:=AH.ext;have h3:=UU i hd hz;rw [Vp,e] at h3;obtain ⟨q,hq,e2⟩:=aO λhc=>h3 ⟨cA,hc⟩;have hk5:dom s2.hp q/\r2 q=rc q:=ug.ri.keep q hq;exact ug.ri.ne_mark hk5.1 h1 (hk5.2.trans e2)
     ·have e3:hp1 i=C.G i:=AH.glob i zO;have e4:s2.hp i=C.G i:=ug.ri.glob i zO;have yb:dom s2.hp i:=by unfold dom at *;rw [e4,<-e3];exact hd
      exact ug.ri.ne_mark yb h1 (by rw [ug.ri.low i zO yb,<-e,AH.low i zO hd])
    show LeavesInM _ _ _ _ _ _ a2.defers _ _;rw [df2,dY];refine yh zS m2 V2 nd2 (λD hD=>(dm2 D hD).1) λgF e1 e2 e3 e4 e5=>?_;refine ⟨⟨_,rfl⟩,?_⟩
    have ass:GOK C.G gF:=λk b hk=>by
     rw [e5 k (λhm=>by have:=(dm2 k hm).1;rw [p2 k b hk] at this;exact (Blk.obj0_def this.symm).elim)];exact p2 k b hk
    refine ⟨?_,ass,by rw [e1];exact p3,λk hk IY=>?_,λk=>S' k/\k∉m2,⟨λk hk=>⟨p5 k hk,λhm=>?_⟩,λD hD=>⟨p6 D hD,λhm=>?_⟩,⟨p7,λhm=>?_⟩,⟨p8,λhm=>?_⟩,.inr ⟨rfl,_,s2.hp,s2.B,r2,.inr ⟨pv,rfl,rfl⟩,yZ,ug.free,ug.low,λi hd=>⟨p9 i hd,λhm=>?_⟩,?_⟩⟩,λk hk=>?_,λk hk cA=>m8 k hk.1 cA⟩
    ·rw [RP]
    ·rw [e5 k (λhm=>by have:=Nq k hm;omega)];exact p4 k hk IY
    ·have:=Nq k hm;have:=Gv k (Lk k hk);omega
    ·have:=Nq D hm;have:=Gv D (L8 D hD);omega
    ·have:=(dm2 l hm).1;rw [p1] at this;cases this
    ·have:=Nq D0 hm;have:=Gv D0 kD;omega
    ·exact ug.ri.ne_mark hd (dm2 _ hm).1 rfl
    ·intro V' k1 k2 k3 k4 k5;have hh:=λk (hk:S' k/\k∉m2)=>(k1 k hk).trans (e5 k hk.2)
     have agZ:tf (λk=>S' k/\k∉m2) gF (λV'=>Own0 C d So ms s.yc a r2 fX s2.hp V'/\V'.heap[D0]? = some (.deferred (some []))):=by
      obtain ⟨own2,_,hD2⟩:=kX.here;have own3:Own0 C d So ms s.yc a r2 fX s2.hp gF:=own2.supp (S:=λk=>S' k/\k∉m2) (λk hk=>⟨p5 k hk,λhm=>Cp⟩) (λi hd=>⟨p9 i hd,λhm=>ug.ri.ne_mark hd (dm2 _ hm).1 rfl⟩) (λD hD=>⟨p6 D hD,λhm=>Ck⟩) gF (λk hk=>e5 k hk.2) e2 e3 e4 rW;have hD3:gF.heap[D0]? = some (.deferred (some [])):=(e5 D0 (λhm=>by have:=Nq D0 hm;have:=Gv D0 kD;omega)).trans hD2;exact λV' k1 k2 k3 k4 k5=>⟨own3.supp (S:=λk=>S' k/\k∉m2) (λk hk=>⟨p5 k hk,λhm=>Cp⟩) (λi hd=>⟨p9 i hd,λhm=>ug.ri.ne_mark hd (dm2 _ hm).1 rfl⟩) (λD hD=>⟨p6 D hD,λhm=>Ck⟩) V' k1 k2 k3 k4 k5,(k1 D0 ⟨p8,λhm=>by have:=Nq D0 hm;have:=Gv D0 kD;omega⟩).trans hD3⟩
     obtain ⟨q1,q2⟩:=agZ V' k1 k2 k3 k4 k5;exact ⟨q1,q2,λj hj=>by simp [eV] at hj⟩
    ·rw [e1];exact ll k hk.1
 -- behind VH iterator
 refine ⟨l,[H9 D0],W1,{ target:=.fn (.func f) (bh.map (ren r)),args:=#[.func (.yield l) #[] #[]] },W1,f,#[Value.func (.yield l) #[] #[]]++bh.map (ren r),W1,?_,?_,λf' Vr=>?_,?_,λh=>ew,?_⟩
 ·exact wS
 ·exact xk
 ·exact xj
 ·simp [invoke,go_sem,ny.enter]
 ·have MZ:Sat r (dom (rst s.hp rs)) (rst s.hp rs) W1:=λk b hk=>⟨(ju.block _ (jM.ri.lt (k:=k) (by unfold dom;rw [iO hk];simp))).trans (jM.ri.sat k b (iO hk)).1,ny.closed k b hk⟩
  have tW:∀ k,dom (rst s.hp rs) k->dom s.hp k:=λk hk=>by
   exact Fb
  have hlen:pn≠none->N<xs.length:=λhp1=>by
   cases pn with
   | none=>exact absurd rfl hp1
   | some pv =>
    obtain ⟨_,x',tn,_⟩:=fin;exact (lD.1 tn).1
  have HQ:=ny.run E l N r S1 W1 (MN zg.sat zg.glob zg.low) MZ (λk l' hk hl=>jM.ri.inj k l' (tW k hk) (tW l' hl)) (λk hk hd=>jM.ri.low k hk (tW k hd)) hlen nD X0 (λk hk=>hk.1) (λi hd h1 hS=>hS.2 ?_)
  ·refine nT (HQ:CallsIn (Fw P none) 0 P _ _ _ _) ?_
   -- VH ac2 O5,behind it all
   have giV:∀ (rc:cI) (mO:Hp) (BE:Nat) (V:World),(∀ x,BE<=x->mO x=none)->100<=BE->Own0 C d So ms s.yc a rc fX mO V->V.heap[D0]? = some (.deferred (some []))->W.heap.size<=V.heap.size ->
     GI P C n d rc ⟨fX,mO,BE,s.yc⟩ { a with defers:=[H9 D0]++a.defers } V:=λrc mO BE V dx RC dj hD yg =>
    ⟨⟨jM.ri.size,dj.ri,dj.sat,dj.inj,
     ⟨So,D0::ms,dj.X,λk hk=>j8 (MQ k hk) yg,dj.sep,⟨by simp [pZ],gO.2 ⟨λhm=>by have:=(a9.1 (sv D0 hm).1).1;omega,BS⟩⟩,λD IV=>by
      rcases al.1 IV with rfl|IV
      ·exact ⟨hD,(λhS=>by have:=MQ _ hS;omega),hYn⟩
      ·exact ⟨dj.mks D IV,(sv D IV).2⟩⟩,
     dj.keep,dj.glob,dj.low⟩,dx,RC,jM.flat,jM.rounds⟩
   have asx:∀ {S:gA} {V:World} {c:Nat},XX c S V->(∀ V,XX c S V->S l->True)->V.heap[D0]? = some (.deferred (some []))->W.heap.size<=V.heap.size:=λ{S V c} _ _ h=>by
    have:=(a9.1 h).1;omega
   cases pn with
   | some pv =>
    rintro e V ⟨rfl,c,S',hX⟩;obtain ⟨Lk,L8,kl,kD,mF⟩:=hX;obtain ⟨abC,_⟩:=fin;rcases mF with ⟨yz,dx,rc,nC,lj⟩|⟨yz,e,mO,BE,rc,ho,hk,dx,RC,nC,lj⟩
    ·obtain ⟨dj,hl,hD⟩:=lj.here;exact ⟨_,rc,abC c yz,giV rc _ B V dx hw.low dj hD (by have:=(a9.1 hD).1;omega)⟩
    ·obtain ⟨dj,hD,_⟩:=lj.here;rcases ho with ⟨h1,_⟩|⟨pv',h1,rfl⟩
     ·cases h1
     ·cases h1;exact ⟨_,rc,hk,giV rc _ BE V dx RC dj hD (by have:=(a9.1 hD).1;omega)⟩
   | none =>
   rintro e V ⟨⟨v,rfl⟩,S',hX⟩;obtain ⟨Lk,L8,kl,kD,mF⟩:=hX
   have Py:∀ (st:LoopState) (pe:Option Code) (rc:cI) (mO:Hp) (BE:Nat),st≠.busy->(∀ x,BE<=x->mO x=none)->100<=BE->Own0 C d So ms s.yc a rc fX mO V->Lv st pe V ->
     (Instr.endLoop l).run P V=.ok pe (V.putObj l (.loop { rec st pe with state:=.exhausted }))/\GI P C n d rc ⟨fX,mO,BE,s.yc⟩ { a with defers:=[H9 D0]++a.defers } (V.putObj l (.loop { rec st pe with state:=.exhausted })):=λst pe rc mO BE tc dx RC dj ⟨hl,hD⟩=>by
    exact xJ
   rcases mF with ⟨yz,dx,rc,nC,lj⟩|⟨yz,e,mO,BE,rc,ho,hk,dx,RC,nC,lj⟩
   ·obtain ⟨dj,Z6⟩:=lj.here;have hNl:N=xs.length:=zO;have Xy:min (N+1) xs.length=N:=zO;rw [Xy] at dx dj;obtain ⟨f1,f2⟩:=Py .ready none rc (hp N) B zS dx hw.low dj Z6;rcases fin with ⟨_,hK⟩|⟨x',tn,_⟩
    ·exact ⟨none,_,f1,_,rc,hK,f2⟩
    ·obtain ⟨h9,_⟩:=lD.1 tn;omega
   ·obtain ⟨dj,_,Z6⟩:=lj.here;rcases ho with ⟨_,ho⟩|⟨pv,h1,_⟩
    ·exact EK
    ·cases h1
  ·exact Eu

theorem sH {t:Tmp} {ps:Array Tmp} {assign body:Code} {f:FuncId} {bh:bV} {rs:List Nat} {xs:List (Array Value)} (hg:s.ts t=.func (.func f) #[] bh) (ny:pD P C.G f bh s.hp rs xs)
  (yH:∀ x∈xs,x.size=ps.size/\∀ v∈x,bz v=true) (JY:∀ p∈ps,p<n) (fX:eM) (hp:Nat->Hp) (B:Nat) (N:Nat) (hN:N<=xs.length)
  (hw:Weak C s ⟨fX,hp 0,B,s.yc⟩) (kW:∀ k∈rs,hp 0 k=none/\dom s.hp k) (yA:∀ i,i<=N->∀ t,aN (dom (hp i)) (fX t))
  (rounds:∀ i x,i<N->xs[i]? = some x->∀ (C1:Ctx) (l:Nat),C1.G=C.G->C1.hp0=hp i->C1.Y=none->GW P C1 n [] (some l) assign ⟨bC ps.toList x.toList fX,hp i,B,0⟩
   (dU (λs1=>∀ C2:Ctx,C2.G=C.G->C2.hp0=hp i->C2.Y=none->GW P C2 n [] (some l) body s1 (dU (λs2=>Weak C1 s2 ⟨λ_=>eY,hp (i+1),B,s2.yc⟩) (λ_ _=>False))) (λ_ _=>False)))
  (fin:(N=xs.length/\K .normal ⟨fX,hp N,B,s.yc⟩)\/∃ x,xs[N]? = some x/\∀ (C1:Ctx) (l:Nat),C1.G=C.G->C1.hp0=hp N->C1.Y=none->GW P C1 n [] (some l) assign ⟨bC ps.toList x.toList fX,hp N,B,0⟩
   (dU (λs1=>∀ C2:Ctx,C2.G=C.G->C2.hp0=hp N->C2.Y=none->GW P C2 n [] (some l) body s1 (λe s2=>(eV e).isSome=true/\(∀ t,aN (dom s2.hp) (fX t))/\K e ⟨fX,s2.hp,s2.B,s.yc⟩)) (λ_ _=>False))) (hYn:C.Y≠some .still:=by first|assumption|(intro h;simp_all [YG.still])) :
  GW P C n d none (.rangeFunc (.tmp t) ps assign body) s K :=
 SX none hg ny yH JY fX hp B N hN hw kW yA rounds fin hYn
end
end Go.Gy
