/-
  Lemmas of this claim, in their order (GyE, GyF, GyR).
  Conditions: those of each theorem.
-/
import Derived.Test.YtamodcpmplmaoaaGreatDoorGz00
set_option linter.unusedSimpArgs false
set_option linter.unusedVariables false
namespace Go.Gy
open Go Go.RowKit

def val (v:Value) (rs:List Nat):Eff:=⟨v,rs,[],[],none,false⟩
def zlu (k:Nat):Value:=.pointer (some ⟨k,0,none⟩)

def zbo (G:Hp):Prop:=∀ k b,G k=some b->k<100/\∀ x∈b.c,zbf x=true

inductive Out
 | ret (v:Value)
 | pan (v:Value)
def Out.eff:Out->Eff
 | .ret v=>val v []
 | .pan v=>⟨zcm,[],[],[],some v,false⟩
def Out.holds (W:World):Out->Ending->World->Prop
 | .ret v,e,W'=>e=.returned v/\Below W.heap.size W W'
 | .pan v,e,W'=>e=.panicked [{ v:=v,recovered:=false }]/\Below W.heap.size W W'

def Ret (P:Program) (G:Hp) (f:FuncId) (args:Array Value) (v:Value):Prop :=
 za0 v=true/\(∀ x∈args,za0 x=true)/\(∀ a w,(callFunc f a).run P w=.ok (.enter f a) w) /\
  ∀ W,GOK G W->zd8 P f args W λe W'=>e=.returned v/\Below W.heap.size W W'
def ji6 (P:Program) (f:FuncId) (args:Array Value) (v:Value):Prop:=za0 v=true/\(∀ x∈args,za0 x=true)/\∀ w,(callFunc f args).run P w=.ok (.value v) w
def zuf (P:Program) (G:Hp) (f:FuncId) (args:Array Value) (o:Out):Prop :=
 (∀ v,o=.ret v->za0 v=true)/\(∀ x∈args,za0 x=true)/\(∀ a w,(callFunc f a).run P w=.ok (.enter f a) w)/\∀ W,GOK G W->zd8 P f args W (o.holds W)
def zqm (P:Program) (G:Hp) (f:FuncId) (args:Array Value) (C:Eff->Prop):Prop:=∃ o,zuf P G f args o/\C o.eff
theorem zmu {P:Program} {G:Hp} {f:FuncId} {args:Array Value} {C:Eff->Prop} {o:Out} (h:zuf P G f args o) (hk:C o.eff):zqm P G f args C:=⟨o,h,hk⟩
def za2 (P:Program) (G:Hp) (f:FuncId) (args:Array Value) (K:Value->Prop):Prop:=∃ v,(Ret P G f args v\/ji6 P f args v)/\K v

inductive Res
 | ret (v:Value) (ws:List (Nat×Blk))
 | pan (v:Value)
 | new (v:Value) (ns:List (Nat×Blk))
def Res.eff (rs:List Nat):Res->Eff
 | .ret v ws=>⟨v,rs,ws,[],none,false⟩
 | .pan v=>⟨zcm,rs,[],[],some v,false⟩
 | .new v ns=>⟨v,rs,[],ns,none,false⟩
def Res.holds (r:Nat->Nat) (D:Nat->Prop) (W:World):Res->Ending->World->Prop
 | .new v ns,e,W'=>(∀ k∈zaa ns,¬D k)->∃ r',(∀ k,D k->r' k=r k)/\e=.returned (ren r' v)/\Turn r' (zc7 D ns) W W' [] ns
 | .ret v ws,e,W'=>e=.returned (ren r v)/\Turn r (zc7 D []) W W' ws []
 | .pan v,e,W'=>e=.panicked [{ v:=v,recovered:=false }]/\Below W.heap.size W W'
def Res.fits (hp:Hp) (rs:List Nat):Res->Prop
 | .ret v ws=>zap (dom (rst hp rs)) v/\(∀ k∈zaa ws,k∈rs/\dom hp k/\100<=k)/\(∀ k b c,(k,b)∈ws->(k,c)∈ws->b=c)/\∀ p∈ws,p.2.ids (dom (rst hp rs))
 | .pan _=>True
 | .new v ns=>zap (zc7 (dom (rst hp rs)) ns) v/\(∀ k∈zaa ns,100<=k)/\(∀ k b c,(k,b)∈ns->(k,c)∈ns->b=c)

structure Fun (P:Program) (G:Hp) (f:FuncId) (args:Array Value) (hp:Hp) (rs:List Nat) (res:Res):Prop where
 enter:∀ a w,(callFunc f a).run P w=.ok (.enter f a) w
 ids:∀ x∈args,zap (dom (rst hp rs)) x
 closed:∀ k b,rst hp rs k=some b->b.ids (dom (rst hp rs))
 fits:res.fits hp rs
 run:∀ r W,GOK G W->Sat r (dom (rst hp rs)) (rst hp rs) W->Inj r (dom (rst hp rs))->(∀ k,k<100->dom (rst hp rs) k->r k=k)->zd8 P f (args.map (ren r)) W (res.holds r (dom (rst hp rs)) W)
def Res.at (nk:Nat):Res->Prop
 | .new _ ns=>∀ k∈zaa ns,nk<=k/\k<nk+8
 | _=>True
def zik (P:Program) (G:Hp) (f:FuncId) (args:Array Value) (hp:Hp) (nk:Nat) (K:Eff->Prop):Prop:=∃ hp' rs res,(∀ k∈rs,hp' k=hp k)/\(∀ k,k<100->hp' k=G k)/\Fun P G f args hp' rs res/\res.at nk/\K (res.eff rs)
theorem Fun.under {P:Program} {G:Hp} {f:FuncId} {args:Array Value} {hp hp':Hp} {rs:List Nat} {res:Res} (h:Fun P G f args hp' rs res) (e:∀ k,(k<100\/k∈rs)->hp' k=hp k):Fun P G f args hp rs res:=by
 have er:rst hp' rs=rst hp rs:=zfa e
 refine ⟨h.enter,by rw [<-er];exact h.ids,by rw [<-er];exact h.closed,?_,by rw [<-er];exact h.run⟩
 have hf:=h.fits
 cases res with
 | ret v ws =>
  simp only [Res.fits] at hf |-
  rw [<-er]
  refine ⟨hf.1,λk hk=>?_,hf.2.2⟩
  have:=hf.2.1 k hk
  exact ⟨this.1,by unfold dom at *;rw [<-e k (.inr this.1)];exact this.2.1,this.2.2⟩
 | pan v=>trivial
 | new v ns=>simp only [Res.fits] at hf |-;rw [<-er];exact hf

structure XV where
 Y:Option YG
 pn:List FuncId
 dr:Bool

def zds:Value->Bool
 | .tuple _=>false
 | .complex _ _ _=>false
 | _=>true
def zbr:Value->Bool
 | .tuple _=>false
 | .agg _=>false
 | .func _ _ _=>false
 | .iface _ _=>false
 | _=>true
theorem zcf {r:Nat->Nat} {v:Value} (h:zbr v=true):ren r v=zan r v:=by cases v<;>simp_all [zbr,ren,zay,zak]
theorem zb1 {D:Nat->Prop} {v:Value} (h:zbr v=true):zap D v↔zaj D v:=by cases v<;>simp_all [zbr,zap,zax,zah]

def zd0 (ts:Nat->Value) (parts:Array (Nat×Operand)):List (Nat×Value):=parts.toList.map λp=>(p.1,gev ts p.2)

def zbj (P:Program) (T:TypeId):Option (List (Nat×Nat) ⊕ Nat) :=
 match P.underlying T with
 | some (.array _ e)=>(zaz P e).map .inr
 | some (.struct fs)=>(fs.toList.mapM λf=>(P.info? f.type).map λi=>(f.offset,i.size)).map .inl
 | _=>none
def z4v:List (Nat×Nat) ⊕ Nat->Nat->Option (Nat×Nat)
 | .inl l,i=>l[i]?
 | .inr m,i=>some (i*m,m)
def zfz (pl:List (Nat×Nat) ⊕ Nat) (cells:Array Value):List (Nat×Value)->Option (Array Value)
 | []=>some cells
 | (i,v)::rest =>
  match z4v pl i with
  | none=>none
  | some (off,size)=>if v.cells.size=size/\off+v.cells.size<=cells.size then zfz pl (zcr cells off v.cells.toList) rest else none

def hiG (len cap:Nat):Option Value->Option Nat
 | none=>some len
 | some (.int _ m)=>if 0<=m/\m<=cap then some m.toNat else none
 | _=>none
def loG (h:Nat):Option Value->Option Nat
 | none=>some 0
 | some (.int _ m)=>if 0<=m/\m<=h then some m.toNat else none
 | _=>none
def zec (len cap:Nat) (lo hi:Option Value):Option (Nat×Nat) :=
 match hiG len cap hi with
 | none=>none
 | some h=>(loG h lo).map λl=>(l,h)
def slV (a:Option (Nat×Nat)) (s c:Nat):Option (Nat×Nat)->Option Value
 | some (l,h)=>some (.slice (a.map λp=>⟨p.1,if c=l then p.2 else p.2+l*s,none⟩) (h - l) (c - l))
 | none=>none
def slS (s:ByteArray):Option (Nat×Nat)->Option Value
 | some (l,h)=>some (.string (s.extract l h))
 | none=>none
def slX (P:Program) (T:TypeId) (v:Value) (lo hi:Option Value):Option Value :=
 match P.underlying T with
 | some (.array n e)=>match v with
  | .pointer (some ⟨k,off,none⟩)=>match zaz P e with
   | some s=>slV (some (k,off)) s n (zec n n lo hi)
   | none=>none
  | _=>none
 | some (.slice e)=>match v with
  | .slice (some ⟨k,off,none⟩) n c=>match zaz P e with
   | some s=>slV (some (k,off)) s c (zec n c lo hi)
   | none=>none
  | .slice none n c=>match zaz P e with
   | some s=>slV none s c (zec n c lo hi)
   | none=>none
  | _=>none
 | some .string=>match v with
  | .string s=>slS s (zec s.size s.size lo hi)
  | _=>none
 | _=>none
def jcj (P:Program) (T:TypeId) (v:Value):Option Value :=
 match P.underlying T with
 | some (.array n _)=>match v with
  | .slice a len _=>if n<=len then some (.pointer a) else none
  | _=>none
 | _=>none
def jdd (P:Program) (T:TypeId) (v:Value):Option Value :=
 match P.underlying T with
 | some .string=>match v with
  | .string s=>some (.int .i64 s.size)
  | _=>none
 | some (.array n _)=>some (.int .i64 n)
 | some (.slice _)=>match v with
  | .slice _ n _=>some (.int .i64 n)
  | _=>none
 | _=>none
def zrf (b:Bool) (x y:Value):Option Value :=
 match x,y with
 | .int k a,.int _ c=>some (.int k (if b then (if a<c then c else a) else (if c<a then c else a)))
 | _,_=>none
def jkn:Value->Option Value
 | .int k a=>some (.int k a)
 | _=>none
def zqb (b:Bool) (x:Value):List Value->Option Value
 | []=>jkn x
 | y::l=>match zrf b x y with
  | some z=>zqb b z l
  | none=>none
def zy2 (b:Bool):List Value->Option Value
 | []=>none
 | x::l=>zqb b x l
def zlh (P:Program) (ts:Nat->Value) (c:Call):Option Value :=
 match c.callee with
 | .builtin .len=>match c.args.toList,c.argTypes.toList with
  | [x],[T]=>jdd P T (gev ts x)
  | _,_=>none
 | .builtin .max=>zy2 true (c.args.toList.map (gev ts))
 | .builtin .min=>zy2 false (c.args.toList.map (gev ts))
 | _=>none
def fdX (P:Program) (T:TypeId) (f:Nat):Option (TypeId×Nat) :=
 match P.underlying T with
 | some (.struct fs)=>match fs[f]? with
  | some fd=>match zaz P fd.type with
   | some (_+1)=>some (fd.type,fd.offset)
   | _=>none
  | none=>none
 | _=>none

def zvz (P:Program) (o:Oper) (ts:Nat->Value) (hp:Hp) (K:Value->Prop):Prop :=
 (∀ x∈o.op.operands.toList,okX ts hp x/\za0 (gev ts x)=true)/\∃ v,za0 v=true/\(∀ W,(execOp (gev ts) o).run P W=.ok (.value v) W)/\K v

def okT (ts:Nat->Value):Operand->Prop
 | .tmp t=>nj (ts t)
 | .const v=>za0 v=true
 | .func _=>True
 | _=>False
def zt4 (y:YG) (yc:Nat):Eff :=
 match y.pan yc with
 | none=>match y.sh with
  | none=>⟨.bool (yc != y.stop),[],[],[],none,true⟩
  | some s=>⟨.bool (yc != y.stop),[s.w],[(s.w,s.ob (yc+1))],[],none,true⟩
 | some pv=>⟨zcm,[],[],[],some pv,true⟩
def zqc (w:Nat) (v:Value):Bool:=match v with
 | .agg cs=>cs.all λx=>match x with
  | .pointer (some a)=>a.block==w
  | x=>zbf x
 | .pointer (some a)=>a.block==w
 | v=>za0 v
def YG.arg (y:YG) (v:Value):Bool:=match y.sh with
 | none=>za0 v
 | some s=>zqc s.w v
def YG.act (y:YG) (v:Value):Value:=match y.sh with
 | none=>v
 | some s=>ren (λ_=>s.a) v
def YG.lies (y:YG) (yc:Nat) (hp:Hp):Prop:=match y.sh with
 | none=>True
 | some s=>hp s.w=some (s.ob yc)/\100<=s.w/\y.pn=none
def OpY (Y:Option YG) (o:Oper) (ts:Nat->Value) (yc:Nat) (hp:Hp) (e:Eff):Prop :=
 ∃ y f args T,Y=some y/\o.op=.call ⟨.value f,args,T⟩/\okT ts f/\(∀ x∈args.toList,okT ts x/\y.arg (gev ts x)=true)/\gev ts f=.func (.yield y.l) #[] #[]/\yc<=y.stop/\y.xs[yc]? = some (args.map λx=>y.act (gev ts x)) /\
  e=zt4 y yc/\y.lies yc hp
def zmj (Y:Option YG) (yc l:Nat) (hp:Hp) (args:Array Value) (C:Eff->Prop):Prop :=
 match Y with
 | some y=>l=y.l/\yc<=y.stop/\(∀ v∈args.toList,y.arg v=true)/\y.xs[yc]? = some (args.map y.act)/\y.lies yc hp/\C (zt4 y yc)
 | none=>False

def zie (P:Program) (G:Hp) (V:XV) (nk yc:Nat) (ts:Nat->Value) (hp:Hp) (v:Value) (args:Array Operand) (C:Eff->Prop):Prop :=
 match v with
 | .func (.func g) first cap=>first.size=0/\(∀ x∈args.toList,okX ts hp x) /\
   if cap.size=0/\V.pn.contains g=false/\(args.map (gev ts)).all za0=true then (if V.pn.contains (g+1000000)=true then zqm P G g (args.map (gev ts)) C else za2 P G g (args.map (gev ts)) λv=>C (val v [])) else cap.all zbr=true/\zik P G g (args.map (gev ts)++cap) hp nk C
 | .func (.yield l) first cap=>first.size=0/\cap.size=0/\(∀ x∈args.toList,okT ts x)/\zmj V.Y yc l hp (args.map (gev ts)) C
 | _=>False
def zuq (P:Program) (G:Hp) (V:XV) (nk yc:Nat) (ts:Nat->Value) (hp:Hp) (c:Call) (C:Eff->Prop):Prop :=
 match c.callee with
 | .value f=>okT ts f/\zie P G V nk yc ts hp (gev ts f) c.args C
 | _=>(∀ x∈c.args.toList,okX ts hp x)/\match zlh P ts c with
  | some v=>C (val v [])
  | none=>False

def fnV:Value->Bool
 | .func _ _ _=>true
 | _=>false
def zvf (b:Option Blk) (k:Nat) (s:ByteArray) (v:Value) (C:Eff->Prop):Prop:=match b.bind jao with
 | some l=>zc4 s l=none/\100<=k/\C ⟨undef,[k],[(k,mpB (l++[(s,v)]))],[],none,false⟩
 | none=>False
def z97 (hp:Hp) (m k v:Value) (C:Eff->Prop):Prop:=match m with
 | .map (some q)=>(match k with | .string s=>zvf (hp q) q s v C|_=>False)
 | _=>False
def jdf (b:Option Blk) (k:Nat) (s:ByteArray) (C:Eff->Prop):Prop:=match b.bind jao with
 | some l=>(match zc4 s l with|some v=>fnV v=true/\C (val v [k])|none=>False)
 | none=>False
def lkX (hp:Hp) (m k:Value) (C:Eff->Prop):Prop:=match m with
 | .map (some q)=>(match k with | .string s=>jdf (hp q) q s C|_=>False)
 | _=>False
def ncX (v:Value) (C:Eff->Prop):Prop :=
 match v with
 | .pointer (some ⟨k,o,none⟩)=>C (val (.pointer (some ⟨k,o,none⟩)) [])
 | _=>False
def tyB (P:Program) (T:TypeId):Option Nat:=(P.info? T).map (·.bytes)
def msZ (P:Program) (e m nk:Nat) (z:Option Value) (b:Option Nat) (v w:Value) (C:Eff->Prop):Prop :=
 match z,b,v with
 | some z,some b,.int .i64 l=>w=.int .i64 l/\za4 z=true/\za0 z=true/\(0<l/\l<=4096)/\b<=4096/\0<m/\C ⟨.slice (some ⟨nk,0,none⟩) l.toNat l.toNat,[],[],[(nk,⟨(Array.range (l.toNat*m)).map (z.cells[·%z.cells.size]!),e⟩)],none,false⟩
 | _,_,_=>False
def msM (P:Program) (e nk:Nat) (m:Option Nat) (v w:Value) (C:Eff->Prop):Prop :=
 match m with
 | some m=>msZ P e m nk (zbm P e) (tyB P e) v w C
 | none=>False
def msU (P:Program) (nk:Nat) (u:Option TypeDesc) (v w:Value) (C:Eff->Prop):Prop :=
 match u with
 | some (.slice e)=>msM P e nk (zaz P e) v w C
 | _=>False
def opX (P:Program) (G:Hp) (V:XV) (yc:Nat) (o:Oper) (ts:Nat->Value) (hp:Hp) (nk:Nat) (C:Eff->Prop):Prop :=
 match o.op with
 | .move x=>okX ts hp x/\C (val (gev ts x) [])
 | .assign x=>okX ts hp x/\C (val (gev ts x) [])
 | .pick c x y=>okX ts hp c/\match gev ts c with
  | .bool b=>(b=true->okX ts hp x)/\(b=false->okX ts hp y)/\C (val (if b then gev ts x else gev ts y) [])
  | _=>False
 | .alloc T=>match zbm P T with
  | some z=>za4 z=true/\za0 z=true/\C ⟨zlu nk,[],[],[(nk,⟨z.cells,T⟩)],none,false⟩
  | none=>False
 | .box T x=>okX ts hp x/\za4 (gev ts x)=true/\C ⟨zlu nk,[],[],[(nk,⟨(gev ts x).cells,T⟩)],none,false⟩
 | .load T x=>okX ts hp x/\match gev ts x with
  | .pointer (some ⟨k,off,none⟩)=>match hp k with
   | some b=>match zc6 P T b off with
    | some v=>C (val v [k])
    | none=>False
   | none=>False
  | _=>False
 | .store T x y=>okX ts hp x/\okX ts hp y/\match gev ts x with
  | .pointer (some ⟨k,off,none⟩)=>match hp k with
   | some b=>b.T.own=true/\za4 (gev ts y)=true/\zaz P T=some (gev ts y).cells.size/\off+(gev ts y).cells.size<=b.c.size/\100<=k /\
     C ⟨undef,[k],[(k,⟨zcr b.c off (gev ts y).cells.toList,b.T⟩)],[],none,false⟩
   | none=>False
  | _=>False
 | .extract x i=>okX ts hp x/\match gev ts x with
  | .tuple vs=>match vs[i]? with
   | some v=>zds v=true/\C (val v [])
   | none=>False
  | _=>False
 | .indexAddr T x i=>okX ts hp x/\okX ts hp i/\match gev ts i with
  | .int _ m=>match P.underlying T with
   | some (.array len e)=>match gev ts x with
    | .pointer (some ⟨k,off,none⟩)=>(0<=m/\m<len)/\match zaz P e with
     | some s=>C (val (.pointer (some ⟨k,off+m.toNat*s,none⟩)) [])
     | none=>False
    | _=>False
   | some (.slice e)=>match gev ts x with
    | .slice (some ⟨k,off,none⟩) len _=>(0<=m/\m<len)/\match zaz P e with
     | some s=>C (val (.pointer (some ⟨k,off+m.toNat*s,none⟩)) [])
     | none=>False
    | _=>False
   | _=>False
  | _=>False
 | .index T x i=>okX ts hp x/\okX ts hp i/\match gev ts i with
  | .int _ m=>match P.underlying T with
   | some (.array len e)=>match gev ts x with
    | .agg cs=>(0<=m/\m<len)/\match zaz P e with
     | some s=>match zb5 P e cs (m.toNat*s) with
      | some v=>C (val v [])
      | none=>False
     | none=>False
    | _=>False
   | some .string=>match gev ts x with
    | .string s=>match (if 0<=m then s[m.toNat]? else none) with
     | some b=>C (val (.int .u8 b.toNat) [])
     | none=>False
    | _=>False
   | _=>False
  | _=>False
 | .field T x f=>okX ts hp x/\match fdX P T f with
  | some (t,off)=>match gev ts x with
   | .agg cs=>match zb5 P t cs off with
    | some v=>C (val v [])
    | none=>False
   | _=>False
  | none=>False
 | .fieldAddr T x f=>okX ts hp x/\match fdX P T f with
  | some (_,off)=>match gev ts x with
   | .pointer (some ⟨k,o,none⟩)=>C (val (.pointer (some ⟨k,o+off,none⟩)) [])
   | _=>False
  | none=>False
 | .slice T x lo hi mx=>okX ts hp x/\(∀ y∈lo.toList,okX ts hp y)/\(∀ y∈hi.toList,okX ts hp y)/\mx.isNone=true/\match slX P T (gev ts x) (lo.map (gev ts)) (hi.map (gev ts)) with
  | some v=>C (val v [])
  | none=>False
 | .sliceToArrayPointer T x=>okX ts hp x/\match jcj P T (gev ts x) with
  | some v=>C (val v [])
  | none=>False
 | .makeFunc fn first cap=>(∀ x∈first.toList,okX ts hp x/\zbr (gev ts x)=true)/\(∀ x∈cap.toList,okX ts hp x/\zbr (gev ts x)=true)/\C (val (.func fn (first.map (gev ts)) (cap.map (gev ts))) [])
 | .build T parts=>(∀ p∈parts.toList,okX ts hp p.2/\za4 (gev ts p.2)=true)/\match zbm P T with
  | some z=>za4 z=true/\za0 z=true/\match zbj P T with
   | some pl=>match zfz pl z.cells (zd0 ts parts) with
    | some cs=>C (val (.agg cs) [])
    | none=>False
   | none=>False
  | none=>False
 | .buildSlice T len parts=>(∀ p∈parts.toList,okX ts hp p.2/\za4 (gev ts p.2)=true)/\match P.underlying T with
  | some (.slice e)=>match zaz P e with
   | some m=>match zbm P e with
    | some z=>za4 z=true/\za0 z=true/\0<len*m/\len*m<=16777216/\match zfz (.inr m) ((Array.range (len*m)).map (z.cells[·%z.cells.size]!)) (zd0 ts parts) with
     | some cs=>C ⟨.slice (some ⟨nk,0,none⟩) len len,[],[],[(nk,⟨cs,e⟩)],none,false⟩
     | none=>False
    | none=>False
   | none=>False
  | _=>False
 | .makeInterface T x=>okX ts hp x/\zbr (gev ts x)=true/\match P.underlying T with
  | some (.interface _)=>False
  | some _=>C (val (.iface T (gev ts x)) [])
  | none=>False
 | .binOp op T x y _=>okX ts hp x/\okX ts hp y/\match zoe P op T (gev ts x) (gev ts y) with
  | some v=>C (val v [])
  | none=>zvz P o ts hp λv=>C (val v [])
 | .unOp op _ x=>okX ts hp x/\match un1 op (gev ts x) with
  | some v=>C (val v [])
  | none=>False
 | .convert S T x=>okX ts hp x/\match zmy P S T (gev ts x) with
  | some v=>C (val v [])
  | none=>zvz P o ts hp λv=>C (val v [])
 | .call c=>zuq P G V nk yc ts hp c C
 | .panic x=>okX ts hp x/\za0 (gev ts x)=true/\match gev ts x with
  | .iface T u=>C ⟨zcm,[],[],[],some (.iface T u),false⟩
  | _=>False
 | .makeMap _ y=>y.isNone=true/\C ⟨.map (some nk),[],[],[(nk,mpB [])],none,false⟩
 | .insert T m k x=>okX ts hp m/\okX ts hp k/\okX ts hp x/\zgc P T=true/\fnV (gev ts x)=true/\z97 hp (gev ts m) (gev ts k) (gev ts x) C
 | .lookup T x i ok=>okX ts hp x/\okX ts hp i/\ok=false/\zgc P T=true/\lkX hp (gev ts x) (gev ts i) C
 | .select _ _=>False
 | .nilCheck x=>okX ts hp x/\ncX (gev ts x) C
 | .makeSlice T x y=>okX ts hp x/\okX ts hp y/\msU P nk (P.underlying T) (gev ts x) (gev ts y) C
 | _=>zvz P o ts hp λv=>C (val v [])

structure Shape (hp:Hp) (nk:Nat) (e:Eff):Prop where
 ws:∀ k∈zaa e.ws,k∈e.rs/\dom hp k/\100<=k
 ns:∀ k∈zaa e.ns,nk<=k/\k<nk+8
 once:∀ k b c,(k,b)∈e.ws++e.ns->(k,c)∈e.ws++e.ns->b=c

theorem Shape.val {hp:Hp} {nk:Nat} {v:Value} {rs:List Nat}:Shape hp nk (val v rs):=⟨by simp [Gy.val,zaa],by simp [Gy.val,zaa],by simp [Gy.val]⟩
theorem Shape.new {hp:Hp} {nk:Nat} {v:Value} {b:Blk}:Shape hp nk ⟨v,[],[],[(nk,b)],none,false⟩:=⟨by simp [zaa],by simp [zaa],by simp;rintro k b c h1 h2 h3 h4;rw [h2,h4]⟩
theorem Shape.wr {hp:Hp} {nk k:Nat} {v:Value} {b:Blk} (hk:dom hp k) (h1:100<=k):Shape hp nk ⟨v,[k],[(k,b)],[],none,false⟩:=⟨by simp [zaa];exact ⟨hk,h1⟩,by simp [zaa],by simp;rintro k b c h1 h2 h3 h4;rw [h2,h4]⟩

section
variable {P:Program} {o:Oper} {ts:Nat->Value} {hp:Hp} {nk:Nat} {G:Hp} {V:XV} {yc:Nat}

theorem zjm {D:Nat->Prop}:zc7 D []=D:=funext λk=>by simp [zc7,zaa]

theorem evR {r:Nat->Nat} {D:Nat->Prop} {a:Act} {rs:List Nat} {x:Operand} (h:zqi o r D ts a) (hx:x∈o.op.operands) (hk:okX ts hp x) (hlow:∀ k,k<100->D k->r k=k)
  (hD:∀ k,dom (rst hp rs) k->D k):a.eval x=ren r (gev ts x)/\zap D (gev ts x) :=
 ev h hx hk hlow λk hk' hd=>hD k (by unfold dom rst at *;simp [hk',hd])

theorem zcc {v:Value} {rs:List Nat} (h:∀ r D a W,zqi o r D ts a->Sat r D (rst hp rs) W->(∀ k,k<100->D k->r k=k)->(∀ k,dom (rst hp rs) k->D k) ->
  (execOp a.eval o).run P W=.ok (.value (ren r v)) W/\zap D v):OpD P o ts (rst hp (val v rs).rs) (val v rs):=by
 intro r D a W hR hS _ hlow hD _
 obtain ⟨h1,h2⟩:=h r D a W hR hS hlow hD
 unfold znz
 rw [h1]
 exact ⟨rfl,r,λ_ _=>rfl,rfl,by simp only [val,zjm];exact h2,Turn.of_below (Below.refl _ _)⟩

theorem zse {x:Operand} (ho:o.op=.move x\/o.op=.assign x) (hx:okX ts hp x):OpD P o ts (rst hp (val (gev ts x) []).rs) (val (gev ts x) []) :=
 zcc λr D a W hR _ hlow hD=>by
  have:=evR hR (x:=x) (by rcases ho with h|h<;>simp [h,Op.operands]) hx hlow hD
  refine ⟨?_,this.2⟩
  rcases ho with h|h<;>simp [execOp,h,this.1]

theorem z11 {c x y:Operand} {b:Bool} (ho:o.op=.pick c x y) (hc:okX ts hp c) (hb:gev ts c=.bool b) (hx:b=true->okX ts hp x) (hy:b=false->okX ts hp y) :
  OpD P o ts (rst hp (val (if b then gev ts x else gev ts y) []).rs) (val (if b then gev ts x else gev ts y) []) :=
 zcc λr D a W hR _ hlow hD=>by
  have h1:=evR hR (x:=c) (by simp [ho,Op.operands]) hc hlow hD
  rw [hb] at h1
  have h1':a.eval c=.bool b:=h1.1
  cases b with
  | true =>
   have:=evR hR (x:=x) (by simp [ho,Op.operands]) (hx rfl) hlow hD
   exact ⟨by simp [execOp,ho,h1',asBool,this.1],this.2⟩
  | false =>
   have:=evR hR (x:=y) (by simp [ho,Op.operands]) (hy rfl) hlow hD
   exact ⟨by simp [execOp,ho,h1',asBool,this.1],this.2⟩

theorem zjl {b:Blk} {v:Value} (hids:zap (λk=>k=nk) v) (h:∀ r D a W,zqi o r D ts a->Sat r D (rst hp []) W->(∀ k,k<100->D k->r k=k)->(∀ k,dom (rst hp []) k->D k) ->
  (execOp a.eval o).run P W=.ok (.value (ren (λ_=>W.heap.size) v)) (W.alloc (b.obj r))/\b.ids D) :
  OpD P o ts (rst hp (Eff.mk v [] [] [(nk,b)] none false).rs) ⟨v,[],[],[(nk,b)],none,false⟩:=by
 intro r D a W hR hS _ hlow hD hns
 obtain ⟨h1,h2⟩:=h r D a W hR hS hlow hD
 have hnk:¬D nk:=(hns (nk,b) (by simp)).1
 have hr:∀ k,D k->upd r nk W.heap.size k=r k:=λk hk=>zab _ _ (λe=>hnk (e▸hk))
 unfold znz
 rw [h1]
 refine ⟨rfl,upd r nk W.heap.size,hr,(zcy (D:=λk=>k=nk) (λk hk=>by subst hk;exact (za9 _ _ _).symm) hids),zcp (λk hk=>.inr (by simp [zaa,hk])) hids,?_⟩
 refine ⟨rfl,rfl,rfl,by simp,λk hk _=>Below.heap_alloc _ _ _ hk,λp hp1=>?_,λp hp1=>?_,λp hp1 q hq1 _=>?_⟩
 ·simp only [List.nil_append,List.mem_singleton] at hp1;subst hp1
  refine ⟨?_,Blk.ids_mono (λk hk=>.inl hk) h2⟩
  simp only [za9]
  rw [Blk.obj_congr hr h2]
  exact World.alloc_heap_new W _
 ·simp only [List.mem_singleton] at hp1;subst hp1;simp [za9]
 ·simp only [List.mem_singleton] at hp1 hq1;rw [hp1,hq1]

theorem zw9 {b:Blk} (h:∀ r D a W,zqi o r D ts a->Sat r D (rst hp []) W->(∀ k,k<100->D k->r k=k)->(∀ k,dom (rst hp []) k->D k) ->
  (execOp a.eval o).run P W=.ok (.value (.pointer (some ⟨W.heap.size,0,none⟩))) (W.alloc (b.obj r))/\b.ids D) :
  OpD P o ts (rst hp (Eff.mk (zlu nk) [] [] [(nk,b)] none false).rs) ⟨zlu nk,[],[],[(nk,b)],none,false⟩ :=
 zjl (by simp [zlu,zap,zax,zah,zaj]) λr D a W hR hS hl hD=>by
  have:=h r D a W hR hS hl hD
  exact ⟨by rw [this.1];simp [zlu,ren,zay,zak,zan],this.2⟩

theorem zl8 {T:TypeId} {v:Value} (W:World):(newVar T v).run P W=.ok ⟨W.heap.size,0,none⟩ (W.alloc (.cells v.cells T)):=by
 simp [newVar,newRow,newObj,Sem.run]

theorem zw3 {T:TypeId} {z:Value} (ho:o.op=.alloc T) (hz:zbm P T=some z) (hc:za4 z=true) (hf:za0 z=true) :
  OpD P o ts (rst hp (Eff.mk (zlu nk) [] [] [(nk,⟨z.cells,T⟩)] none false).rs) ⟨zlu nk,[],[],[(nk,⟨z.cells,T⟩)],none,false⟩ :=
 zw9 λr D a W _ _ _ _=>by
  have h1:z.cells.map (zak r)=z.cells:=by rw [<-zfv (zce hc),zau hf]
  refine ⟨?_,?_⟩
  ·simp [execOp,ho,Instr.alloc,zfk hz,zl8,Blk.obj,h1]
  ·exact zfu (zce hc) (zai hf)

theorem z8i {T:TypeId} {x:Operand} (ho:o.op=.box T x) (hx:okX ts hp x) (hc:za4 (gev ts x)=true) :
  OpD P o ts (rst hp (Eff.mk (zlu nk) [] [] [(nk,⟨(gev ts x).cells,T⟩)] none false).rs) ⟨zlu nk,[],[],[(nk,⟨(gev ts x).cells,T⟩)],none,false⟩ :=
 zw9 λr D a W hR _ hlow hD=>by
  have h1:=evR hR (x:=x) (by simp [ho,Op.operands]) hx hlow hD
  refine ⟨?_,zfu (zce hc) h1.2⟩
  simp [execOp,ho,Instr.box,zl8,h1.1,zfv (zce hc),Blk.obj]

theorem znl {k:Nat} {rs:List Nat} (h:k∈rs):rst hp rs k=hp k:=by simp [rst,h]

theorem z10 {T:TypeId} {x:Operand} {k off:Nat} {b:Blk} {v:Value} (ho:o.op=.load T x) (hx:okX ts hp x) (hg:gev ts x=.pointer (some ⟨k,off,none⟩)) (hb:hp k=some b) (hv:zc6 P T b off=some v) :
  OpD P o ts (rst hp (val v [k]).rs) (val v [k]) :=
 zcc λr D a W hR hS hlow hD=>by
  have h1:=evR hR (x:=x) (by simp [ho,Op.operands]) hx hlow hD
  rw [hg] at h1
  have h2:=hS k b (by rw [znl (by simp)];exact hb)
  have h3:a.eval x=.pointer (some ⟨r k,off,none⟩):=h1.1
  refine ⟨?_,zyu hv h2.2⟩
  simp [execOp,ho,Instr.loadAt,Instr.sureAddr,h3,zh4 hv h2.1]

theorem zbz (W:World) (k:Nat) (ob:Obj):(W.putObj k ob).heap.size=W.heap.size:=by simp [World.putObj]

theorem zxc {T:TypeId} {x y:Operand} {k off:Nat} {b:Blk} (ho:o.op=.store T x y) (hx:okX ts hp x) (hy:okX ts hp y) (hg:gev ts x=.pointer (some ⟨k,off,none⟩)) (hb:hp k=some b) (hown:b.T.own=true)
  (hc:za4 (gev ts y)=true) (hs:zaz P T=some (gev ts y).cells.size) (hle:off+(gev ts y).cells.size<=b.c.size) :
  OpD P o ts (rst hp (Eff.mk undef [k] [(k,⟨zcr b.c off (gev ts y).cells.toList,b.T⟩)] [] none false).rs) ⟨undef,[k],[(k,⟨zcr b.c off (gev ts y).cells.toList,b.T⟩)],[],none,false⟩:=by
 intro r D a W hR hS _ hlow hD _
 have h1:=evR hR (x:=x) (by simp [ho,Op.operands]) hx hlow hD
 have h1':=evR hR (x:=y) (by simp [ho,Op.operands]) hy hlow hD
 rw [hg] at h1
 have h2:=hS k b (by rw [znl (by simp)];exact hb)
 have h3:a.eval x=.pointer (some ⟨r k,off,none⟩):=h1.1
 obtain ⟨bc,bt⟩:=b
 cases bt with
 | raw _ _=>cases hown
 | mp=>cases hown
 | ty bt =>
 have hrun:=zji (P:=P) (r:=r) (T:=T) hc hs hle h2.1
 have hlt:r k<W.heap.size:=(Array.getElem?_eq_some_iff.1 h2.1).1
 have:(execOp a.eval o).run P W=.ok .skip (W.putObj (r k) (.cells ((zcr bc off (gev ts y).cells.toList).map (zak r)) bt (0,0))):=by
  simp [execOp,ho,Instr.storeAt,Instr.sureAddr,h3,h1'.1,hrun]
 unfold znz
 rw [this]
 refine ⟨rfl,r,λ_ _=>rfl,(zci r).symm,zcv _,?_⟩
 refine ⟨rfl,rfl,rfl,by rw [zbz];exact Nat.le_refl _,λj _ hn=>World.putObj_heap_other (λe=>hn _ (List.mem_singleton.2 rfl) e.symm),λp hp1=>?_,by simp,by simp⟩
 simp only [List.append_nil,List.mem_singleton] at hp1;subst hp1
 refine ⟨World.putObj_heap_same hlt,?_⟩
 simp only [zjm]
 exact zwd (Q:=zah D) _ (λz hz=>zfu (zce hc) h1'.2 z (by simpa using hz)) _ _ h2.2

theorem zx2 {v:Value} (h:fnV v=true) (r:Nat->Nat):ren r v=zak r v:=by cases v<;>first|rfl|cases h
theorem zx1 {v:Value} (h:fnV v=true) {D:Nat->Prop}:zap D v↔zah D v:=by cases v<;>first|exact Iff.rfl|cases h
theorem jam {l:List (ByteArray×Value)} {x:Value} (h:x∈mpC l):(∃ s,x=.string s)\/∃ p∈l,x=p.2:=by
 simp only [mpC,List.mem_toArray,List.mem_flatMap,List.mem_cons,List.not_mem_nil,or_false] at h
 obtain ⟨p,hp,rfl|rfl⟩:=h
 ·exact .inl ⟨_,rfl⟩
 ·exact .inr ⟨p,hp,rfl⟩
theorem zit {l:List (ByteArray×Value)} {D:Nat->Prop}:(mpB l).ids D↔∀ p∈l,zah D p.2:=by
 constructor
 ·intro h p hp
  refine h p.2 ?_
  simp only [mpB,mpC,List.mem_toArray,List.mem_flatMap]
  exact ⟨p,hp,by simp⟩
 ·intro h x hx
  rcases jam hx with ⟨s,rfl⟩|⟨p,hp,rfl⟩
  ·trivial
  ·exact h p hp
theorem zou {s:ByteArray} {v:Value}:∀ {l:List (ByteArray×Value)},zc4 s l=some v->∃ p∈l,p.2=v
 | [],h=>by cases h
 | p::l,h=>by
  simp only [zc4] at h
  split at h
  ·cases h;exact ⟨p,by simp,rfl⟩
  ·obtain ⟨q,hq,e⟩:=zou h
   exact ⟨q,List.mem_cons_of_mem _ hq,e⟩
theorem zqh {T:TypeId} {y:Option Operand} (ho:o.op=.makeMap T y) (hy:y.isNone=true):OpD P o ts (rst hp (Eff.mk (.map (some nk)) [] [] [(nk,mpB [])] none false).rs) ⟨.map (some nk),[],[],[(nk,mpB [])],none,false⟩ :=
 zjl (by simp [zap,zax,zah,zaj]) λr D a W _ _ _ _=>by
  obtain rfl:y=none:=by simpa using hy
  refine ⟨?_,zit.2 (by simp)⟩
  rw [zrh]
  simp [execOp,ho,Instr.makeMap,newObj,Sem.run,ren,zay,zak,zan,zn0]
theorem zud {T:TypeId} {m k x:Operand} {q:Nat} {s:ByteArray} {l:List (ByteArray×Value)} (ho:o.op=.insert T m k x) (hm:okX ts hp m) (hk:okX ts hp k) (hx:okX ts hp x) (hT:zgc P T=true) (hf:fnV (gev ts x)=true) (hgm:gev ts m=.map (some q)) (hgk:gev ts k=.string s) (hb:hp q=some (mpB l)) (hn:zc4 s l=none) :
  OpD P o ts (rst hp (Eff.mk undef [q] [(q,mpB (l++[(s,gev ts x)]))] [] none false).rs) ⟨undef,[q],[(q,mpB (l++[(s,gev ts x)]))],[],none,false⟩:=by
 intro r D a W hR hS _ hlow hD _
 have h1:=evR hR (x:=m) (by simp [ho,Op.operands]) hm hlow hD
 have h2:=evR hR (x:=k) (by simp [ho,Op.operands]) hk hlow hD
 have h3:=evR hR (x:=x) (by simp [ho,Op.operands]) hx hlow hD
 rw [hgm] at h1
 rw [hgk] at h2
 have hs:=hS q _ (by rw [znl (by simp)];exact hb)
 have e1:a.eval m=.map (some (r q)):=h1.1
 have e2:a.eval k=.string s:=h2.1
 have hrun:=zv7 (P:=P) (T:=T) (x:=a.eval x) (v:=gev ts x) hT hs.1 hn (by rw [h3.1,zx2 hf])
 have hlt:r q<W.heap.size:=(Array.getElem?_eq_some_iff.1 hs.1).1
 have:(execOp a.eval o).run P W=.ok .skip (W.putObj (r q) ((mpB (l++[(s,gev ts x)])).obj r)):=by
  simp [execOp,ho,e1,e2,hrun]
 unfold znz
 rw [this]
 refine ⟨rfl,r,λ_ _=>rfl,(zci r).symm,zcv _,?_⟩
 refine ⟨rfl,rfl,rfl,by rw [zbz];exact Nat.le_refl _,λj _ hn=>World.putObj_heap_other (λe=>hn _ (List.mem_singleton.2 rfl) e.symm),λp hp1=>?_,by simp,by simp⟩
 simp only [List.append_nil,List.mem_singleton] at hp1;subst hp1
 refine ⟨World.putObj_heap_same hlt,?_⟩
 simp only [zjm]
 refine zit.2 λp hp2=>?_
 rcases List.mem_append.1 hp2 with hp2|hp2
 ·exact zit.1 hs.2 p hp2
 ·simp only [List.mem_singleton] at hp2
  subst hp2
  exact (zx1 hf).1 h3.2
theorem zue {T:TypeId} {m k:Operand} {q:Nat} {s:ByteArray} {l:List (ByteArray×Value)} {v:Value} (ho:o.op=.lookup T m k false) (hm:okX ts hp m) (hk:okX ts hp k) (hT:zgc P T=true) (hgm:gev ts m=.map (some q)) (hgk:gev ts k=.string s) (hb:hp q=some (mpB l)) (hn:zc4 s l=some v) (hf:fnV v=true) :
  OpD P o ts (rst hp (val v [q]).rs) (val v [q]) :=
 zcc λr D a W hR hS hlow hD=>by
  have h1:=evR hR (x:=m) (by simp [ho,Op.operands]) hm hlow hD
  have h2:=evR hR (x:=k) (by simp [ho,Op.operands]) hk hlow hD
  rw [hgm] at h1
  rw [hgk] at h2
  have hs:=hS q _ (by rw [znl (by simp)];exact hb)
  have e1:a.eval m=.map (some (r q)):=h1.1
  have e2:a.eval k=.string s:=h2.1
  have hrun:=zv8 (P:=P) (T:=T) hT hs.1 hn
  refine ⟨by simp [execOp,ho,e1,e2,hrun,zx2 hf],?_⟩
  obtain ⟨p,hp,rfl⟩:=zou hn
  exact (zx1 hf).2 (zit.1 hs.2 p hp)
theorem zqg {x:Operand} {i:Nat} {vs:Array Value} {v:Value} (ho:o.op=.extract x i) (hx:okX ts hp x) (hg:gev ts x=.tuple vs) (hv:vs[i]? = some v) (hn:zds v=true) :
  OpD P o ts (rst hp (val v []).rs) (val v []) :=
 zcc λr D a W hR _ hlow hD=>by
  have h1:=evR hR (x:=x) (by simp [ho,Op.operands]) hx hlow hD
  rw [hg] at h1
  have h3:a.eval x=.tuple (vs.map (zay r)):=h1.1
  have h4:ren r v=zay r v:=by cases v<;>simp_all [zds,ren]
  refine ⟨by simp [execOp,ho,Instr.extract,h3,hv,h4],?_⟩
  have:=h1.2 v (Array.mem_of_getElem? hv)
  cases v<;>simp_all [zds,zap]

theorem zhn (k off m:Nat):(⟨k,off,none⟩:Addr).add m=⟨k,off+m,none⟩:=Addr.add_mid k off m

theorem zub {T e:TypeId} {x i:Operand} {kd:IntKind} {m:Int} {len k off s:Nat} (ho:o.op=.indexAddr T x i) (hx:okX ts hp x) (hi:okX ts hp i) (hgi:gev ts i=.int kd m)
  (hu:P.underlying T=some (.array len e)) (hg:gev ts x=.pointer (some ⟨k,off,none⟩)) (h0:0<=m) (hl:m<len) (hs:zaz P e=some s) :
  OpD P o ts (rst hp (val (.pointer (some ⟨k,off+m.toNat*s,none⟩)) []).rs) (val (.pointer (some ⟨k,off+m.toNat*s,none⟩)) []) :=
 zcc λr D a W hR _ hlow hD=>by
  have h1:=evR hR (x:=x) (by simp [ho,Op.operands]) hx hlow hD
  have h2:=evR hR (x:=i) (by simp [ho,Op.operands]) hi hlow hD
  rw [hg] at h1
  rw [hgi] at h2
  have h3:a.eval x=.pointer (some ⟨r k,off,none⟩):=h1.1
  have h4:a.eval i=.int kd m:=h2.1
  refine ⟨?_,h1.2⟩
  have hD':D k:=by simpa [zap,zax,zah,zaj] using h1.2
  simp [execOp,ho,Instr.indexAt,h3,h4,asIntOf,run_underlying hu,Instr.sureAddr,h0,hl,zb2 hs,zhn,ren,zay,zak,zan]

theorem zuc {T e:TypeId} {x i:Operand} {kd:IntKind} {m:Int} {len cap k off s:Nat} (ho:o.op=.indexAddr T x i) (hx:okX ts hp x) (hi:okX ts hp i) (hgi:gev ts i=.int kd m)
  (hu:P.underlying T=some (.slice e)) (hg:gev ts x=.slice (some ⟨k,off,none⟩) len cap) (h0:0<=m) (hl:m<len) (hs:zaz P e=some s) :
  OpD P o ts (rst hp (val (.pointer (some ⟨k,off+m.toNat*s,none⟩)) []).rs) (val (.pointer (some ⟨k,off+m.toNat*s,none⟩)) []) :=
 zcc λr D a W hR _ hlow hD=>by
  have h1:=evR hR (x:=x) (by simp [ho,Op.operands]) hx hlow hD
  have h2:=evR hR (x:=i) (by simp [ho,Op.operands]) hi hlow hD
  rw [hg] at h1
  rw [hgi] at h2
  have h3:a.eval x=.slice (some ⟨r k,off,none⟩) len cap:=h1.1
  have h4:a.eval i=.int kd m:=h2.1
  refine ⟨?_,by simpa [zap,zax,zah,zaj] using h1.2⟩
  simp [execOp,ho,Instr.indexAt,h3,h4,asIntOf,run_underlying hu,h0,hl,zb2 hs,zhn,ren,zay,zak,zan]

theorem zn8 {fn:Fn} {first cap:Array Operand} (ho:o.op=.makeFunc fn first cap) (h1:∀ x∈first.toList,okX ts hp x/\zbr (gev ts x)=true) (h2:∀ x∈cap.toList,okX ts hp x/\zbr (gev ts x)=true) :
  OpD P o ts (rst hp (val (.func fn (first.map (gev ts)) (cap.map (gev ts))) []).rs) (val (.func fn (first.map (gev ts)) (cap.map (gev ts))) []) :=
 zcc λr D a W hR _ hlow hD=>by
  have e1:∀ x∈first,a.eval x=zan r (gev ts x)/\zaj D (gev ts x):=λx hx=>by
   have h:=h1 x (by simpa using hx)
   have:=evR hR (x:=x) (by simp [ho,Op.operands,hx]) h.1 hlow hD
   exact ⟨by rw [this.1,zcf h.2],(zb1 h.2).1 this.2⟩
  have e2:∀ x∈cap,a.eval x=zan r (gev ts x)/\zaj D (gev ts x):=λx hx=>by
   have h:=h2 x (by simpa using hx)
   have:=evR hR (x:=x) (by simp [ho,Op.operands,hx]) h.1 hlow hD
   exact ⟨by rw [this.1,zcf h.2],(zb1 h.2).1 this.2⟩
  refine ⟨?_,?_⟩
  ·simp only [execOp,ho,Instr.makeFunc,ren,zay,zak,Array.map_map]
   rw [Array.map_congr_left (g:=zan r∘gev ts) (λx hx=>(e1 x hx).1),Array.map_congr_left (g:=zan r∘gev ts) (λx hx=>(e2 x hx).1)]
   rfl
  ·refine ⟨λv hv=>?_,λv hv=>?_⟩
   ·obtain ⟨x,hx,rfl⟩:=Array.mem_map.1 hv;exact (e1 x hx).2
   ·obtain ⟨x,hx,rfl⟩:=Array.mem_map.1 hv;exact (e2 x hx).2

theorem zmo {v:Value} (hs:∀ cs b,o.op≠.select cs b) (h1:∀ x∈o.op.operands.toList,okX ts hp x/\za0 (gev ts x)=true) (hv:za0 v=true) (hr:∀ W,(execOp (gev ts) o).run P W=.ok (.value v) W) :
  OpD P o ts (rst hp (val v []).rs) (val v []) :=
 zcc λr D a W hR _ hlow hD=>by
  refine ⟨?_,zai hv⟩
  rw [zau hv,<-hr W]
  congr 1
  refine execOp_congr o hs λx hx=>?_
  have h:=h1 x (by simpa using hx)
  rw [(evR hR hx h.1 hlow hD).1,zau h.2]

theorem z1y {c:Call} {f:Operand} {g:FuncId} {first cap:Array Value} {v:Value} (hGF:zbo G) (hG:∀ k,k<100->hp k=G k) (ho:o.op=.call c) (hc:c.callee=.value f) (hf:okX ts hp f) (hgf:gev ts f=.func (.func g) first cap)
  (hfi:first.size=0) (hca:cap.size=0) (ha:∀ x∈c.args.toList,okX ts hp x) (hr:Ret P G g (c.args.map (gev ts)) v\/ji6 P g (c.args.map (gev ts)) v):OpD P o ts (rst hp (val v []).rs) (val v []):=by
 intro r D a W hR hS _ hlow hD _
 have hfl:∀ x∈c.args.map (gev ts),za0 x=true:=hr.elim (λh=>h.2.1) (λh=>h.2.1)
 obtain rfl:first=#[]:=by cases first;simpa using hfi
 obtain rfl:cap=#[]:=by cases cap;simpa using hca
 have h1:=evR hR (x:=f) (by simp [ho,hc,Op.operands,Call.operands]) hf hlow hD
 rw [hgf] at h1
 have h3:a.eval f=.func (.func g) #[] #[]:=by rw [h1.1];simp [ren,zay,zak]
 have hargs:c.args.map a.eval=c.args.map (gev ts):=Array.map_congr_left λx hx=>by
  rw [(evR hR (x:=x) (by simp [ho,Op.operands,Call.operands,hx]) (ha x (by simpa using hx)) hlow hD).1]
  exact zau (hfl _ (Array.mem_map.2 ⟨x,hx,rfl⟩))
 rcases hr with hr|⟨hv,_,hen⟩
 rotate_left
 ·have hrun:(execOp a.eval o).run P W=.ok (.value v) W:=by
   simp [execOp,ho,resolve,hc,h3,Deferred.ofValue,invoke,hargs,hen]
  unfold znz
  rw [hrun]
  exact ⟨rfl,r,λ_ _=>rfl,(zau hv).symm,zai hv,Turn.of_below (Below.refl _ _)⟩
 obtain ⟨hv,_,hen,hcall⟩:=hr
 have hrun:(execOp a.eval o).run P W=.ok (.enter g (c.args.map (gev ts))) W:=by
  simp [execOp,ho,resolve,hc,h3,Deferred.ofValue,invoke,hargs,hen]
 have hgok:GOK G W:=λk b hk=>by
  obtain ⟨hlt,hfl⟩:=hGF k b hk
  have hb:rst hp [] k=some b:=by simp [rst,hlt,hG k hlt,hk]
  have h2:=hS k b hb
  have hDk:D k:=hD k (by unfold dom;show rst hp [] k≠none;rw [hb];simp)
  rw [hlow k hlt hDk] at h2
  rw [h2.1]
  rw [Blk.obj_flat (λx hx=>hfl x hx)]
 unfold znz
 rw [hrun]
 refine (hcall W hgok).mono λe W'' ⟨he,hb⟩=>?_
 subst he
 exact ⟨rfl,r,λ_ _=>rfl,(zau hv).symm,zai hv,Turn.of_below hb⟩

theorem zx6 {r:Nat->Nat} {D:Nat->Prop} {W:World} {rs:List Nat} (hGF:zbo G) (hG:∀ k,k<100->hp k=G k) (hS:Sat r D (rst hp rs) W) (hlow:∀ k,k<100->D k->r k=k) (hD:∀ k,dom (rst hp rs) k->D k):GOK G W:=λk b hk=>by
 obtain ⟨hlt,hfl⟩:=hGF k b hk
 have hb:rst hp rs k=some b:=by simp [rst,hlt,hG k hlt,hk]
 have h2:=hS k b hb
 have hDk:D k:=hD k (by unfold dom;rw [hb];simp)
 rw [hlow k hlt hDk] at h2
 rw [h2.1]
 rw [Blk.obj_flat (λx hx=>hfl x hx)]

theorem zne {x:Operand} (h:okT ts x):okX ts hp x:=by cases x<;>first|exact h|exact h.elim

theorem z8j {c:Call} {f:Operand} {g:FuncId} {first cap:Array Value} {rs:List Nat} {res:Res} (hGF:zbo G) (hG:∀ k,k<100->hp k=G k) (ho:o.op=.call c) (hc:c.callee=.value f) (hf:okT ts f) (hgf:gev ts f=.func (.func g) first cap)
  (hfi:first.size=0) (hcp:cap.all zbr=true) (ha:∀ x∈c.args.toList,okX ts hp x) (hr:Fun P G g (c.args.map (gev ts)++cap) hp rs res):OpD P o ts (rst hp (res.eff rs).rs) (res.eff rs):=by
 have ers:(res.eff rs).rs=rs:=by cases res<;>rfl
 rw [ers]
 intro r D a W hR hS hinj hlow hD hnsD
 obtain rfl:first=#[]:=by cases first;simpa using hfi
 have hD':∀ k,k<100->dom hp k->D k:=λk hk hd=>hD k (by unfold dom rst at *;simp [hk,hd])
 have h1:=ev hR (x:=f) (by simp [ho,hc,Op.operands,Call.operands]) (zne (hp:=hp) hf) hlow hD'
 rw [hgf] at h1
 have h3:a.eval f=.func (.func g) #[] (cap.map (zan r)):=by rw [h1.1];simp [ren,zay,zak]
 have hargs:c.args.map a.eval=(c.args.map (gev ts)).map (ren r):=by
  rw [Array.map_map]
  exact Array.map_congr_left λx hx=>(ev hR (x:=x) (by simp [ho,Op.operands,Call.operands,hx]) (ha x (by simpa using hx)) hlow hD').1
 have hrun:(execOp a.eval o).run P W=.ok (.enter g ((c.args.map (gev ts)).map (ren r)++cap.map (zan r))) W:=by
  simp [execOp,ho,resolve,hc,h3,Deferred.ofValue,invoke,hargs,hr.enter]
 have hS':Sat r (dom (rst hp rs)) (rst hp rs) W:=λk b hk=>⟨(hS k b hk).1,hr.closed k b hk⟩
 have hcall:=hr.run r W (zx6 hGF hG hS hlow hD) hS' (λk l hk hl=>hinj k l (hD k hk) (hD l hl)) (λk hk hd=>hlow k hk (hD k hd))
 have hcap:∀ x∈cap,ren r x=zan r x:=λx hx=>zcf (Array.all_eq_true_iff_forall_mem.1 hcp x hx)
 have e2:(c.args.map (gev ts)).map (ren r)++cap.map (zan r)=(c.args.map (gev ts)++cap).map (ren r):=by
  rw [Array.map_append];congr 1;exact Array.map_congr_left λx hx=>(hcap x hx).symm
 unfold znz
 rw [hrun]
 dsimp only
 rw [e2]
 refine hcall.mono λe W'' he=>?_
 cases res with
 | ret v ws =>
  obtain ⟨rfl,ht⟩:=he
  refine ⟨rfl,r,λ_ _=>rfl,rfl,zcp (λk hk=>.inl (hD k hk)) hr.fits.1,{ ht with has:=λp hp1=>⟨(ht.has p hp1).1,Blk.ids_mono (λk hk=>hk.imp (hD k) id) (ht.has p hp1).2⟩ }⟩
 | pan v =>
  obtain ⟨rfl,hb⟩:=he
  exact ⟨v,rfl,rfl,hb⟩
 | new v ns =>
  have hns:∀ k∈zaa ns,¬D k:=λk hk=>by
   obtain ⟨p,hp1,rfl⟩:=zag.1 hk
   exact (hnsD p hp1).1
  obtain ⟨r1,h1,rfl,ht⟩:=he (λk hk hd=>hns k hk (hD k hd))
  let r2:Nat->Nat:=λk=>if k∈zaa ns then r1 k else r k
  have e1:∀ k,zc7 (dom (rst hp rs)) ns k->r2 k=r1 k:=λk hk=>by
   by_cases h:k∈zaa ns
   ·simp [r2,h]
   ·have hk':=hk.resolve_right h
    simp only [r2,h,if_false]
    exact (h1 k hk').symm
  have e2:∀ k,D k->r2 k=r k:=λk hk=>by simp only [r2,if_neg (λh=>hns k h hk)]
  have e3:∀ p∈ns,r2 p.1=r1 p.1:=λp hp1=>e1 _ (.inr (zag.2 ⟨p,hp1,rfl⟩))
  refine ⟨rfl,r2,e2,(zcy e1 hr.fits.1).symm,zcp (λk hk=>hk.imp (hD k) id) hr.fits.1,ht.os,ht.tape,ht.output,ht.size,λk hk _=>ht.same k hk (by simp),λp hp1=>?_,λp hp1=>by rw [e3 p hp1];exact ht.fresh p hp1,λp hp1 q hq1 h=>ht.apart p hp1 q hq1 (by rw [<-e3 p hp1,<-e3 q hq1];exact h)⟩
  have hp1:p∈ns:=by simpa [Res.eff] using hp1
  have hh:=ht.has p (by simpa using hp1)
  rw [e3 p hp1,Blk.obj_congr e1 hh.2]
  exact ⟨hh.1,Blk.ids_mono (λk hk=>hk.imp (hD k) id) hh.2⟩


theorem zht (f:Value->Value) (off:Nat):∀ (l:List (Value×Nat)) (cs:Array Value),
  (l.map λp=>(f p.1,p.2)).foldl (λcs (p:Value×Nat)=>cs.setIfInBounds (off+p.2) p.1) (cs.map f)=(l.foldl (λcs (p:Value×Nat)=>cs.setIfInBounds (off+p.2) p.1) cs).map f
 | [],cs=>rfl
 | p::l,cs=>by
  simp only [List.map_cons,List.foldl_cons]
  rw [<-Array.map_setIfInBounds,zht f off l]
theorem zhu {Q:Value->Prop} (off:Nat):∀ (l:List (Value×Nat)) (cs:Array Value),(∀ p∈l,Q p.1)->(∀ x∈cs,Q x)->∀ x∈l.foldl (λcs (p:Value×Nat)=>cs.setIfInBounds (off+p.2) p.1) cs,Q x
 | [],_,_,h=>h
 | p::l,cs,hl,h=>by
  simp only [List.foldl_cons]
  refine zhu off l _ (λq hq=>hl q (List.mem_cons_of_mem _ hq)) (λx hx=>?_)
  rcases Array.mem_or_eq_of_mem_setIfInBounds hx with h'|h'
  ·exact h x h'
  ·exact h'▸hl p (by simp)
theorem zia (off:Nat) (vs cs:Array Value):vs.zipIdx.foldl (λcs (c,j)=>cs.setIfInBounds (off+j) c) cs=vs.toList.zipIdx.foldl (λcs (p:Value×Nat)=>cs.setIfInBounds (off+p.2) p.1) cs:=by
 rw [<-Array.foldl_toList,Array.toList_zipIdx]

theorem zjp {r:Nat->Nat} {pl:Nat->Option (Nat×Nat)}:∀ (parts:List (Nat×Value)) (cells cs:Array Value),(∀ p∈parts,za4 p.2=true)->Instr.fill pl cells parts=some cs ->
  Instr.fill pl (cells.map (zak r)) (parts.map λp=>(p.1,ren r p.2))=some (cs.map (zak r))
 | [],cells,cs,_,h=>by simp only [Instr.fill,Option.some.injEq] at h;subst h;rfl
 | (i,v)::rest,cells,cs,hp,h=>by
  simp only [Instr.fill,List.map_cons] at h |-
  cases hpl:pl i with
  | none=>simp [hpl] at h
  | some os =>
   obtain ⟨off,size⟩:=os
   simp only [hpl] at h |-
   have hc:=zfv (r:=r) (zce (hp (i,v) (by simp)))
   rw [hc]
   simp only [Array.size_map]
   split at h
   ·cases h
   ·rename_i hn
    rw [if_neg hn]
    have:=zjp (r:=r) rest _ cs (λp hp'=>hp p (List.mem_cons_of_mem _ hp')) h
    rw [<-this]
    congr 1
    rw [zia,zia,<-zht]
    congr 1
    simp [List.zipIdx_map]

theorem zjo {D:Nat->Prop} {pl:Nat->Option (Nat×Nat)}:∀ (parts:List (Nat×Value)) (cells cs:Array Value),(∀ p∈parts,za4 p.2=true/\zap D p.2)->(∀ x∈cells,zah D x)->Instr.fill pl cells parts=some cs->∀ x∈cs,zah D x
 | [],cells,cs,_,hc,h=>by simp only [Instr.fill,Option.some.injEq] at h;subst h;exact hc
 | (i,v)::rest,cells,cs,hp,hc,h=>by
  simp only [Instr.fill] at h
  cases hpl:pl i with
  | none=>simp [hpl] at h
  | some os =>
   obtain ⟨off,size⟩:=os
   simp only [hpl] at h
   split at h
   ·cases h
   ·refine zjo rest _ cs (λp hp'=>hp p (List.mem_cons_of_mem _ hp')) ?_ h
    rw [zia]
    have h0:=hp (i,v) (by simp)
    refine zhu off _ _ (λq hq=>?_) hc
    have:q.1∈v.cells.toList:=by
     have:=List.mem_zipIdx' (x:=q.1) (i:=q.2) (by simpa using hq)
     rw [this.2];exact List.getElem_mem _
    exact zfu (zce h0.1) h0.2 _ (by simpa using this)

theorem zxl {r:Nat->Nat} {T:TypeId} {parts:List (Nat×Value)} {cs:Array Value} {z:Value} (hz:zbm P T=some z) (hzc:za4 z=true) (hzf:za0 z=true) (hp:∀ p∈parts,za4 p.2=true)
  (h:P.built T parts=some cs):P.built T (parts.map λp=>(p.1,ren r p.2))=some (cs.map (zak r)):=by
 have hzm:z.cells.map (zak r)=z.cells:=by rw [<-zfv (zce hzc),zau hzf]
 unfold Program.built at h |-
 unfold zbm at hz
 cases hi:P.info? T with
 | none=>simp [hi] at hz
 | some it =>
  simp [hi] at hz
  simp only [hi] at h |-
  cases hu:P.underlying T with
  | none=>simp [hu] at h
  | some dd =>
   cases dd<;>try (simp [hu] at h;done)
   case array n e =>
    simp only [hu,hz] at h |-
    cases hie:P.info? e with
    | none=>simp [hie] at h
    | some ie =>
     simp only [hie] at h |-
     rw [<-hzm]
     exact zjp _ _ _ hp h
   case struct fs =>
    simp only [hu,hz] at h |-
    cases hm:fs.toList.mapM (λf=>(P.info? f.type).map λi=>(f.offset,i.size)) with
    | none=>simp [hm] at h
    | some pl =>
     simp only [hm] at h |-
     rw [<-hzm]
     exact zjp _ _ _ hp h

theorem zxk {D:Nat->Prop} {T:TypeId} {parts:List (Nat×Value)} {cs:Array Value} {z:Value} (hz:zbm P T=some z) (hzc:za4 z=true) (hzf:za0 z=true) (hp:∀ p∈parts,za4 p.2=true/\zap D p.2)
  (h:P.built T parts=some cs):∀ x∈cs,zah D x:=by
 have hzi:∀ x∈z.cells,zah D x:=zfu (zce hzc) (zai hzf)
 unfold Program.built at h
 unfold zbm at hz
 cases hi:P.info? T with
 | none=>simp [hi] at hz
 | some it =>
  simp [hi] at hz
  simp only [hi] at h
  cases hu:P.underlying T with
  | none=>simp [hu] at h
  | some dd =>
   cases dd<;>try (simp [hu] at h;done)
   case array n e =>
    simp only [hu,hz] at h
    cases hie:P.info? e with
    | none=>simp [hie] at h
    | some ie =>
     simp only [hie] at h
     exact zjo _ _ _ hp hzi h
   case struct fs =>
    simp only [hu,hz] at h
    cases hm:fs.toList.mapM (λf=>(P.info? f.type).map λi=>(f.offset,i.size)) with
    | none=>simp [hm] at h
    | some pl =>
     simp only [hm] at h
     exact zjo _ _ _ hp hzi h

theorem zw4 {T:TypeId} {parts:Array (Nat×Operand)} {z:Value} {cs:Array Value} (ho:o.op=.build T parts) (h1:∀ p∈parts.toList,okX ts hp p.2/\za4 (gev ts p.2)=true)
  (hz:zbm P T=some z) (hzc:za4 z=true) (hzf:za0 z=true) (hcs:P.built T (zd0 ts parts)=some cs):OpD P o ts (rst hp (val (.agg cs) []).rs) (val (.agg cs) []) :=
 zcc λr D a W hR _ hlow hD=>by
  have e1:∀ p∈parts.toList,a.eval p.2=ren r (gev ts p.2)/\zap D (gev ts p.2):=λp hp1 =>
   evR hR (x:=p.2) (by
    simp only [ho,Op.operands]
    simp only [List.mem_toArray,List.mem_map]
    exact ⟨p,hp1,rfl⟩) (h1 p hp1).1 hlow hD
  have e2:(parts.map λ(i,x)=>(i,a.eval x)).toList=(zd0 ts parts).map λp=>(p.1,ren r p.2):=by
   simp only [Array.toList_map,zd0,List.map_map]
   refine List.map_congr_left λp hp1=>?_
   simp only [Function.comp]
   rw [(e1 p hp1).1]
  have h3:=zxl (r:=r) hz hzc hzf (λp hp1=>by
   simp only [zd0,List.mem_map] at hp1
   obtain ⟨q,hq,rfl⟩:=hp1
   exact (h1 q hq).2) hcs
  rw [<-e2] at h3
  refine ⟨?_,zxk (D:=D) hz hzc hzf (λp hp1=>?_) hcs⟩
  ·simp only [execOp,ho,Sem.run_bind,run_build W T _ _ h3,Result.andThen_ok,Sem.run_pure,ren,zay]
  ·simp only [zd0,List.mem_map] at hp1
   obtain ⟨q,hq,rfl⟩:=hp1
   exact ⟨(h1 q hq).2,(e1 q hq).2⟩

theorem zi9 (off:Nat):∀ (l:List Value) (j:Nat) (cs:Array Value),(l.zipIdx j).foldl (λcs (p:Value×Nat)=>cs.setIfInBounds (off+p.2) p.1) cs=zcr cs (off+j) l
 | [],_,_=>rfl
 | v::l,j,cs=>by
  simp only [List.zipIdx_cons,List.foldl_cons,zcr]
  rw [zi9 off l (j+1)]
  rfl
theorem zkd {pl:List (Nat×Nat) ⊕ Nat}:∀ (parts:List (Nat×Value)) (cells cs:Array Value),zfz pl cells parts=some cs->Instr.fill (z4v pl) cells parts=some cs
 | [],_,_,h=>h
 | (i,v)::rest,cells,cs,h=>by
  simp only [zfz] at h
  simp only [Instr.fill]
  cases hpl:z4v pl i with
  | none=>simp [hpl] at h
  | some os =>
   obtain ⟨off,size⟩:=os
   simp only [hpl] at h |-
   split at h
   ·rename_i hc
    rw [if_neg (by simp [hc.1];rw [<-hc.1];exact hc.2),zia]
    have:=zi9 off v.cells.toList 0 cells
    rw [this]
    exact zkd rest _ cs h
   ·cases h
theorem zk8 {T:TypeId} {z:Value} {pl:List (Nat×Nat) ⊕ Nat} {parts:List (Nat×Value)} {cs:Array Value} (hz:zbm P T=some z) (hpl:zbj P T=some pl) (h:zfz pl z.cells parts=some cs):P.built T parts=some cs:=by
 have h:=zkd _ _ _ h
 unfold zbm at hz
 unfold zbj at hpl
 unfold Program.built
 cases hi:P.info? T with
 | none=>simp [hi] at hz
 | some it =>
  have hz':it.zero=some z:=by simpa [hi] using hz
  cases hu:P.underlying T with
  | none=>simp [hu] at hpl
  | some dd =>
   cases dd<;>try (simp [hu] at hpl;done)
   case array n e =>
    simp only [hu] at hpl |-
    unfold zaz at hpl
    cases hie:P.info? e with
    | none=>simp [hie] at hpl
    | some ie =>
     simp [hie] at hpl
     subst hpl
     simp only [hz']
     exact h
   case struct fs =>
    simp only [hu] at hpl |-
    cases hm:fs.toList.mapM (λf=>(P.info? f.type).map λi=>(f.offset,i.size)) with
    | none=>simp [hm] at hpl
    | some l =>
     simp [hm] at hpl
     subst hpl
     simp only [hz']
     have:(λx=>l.toArray[x]?)=z4v (.inl l):=by funext x;simp [z4v]
     rw [this]
     exact h

theorem zw7 {T:TypeId} {x:Operand} {dd:TypeDesc} (ho:o.op=.makeInterface T x) (hx:okX ts hp x) (h1:zbr (gev ts x)=true) (hu:P.underlying T=some dd) (hn:∀ ms,dd≠.interface ms) :
  OpD P o ts (rst hp (val (.iface T (gev ts x)) []).rs) (val (.iface T (gev ts x)) []) :=
 zcc λr D a W hR _ hlow hD=>by
  have:=evR hR (x:=x) (by simp [ho,Op.operands]) hx hlow hD
  refine ⟨?_,(zb1 h1).1 this.2⟩
  simp only [execOp,ho,Instr.makeInterface,Sem.run_bind,run_underlying hu,Result.andThen_ok]
  rw [this.1,zcf h1]
  cases dd<;>first
   | exact absurd rfl (hn _)
   | simp [ren,zay,zak]

theorem zor:∀ (xs ys:List Value) (r:Bool),zwq xs ys=some r->(∀ x∈xs,zbf x=true)/\(∀ y∈ys,zbf y=true)
 | [],[],_,_=>⟨by simp,by simp⟩
 | .int k a::xs,.int k' b::ys,r,h=>by
  simp only [zwq] at h
  split at h
  ·split at h
   ·rename_i q hq
    have:=zor xs ys q hq
    exact ⟨by simpa [zbf,zhd] using this.1,by simpa [zbf,zhd] using this.2⟩
   ·cases h
  ·cases h

theorem z2d {op:BinOp} {T:TypeId} {x y v:Value} (r:Nat->Nat) (h:zoe P op T x y=some v):zoe P op T (ren r x) (ren r y)=some v:=by
 have key:∀ {xs ys:Array Value} {q:Bool},z16 P T xs ys=some q->za0 (.agg xs)=true/\za0 (.agg ys)=true:=λ{xs ys q} h=>by
  unfold z16 zuh at h
  split at h
  ·unfold zwo at h
   split at h
   ·split at h
    ·have:=zor _ _ _ h
     exact ⟨Array.all_eq_true_iff_forall_mem.2 (λx hx=>this.1 x (by simpa using hx)),Array.all_eq_true_iff_forall_mem.2 (λx hx=>this.2 x (by simpa using hx))⟩
    ·cases h
   ·cases h
  ·split at h
   ·split at h
    ·rename_i hf
     simp only [Bool.and_eq_true] at hf
     exact hf
    ·cases h
   ·cases h
 have h0:=h
 unfold zoe at h
 split at h
 ·exact h0
 ·exact h0
 ·split at h
  ·split at h
   ·rename_i q hq;rw [zau (key hq).1,zau (key hq).2];exact h0
   ·cases h
  ·split at h
   ·rename_i q hq;rw [zau (key hq).1,zau (key hq).2];exact h0
   ·cases h
  ·cases h
 ·rename_i p l c
  cases p with
  | none=>exact h0
  | some a=>exact h0
 ·cases h

theorem z8h {op:BinOp} {T yT:TypeId} {x y:Operand} {v:Value} (ho:o.op=.binOp op T x y yT) (hx:okX ts hp x) (hy:okX ts hp y) (hv:zoe P op T (gev ts x) (gev ts y)=some v) :
  OpD P o ts (rst hp (val v []).rs) (val v []) :=
 zcc λr D a W hR _ hlow hD=>by
  have h1:=evR hR (x:=x) (by simp [ho,Op.operands]) hx hlow hD
  have h2:=evR hR (x:=y) (by simp [ho,Op.operands]) hy hlow hD
  have hs:=zuj (ox:=x) (oy:=y) (z2d r hv) W
  refine ⟨?_,zai hs.2⟩
  rw [zau hs.2]
  have:=hs.1
  simp only [execOp,ho,h1.1,h2.1]
  rw [Sem.run_bind,this]
  rfl

theorem z5e {op:UnOp} {x v:Value} (h:un1 op x=some v):za0 x=true:=by
 unfold un1 at h;split at h<;>first|rfl|cases h

theorem jef {op:UnOp} {T:TypeId} {x:Operand} {v:Value} (ho:o.op=.unOp op T x) (hx:okX ts hp x) (hv:un1 op (gev ts x)=some v):OpD P o ts (rst hp (val v []).rs) (val v []) :=
 zcc λr D a W hR _ hlow hD=>by
  have h1:=evR hR (x:=x) (by simp [ho,Op.operands]) hx hlow hD
  have hs:=z0w (P:=P) hv W
  rw [zau (z5e hv)] at h1
  refine ⟨?_,zai hs.2⟩
  rw [zau hs.2]
  simp only [execOp,ho,h1.1]
  rw [Sem.run_bind,hs.1]
  rfl

theorem zuu {S T:TypeId} {x v:Value} (h:zmy P S T x=some v):za0 x=true:=by
 unfold zmy at h;split at h<;>first|rfl|cases h

theorem z1z {S T:TypeId} {x:Operand} {v:Value} (ho:o.op=.convert S T x) (hx:okX ts hp x) (hv:zmy P S T (gev ts x)=some v):OpD P o ts (rst hp (val v []).rs) (val v []) :=
 zcc λr D a W hR _ hlow hD=>by
  have h1:=evR hR (x:=x) (by simp [ho,Op.operands]) hx hlow hD
  have hs:=zqr hv W
  rw [zau (zuu hv)] at h1
  refine ⟨?_,zai hs.2⟩
  rw [zau hs.2]
  simp only [execOp,ho,h1.1]
  rw [Sem.run_bind,hs.1]
  rfl

theorem zk7 {T e:TypeId} {len m:Nat} {parts:Array (Nat×Operand)} {z:Value} {cs:Array Value} (ho:o.op=.buildSlice T len parts) (h0:∀ p∈parts.toList,okX ts hp p.2/\za4 (gev ts p.2)=true)
  (hu:P.underlying T=some (.slice e)) (hm:zaz P e=some m) (hz:zbm P e=some z) (hzc:za4 z=true) (hzf:za0 z=true) (hpos:0<len*m) (hle:len*m<=16777216)
  (hcs:zfz (.inr m) ((Array.range (len*m)).map (z.cells[·%z.cells.size]!)) (zd0 ts parts)=some cs) :
  OpD P o ts (rst hp (Eff.mk (.slice (some ⟨nk,0,none⟩) len len) [] [] [(nk,⟨cs,e⟩)] none false).rs) ⟨.slice (some ⟨nk,0,none⟩) len len,[],[],[(nk,⟨cs,e⟩)],none,false⟩ :=
 zjl (by simp [zap,zax,zah,zaj]) λr D a W hR _ hlow hD=>by
  have e1:∀ p∈parts.toList,a.eval p.2=ren r (gev ts p.2)/\zap D (gev ts p.2):=λp hp1 =>
   evR hR (x:=p.2) (by
    simp only [ho,Op.operands]
    simp only [List.mem_toArray,List.mem_map]
    exact ⟨p,hp1,rfl⟩) (h0 p hp1).1 hlow hD
  have e2:(parts.map λ(i,x)=>(i,a.eval x)).toList=(zd0 ts parts).map λp=>(p.1,ren r p.2):=by
   simp only [Array.toList_map,zd0,List.map_map]
   refine List.map_congr_left λp hp1=>?_
   simp only [Function.comp]
   rw [(e1 p hp1).1]
  have hzi:∀ x∈z.cells,zbf x=true:=λx hx=>by
   cases z with
   | tuple vs=>exact absurd rfl (zce hzc vs)
   | agg cs'=>exact Array.all_eq_true_iff_forall_mem.1 hzf x hx
   | _=>simp only [Value.cells] at hx;simp at hx;subst hx;exact hzf
  have hbase:∀ x∈(Array.range (len*m)).map (z.cells[·%z.cells.size]!),zbf x=true:=λx hx=>by
   obtain ⟨j,_,rfl⟩:=Array.mem_map.1 hx
   by_cases hlt:j%z.cells.size<z.cells.size
   ·rw [getElem!_pos z.cells _ hlt];exact hzi _ (Array.getElem_mem hlt)
   ·rw [getElem!_neg z.cells _ hlt];rfl
  have hb2:((Array.range (len*m)).map (z.cells[·%z.cells.size]!)).map (zak r)=(Array.range (len*m)).map (z.cells[·%z.cells.size]!):=zbs λx hx=>zb9 (hbase x hx)
  have hf:=zkd _ _ _ hcs
  have hparts:∀ p∈zd0 ts parts,za4 p.2=true/\zap D p.2:=λp hp1=>by
   simp only [zd0,List.mem_map] at hp1
   obtain ⟨q,hq,rfl⟩:=hp1
   exact ⟨(h0 q hq).2,(e1 q hq).2⟩
  have hfr:=zjp (r:=r) _ _ _ (λp hp1=>(hparts p hp1).1) hf
  rw [hb2,<-e2] at hfr
  refine ⟨?_,zjo (D:=D) _ _ _ hparts (λx hx=>zdl (hbase x hx)) hf⟩
  have hne:¬len*m=0:=by omega
  have hle':¬len*m>2^24:=by omega
  simp only [execOp,ho,Instr.buildSlice,Sem.run_bind,run_underlying hu,Result.andThen_ok,zb2 hm,hne,hle',if_false,zfk hz,Sem.run_pure]
  have:z4v (.inr m)=λi=>some (i*m,m):=rfl
  rw [this] at hfr
  rw [hfr]
  simp [newRow,newObj,Sem.run,ren,zay,zak,zan,Blk.obj]

theorem ztq {r:Nat->Nat} {T:TypeId} {cs:Array Value} {off:Nat} {v:Value} (h:zb5 P T cs off=some v) (W:World):(part T (cs.map (zak r)) off).run P W=.ok (ren r v) W:=by
 unfold zb5 at h
 unfold part
 cases ha:zfm P T with
 | none=>simp [ha] at h
 | some bb =>
  rw [Sem.run_bind,zfb ha]
  simp only [Result.andThen_ok]
  cases bb with
  | true =>
   simp only [ha] at h
   cases hs:zaz P T with
   | none=>simp [hs] at h
   | some m =>
    simp only [hs] at h
    split at h
    ·cases h
     simp [Sem.run_bind,zb2 hs,ren,zay]
    ·simp at h
  | false =>
   simp only [ha] at h
   cases hc:cs[off]? with
   | none=>simp [hc] at h
   | some u =>
    simp only [hc] at h
    split at h
    ·rename_i hsc
     cases h
     simp [hc,zto hsc]
    ·cases h

theorem zss {T:TypeId} {f:Nat} {t:TypeId} {off:Nat} (h:fdX P T f=some (t,off)):∃ fs fd,P.underlying T=some (.struct fs)/\fs[f]? = some fd/\fd.type=t/\fd.offset=off/\∃ m,zaz P fd.type=some (m+1):=by
 unfold fdX at h
 split at h
 ·rename_i fs hu
  split at h
  ·rename_i fd hf
   split at h
   ·rename_i m hs
    cases h
    exact ⟨fs,fd,hu,hf,rfl,rfl,m,hs⟩
   ·cases h
  ·cases h
 ·cases h

theorem zw8 {T e:TypeId} {x i:Operand} {kd:IntKind} {m:Int} {len s:Nat} {cs:Array Value} {v:Value} (ho:o.op=.index T x i) (hx:okX ts hp x) (hi:okX ts hp i) (hgi:gev ts i=.int kd m)
  (hu:P.underlying T=some (.array len e)) (hg:gev ts x=.agg cs) (h0:0<=m) (hl:m<len) (hs:zaz P e=some s) (hv:zb5 P e cs (m.toNat*s)=some v) :
  OpD P o ts (rst hp (val v []).rs) (val v []) :=
 zcc λr D a W hR _ hlow hD=>by
  have h1:=evR hR (x:=x) (by simp [ho,Op.operands]) hx hlow hD
  have h2:=evR hR (x:=i) (by simp [ho,Op.operands]) hi hlow hD
  rw [hg] at h1
  rw [hgi] at h2
  have h3:a.eval x=.agg (cs.map (zak r)):=h1.1
  have h4:a.eval i=.int kd m:=h2.1
  refine ⟨?_,zkk hv h1.2⟩
  have:=ztq (r:=r) hv W
  simp [execOp,ho,Instr.index,h3,h4,asIntOf,run_underlying hu,h0,hl,zb2 hs,this]

theorem zn7 {T:TypeId} {x i:Operand} {kd:IntKind} {m:Int} {s:ByteArray} {b:UInt8} (ho:o.op=.index T x i) (hx:okX ts hp x) (hi:okX ts hp i) (hgi:gev ts i=.int kd m)
  (hu:P.underlying T=some .string) (hg:gev ts x=.string s) (hb:(if 0<=m then s[m.toNat]? else none)=some b) :
  OpD P o ts (rst hp (val (.int .u8 b.toNat) []).rs) (val (.int .u8 b.toNat) []) :=
 zcc λr D a W hR _ hlow hD=>by
  have h1:=evR hR (x:=x) (by simp [ho,Op.operands]) hx hlow hD
  have h2:=evR hR (x:=i) (by simp [ho,Op.operands]) hi hlow hD
  rw [hg] at h1
  rw [hgi] at h2
  have h3:a.eval x=.string s:=h1.1
  have h4:a.eval i=.int kd m:=h2.1
  refine ⟨?_,trivial⟩
  simp [execOp,ho,Instr.index,h3,h4,asIntOf,run_underlying hu,hb,ren,zay,zak,zan]

theorem zw6 {T t:TypeId} {x:Operand} {f off:Nat} {cs:Array Value} {v:Value} (ho:o.op=.field T x f) (hx:okX ts hp x) (hf:fdX P T f=some (t,off)) (hg:gev ts x=.agg cs) (hv:zb5 P t cs off=some v) :
  OpD P o ts (rst hp (val v []).rs) (val v []) :=
 zcc λr D a W hR _ hlow hD=>by
  have h1:=evR hR (x:=x) (by simp [ho,Op.operands]) hx hlow hD
  rw [hg] at h1
  obtain ⟨fs,fd,hu,hfd,rfl,rfl,_⟩:=zss hf
  have h3:a.eval x=.agg (cs.map (zak r)):=h1.1
  refine ⟨?_,zkk hv h1.2⟩
  have:=ztq (r:=r) hv W
  simp [execOp,ho,Instr.field,h3,asAgg,run_underlying hu,hfd,this]

theorem zmm {T t:TypeId} {x:Operand} {f off k oo:Nat} (ho:o.op=.fieldAddr T x f) (hx:okX ts hp x) (hf:fdX P T f=some (t,off)) (hg:gev ts x=.pointer (some ⟨k,oo,none⟩)) :
  OpD P o ts (rst hp (val (.pointer (some ⟨k,oo+off,none⟩)) []).rs) (val (.pointer (some ⟨k,oo+off,none⟩)) []) :=
 zcc λr D a W hR _ hlow hD=>by
  have h1:=evR hR (x:=x) (by simp [ho,Op.operands]) hx hlow hD
  rw [hg] at h1
  obtain ⟨fs,fd,hu,hfd,rfl,rfl,m,hs⟩:=zss hf
  have h3:a.eval x=.pointer (some ⟨r k,oo,none⟩):=h1.1
  refine ⟨?_,by simpa [zap,zax,zah,zaj] using h1.2⟩
  simp [execOp,ho,Instr.fieldAt,h3,Instr.sureAddr,run_underlying hu,hfd,fieldPlace,zb2 hs,zhn,ren,zay,zak,zan]

theorem zn9 {x:Operand} {k oo:Nat} (ho:o.op=.nilCheck x) (hx:okX ts hp x) (hg:gev ts x=.pointer (some ⟨k,oo,none⟩)) :
  OpD P o ts (rst hp (val (.pointer (some ⟨k,oo,none⟩)) []).rs) (val (.pointer (some ⟨k,oo,none⟩)) []) :=
 zcc λr D a W hR _ hlow hD=>by
  have h1:=evR hR (x:=x) (by simp [ho,Op.operands]) hx hlow hD
  rw [hg] at h1
  have h3:a.eval x=.pointer (some ⟨r k,oo,none⟩):=h1.1
  refine ⟨?_,h1.2⟩
  simp [execOp,ho,h3,ren,zay,zak,zan]

theorem zwn (l:Int) (h0:0<l) (h1:l<=4096):IntKind.i64.wrap l=l:=by
 simp only [IntKind.wrap,IntKind.bits,IntKind.signed]
 simp
 omega
theorem zmn {T e:TypeId} {m b:Nat} {l:Int} {x y:Operand} {z:Value} (ho:o.op=.makeSlice T x y) (h0:okX ts hp x) (h1:okX ts hp y) (hx:gev ts x=.int .i64 l) (hy:gev ts y=.int .i64 l)
  (hu:P.underlying T=some (.slice e)) (hm:zaz P e=some m) (hz:zbm P e=some z) (hb:tyB P e=some b) (hzc:za4 z=true) (hzf:za0 z=true) (hl0:0<l) (hl1:l<=4096) (hb1:b<=4096) (hpos:0<m) :
  OpD P o ts (rst hp (Eff.mk (.slice (some ⟨nk,0,none⟩) l.toNat l.toNat) [] [] [(nk,⟨(Array.range (l.toNat*m)).map (z.cells[·%z.cells.size]!),e⟩)] none false).rs) ⟨.slice (some ⟨nk,0,none⟩) l.toNat l.toNat,[],[],[(nk,⟨(Array.range (l.toNat*m)).map (z.cells[·%z.cells.size]!),e⟩)],none,false⟩ :=
 zjl (by simp [zap,zax,zah,zaj]) λr D a W hR _ hlow hD=>by
  have e1:=evR hR (x:=x) (by simp [ho,Op.operands]) h0 hlow hD
  have e2:=evR hR (x:=y) (by simp [ho,Op.operands]) h1 hlow hD
  rw [hx] at e1
  rw [hy] at e2
  have e1:a.eval x=.int .i64 l:=e1.1
  have e2:a.eval y=.int .i64 l:=e2.1
  have hzi:∀ x∈z.cells,zbf x=true:=λx hx=>by
   cases z with
   | tuple vs=>exact absurd rfl (zce hzc vs)
   | agg cs'=>exact Array.all_eq_true_iff_forall_mem.1 hzf x hx
   | _=>simp only [Value.cells] at hx;simp at hx;subst hx;exact hzf
  have hbase:∀ x∈(Array.range (l.toNat*m)).map (z.cells[·%z.cells.size]!),zbf x=true:=λx hx=>by
   obtain ⟨j,_,rfl⟩:=Array.mem_map.1 hx
   by_cases hlt:j%z.cells.size<z.cells.size
   ·rw [getElem!_pos z.cells _ hlt];exact hzi _ (Array.getElem_mem hlt)
   ·rw [getElem!_neg z.cells _ hlt];rfl
  have hb2:((Array.range (l.toNat*m)).map (z.cells[·%z.cells.size]!)).map (zak r)=(Array.range (l.toNat*m)).map (z.cells[·%z.cells.size]!):=zbs λx hx=>zb9 (hbase x hx)
  refine ⟨?_,λx hx=>zdl (hbase x hx)⟩
  have hw:IntKind.i64.wrap l=l:=zwn l hl0 hl1
  have hbl:(b:Int)*l<=16777216:=by
   have:=Int.mul_le_mul (a:=(b:Int)) (b:=l) (c:=4096) (d:=4096) (by omega) hl1 (by omega) (by omega)
   omega
  have hbn:l.toNat*b<=16777216:=by
   have:=Nat.mul_le_mul (show l.toNat<=4096 by omega) hb1
   omega
  have t1:(decide (l<0)||decide ((b:Int)*l>2^48))=false:=by
   rw [Bool.or_eq_false_iff]
   exact ⟨decide_eq_false (by omega),decide_eq_false (by omega)⟩
  have t2:¬l.toNat*b>roomBytes:=by unfold roomBytes;omega
  have t3:¬l.toNat*m=0:=by
   have:=Nat.mul_pos (show 0<l.toNat by omega) hpos
   omega
  unfold tyB at hb
  cases hi:P.info? e with
  | none=>rw [hi] at hb;cases hb
  | some i =>
   rw [hi] at hb
   simp only [Option.map_some,Option.some.injEq] at hb
   subst hb
   have hty:∀ W,(typeInfo e).run P W=.ok i W:=λW=>by simp [typeInfo,hi]
   simp only [execOp,ho,Instr.makeSlice,e1,e2,asInt,asIntOf,Sem.run_bind,run_underlying hu,Result.andThen_ok,zb2 hm,hty,Sem.run_pure,hw,t1]
   have t5:(decide (l<0))=false:=decide_eq_false (by omega)
   have t6:(decide (l>l))=false:=decide_eq_false (by omega)
   simp [askRoom,t2,t3,t5,t6,zb2 hm,zfk hz,newRow,newObj,Sem.run,ren,zay,zak,zan,Blk.obj,hb2]
theorem zh3 {y:Nat} {k:IntKind} {m:Int} {c:BoundsCode} (h:0<=m/\m<=y) (W:World):(Instr.sliceBound (.int k m) y c).run P W=.ok m.toNat W:=by
 simp [Instr.sliceBound,asIntOf,h]
theorem zdo {b:Bool} {len cap l h:Nat} {lo hi:Option Value} (hs:zec len cap lo hi=some (l,h)) (W:World):(Instr.sliceBounds b len cap lo hi none).run P W=.ok (l,h,cap) W:=by
 unfold zec at hs
 cases hh:hiG len cap hi with
 | none=>rw [hh] at hs;cases hs
 | some h' =>
  rw [hh] at hs
  simp only [Option.map_eq_some_iff] at hs
  obtain ⟨l',hl,e⟩:=hs
  cases e
  unfold Instr.sliceBounds
  cases hi with
  | none =>
   simp only [hiG,Option.some.injEq] at hh;subst hh
   cases lo with
   | none=>simp only [loG,Option.some.injEq] at hl;subst hl;simp
   | some v =>
    cases v<;>simp only [loG] at hl<;>first|(cases hl;done)|skip
    split at hl
    ·rename_i hc
     cases hl
     simp [zh3 hc]
    ·cases hl
  | some u =>
   cases u<;>simp only [hiG] at hh<;>first|(cases hh;done)|skip
   split at hh
   ·rename_i hd
    cases hh
    cases lo with
    | none=>simp only [loG,Option.some.injEq] at hl;subst hl;simp [zh3 hd]
    | some v =>
     cases v<;>simp only [loG] at hl<;>first|(cases hl;done)|skip
     split at hl
     ·rename_i hc
      cases hl
      simp [zh3 hd,zh3 hc]
     ·cases hl
   ·cases hh

theorem zwb {len cap:Nat} {lo hi:Option Value} {p:Nat×Nat} (h:zec len cap lo hi=some p):(∀ v,lo=some v->za0 v=true)/\(∀ v,hi=some v->za0 v=true):=by
 unfold zec at h
 split at h
 ·cases h
 ·rename_i h' hh
  refine ⟨λv e=>?_,λv e=>?_⟩
  ·subst e
   cases v<;>first|rfl|(simp [loG] at h)
  ·subst e
   cases v<;>first|rfl|(simp [hiG] at hh)

theorem znr {a:Option (Nat×Nat)} {s c:Nat} {p:Option (Nat×Nat)} {v:Value} (h:slV a s c p=some v):∃ l hh,p=some (l,hh)/\v=.slice (a.map λp=>⟨p.1,if c=l then p.2 else p.2+l*s,none⟩) (hh - l) (c - l):=by
 unfold slV at h
 split at h
 ·rename_i l hh
  cases h;exact ⟨l,hh,rfl,rfl⟩
 ·cases h

theorem zxb {T:TypeId} {x:Operand} {lo hi mx:Option Operand} {v:Value} (ho:o.op=.slice T x lo hi mx) (hx:okX ts hp x) (hlo:∀ y∈lo.toList,okX ts hp y) (hhi:∀ y∈hi.toList,okX ts hp y) (hmx:mx.isNone=true)
  (hv:slX P T (gev ts x) (lo.map (gev ts)) (hi.map (gev ts))=some v):OpD P o ts (rst hp (val v []).rs) (val v []) :=
 zcc λr D a W hR _ hlow hD=>by
  obtain rfl:mx=none:=by cases mx<;>simp_all
  have h1:=evR hR (x:=x) (by simp [ho,Op.operands]) hx hlow hD
  have key:∀ {n c:Nat} {p:Nat×Nat},zec n c (lo.map (gev ts)) (hi.map (gev ts))=some p->lo.map a.eval=lo.map (gev ts)/\hi.map a.eval=hi.map (gev ts):=λ{n c p} hp1=>by
   obtain ⟨f1,f2⟩:=zwb hp1
   constructor
   ·cases lo with
    | none=>rfl
    | some y =>
     simp only [Option.map_some] at f1 |-
     rw [(evR hR (x:=y) (by simp [ho,Op.operands]) (hlo y (by simp)) hlow hD).1,zau (f1 _ rfl)]
   ·cases hi with
    | none=>rfl
    | some y =>
     simp only [Option.map_some] at f2 |-
     rw [(evR hR (x:=y) (by simp [ho,Op.operands]) (hhi y (by simp)) hlow hD).1,zau (f2 _ rfl)]
  have ifs:∀ (c l k o1 o2:Nat),(if c=l then (⟨k,o1,none⟩:Addr) else ⟨k,o2,none⟩)=⟨k,if c=l then o1 else o2,none⟩:=λc l k o1 o2=>by split<;>rfl
  unfold slX at hv
  split at hv
  ·rename_i n e hu
   split at hv
   ·rename_i k off hg
    split at hv
    ·rename_i s hs
     obtain ⟨l,hh,hp1,rfl⟩:=znr hv
     obtain ⟨q1,q2⟩:=key hp1
     rw [hg] at h1
     have h3:a.eval x=.pointer (some ⟨r k,off,none⟩):=h1.1
     refine ⟨?_,by simpa [zap,zax,zah,zaj] using h1.2⟩
     have e1:=zdo (P:=P) (b:=false) hp1 W
     simp only [execOp,ho,Option.map_none,q1,q2,h3,Instr.sliceAt,Sem.run_bind,run_underlying hu,Result.andThen_ok,Instr.sureAddr,Sem.run_pure,e1,zb2 hs,zhn]
     simp [ren,zay,zak,zan,ifs]
    ·cases hv
   ·cases hv
  ·rename_i e hu
   split at hv
   ·rename_i k off n c hg
    split at hv
    ·rename_i s hs
     obtain ⟨l,hh,hp1,rfl⟩:=znr hv
     obtain ⟨q1,q2⟩:=key hp1
     rw [hg] at h1
     have h3:a.eval x=.slice (some ⟨r k,off,none⟩) n c:=h1.1
     refine ⟨?_,by simpa [zap,zax,zah,zaj] using h1.2⟩
     have e1:=zdo (P:=P) (b:=true) hp1 W
     simp only [execOp,ho,Option.map_none,q1,q2,h3,Instr.sliceAt,Instr.slice,Sem.run_bind,run_underlying hu,Result.andThen_ok,Sem.run_pure,e1,zb2 hs]
     simp [ren,zay,zak,zan,zhn]
     split<;>rfl
    ·cases hv
   ·rename_i n c hg
    split at hv
    ·rename_i s hs
     obtain ⟨l,hh,hp1,rfl⟩:=znr hv
     obtain ⟨q1,q2⟩:=key hp1
     rw [hg] at h1
     have h3:a.eval x=.slice none n c:=h1.1
     refine ⟨?_,by trivial⟩
     have e1:=zdo (P:=P) (b:=true) hp1 W
     simp only [execOp,ho,Option.map_none,q1,q2,h3,Instr.sliceAt,Instr.slice,Sem.run_bind,run_underlying hu,Result.andThen_ok,Sem.run_pure,e1,zb2 hs]
     simp [ren,zay,zak,zan]
    ·cases hv
   ·cases hv
  ·rename_i hu
   split at hv
   ·rename_i s hg
    unfold slS at hv
    split at hv
    ·rename_i l hh hp1
     cases hv
     obtain ⟨q1,q2⟩:=key hp1
     rw [hg] at h1
     have h3:a.eval x=.string s:=h1.1
     refine ⟨?_,by trivial⟩
     have e1:=zdo (P:=P) (b:=false) hp1 W
     simp only [execOp,ho,Option.map_none,q1,q2,h3,Instr.sliceAt,Instr.slice,Sem.run_bind,run_underlying hu,Result.andThen_ok,Sem.run_pure]
     simp [Sem.run_bind,e1,ren,zay,zak,zan]
    ·cases hv
   ·cases hv
  ·cases hv

theorem z8g {T:TypeId} {x:Operand} {v:Value} (ho:o.op=.sliceToArrayPointer T x) (hx:okX ts hp x) (hv:jcj P T (gev ts x)=some v):OpD P o ts (rst hp (val v []).rs) (val v []) :=
 zcc λr D a W hR _ hlow hD=>by
  have h1:=evR hR (x:=x) (by simp [ho,Op.operands]) hx hlow hD
  unfold jcj at hv
  split at hv
  ·rename_i n e hu
   split at hv
   ·rename_i ad len c hg
    split at hv
    ·rename_i hle
     cases hv
     rw [hg] at h1
     have hn:¬len<n:=by omega
     cases ad with
     | none =>
      have h3:a.eval x=.slice none len c:=h1.1
      exact ⟨by simp [execOp,ho,Instr.arrayAt,h3,run_underlying hu,hn,ren,zay,zak,zan],by trivial⟩
     | some ad =>
      have h3:a.eval x=.slice (some { ad with block:=r ad.block }) len c:=h1.1
      exact ⟨by simp [execOp,ho,Instr.arrayAt,h3,run_underlying hu,hn,ren,zay,zak,zan],by simpa [zap,zax,zah,zaj] using h1.2⟩
    ·cases hv
   ·cases hv
  ·cases hv

theorem z31 {r:Nat->Nat} {T t:TypeId} {u v:Value} (h:jdd P T u=some v) (W:World):(Builtin.len_ #[T] t #[ren r u]).run P W=.ok v W/\za0 v=true:=by
 unfold jdd at h
 split at h
 ·rename_i hu
  split at h
  ·cases h
   exact ⟨by simp [Builtin.len_,run_underlying hu,ren,zay,zak,zan,goInt],rfl⟩
  ·cases h
 ·rename_i n e hu
  cases h
  exact ⟨by simp [Builtin.len_,run_underlying hu,goInt],rfl⟩
 ·rename_i e hu
  split at h
  ·rename_i ad n c
   cases h
   cases ad<;>exact ⟨by simp [Builtin.len_,run_underlying hu,ren,zay,zak,zan,goInt],rfl⟩
  ·cases h
 ·cases h
theorem zpg {b:Bool}:∀ {l:List Value} {x v:Value},zqb b x l=some v->za0 x=true/\(∀ x∈l,za0 x=true)/\za0 v=true
 | [],x,v,h=>by
  cases x<;>simp only [zqb,jkn] at h<;>first|(cases h;done)|skip
  cases h;exact ⟨rfl,by simp,rfl⟩
 | y::l,x,v,h=>by
  simp only [zqb] at h
  split at h
  ·rename_i z hz
   have ih:=zpg h
   unfold zrf at hz
   split at hz
   ·cases hz
    exact ⟨rfl,λq hq=>by
     simp only [List.mem_cons] at hq
     rcases hq with rfl|hq
     ·rfl
     ·exact ih.2.1 q hq,ih.2.2⟩
   ·cases hz
  ·cases h
theorem zko {b:Bool} {l:List Value} {v:Value} (h:zy2 b l=some v):(∀ x∈l,za0 x=true)/\za0 v=true:=by
 cases l with
 | nil=>cases h
 | cons x l =>
  have:=zpg h
  exact ⟨λq hq=>by
   simp only [List.mem_cons] at hq
   rcases hq with rfl|hq
   ·exact this.1
   ·exact this.2.1 q hq,this.2.2⟩
theorem zs7:∀ {l:List Value} {x v:Value} (W:World),zqb true x l=some v->(l.foldlM Builtin.max2 x).run P W=.ok v W
 | [],x,v,W,h=>by
  cases x<;>simp only [zqb,jkn] at h<;>first|(cases h;done)|skip
  cases h;rfl
 | y::l,x,v,W,h=>by
  simp only [zqb] at h
  split at h
  ·rename_i z hz
   have hr:=zs7 W h
   unfold zrf at hz
   split at hz
   ·cases hz
    simp only [if_true] at hr
    simp only [List.foldlM_cons,Sem.run_bind,Builtin.max2,Sem.run_pure,Result.andThen_ok]
    exact hr
   ·cases hz
  ·cases h
theorem zta:∀ {l:List Value} {x v:Value} (W:World),zqb false x l=some v->(l.foldlM Builtin.min2 x).run P W=.ok v W
 | [],x,v,W,h=>by
  cases x<;>simp only [zqb,jkn] at h<;>first|(cases h;done)|skip
  cases h;rfl
 | y::l,x,v,W,h=>by
  simp only [zqb] at h
  split at h
  ·rename_i z hz
   have hr:=zta W h
   unfold zrf at hz
   split at hz
   ·cases hz
    simp only [Bool.false_eq_true,if_false] at hr
    simp only [List.foldlM_cons,Sem.run_bind,Builtin.min2,Sem.run_pure,Result.andThen_ok]
    exact hr
   ·cases hz
  ·cases h
theorem jaj {l:List Value} {v:Value} (W:World) (h:zy2 true l=some v):∃ x rest,l=x::rest/\(rest.foldlM Builtin.max2 x).run P W=.ok v W:=by
 cases l with
 | nil=>cases h
 | cons x l=>exact ⟨x,l,rfl,zs7 W h⟩
theorem jal {l:List Value} {v:Value} (W:World) (h:zy2 false l=some v):∃ x rest,l=x::rest/\(rest.foldlM Builtin.min2 x).run P W=.ok v W:=by
 cases l with
 | nil=>cases h
 | cons x l=>exact ⟨x,l,rfl,zta W h⟩
theorem zw5 {c:Call} {v:Value} (ho:o.op=.call c) (hx:∀ x∈c.args.toList,okX ts hp x) (hv:zlh P ts c=some v):OpD P o ts (rst hp (val v []).rs) (val v []) :=
 zcc λr D a W hR _ hlow hD=>by
  have hev:∀ x∈c.args,a.eval x=ren r (gev ts x):=λx hx1=>(evR hR (x:=x) (by simp [ho,Op.operands,Call.operands,hx1]) (hx x (by simpa using hx1)) hlow hD).1
  have hlist:c.args.toList.map a.eval=c.args.toList.map λx=>ren r (gev ts x):=List.map_congr_left λx hx1=>hev x (by simpa using hx1)
  have fl:∀ {b:Bool},zy2 b (c.args.toList.map (gev ts))=some v->(c.args.map a.eval).toList=c.args.toList.map (gev ts):=λ{b} h=>by
   rw [Array.toList_map,hlist]
   exact List.map_congr_left λx hx1=>zau ((zko h).1 _ (List.mem_map.2 ⟨x,hx1,rfl⟩))
  unfold zlh at hv
  split at hv
  ·rename_i hc
   split at hv
   ·rename_i x T h1 h2
    have e1:c.args=#[x]:=by rw [<-Array.toArray_toList (xs:=c.args),h1]
    have e2:c.argTypes=#[T]:=by rw [<-Array.toArray_toList (xs:=c.argTypes),h2]
    have e3:=z31 (P:=P) (r:=r) (t:=o.type) hv W
    refine ⟨?_,zai e3.2⟩
    have e4:=hev x (by rw [e1];simp)
    simp only [execOp,ho,resolve,hc,Sem.run_bind,Sem.run_pure,Result.andThen_ok,invoke,builtin,e1,e2,zau e3.2]
    simp only [List.map_toArray,List.map_cons,List.map_nil,e4,e3.1,Result.andThen_ok]
   ·cases hv
  ·rename_i hc
   have e3:=zko hv
   refine ⟨?_,zai e3.2⟩
   obtain ⟨x,rest,e5,e6⟩:=jaj (P:=P) W hv
   have e4:=fl hv
   simp only [execOp,ho,resolve,hc,Sem.run_bind,Sem.run_pure,Result.andThen_ok,invoke,builtin,Builtin.max_,e4,e5,e6,zau e3.2]
  ·rename_i hc
   have e3:=zko hv
   refine ⟨?_,zai e3.2⟩
   obtain ⟨x,rest,e5,e6⟩:=jal (P:=P) W hv
   have e4:=fl hv
   simp only [execOp,ho,resolve,hc,Sem.run_bind,Sem.run_pure,Result.andThen_ok,invoke,builtin,Builtin.min_,e4,e5,e6,zau e3.2]
  ·cases hv

def unD (o:Oper) (ts:Nat->Value):Prop :=
 match o.op with
 | .call c=>match c.callee with
  | .value (.tmp t)=>ts t=undef
  | .value (.func _)=>True
  | .builtin _=>True
  | _=>False
 | _=>True
def unC (P:Program) (o:Oper):Prop :=
 match o.op with
 | .call c=>match c.callee with
  | .value (.func f)=>∃ fn,P.funcs[f]? = some fn
  | _=>True
 | _=>True

theorem z1f {y:YG} {yc:Nat} {hp:Hp} (h:y.lies yc hp):zaa (zt4 y yc).ws=match y.sh with|none=>[]|some s=>[s.w]:=by
 unfold YG.lies at h
 unfold zt4 YG.pan
 cases hs:y.sh with
 | none=>simp only;split<;>rfl
 | some s =>
  rw [hs] at h
  have e:(if yc=y.stop then y.pn else none)=none:=by split<;>first|exact h.2.2|rfl
  rw [e]
  rfl
def okp (P:Program) (Y:Option YG):OKP where
 ok o ts yc hp e:=(e.yl=false/\OpD P o ts hp e)\/(e.yl=true/\OpY Y o ts yc hp e)
 congr o ts ts' yc yc' hp e ht hy h:=by
  rcases h with ⟨h1,h2⟩|⟨h1,y,f,args,T,h2,h3,h4,h5,h6,h7,h8,h9,h10⟩
  ·exact .inl ⟨h1,h2.congr ht⟩
  ·have hm:∀ x∈o.op.operands,gev ts x=gev ts' x:=λx hx=>by
    cases x<;>first|rfl|exact ht _ hx
   have hk:∀ x∈o.op.operands,okT ts x->okT ts' x:=λx hx h=>by
    cases x<;>first|exact h|(have:=ht _ hx;simp only [okT] at h |-;rwa [<-this])
   have hf:f∈o.op.operands:=by simp [h3,Op.operands,Call.operands]
   have ha:∀ x∈args,x∈o.op.operands:=λx hx=>by simp [h3,Op.operands,Call.operands,hx]
   refine .inr ⟨h1,y,f,args,T,h2,h3,hk f hf h4,λx hx=>⟨hk x (ha x (by simpa using hx)) (h5 x hx).1,by rw [<-hm x (ha x (by simpa using hx))];exact (h5 x hx).2⟩,by rw [<-hm f hf];exact h6,by rw [<-hy h1];exact h7,?_,by rw [<-hy h1];exact h9,by rw [<-hy h1];exact h10⟩
   rw [<-hy h1,h8]
   congr 1
   exact Array.map_congr_left λx hx=>by rw [hm x (ha x hx)]
 yw o ts yc hp e o' ts' yc' hp' e' h h' he he':=by
  rcases h with ⟨h1,_⟩|⟨_,y,f,args,T,h2,_,_,_,_,_,_,h9,h10⟩
  ·rw [h1] at he;cases he
  ·rcases h' with ⟨k1,_⟩|⟨_,y',f',args',T',k2,_,_,_,_,_,_,k9,k10⟩
   ·rw [k1] at he';cases he'
   ·rw [h2] at k2
    cases k2
    rw [h9,k9,z1f h10,z1f k10]
 un o ts:=unD o ts/\unC P o
 uncongr o ts ts' ht h:=by
  refine ⟨?_,h.2⟩
  have h1:=h.1
  unfold unD at *
  split
  ·rename_i c hc
   simp only [hc] at h1
   cases hcc:c.callee with
   | value x =>
    simp only [hcc] at h1 |-
    cases x with
    | tmp t=>simp only at h1 |-;rw [<-ht t (by simp [hc,hcc,Op.operands,Call.operands])];exact h1
    | func f=>trivial
    | _=>exact h1.elim
   | invoke x m=>simp only [hcc] at h1
   | builtin b=>trivial
  ·trivial

theorem zs9 {Y:Option YG}:zw2 P (okp P Y):=by
 intro o ts r D a W hR hu f hf
 obtain ⟨h1,h2⟩:=hu
 unfold Oper.about at hf
 unfold unD at h1
 unfold unC at h2
 split at hf
 ·rename_i c hc
  simp only [hc] at h1 h2
  cases hcc:c.callee with
  | value x =>
   simp only [hcc] at h1 h2
   cases x with
   | tmp t =>
    simp only at h1
    have:=((hR t).resolve_left (by rw [h1];simp [undef,zcm])).1
    rw [h1,zci] at this
    have he:a.eval (.tmp t)=undef:=this
    simp [resolve,hcc,he,Deferred.ofValue,undef,stuck] at hf
   | func g =>
    simp only at h2
    simp [resolve,hcc,Act.eval,Deferred.ofValue,Target.leads] at hf
    subst hf;exact h2
   | _=>exact h1.elim
  | invoke x m=>simp only [hcc] at h1
  | builtin b=>simp [resolve,hcc,Target.leads] at hf
 ·cases hf
theorem zxd {c:Call} {f:Operand} {g:FuncId} {first cap:Array Value} {oc:Out} (hGF:zbo G) (hG:∀ k,k<100->hp k=G k) (ho:o.op=.call c) (hc:c.callee=.value f) (hf:okX ts hp f) (hgf:gev ts f=.func (.func g) first cap)
  (hfi:first.size=0) (hca:cap.size=0) (ha:∀ x∈c.args.toList,okX ts hp x) (hr:zuf P G g (c.args.map (gev ts)) oc):OpD P o ts (rst hp oc.eff.rs) oc.eff:=by
 have ers:oc.eff.rs=[]:=by cases oc<;>rfl
 rw [ers]
 intro r D a W hR hS _ hlow hD _
 have hfl:∀ x∈c.args.map (gev ts),za0 x=true:=hr.2.1
 obtain rfl:first=#[]:=by cases first;simpa using hfi
 obtain rfl:cap=#[]:=by cases cap;simpa using hca
 have h1:=evR (rs:=[]) hR (x:=f) (by simp [ho,hc,Op.operands,Call.operands]) hf hlow hD
 rw [hgf] at h1
 have h3:a.eval f=.func (.func g) #[] #[]:=by rw [h1.1];simp [ren,zay,zak]
 have hargs:c.args.map a.eval=c.args.map (gev ts):=Array.map_congr_left λx hx=>by
  rw [(evR (rs:=[]) hR (x:=x) (by simp [ho,Op.operands,Call.operands,hx]) (ha x (by simpa using hx)) hlow hD).1]
  exact zau (hfl _ (Array.mem_map.2 ⟨x,hx,rfl⟩))
 obtain ⟨hv,_,hen,hcall⟩:=hr
 have hrun:(execOp a.eval o).run P W=.ok (.enter g (c.args.map (gev ts))) W:=by
  simp [execOp,ho,resolve,hc,h3,Deferred.ofValue,invoke,hargs,hen]
 have hgok:GOK G W:=zx6 hGF hG hS hlow hD
 unfold znz
 rw [hrun]
 refine (hcall W hgok).mono λe W'' he=>?_
 cases oc with
 | ret v =>
  obtain ⟨rfl,hb⟩:=he
  have hv:=hv v rfl
  exact ⟨rfl,r,λ_ _=>rfl,(zau hv).symm,zai hv,Turn.of_below hb⟩
 | pan v =>
  obtain ⟨rfl,hb⟩:=he
  exact ⟨v,rfl,rfl,hb⟩
theorem zxa {x:Operand} {T:TypeId} {u:Value} (ho:o.op=.panic x) (hx:okX ts hp x) (hf:za0 (gev ts x)=true) (hg:gev ts x=.iface T u):OpD P o ts (rst hp []) ⟨zcm,[],[],[],some (.iface T u),false⟩:=by
 intro r D a W hR _ _ hlow hD _
 have h1:=evR (rs:=[]) hR (x:=x) (by simp [ho,Op.operands]) hx hlow hD
 have h2:a.eval x=.iface T u:=by rw [h1.1,zau hf,hg]
 unfold znz
 have:(execOp a.eval o).run P W=.halt (.panic (.iface T u)) W:=by
  simp [execOp,ho,h2,Instr.panic]
 rw [this]
 exact ⟨by simp [Oper.about,ho],rfl,Below.refl _ _⟩

theorem zf8 {C:Eff->Prop} (hGF:zbo G) (hG:∀ k,k<100->hp k=G k) (h:opX P G V yc o ts hp nk C):∃ e,(okp P V.Y).ok o ts yc (rst hp e.rs) e/\Shape hp nk e/\C e:=by
 unfold opX at h
 split at h
 case h_1 x ho=>exact ⟨_,.inl ⟨rfl,zse (.inl ho) h.1⟩,.val,h.2⟩
 case h_2 x ho=>exact ⟨_,.inl ⟨rfl,zse (.inr ho) h.1⟩,.val,h.2⟩
 case h_3 c x y ho =>
  obtain ⟨h0,h⟩:=h
  split at h
  ·rename_i b hb
   exact ⟨_,.inl ⟨rfl,z11 ho h0 hb h.1 h.2.1⟩,.val,h.2.2⟩
  ·exact h.elim
 case h_4 T ho =>
  split at h
  ·rename_i z hz
   exact ⟨_,.inl ⟨rfl,zw3 ho hz h.1 h.2.1⟩,.new,h.2.2⟩
  ·exact h.elim
 case h_5 T x ho=>exact ⟨_,.inl ⟨rfl,z8i ho h.1 h.2.1⟩,.new,h.2.2⟩
 case h_6 T x ho =>
  obtain ⟨h0,h⟩:=h
  split at h
  ·rename_i k off hg
   split at h
   ·rename_i b hb
    split at h
    ·rename_i v hv
     exact ⟨_,.inl ⟨rfl,z10 ho h0 hg hb hv⟩,.val,h⟩
    ·exact h.elim
   ·exact h.elim
  ·exact h.elim
 case h_7 T x y ho =>
  obtain ⟨h0,h0',h⟩:=h
  split at h
  ·rename_i k off hg
   split at h
   ·rename_i b hb
    obtain ⟨hown,h1,h2,h3,h4,h5⟩:=h
    exact ⟨_,.inl ⟨rfl,zxc ho h0 h0' hg hb hown h1 h2 h3⟩,.wr (by unfold dom;rw [hb];simp) h4,h5⟩
   ·exact h.elim
  ·exact h.elim
 case h_8 x i ho =>
  obtain ⟨h0,h⟩:=h
  split at h
  ·rename_i vs hg
   split at h
   ·rename_i v hv
    exact ⟨_,.inl ⟨rfl,zqg ho h0 hg hv h.1⟩,.val,h.2⟩
   ·exact h.elim
  ·exact h.elim
 case h_9 T x i ho =>
  obtain ⟨h0,h0',h⟩:=h
  split at h
  ·rename_i kd m hgi
   split at h
   ·rename_i len e hu
    split at h
    ·rename_i k off hg
     obtain ⟨⟨h1,h2⟩,h⟩:=h
     split at h
     ·rename_i s hs
      exact ⟨_,.inl ⟨rfl,zub ho h0 h0' hgi hu hg h1 h2 hs⟩,.val,h⟩
     ·exact h.elim
    ·exact h.elim
   ·rename_i e hu
    split at h
    ·rename_i k off len cap hg
     obtain ⟨⟨h1,h2⟩,h⟩:=h
     split at h
     ·rename_i s hs
      exact ⟨_,.inl ⟨rfl,zuc ho h0 h0' hgi hu hg h1 h2 hs⟩,.val,h⟩
     ·exact h.elim
    ·exact h.elim
   ·exact h.elim
  ·exact h.elim
 case h_10 T x i ho =>
  obtain ⟨h0,h0',h⟩:=h
  split at h
  ·rename_i kd m hgi
   split at h
   ·rename_i len e hu
    split at h
    ·rename_i cs hg
     obtain ⟨⟨h1,h2⟩,h⟩:=h
     split at h
     ·rename_i s hs
      split at h
      ·rename_i v hv
       exact ⟨_,.inl ⟨rfl,zw8 ho h0 h0' hgi hu hg h1 h2 hs hv⟩,.val,h⟩
      ·exact h.elim
     ·exact h.elim
    ·exact h.elim
   ·rename_i hu
    split at h
    ·rename_i s hg
     split at h
     ·rename_i b hb
      exact ⟨_,.inl ⟨rfl,zn7 ho h0 h0' hgi hu hg hb⟩,.val,h⟩
     ·exact h.elim
    ·exact h.elim
   ·exact h.elim
  ·exact h.elim
 case h_11 T x f ho =>
  obtain ⟨h0,h⟩:=h
  split at h
  ·rename_i t off hf
   split at h
   ·rename_i cs hg
    split at h
    ·rename_i v hv
     exact ⟨_,.inl ⟨rfl,zw6 ho h0 hf hg hv⟩,.val,h⟩
    ·exact h.elim
   ·exact h.elim
  ·exact h.elim
 case h_12 T x f ho =>
  obtain ⟨h0,h⟩:=h
  split at h
  ·rename_i t off hf
   split at h
   ·rename_i k oo hg
    exact ⟨_,.inl ⟨rfl,zmm ho h0 hf hg⟩,.val,h⟩
   ·exact h.elim
  ·exact h.elim
 case h_13 T x lo hi mx ho =>
  obtain ⟨h0,h1,h2,h3,h⟩:=h
  split at h
  ·rename_i v hv
   exact ⟨_,.inl ⟨rfl,zxb ho h0 h1 h2 h3 hv⟩,.val,h⟩
  ·exact h.elim
 case h_14 T x ho =>
  obtain ⟨h0,h⟩:=h
  split at h
  ·rename_i v hv
   exact ⟨_,.inl ⟨rfl,z8g ho h0 hv⟩,.val,h⟩
  ·exact h.elim
 case h_15 fn first cap ho=>exact ⟨_,.inl ⟨rfl,zn8 ho h.1 h.2.1⟩,.val,h.2.2⟩
 case h_16 T parts ho =>
  obtain ⟨h0,h⟩:=h
  split at h
  ·rename_i z hz
   obtain ⟨h1,h2,h⟩:=h
   split at h
   ·rename_i pl hpl
    split at h
    ·rename_i cs hcs
     exact ⟨_,.inl ⟨rfl,zw4 ho h0 hz h1 h2 (zk8 hz hpl hcs)⟩,.val,h⟩
    ·exact h.elim
   ·exact h.elim
  ·exact h.elim
 case h_17 T len parts ho =>
  obtain ⟨h0,h⟩:=h
  split at h
  ·rename_i e hu
   split at h
   ·rename_i m hm
    split at h
    ·rename_i z hz
     obtain ⟨h1,h2,h3,h4,h⟩:=h
     split at h
     ·rename_i cs hcs
      exact ⟨_,.inl ⟨rfl,zk7 ho h0 hu hm hz h1 h2 h3 h4 hcs⟩,.new,h⟩
     ·exact h.elim
    ·exact h.elim
   ·exact h.elim
  ·exact h.elim
 case h_18 T x ho =>
  obtain ⟨h0,h1,h⟩:=h
  split at h
  ·exact h.elim
  ·rename_i dd hn hu
   exact ⟨_,.inl ⟨rfl,zw7 ho h0 h1 hu (λms e=>hn ms e)⟩,.val,h⟩
  ·exact h.elim
 case h_19 op T x y yT ho =>
  obtain ⟨h0,h1,h⟩:=h
  split at h
  ·rename_i v hv
   exact ⟨_,.inl ⟨rfl,z8h ho h0 h1 hv⟩,.val,h⟩
  ·obtain ⟨h1,v,hv,hr,hC⟩:=h
   exact ⟨_,.inl ⟨rfl,zmo (λcs b e=>by simp_all) h1 hv hr⟩,.val,hC⟩
 case h_20 op T x ho =>
  obtain ⟨h0,h⟩:=h
  split at h
  ·rename_i v hv
   exact ⟨_,.inl ⟨rfl,jef ho h0 hv⟩,.val,h⟩
  ·exact h.elim
 case h_21 S T x ho =>
  obtain ⟨h0,h⟩:=h
  split at h
  ·rename_i v hv
   exact ⟨_,.inl ⟨rfl,z1z ho h0 hv⟩,.val,h⟩
  ·obtain ⟨h1,v,hv,hr,hC⟩:=h
   exact ⟨_,.inl ⟨rfl,zmo (λcs b e=>by simp_all) h1 hv hr⟩,.val,hC⟩
 case h_22 c ho =>
  unfold zuq at h
  split at h
  ·rename_i f hc
   obtain ⟨h1,h⟩:=h
   unfold zie at h
   split at h
   ·rename_i g first cap hgf
    obtain ⟨h2,h4,h⟩:=h
    split at h
    ·rename_i hcond
     split at h
     ·obtain ⟨oc,h5,h6⟩:=h
      refine ⟨_,.inl ⟨by cases oc<;>rfl,zxd hGF hG ho hc (zne h1) hgf h2 hcond.1 h4 h5⟩,?_,h6⟩
      cases oc<;>exact ⟨by simp [Out.eff,val,zaa],by simp [Out.eff,val,zaa],by simp [Out.eff,val]⟩
     ·obtain ⟨v,h5,h6⟩:=h
      exact ⟨_,.inl ⟨rfl,z1y hGF hG ho hc (zne h1) hgf h2 hcond.1 h4 h5⟩,.val,h6⟩
    ·obtain ⟨h3,hp',rs,res,hq1,hq2,h5,hat,h6⟩:=h
     replace h5:=h5.under (hp:=hp) λk hk=>hk.elim (λhk=>(hq2 k hk).trans (hG k hk).symm) (λhk=>hq1 k hk)
     have hfit:=h5.fits
     refine ⟨res.eff rs,.inl ⟨by cases res<;>rfl,z8j hGF hG ho hc h1 hgf h2 h3 h4 h5⟩,?_,h6⟩
     cases res with
     | ret v ws=>exact ⟨λk hk=>hfit.2.1 k hk,by simp [Res.eff,zaa],λk b c hb hc=>hfit.2.2.1 k b c (by simpa [Res.eff] using hb) (by simpa [Res.eff] using hc)⟩
     | pan v=>exact ⟨by simp [Res.eff,zaa],by simp [Res.eff,zaa],by simp [Res.eff]⟩
     | new v ns=>exact ⟨by simp [Res.eff,zaa],hat,λk b c hb hc=>hfit.2.2 k b c (by simpa [Res.eff] using hb) (by simpa [Res.eff] using hc)⟩
   ·rename_i l first cap hgf
    obtain ⟨h2,h3,h4,h⟩:=h
    obtain rfl:first=#[]:=by cases first;simpa using h2
    obtain rfl:cap=#[]:=by cases cap;simpa using h3
    unfold zmj at h
    split at h
    ·rename_i y hy
     obtain ⟨rfl,h5,h8,h6,h9,h7⟩:=h
     obtain ⟨callee,args,T⟩:=c
     simp only at hc
     subst hc
     have hlies:y.lies yc (rst hp (zt4 y yc).rs):=by
      unfold YG.lies at h9 |-
      unfold zt4 YG.pan
      cases hs:y.sh with
      | none=>trivial
      | some s =>
       rw [hs] at h9
       simp only at h9 |-
       rw [h9.2.2]
       refine ⟨?_,h9.2.1,rfl⟩
       have:(if yc=y.stop then (none:Option Value) else none)=none:=by split<;>rfl
       rw [this]
       simp only
       unfold rst
       rw [if_pos (.inr (by simp))]
       exact h9.1
     refine ⟨_,.inr ⟨by unfold zt4;split<;>(try split)<;>rfl,y,f,args,T,hy,ho,h1,λx hx=>⟨h4 x hx,h8 _ (by simp only [Array.toList_map];exact List.mem_map_of_mem hx)⟩,hgf,h5,by rw [h6];simp,rfl,hlies⟩,?_,h7⟩
     unfold YG.lies at h9
     unfold zt4
     split
     ·split
      ·exact ⟨by simp [zaa],by simp [zaa],by simp⟩
      ·rename_i s hs
       rw [hs] at h9
       exact ⟨by simp [zaa,dom,h9.1,h9.2.1],by simp [zaa],by rintro k b c hb hc;simp only [List.append_nil,List.mem_singleton,Prod.mk.injEq] at hb hc;rw [hb.2,hc.2]⟩
     ·exact ⟨by simp [zaa],by simp [zaa],by simp⟩
    ·exact h.elim
   ·exact h.elim
  ·rename_i hnv
   obtain ⟨h1,h⟩:=h
   split at h
   ·rename_i v hv
    exact ⟨_,.inl ⟨rfl,zw5 ho h1 hv⟩,.val,h⟩
   ·exact h.elim
 case h_23 x ho =>
  obtain ⟨h0,h1,h⟩:=h
  split at h
  ·rename_i T u hg
   exact ⟨_,.inl ⟨rfl,zxa ho h0 h1 hg⟩,⟨by simp [zaa],by simp [zaa],by simp⟩,h⟩
  ·exact h.elim
 case h_24 T y ho=>exact ⟨_,.inl ⟨rfl,zqh ho h.1⟩,.new,h.2⟩
 case h_25 T m k x ho =>
  obtain ⟨h0,h1,h2,h3,h4,h⟩:=h
  unfold z97 at h
  split at h
  ·rename_i q hq
   split at h
   ·rename_i s hs
    unfold zvf at h
    split at h
    ·rename_i l hl
     obtain ⟨b,hb,hml⟩:=Option.bind_eq_some_iff.1 hl
     obtain rfl:=ztd hml
     exact ⟨_,.inl ⟨rfl,zud ho h0 h1 h2 h3 h4 hq hs hb h.1⟩,.wr (by unfold dom;rw [hb];simp) h.2.1,h.2.2⟩
    ·exact h.elim
   ·exact h.elim
  ·exact h.elim
 case h_26 T x i ok ho =>
  obtain ⟨h0,h1,h2,h3,h⟩:=h
  subst h2
  unfold lkX at h
  split at h
  ·rename_i q hq
   split at h
   ·rename_i s hs
    unfold jdf at h
    split at h
    ·rename_i l hl
     obtain ⟨b,hb,hml⟩:=Option.bind_eq_some_iff.1 hl
     obtain rfl:=ztd hml
     split at h
     ·rename_i v hv
      exact ⟨_,.inl ⟨rfl,zue ho h0 h1 h3 hq hs hb hv h.1⟩,.val,h.2⟩
     ·exact h.elim
    ·exact h.elim
   ·exact h.elim
  ·exact h.elim
 case h_27 cs b ho=>exact h.elim
 case h_28 x ho =>
  obtain ⟨h0,h⟩:=h
  unfold ncX at h
  split at h
  ·rename_i k oo hg
   exact ⟨_,.inl ⟨rfl,zn9 ho h0 hg⟩,.val,h⟩
  ·exact h.elim
 case h_29 T x y ho =>
  obtain ⟨h0,h1,h⟩:=h
  unfold msU at h
  split at h
  ·rename_i e hu
   unfold msM at h
   split at h
   ·rename_i m hm
    unfold msZ at h
    split at h
    ·rename_i z b l hz hb hx
     obtain ⟨hy,h2,h3,h4,h5,h6,h⟩:=h
     exact ⟨_,.inl ⟨rfl,zmn ho h0 h1 hx hy hu hm hz hb h2 h3 h4.1 h4.2 h5 h6⟩,.new,h⟩
    ·exact h.elim
   ·exact h.elim
  ·exact h.elim
 case h_30 hns =>
  obtain ⟨h1,v,hv,hr,hC⟩:=h
  exact ⟨_,.inl ⟨rfl,zmo (λcs b e=>by simp_all) h1 hv hr⟩,.val,hC⟩

theorem ztj {w a:Nat} {r:Nat->Nat} {v:Value} (h:zqc w v=true) (hr:r w=a):ren r v=ren (λ_=>a) v:=by
 subst hr
 unfold zqc at h
 split at h
 ·rename_i cs
  simp only [ren,zay]
  congr 1
  refine Array.map_congr_left λx hx=>?_
  have hx2:=Array.all_eq_true'.1 h x hx
  split at hx2
  ·rename_i q
   simp only [zak,zan]
   have:q.block=w:=by simpa using hx2
   rw [this]
  ·rename_i x h2
   rw [zb9 hx2,zb9 hx2]
 ·rename_i q
  simp only [ren,zay,zak,zan]
  have:q.block=w:=by simpa using h
  rw [this]
 ·rw [zau h,zau h]
theorem z39 {C:Ctx} {n:Nat} {d:List Deferred} {ro:Option Nat} (hGF:zbo C.G) (hR:∀ y,C.Y=some y->zg9 P C y):z8f P C n d ro (okp P C.Y):=by
 intro o e ts hp yc r a W m next Q h hd hok hws hns hn hp'
 rcases hok with ⟨h1,h2⟩|⟨h1,y,f,args,T,h2,h3,h4,h5,h6,h7,h8,rfl,h10⟩
 ·rw [h1] at hn
  exact z5a h hd h2 hws hns hn (λpv W' hpn hi=>hp' pv W' yc hpn hi)
 ·obtain ⟨hrnd,hfine⟩:=hR y h2
  have evT:∀ {x:Operand},okT ts x->za0 (gev ts x)=true->a.eval x=gev ts x:=λ{x} hk hf=>by
   cases x with
   | tmp t =>
    have:=((h.rel t).resolve_left (jat hk)).1
    rw [zau (by exact hf)] at this
    exact this
   | const v=>rfl
   | func f=>rfl
   | global g=>exact hk.elim
  have hrw:∀ s,y.sh=some s->dom hp s.w/\r s.w=s.a:=λs hs=>by
   unfold YG.fine at hfine
   rw [hs] at hfine
   have hk:=h.keep s.w hfine.1
   exact ⟨hk.1,hk.2.trans hfine.2.1⟩
  have evA:∀ {x:Operand},okT ts x->y.arg (gev ts x)=true->a.eval x=y.act (gev ts x):=λ{x} hk hf=>by
   unfold YG.arg at hf
   unfold YG.act
   cases hs:y.sh with
   | none =>
    rw [hs] at hf
    exact evT hk hf
   | some s =>
    rw [hs] at hf
    simp only at hf |-
    cases x with
    | tmp t =>
     have:=((h.rel t).resolve_left (jat hk)).1
     have e2:=ztj (r:=r) hf (hrw s hs).2
     exact this.trans e2
    | const v=>exact (zau hk).symm
    | func f=>simp [Act.eval,gev,ren,zay,zak,zan]
    | global g=>exact hk.elim
  have hfv:a.eval f=.func (.yield y.l) #[] #[]:=by rw [evT h4 (by rw [h6];simp [za0,zg2,zbf]),h6]
  have hargs:args.map a.eval=args.map λx=>y.act (gev ts x):=Array.map_congr_left λx hx=>evA (h5 x (by simpa using hx)).1 (h5 x (by simpa using hx)).2
  obtain ⟨S,ms,hX,hS1,hS2,hd1,hd2⟩:=h.ext
  have gsame:∀ {W':World},GOK C.G W'->∀ k b,k<100->hp k=some b->W'.heap[r k]? = some (b.obj r):=λ{W'} hg k b hk hb=>by
   have e1:r k=k:=h.low k hk (by unfold dom;rw [hb];simp)
   have e2:C.G k=some b:=by rw [<-h.glob k hk];exact hb
   rw [e1,hg k b e2]
   rw [Blk.obj_flat (λx hx=>(hGF k b e2).2 x hx)]
  have hgok:GOK C.G W:=λk b hk=>by
   obtain ⟨hlt,hfl⟩:=hGF k b hk
   have hb:hp k=some b:=(h.glob k hlt).trans hk
   have h9:=(h.sat k b hb).1
   rw [h.low k hlt (by unfold dom;rw [hb];simp)] at h9
   rw [h9]
   rw [Blk.obj_flat (λx hx=>hfl x hx)]
  have hhas:y.has yc W:=by
   unfold YG.has
   unfold YG.lies at h10
   cases hs:y.sh with
   | none=>trivial
   | some s =>
    rw [hs] at h10
    unfold YG.fine at hfine
    rw [hs] at hfine
    have:=(h.sat s.w _ (zda h10.1)).1
    rw [(hrw s hs).2,(hfine.2.2 yc).1 r] at this
    exact this
  obtain ⟨fn,tmps,assign,body,hy,hround⟩:=hrnd yc _ S W hgok h8 h7 hX hS1 hhas
  have hrun:(execOp a.eval o).run P W=.ok (.round y.l fn tmps assign body) W:=by
   simp [execOp,h3,resolve,hfv,Deferred.ofValue,invoke,hargs,hy]
  refine ⟨zsf hrun,?_⟩
  have e:(Fw P ro).round=ro:=rfl
  rw [e,Oper.semAt_eq ro a.eval o hd.2,hrun]
  refine ⟨λh=>(by cases h),?_⟩
  have hround':RoundIn (Fw P ro) (m - 1) P _ _ _ _ _ _ _:=⟨hround.1,λc cs _=>hround.2 c cs (zd4 P _)⟩
  refine RoundIn.mono hround' ?_
  rintro e' W' ⟨hend,hgok',hsz,hsame,hhas',S',hX',hS1',hS2'⟩
  cases hs:y.sh with
  | none =>
   have hat:∀ k,¬y.at k:=λk hk=>by unfold YG.at at hk;rw [hs] at hk;exact hk
   have base:RI C n d r ts hp (yc+1) a W' :=
    { h with
     sat:=λk b hk=>by
      have hdk:dom hp k:=by unfold dom;rw [hk];simp
      have:=h.sat k b hk
      refine ⟨?_,this.2⟩
      by_cases hk1:k<100
      ·exact gsame hgok' k b hk1 hk
      ·exact (hsame _ (h.lt hdk) (hS2 k hdk (by omega)) (hat _)).trans this.1
     ext:=⟨S',ms,hX',hS1',λi hi h1i hS=>hS2 i hi h1i (hS2' _ hS (h.lt hi)),hd1,λD hD=>by
      have hlt:=(Array.getElem?_eq_some_iff.1 (hd2 D hD).1).1
      exact ⟨(hsame D hlt (hd2 D hD).2.1 (hat _)).trans (hd2 D hD).1,λhS=>(hd2 D hD).2.1 (hS2' D hS hlt),(hd2 D hD).2.2⟩⟩ }
   have heff:zt4 y yc=match y.pan yc with
    | none=>⟨.bool (yc != y.stop),[],[],[],none,true⟩
    | some pv=>⟨zcm,[],[],[],some pv,true⟩:=by unfold zt4;rw [hs]
   cases hpn:y.pan yc with
   | none =>
    rw [hpn] at hend heff
    simp only at hend heff
    subst hend
    refine hn r _ W' (by rw [heff]) ?_
    have:=base.put hd.1 (v:=.bool (yc != y.stop)) (by trivial)
    rw [heff]
    simpa [ren,zay,zak,zan,zbi] using this
   | some pv =>
    rw [hpn] at hend heff
    simp only at hend heff
    subst hend
    exact hp' pv W' (yc+1) (by rw [heff]) base
  | some s =>
   obtain ⟨hdw,hra⟩:=hrw s hs
   unfold YG.lies at h10
   rw [hs] at h10
   obtain ⟨hb0,hw1,hpn0⟩:=h10
   unfold YG.fine at hfine
   rw [hs] at hfine
   obtain ⟨_,_,hfl⟩:=hfine
   unfold YG.has at hhas'
   rw [hs] at hhas'
   simp only at hhas'
   have hat:∀ k,k≠s.a->¬y.at k:=λk hk hk2=>by unfold YG.at at hk2;rw [hs] at hk2;exact hk hk2
   have hD:dom (upd hp s.w (some (s.ob (yc+1))))=dom hp:=by
    funext k
    unfold dom upd
    by_cases c:k=s.w
    ·rw [if_pos c];subst c;simp only [ne_eq,reduceCtorEq,not_false_eq_true,eq_iff_iff,true_iff];exact hdw
    ·rw [if_neg c]
   have base:RI C n d r ts (upd hp s.w (some (s.ob (yc+1)))) (yc+1) a W' :=
    {size:=h.size
     rel:=by rw [hD];exact h.rel
     sat:=λk b hk=>by
      rw [hD]
      by_cases c:k=s.w
      ·subst c
       rw [za9] at hk
       cases hk
       exact ⟨by rw [hra,hhas',(hfl (yc+1)).1 r],(hfl (yc+1)).2 _⟩
      ·rw [zab _ _ c] at hk
       have hdk:dom hp k:=by unfold dom;rw [hk];simp
       have:=h.sat k b hk
       refine ⟨?_,this.2⟩
       by_cases hk1:k<100
       ·exact gsame hgok' k b hk1 hk
       ·exact (hsame _ (h.lt hdk) (hS2 k hdk (by omega)) (hat _ λe1=>c (h.inj k s.w hdk hdw (e1.trans hra.symm)))).trans this.1
     inj:=by rw [hD];exact h.inj
     ext:=⟨S',ms,hX',hS1',λi hi h1i hS=>by rw [hD] at hi;exact hS2 i hi h1i (hS2' _ hS (h.lt hi)),hd1,λD hDm=>by
      have hlt:=(Array.getElem?_eq_some_iff.1 (hd2 D hDm).1).1
      exact ⟨(hsame D hlt (hd2 D hDm).2.1 (hat _ λe1=>h.ne_mark hdw (hd2 D hDm).1 (hra.trans e1.symm))).trans (hd2 D hDm).1,λhS=>(hd2 D hDm).2.1 (hS2' D hS hlt),(hd2 D hDm).2.2⟩⟩
     keep:=λi hi=>⟨by rw [hD];exact (h.keep i hi).1,(h.keep i hi).2⟩
     glob:=λk hk=>by rw [zab _ _ (by omega)];exact h.glob k hk
     low:=λk hk hd=>by rw [hD] at hd;exact h.low k hk hd }
   have hpn:y.pan yc=none:=by unfold YG.pan;rw [hpn0];split<;>rfl
   have heff:zt4 y yc=⟨.bool (yc != y.stop),[s.w],[(s.w,s.ob (yc+1))],[],none,true⟩:=by unfold zt4;rw [hpn,hs]
   rw [hpn] at hend
   simp only at hend
   subst hend
   refine hn r _ W' (by rw [heff]) ?_
   have:=base.put hd.1 (v:=.bool (yc != y.stop)) (by trivial)
   rw [heff]
   have e9:zbi hp ([(s.w,s.ob (yc+1))]++[])=upd hp s.w (some (s.ob (yc+1))):=by
    funext k
    simp [zbi]
   rw [e9]
   simpa [ren,zay,zak,zan] using this

end

abbrev Tr:=List (Nat×List Nat×List Nat)
def jl0 (xs ys:List Nat):Bool:=xs.all λx=>!ys.contains x
def chk (md:Region.Mode) (ops:Array Oper):Tr->Bool
 | []=>true
 | (i,rd,wr)::tl=>(tl.all λq=>(jl0 rd q.2.2&&jl0 wr q.2.1)||zja md ops i q.1)&&chk md ops tl
def zfl (k:Nat) (rd wr:List Nat) (tr:Tr):Tr :=
 match rd with
 | []=>match wr with
  | []=>tr
  | _::_=>(k,rd,wr)::tr
 | _::_=>(k,rd,wr)::tr

def zi5 (P:Program) (G:Hp) (V:XV) (ops:Array Oper) (base:Nat) (Q:(Nat->Value)->Hp->Tr->Nat->Prop) (Qp:Value->Tr->Prop):Nat->List Oper->(Nat->Value)->Hp->Tr->Nat->Bool->Bool->Prop
 | _,[],ts,hp,tr,yc,_,_=>Q ts hp tr yc
 | k,o::rest,ts,hp,tr,yc,wr,yd=>match zcs ops o ts with
  | some true=>opX P G V yc o ts hp (base+8*k) λe=>(e.yl=true->e.ws=[]->yd=false)/\match e.pan with
   | none=>zi5 P G V ops base Q Qp (k+1) rest (zcx ts o.dst e.v) (zbi hp (e.ws++e.ns)) (zfl k (e.rs++zaa e.ns) (zaa e.ws++zaa e.ns) tr) (if e.yl then yc+1 else yc) (wr||!e.ws.isEmpty) (yd||(e.yl&&e.ws.isEmpty))
   | some pv=>(V.dr=true->rest=[])/\(wr||!e.ws.isEmpty)=false/\Qp pv (zfl k (e.rs++zaa e.ns) (zaa e.ws++zaa e.ns) tr)
  | some false=>unD o ts/\zi5 P G V ops base Q Qp (k+1) rest (zcx ts o.dst undef) hp tr yc wr yd
  | none=>False

theorem ztt (k:Nat) (rd wr:List Nat) (tr:Tr):zfl k rd wr tr=(k,rd,wr)::tr\/(rd=[]/\wr=[]/\zfl k rd wr tr=tr):=by
 cases rd with
 | nil=>cases wr with
  | nil=>exact .inr ⟨rfl,rfl,rfl⟩
  | cons=>exact .inl rfl
 | cons=>exact .inl rfl

theorem zj8 {md:Region.Mode} {ops:Array Oper} {k:Nat} {rd wr:List Nat} {tr:Tr} (h:chk md ops (zfl k rd wr tr)=true) :
  chk md ops tr=true/\∀ q∈tr,((∀ x∈rd,x∉q.2.2)/\(∀ x∈wr,x∉q.2.1))\/zja md ops k q.1=true:=by
 rcases ztt k rd wr tr with e|⟨h1,h2,e⟩
 ·rw [e] at h
  simp only [chk,Bool.and_eq_true,List.all_eq_true,Bool.or_eq_true] at h
  refine ⟨h.2,λq hq=>(h.1 q hq).imp (λh=>⟨λx hx=>?_,λx hx=>?_⟩) id⟩
  ·have:=List.all_eq_true.1 h.1 x hx;simpa using this
  ·have:=List.all_eq_true.1 h.2 x hx;simpa using this
 ·rw [e] at h;subst h1;subst h2
  exact ⟨h,λq _=>.inl ⟨λx hx=>(by cases hx),λx hx=>(by cases hx)⟩⟩

section
variable {P:Program} {G:Hp} {V:XV}

def z1x (lg:Nat->List Nat×List Nat) (tr:Tr):Prop :=
 ∀ j,lg j=([],[])\/∃ rd wr,(j,rd,wr)∈tr/\(∀ x∈(lg j).1,x∈rd)/\(∀ x∈(lg j).2,x∈wr)

theorem z1x.step {lg:Nat->List Nat×List Nat} {tr:Tr} (h:z1x lg tr) (k:Nat) (e:Eff):z1x (upd lg k (e.rs,zaa e.ws++zaa e.ns)) (zfl k (e.rs++zaa e.ns) (zaa e.ws++zaa e.ns) tr):=by
 intro j
 rcases ztt k (e.rs++zaa e.ns) (zaa e.ws++zaa e.ns) tr with e1|⟨h1,h2,e1⟩
 ·rw [e1]
  by_cases hj:j=k
  ·subst hj
   rw [za9]
   exact .inr ⟨_,_,List.mem_cons_self ..,λx hx=>List.mem_append_left _ hx,λx hx=>hx⟩
  ·rw [zab _ _ hj]
   exact (h j).imp id λ⟨rd,wr,hm,a,b⟩=>⟨rd,wr,List.mem_cons_of_mem _ hm,a,b⟩
 ·rw [e1]
  by_cases hj:j=k
  ·subst hj
   rw [za9]
   have:e.rs=[]:=(List.append_eq_nil_iff.1 h1).1
   exact .inl (by rw [this,h2])
  ·rw [zab _ _ hj];exact h j

theorem zm8 {ops:Array Oper} {base:Nat} {K:(Nat->Value)->Hp->Nat->Prop} {Kp:Value->Prop} (hGF:zbo G) (hb:100<=base):∀ (l:List Oper) (k:Nat) (ts:Nat->Value) (hp:Hp) (tr:Tr) (yc:Nat) (wr yd:Bool),(∀ x,x<100->hp x=G x) ->
  zi5 P G V ops base (λts hp tr yc=>chk .any ops tr=true/\K ts hp yc) (λpv tr=>chk .any ops tr=true/\Kp pv) k l ts hp tr yc wr yd->chk .any ops tr=true
 | [],_,_,_,_,_,_,_,_,h=>h.1
 | o::l,k,ts,hp,tr,yc,wr,yd,hG,h=>by
  simp only [zi5] at h
  split at h
  ·obtain ⟨e,_,hs,_,h3⟩:=zf8 hGF hG h
   split at h3
   ·refine (zj8 (zm8 hGF hb l _ _ _ _ _ _ _ (λx hx=>?_) h3)).1
    rw [za6 (λhm=>?_)]
    ·exact hG x hx
    ·have:x∈zaa e.ws\/x∈zaa e.ns:=by simpa [zaa] using hm
     rcases this with h|h
     ·have:=(hs.ws x h).2.2;omega
     ·have:=hs.ns x h;omega
   ·exact (zj8 h3.2.2.1).1
  ·exact zm8 hGF hb l _ _ _ _ _ _ _ hG h.2
  ·exact h.elim

def jra (Kn:(Nat->Value)->Hp->Nat->Prop) (Kp:Value->Prop) (B:Nat) (s:St):Prop :=
 (s.pn=none->Kn s.ts s.hp s.yc/\∀ x,B<=x->s.hp x=none)/\∀ pv,s.pn=some pv->s.wr=false/\Kp pv

theorem zir {ops:Array Oper} {base:Nat} {K:(Nat->Value)->Hp->Nat->Prop} {Kp:Value->Prop} (hGF:zbo G) (hb:100<=base) (hdr:V.dr=true):∀ (l:List Oper) (k:Nat) (ts:Nat->Value) (hp:Hp) (tr:Tr) (yc:Nat) (wr yd:Bool) (lg:Nat->List Nat×List Nat),(∀ x,x<100->hp x=G x) ->
  (∀ x,base+8*k<=x->hp x=none)->z1x lg tr->(∀ j,k<=j->lg j=([],[]))->(∀ o∈l,unC P o) ->
  zi5 P G V ops base (λts hp tr yc=>chk .any ops tr=true/\K ts hp yc) (λpv tr=>chk .any ops tr=true/\Kp pv) k l ts hp tr yc wr yd ->
  zp7 (okp P V.Y) .any ops base (jra K Kp (base+8*(k+l.length))) k l ⟨ts,hp,lg,yc,yd,none,wr⟩
 | [],k,ts,hp,tr,yc,wr,yd,lg,hG,hn,hl,hz,hu,h=>⟨λ_=>⟨h.2,by simpa using hn⟩,λ_ h=>(by cases h)⟩
 | o::l,k,ts,hp,tr,yc,wr,yd,lg,hG,hn,hl,hz,hu,h=>by
  have hlen:k+(o::l).length=(k+1)+l.length:=by simp;omega
  rw [hlen]
  simp only [zi5] at h
  simp only [zp7]
  cases hw:zcs ops o ts with
  | none=>rw [hw] at h;exact h.elim
  | some b =>
   rw [hw] at h
   cases b with
   | true =>
    simp only at h |-
    obtain ⟨e,h1,hs,hyd,h3⟩:=zf8 hGF hG h
    have big:∀ x∈zaa (e.ws++e.ns),100<=x:=λx hm=>by
     have:x∈zaa e.ws\/x∈zaa e.ns:=by simpa [zaa] using hm
     rcases this with h|h
     ·exact (hs.ws x h).2.2
     ·have:=hs.ns x h;omega
    have hG':∀ x,x<100->zbi hp (e.ws++e.ns) x=G x:=λx hx=>by
     rw [za6 (λhm=>by have:=big x hm;omega)];exact hG x hx
    have hn':∀ x,base+8*(k+1)<=x->zbi hp (e.ws++e.ns) x=none:=λx hx=>by
     rw [za6 (λhm=>?_)]
     ·exact hn x (by omega)
     ·have:x∈zaa e.ws\/x∈zaa e.ns:=by simpa [zaa] using hm
      rcases this with h|h
      ·exact (hs.ws x h).2.1 (hn x (by omega))
      ·have:=hs.ns x h;omega
    have fits:chk .any ops (zfl k (e.rs++zaa e.ns) (zaa e.ws++zaa e.ns) tr)=true->Fits .any ops base k ⟨ts,hp,lg,yc,yd,none,wr⟩ e:=λhc=>by
     have hc:=zj8 hc
     refine ⟨hs.ws,λx hx=>?_,λx hx=>?_,hs.once,λj hj=>?_,hz k (Nat.le_refl _),λ_=>rfl,hyd⟩
     ·have:=hs.ns x hx;omega
     ·have:=hs.ns x hx;exact hn x (by omega)
     ·rcases hl j with h0|⟨rd,wr,hm,a,b⟩
      ·simp only [h0];exact ⟨λ_ _ h=>(by cases h),λ_ _ h=>(by cases h)⟩
      ·rcases hc.2 _ hm with ⟨c1,c2⟩|c
       ·exact ⟨λx hx hm=>c1 x hx (b x hm),λx hx hm=>c2 x hx (a x hm)⟩
       ·rw [hj] at c;cases c
    cases hpn:e.pan with
    | none =>
     rw [hpn] at h3
     simp only at h3
     refine ⟨e,h1,fits (zm8 hGF hb l _ _ _ _ _ _ _ hG' h3),?_⟩
     have:=zir hGF hb hdr l (k+1) _ _ _ _ _ _ _ hG' hn' (hl.step k e) (λj hj=>by rw [zab _ _ (by omega)];exact hz j (by omega)) (λo ho=>hu o (List.mem_cons_of_mem _ ho)) h3
     simpa [St.after,hpn] using this
    | some pv =>
     rw [hpn] at h3
     obtain ⟨hrest,hwr,hch,hkp⟩:=h3
     obtain rfl:=hrest hdr
     refine ⟨e,h1,fits hch,?_⟩
     simp only [zp7,St.after,hpn]
     refine ⟨λh=>?_,λpv' h=>?_⟩
     ·simp at h
     ·simp at h;subst h;exact ⟨hwr,hkp⟩
   | false =>
    simp only at h |-
    exact ⟨⟨h.1,hu o (by simp)⟩,zir hGF hb hdr l (k+1) _ _ _ _ _ _ _ hG (λx hx=>hn x (by omega)) hl (λj hj=>hz j (by omega)) (λo ho=>hu o (List.mem_cons_of_mem _ ho)) h.2⟩

def zry (P:Program) (ops:List Oper):Bool:=ops.all λo=>match o.op with
 | .call c=>match c.callee with
  | .value (.func f)=>decide (f<P.funcs.size)
  | _=>true
 | _=>true
theorem zge {ops:List Oper} (h:zry P ops=true):∀ o∈ops,unC P o:=λo ho=>by
 have:=List.all_eq_true.1 h o ho
 unfold unC
 split
 ·rename_i c hc
  simp only [hc] at this
  split
  ·rename_i f hcc
   simp only [hcc,decide_eq_true_eq] at this
   exact ⟨_,Array.getElem?_eq_getElem this⟩
  ·trivial
 ·trivial

structure GS where
 ts:Nat->Value
 hp:Hp
 B:Nat
 yc:Nat

structure GI (P:Program) (C:Ctx) (n:Nat) (d:List Deferred) (r:Nat->Nat) (s:GS) (a:Act) (W:World):Prop where
 ri:RI C n d r s.ts s.hp s.yc a W
 free:∀ x,s.B<=x->s.hp x=none
 low:100<=s.B
 flat:zbo C.G
 rounds:∀ y,C.Y=some y->zg9 P C y

def GW (P:Program) (C:Ctx) (n:Nat) (d:List Deferred) (ro:Option Nat) (c:Code) (s:GS) (K:Exit->GS->Prop):Prop :=
 ∀ r a W,GI P C n d r s a W->c.wpIn (Fw P ro) 0 P (λe a' W'=>∃ s' r',K e s'/\GI P C n d r' s' a' W') a W

variable {C:Ctx} {n:Nat} {d:List Deferred} {ro:Option Nat} {s:GS} {K:Exit->GS->Prop} {yc:Nat}

def zbx (next:GS->Prop) (K:Exit->GS->Prop):Exit->GS->Prop
 | .normal,s=>next s
 | e,s=>K e s

theorem zcb {c:Code} {K':Exit->GS->Prop} (h:GW P C n d ro c s K) (hk:∀ e s,K e s->K' e s):GW P C n d ro c s K' :=
 λr a W hi=>wpIn_mono (h r a W hi) λ_ _ _ ⟨s',r',k,i⟩=>⟨s',r',hk _ _ k,i⟩

theorem zho {x y:Code} (h:GW P C n d ro x s (zbx (λs'=>GW P C n d ro y s' K) K)):GW P C n d ro (.seq x y) s K:=by
 intro r a W hi
 refine wpIn_seq (wpIn_mono (h r a W hi) ?_)
 rintro e a' W' ⟨s',r',k,i⟩
 cases e with
 | normal=>exact k r' a' W' i
 | _=>exact ⟨s',r',k,i⟩

theorem zw0 (h:K .normal s):GW P C n d ro .skip s K:=λr _ _ hi=>wpIn_skip ⟨s,r,h,hi⟩
theorem zwz (h:K .ret s):GW P C n d ro .ret s K:=λr _ _ hi=>wpIn_ret ⟨s,r,h,hi⟩
theorem z8b {id:Nat} (h:K (.exit id) s):GW P C n d ro (.exit id) s K:=λr _ _ hi=>wpIn_exit ⟨s,r,h,hi⟩
theorem z8c {id:Nat} (h:K (.goto id) s):GW P C n d ro (.goto id) s K:=λr _ _ hi=>wpIn_goto ⟨s,r,h,hi⟩
theorem zsd {id:Nat} (h:K .normal s):GW P C n d ro (.label id) s K:=λr _ _ hi=>wpIn_label ⟨s,r,h,hi⟩

theorem zqe {t:Tmp} {x y:Code} {b:Bool} (hb:s.ts t=.bool b) (ht:b=true->GW P C n d ro x s K) (hf:b=false->GW P C n d ro y s K):GW P C n d ro (.cond (.tmp t) x y) s K:=by
 intro r a W hi
 have he:a.eval (.tmp t)=.bool b:=by
  have:=(hi.ri.rel t).resolve_left (by rw [hb];simp [zcm])
  rw [hb] at this
  exact this.1
 exact wpIn_cond_split he (λh=>ht h r a W hi) (λh=>hf h r a W hi)

def zd9 (id:Nat) (K:Exit->GS->Prop):Exit->GS->Prop
 | .exit id',s=>if id'=id then K .normal s else K (.exit id') s
 | e,s=>K e s

theorem zmk {id:Nat} {c:Code} (h:GW P C n d ro c s (zd9 id K)):GW P C n d ro (.block id c) s K:=by
 intro r a W hi
 refine wpIn_block (wpIn_mono (h r a W hi) ?_)
 rintro e a' W' ⟨s',r',k,i⟩
 cases e with
 | exit id' =>
  simp only [Exit.inBlock,zd9] at k |-
  split
  ·rename_i h;rw [if_pos h] at k;exact ⟨s',r',k,i⟩
  ·rename_i h;rw [if_neg h] at k;exact ⟨s',r',k,i⟩
 | _=>exact ⟨s',r',k,i⟩

structure Weak (C:Ctx) (s s':GS):Prop where
 ts:∀ t,s'.ts t=zcm\/(s'.ts t=s.ts t/\zap (dom s'.hp) (s'.ts t))
 hp:∀ k,100<=k->s'.hp k=none\/s'.hp k=s.hp k
 ids:∀ k b,s'.hp k=some b->b.ids (dom s'.hp)
 keep:∀ k,100<=k->dom C.hp0 k->s'.hp k=s.hp k
 glob:∀ k,k<100->s'.hp k=C.G k
 yc:s'.yc=s.yc
 free:∀ x,s'.B<=x->s'.hp x=none
 low:100<=s'.B

theorem GI.weak {r:Nat->Nat} {a:Act} {W:World} {s':GS} (h:GI P C n d r s a W) (hw:Weak C s s'):GI P C n d r s' a W:=by
 have hhp:∀ k,s'.hp k=none\/s'.hp k=s.hp k:=λk=>by
  by_cases hk:100<=k
  ·exact hw.hp k hk
  ·exact .inr ((hw.glob k (by omega)).trans (h.ri.glob k (by omega)).symm)
 have sub:∀ k,dom s'.hp k->dom s.hp k:=λk hk=>by
  rcases hhp k with h|h
  ·exact absurd h hk
  ·unfold dom at *;rwa [<-h]
 refine ⟨{ h.ri with rel:=λt=>?_,sat:=λk b hb=>?_,inj:=λk l hk hl=>h.ri.inj k l (sub k hk) (sub l hl),ext:=?_,keep:=λi hi=>?_,glob:=hw.glob,low:=λk hk hd=>h.ri.low k hk (sub k hd) },hw.free,hw.low,h.flat,h.rounds⟩
 ·rcases hw.ts t with e|⟨e,hi⟩
  ·exact .inl e
  ·rcases h.ri.rel t with e'|e'
   ·exact .inl (e.trans e')
   ·exact .inr ⟨by rw [e];exact e'.1,hi⟩
 ·rcases hhp k with e|e
  ·rw [e] at hb;cases hb
  ·exact ⟨(h.ri.sat k b (by rw [<-e];exact hb)).1,hw.ids k b hb⟩
 ·obtain ⟨S,ms,h1,h2,h3,h4⟩:=h.ri.ext
  exact ⟨S,ms,by rw [hw.yc];exact h1,h2,λi hi=>h3 i (sub i hi),h4⟩
 ·have:=h.ri.keep i hi
  exact ⟨by unfold dom;rw [show s'.hp i=s.hp i by
   by_cases h1:100<=i
   ·exact hw.keep i h1 hi
   ·exact (hw.glob i (by omega)).trans (h.ri.glob i (by omega)).symm];exact this.1,this.2⟩

theorem zqf {c:Code} {s':GS} (hw:Weak C s s') (h:GW P C n d ro c s' K):GW P C n d ro c s K :=
 λr a W hi=>h r a W (hi.weak hw)

theorem z8d {c:Code} (I:Nat->GS->Prop) {m0:Nat} {s0:GS} (hw:Weak C s s0) (h0:I m0 s0)
  (round:∀ m s,I m s->GW P C n d ro c s (zbx (λs'=>∃ s'' m',Weak C s' s''/\I m' s''/\m'<m) K)):GW P C n d ro (.loop c) s K:=by
 have key:∀ (m:Nat) (s:GS),I m s->∀ r a W,GI P C n d r s a W->∀ (b:Frame) (k:List Item) (cs:List Frame),b.roundOf=ro ->
   (Fs P).fn b.fn->∃ e a' w',(∃ s' r',K e s'/\GI P C n d r' s' a' w')/\ArrivesIn (Machine.fenced P (Fw P ro)) P (lone (b.atR a (.code c::.inLoop c::k)) cs W) b k cs e a' w':=by
  intro m
  induction m using Nat.strongRecOn with
  | _ m ih =>
   intro s hI r a W hi b k cs hro hfn
   obtain ⟨e,a₁,w₁,⟨s',r',hk,hi'⟩,harr⟩:=round m s hI r a W hi b (.inLoop c::k) cs hro hfn (zd4 P _)
   cases e with
   | normal =>
    obtain ⟨s'',m',hw'',hI'',hlt⟩:=hk
    obtain ⟨e₂,a₂,w₂,hq₂,harr₂⟩:=ih m' hlt s'' hI'' r' a₁ w₁ (hi'.weak hw'') b k cs hro hfn
    exact ⟨e₂,a₂,w₂,hq₂,.of_steps (StepsIn.trans harr (.one (fenced_calm (F:=Fw P ro) (n:=0) hfn (zd4 P _) rfl) stepR_inLoop)) harr₂⟩
   | exit id=>exact ⟨_,a₁,w₁,⟨s',r',hk,hi'⟩,.pass (x:=.inLoop c) rfl (λ_ _=>.inl (by simp)) harr⟩
   | goto l=>exact ⟨_,a₁,w₁,⟨s',r',hk,hi'⟩,.pass (x:=.inLoop c) rfl (λ_ _=>.inl (by simp)) harr⟩
   | ret=>exact ⟨_,a₁,w₁,⟨s',r',hk,hi'⟩,.pass (x:=.inLoop c) rfl (λ_ _=>.inl (by simp)) harr⟩
   | panic ch=>exact ⟨_,a₁,w₁,⟨s',r',hk,hi'⟩,.pass (x:=.inLoop c) rfl (λ_ _=>.inl (by simp)) harr⟩
   | outgrown=>exact ⟨_,a₁,w₁,⟨s',r',hk,hi'⟩,.pass (x:=.inLoop c) rfl (λ_ _=>.inl (by simp)) harr⟩
 intro r a W hi b k cs hro hb hr
 obtain ⟨e,a',w',hq,harr⟩:=key m0 s0 h0 r a W (hi.weak hw) b k cs hro hb
 exact ⟨e,a',w',hq,.of_steps (.one (fenced_calm hb hr rfl) stepR_loop) harr⟩

theorem zbt {c:Code} (N:Nat) (St:Nat->GS) (hw:Weak C s (St 0)) (round:∀ i,i<N->GW P C n d ro c (St i) (zbx (λs'=>Weak C s' (St (i+1))) K))
  (last:GW P C n d ro c (St N) (zbx (λ_=>False) K)):GW P C n d ro (.loop c) s K:=by
 refine z8d (m0:=N) (λm s=>∃ i,i+m=N/\s=St i) hw ⟨0,by omega,rfl⟩ ?_
 rintro m _ ⟨i,hi,rfl⟩
 cases m with
 | zero =>
  obtain rfl:i=N:=by omega
  refine zcb last λe s h=>?_
  cases e<;>first|exact h|exact h.elim
 | succ m =>
  refine zcb (round i (by omega)) λe s h=>?_
  cases e<;>first|exact h|exact ⟨St (i+1),m,h,⟨i+1,by omega,rfl⟩,by omega⟩

theorem zrv {b:Frame} {a:Act} {c:Code} {k:List Item} {cs:List Frame} {w:World}:step P (lone (b.atR a (.code (.scope c)::k)) cs w)=.next (lone (b.atR a (.code c::.inScope c::k)) cs w):=by
 exact step_lone_go (by simp [stepG,stepG.exec,Frame.atR])
theorem zns {b:Frame} {a:Act} {c:Code} {k:List Item} {cs:List Frame} {w:World}:step P (lone (b.atR a (.inScope c::k)) cs w)=.next (lone (b.atR a k) cs w):=by
 exact step_lone_go (by simp [stepG,stepG.exec,Frame.atR])
def ziq (l:Nat) (J:GS->Prop) (K:Exit->GS->Prop):Exit->GS->Prop
 | .goto l',s=>l'=l/\J s
 | e,s=>K e s
theorem z1w {c rest:Code} (l:Nat) (I:Nat->GS->Prop) (hfl:findLabel c l=some rest) (first:GW P C n d ro c s (ziq l (λs'=>∃ s'' m',Weak C s' s''/\I m' s'') K))
  (pass:∀ m s,I m s->GW P C n d ro rest s (ziq l (λs'=>∃ s'' m',Weak C s' s''/\I m' s''/\m'<m) K)):GW P C n d ro (.scope c) s K:=by
 intro r a W hi b k cs hro hb hr
 have hg:gotoIn l (.inScope c::k)=some (.code rest::.inScope c::k):=by simp [gotoIn,hfl]
 have sIn:∀ {a W},StepsIn (Machine.fenced P (Fw P ro)) P (lone (b.atR a (.inScope c::k)) cs W) (lone (b.atR a k) cs W):=λ{a W} =>
  .one (fenced_calm (F:=Fw P ro) (n:=0) hb (zd4 P _) rfl) zns
 have s0:StepsIn (Machine.fenced P (Fw P ro)) P (lone (b.atR a (.code (.scope c)::k)) cs W) (lone (b.atR a (.code c::.inScope c::k)) cs W) :=
  .one (fenced_calm (F:=Fw P ro) (n:=0) hb (zd4 P _) rfl) zrv
 have key:∀ (m:Nat) (s:GS),I m s->∀ r a W,GI P C n d r s a W ->
   ∃ e a' w',(∃ s' r',K e s'/\GI P C n d r' s' a' w')/\ArrivesIn (Machine.fenced P (Fw P ro)) P (lone (b.atR a (.code rest::.inScope c::k)) cs W) b k cs e a' w':=by
  intro m
  induction m using Nat.strongRecOn with
  | _ m ih =>
   intro s hI r a W hi
   obtain ⟨e,a₁,w₁,⟨s',r',hk,hi'⟩,harr⟩:=pass m s hI r a W hi b (.inScope c::k) cs hro hb hr
   cases e with
   | normal=>exact ⟨.normal,a₁,w₁,⟨s',r',hk,hi'⟩,StepsIn.trans harr sIn⟩
   | goto l' =>
    obtain ⟨rfl,s'',m',hw,hI',hlt⟩:=hk
    obtain ⟨e₂,a₂,w₂,hq₂,harr₂⟩:=ih m' hlt s'' hI' r' a₁ w₁ (hi'.weak hw)
    exact ⟨e₂,a₂,w₂,hq₂,.of_steps (harr.1 _ hg) harr₂⟩
   | exit id=>exact ⟨_,a₁,w₁,⟨s',r',hk,hi'⟩,λk' hk=>harr.1 k' (by simp [exitTo,hk]),λhr' hk=>harr.2 hr' (by simpa [exitTo] using hk)⟩
   | ret=>exact ⟨_,a₁,w₁,⟨s',r',hk,hi'⟩,harr⟩
   | panic ch=>exact ⟨_,a₁,w₁,⟨s',r',hk,hi'⟩,harr⟩
   | outgrown=>exact ⟨_,a₁,w₁,⟨s',r',hk,hi'⟩,harr⟩
 obtain ⟨e,a₁,w₁,⟨s',r',hk,hi'⟩,harr⟩:=first r a W hi b (.inScope c::k) cs hro hb hr
 cases e with
 | normal=>exact ⟨.normal,a₁,w₁,⟨s',r',hk,hi'⟩,StepsIn.trans s0 (StepsIn.trans harr sIn)⟩
 | goto l' =>
  obtain ⟨rfl,s'',m',hw,hI'⟩:=hk
  obtain ⟨e₂,a₂,w₂,hq₂,harr₂⟩:=key m' s'' hI' r' a₁ w₁ (hi'.weak hw)
  exact ⟨e₂,a₂,w₂,hq₂,.of_steps (StepsIn.trans s0 (harr.1 _ hg)) harr₂⟩
 | exit id=>exact ⟨_,a₁,w₁,⟨s',r',hk,hi'⟩,.of_steps s0 (e:=.exit id) ⟨λk' hk=>harr.1 k' (by simp [exitTo,hk]),λhr' hk=>harr.2 hr' (by simpa [exitTo] using hk)⟩⟩
 | ret=>exact ⟨_,a₁,w₁,⟨s',r',hk,hi'⟩,.of_steps s0 harr⟩
 | panic ch=>exact ⟨_,a₁,w₁,⟨s',r',hk,hi'⟩,.of_steps s0 harr⟩
 | outgrown=>exact ⟨_,a₁,w₁,⟨s',r',hk,hi'⟩,.of_steps s0 harr⟩

def zhw (l:List Oper) (ts:Nat->Value):Nat->Value:=λt=>if l.any (λo=>o.dst==some t) then zcm else ts t
theorem GI.panicked {l:List Oper} {r r':Nat->Nat} {a a':Act} {W W':World} {ts':Nat->Value} {hp':Hp} {yc':Nat} (h0:GI P C n d r s a W) (hs:∀ k b,s.hp k=some b->hp' k=some b) (hts:∀ t,(∀ o∈l,o.dst≠some t)->ts' t=s.ts t) (h:RI C n d r' ts' hp' yc' a' W') :
  GI P C n d r' ⟨zhw l s.ts,s.hp,s.B,yc'⟩ a' W':=by
 have sub:∀ k,dom s.hp k->dom hp' k:=λk hk=>by
  unfold dom at *
  cases hb:s.hp k with
  | none=>exact absurd hb hk
  | some b=>rw [hs k b hb];simp
 exact ⟨{ h with
  rel:=λt=>by
   show (if l.any (λo=>o.dst==some t) then zcm else s.ts t)=zcm\/_
   cases hd:l.any (λo=>o.dst==some t) with
   | true=>exact .inl rfl
   | false =>
    have ht:=hts t (λo ho e=>by
     have:=List.any_eq_false.1 hd o ho
     rw [e] at this;simp at this)
    rcases h0.ri.rel t with e|e
    ·exact .inl e
    ·rcases h.rel t with e'|e'
     ·exact .inl (ht.symm.trans e')
     ·refine .inr ⟨?_,?_⟩
      ·rw [e'.1,ht];simp [zhw,hd]
      ·simp only [zhw,hd];exact e.2
  sat:=λk b hk=>⟨(h.sat k b (hs k b hk)).1,(h0.ri.sat k b hk).2⟩
  inj:=λk l hk hl=>h.inj k l (sub k hk) (sub l hl)
  ext:=by
   obtain ⟨S,ms,h1,h2,h3,h4⟩:=h.ext
   exact ⟨S,ms,h1,h2,λi hi=>h3 i (sub i hi),h4⟩
  keep:=λi hi=>⟨(h0.ri.keep i hi).1,(h.keep i hi).2⟩
  glob:=h0.ri.glob
  low:=λk hk hd=>h.low k hk (sub k hd) },h0.free,h0.low,h0.flat,h0.rounds⟩

theorem z8a {id:Nat} {l:List Oper} (pn:List FuncId) (hm:P.follows .mixedOrders=true) (hB:Region.lexFrom .any l.toArray l.length 0 (Array.replicate l.length false)=true) (hdst:(zg1 n l&&zry P l)=true)
  (h:∀ (Q:(Nat->Value)->Hp->Tr->Nat->Prop) (Qp:Value->Tr->Prop),(∀ ts hp tr yc,chk .any l.toArray tr=true->K .normal ⟨ts,hp,s.B+8*l.length,yc⟩->Q ts hp tr yc) ->
   (∀ pv tr,chk .any l.toArray tr=true->(∀ yc,K (.panic [{ v:=pv,recovered:=false }]) ⟨zhw l s.ts,s.hp,s.B,yc⟩)->Qp pv tr)->zi5 P C.G ⟨C.Y,pn,true⟩ l.toArray s.B Q Qp 0 l s.ts s.hp [] s.yc false false):GW P C n d ro (.region id l.toArray true) s K:=by
 intro r a W hi
 simp only [Bool.and_eq_true] at hdst
 replace h:=h (λts hp tr yc=>chk .any l.toArray tr=true/\K .normal ⟨ts,hp,s.B+8*l.length,yc⟩) (λpv tr=>chk .any l.toArray tr=true/\∀ yc,K (.panic [{ v:=pv,recovered:=false }]) ⟨zhw l s.ts,s.hp,s.B,yc⟩) (λ_ _ _ _ a b=>⟨a,b⟩) (λ_ _ a b=>⟨a,b⟩)
 have hw:=zir (P:=P) (G:=C.G) (V:=⟨C.Y,pn,true⟩) (base:=s.B) (K:=λts hp yc=>K .normal ⟨ts,hp,s.B+8*l.length,yc⟩) (Kp:=λpv=>∀ yc,K (.panic [{ v:=pv,recovered:=false }]) ⟨zhw l s.ts,s.hp,s.B,yc⟩) hi.flat hi.low rfl l 0 s.ts s.hp [] s.yc false false (λ_=>([],[])) hi.ri.glob (by simpa using hi.free) (λ_=>.inl rfl) (λ_ _=>rfl) (zge hdst.2) h
 refine zru (z39 hi.flat hi.rounds) zs9 hm hB hdst.1 hi.ri hw ?_ ?_ ?_
 ·rintro s' hk hpn r' a' W' hi'
  obtain ⟨hk,hf⟩:=hk.1 hpn
  exact ⟨⟨s'.ts,s'.hp,s.B+8*l.length,s'.yc⟩,r',hk,hi',by simpa using hf,by have:=hi.low;simp;omega,hi.flat,hi.rounds⟩
 ·intro s' pv hk hpn _ r' a' W' ts' hp' yc' hs hts hi'
  exact ⟨_,r',(hk.2 pv hpn).2 yc',hi.panicked hs hts hi'⟩
 ·intro s' hk hpn
  cases hp:s'.pn with
  | none=>exact absurd hp hpn
  | some pv=>exact (hk.2 pv hp).1

theorem ze3 {ops:Array Oper} {base:Nat} {pn:List FuncId} {Q:Exit->Act->World->Prop} {Kn:(Nat->Value)->Hp->Nat->Prop} {Kp:Value->Prop} {hp0:Hp} {ts0:Nat->Value} {l0:List Oper} (hGF:zbo C.G) (hR:∀ y,C.Y=some y->zg9 P C y) (hb:100<=base):∀ (l:List Oper) (k:Nat) (ts:Nat->Value) (hp:Hp) (tr:Tr) (yc:Nat) (wr yd:Bool) (r:Nat->Nat) (a:Act) (W:World),
  (∀ o∈l,(((∀ dd,o.dst=some dd->dd<n)/\∀ c,o.op≠.defer c)/\unC P o)/\o∈l0)->(∀ t,(∀ o∈l0,o.dst≠some t)->ts t=ts0 t)->RI C n d r ts hp yc a W->(∀ x,base+8*k<=x->hp x=none)->(wr=false->∀ k b,hp0 k=some b->hp k=some b) ->
  (∀ ts hp yc r a W,Kn ts hp yc->RI C n d r ts hp yc a W->(∀ x,base+8*(k+l.length)<=x->hp x=none)->Q .normal a W) ->
  (∀ pv ts hp yc r a W,Kp pv->(∀ k b,hp0 k=some b->hp k=some b)->(∀ t,(∀ o∈l0,o.dst≠some t)->ts t=ts0 t)->RI C n d r ts hp yc a W->Q (.panic [{ v:=pv,recovered:=false }]) a W) ->
  zi5 P C.G ⟨C.Y,pn,false⟩ ops base (λts hp _ yc=>Kn ts hp yc) (λpv _=>Kp pv) k l ts hp tr yc wr yd->wpListIn (Fw P ro) 0 P ops Q l a W
 | [],k,ts,hp,tr,yc,wr,yd,r,a,W,_,_,hi,hn,_,hQ,_,h=>hQ ts hp yc r a W h hi (by simpa using hn)
 | o::l,k,ts,hp,tr,yc,wr,yd,r,a,W,hd,hts,hi,hn,hs0,hQ,hQp,h=>by
  have hlen:k+(o::l).length=(k+1)+l.length:=by simp;omega
  rw [hlen] at hQ
  refine wpListIn_step λK hK=>?_
  simp only [zi5] at h
  cases hw:zcs ops o ts with
  | none=>rw [hw] at h;exact h.elim
  | some b =>
   rw [hw] at h
   rw [zgt hi.rel hw]
   cases b with
   | true =>
    simp only at h
    simp only [if_true]
    obtain ⟨e,h1,hs,hyd,h3⟩:=zf8 hGF hi.glob h
    have hs1:(wr||!e.ws.isEmpty)=false->∀ k b,hp0 k=some b->zbi hp (e.ws++e.ns) k=some b:=λhwr k' b hk'=>by
     simp only [Bool.or_eq_false_iff] at hwr
     have e0:e.ws=[]:=by have:=hwr.2;simpa using this
     have hh:=hs0 hwr.1 k' b hk'
     rw [e0,List.nil_append,za6 (λhm=>by have:=hs.ns k' hm;rw [hn k' (by omega)] at hh;cases hh)]
     exact hh
    refine z39 hGF hR o e ts hp yc r a W 0 _ _ hi (hd o (by simp)).1.1 h1 (λx hx=>(hs.ws x hx).2) (λx hx=>?_) (λr' a' W' hpn hi'=>hK _ _ ?_) (λpv W' yc' hpn hi'=>?_)
    ·have:=hs.ns x hx;exact ⟨hn x (by omega),by omega⟩
    ·rw [hpn] at h3
     refine ze3 hGF hR hb l (k+1) _ _ _ _ _ _ r' a' W' (λo ho=>hd o (List.mem_cons_of_mem _ ho)) (λt ht=>(zd1 (ht o (hd o (by simp)).2)).trans (hts t ht)) hi' (λx hx=>?_) hs1 hQ hQp h3
     rw [za6 (λhm=>?_)]
     ·exact hn x (by omega)
     ·have:x∈zaa e.ws\/x∈zaa e.ns:=by simpa [zaa] using hm
      rcases this with h|h
      ·exact (hs.ws x h).2.1 (hn x (by omega))
      ·have:=hs.ns x h;omega
    ·rw [hpn] at h3
     obtain ⟨_,hwr,hkp⟩:=h3
     simp only [Bool.or_eq_false_iff] at hwr
     exact hQp pv ts hp yc' r a W' hkp (hs0 hwr.1) hts hi'
   | false =>
    simp only at h
    simp only [Bool.false_eq_true,if_false]
    exact ⟨zs9 (Y:=none) o ts r _ a W hi.rel ⟨h.1,(hd o (by simp)).1.2⟩,hK _ _ (ze3 hGF hR hb l (k+1) _ _ _ _ _ _ r _ W (λo ho=>hd o (List.mem_cons_of_mem _ ho)) (λt ht=>(zd1 (ht o (hd o (by simp)).2)).trans (hts t ht)) (hi.put_undef (hd o (by simp)).1.1.1) (λx hx=>hn x (by omega)) hs0 hQ hQp h.2)⟩

theorem zwy {id:Nat} {l:List Oper} (pn:List FuncId) (hdst:(zg1 n l&&zry P l)=true) (h:∀ (Q:(Nat->Value)->Hp->Tr->Nat->Prop) (Qp:Value->Tr->Prop),(∀ ts hp tr yc,K .normal ⟨ts,hp,s.B+8*l.length,yc⟩->Q ts hp tr yc) ->
   (∀ pv tr,(∀ yc,K (.panic [{ v:=pv,recovered:=false }]) ⟨zhw l s.ts,s.hp,s.B,yc⟩)->Qp pv tr)->zi5 P C.G ⟨C.Y,pn,false⟩ l.toArray s.B Q Qp 0 l s.ts s.hp [] s.yc false false):GW P C n d ro (.region id l.toArray false) s K:=by
 intro r a W hi
 simp only [Bool.and_eq_true] at hdst
 replace h:=h (λts hp _ yc=>K .normal ⟨ts,hp,s.B+8*l.length,yc⟩) (λpv _=>∀ yc,K (.panic [{ v:=pv,recovered:=false }]) ⟨zhw l s.ts,s.hp,s.B,yc⟩) (λ_ _ _ _ a=>a) (λ_ _ a=>a)
 refine wpIn_region_lit (ze3 (Kn:=λts hp yc=>K .normal ⟨ts,hp,s.B+8*l.length,yc⟩) (Kp:=λpv=>∀ yc,K (.panic [{ v:=pv,recovered:=false }]) ⟨zhw l s.ts,s.hp,s.B,yc⟩) (hp0:=s.hp) (ts0:=s.ts) (l0:=l) hi.flat hi.rounds hi.low l 0 s.ts s.hp [] s.yc false false r a W (λo ho=>⟨⟨ze6 hdst.1 ho,zge hdst.2 o ho⟩,ho⟩) (λ_ _=>rfl) hi.ri (by simpa using hi.free) (λ_ _ _ h=>h) ?_ ?_ h)
 ·intro ts hp yc r' a' W' hk hi' hf
  exact ⟨⟨ts,hp,s.B+8*l.length,yc⟩,r',hk,hi',by simpa using hf,by have:=hi.low;simp;omega,hi.flat,hi.rounds⟩
 ·intro pv ts hp yc r' a' W' hk hs hts hi'
  exact ⟨_,r',hk yc,hi.panicked hs hts hi'⟩

def znj (P:Program) (ts:Nat->Value) (hp:Hp):ResultVar->Option Value
 | .tmp t=>if zds (ts t) then some (ts t) else none
 | .cell t T=>match ts t with
  | .pointer (some ⟨k,off,none⟩)=>match hp k with
   | some b=>match zc6 P T b off with
    | some v=>if zds v then some v else none
    | none=>none
   | none=>none
  | _=>none
def zjh (P:Program) (ts:Nat->Value) (hp:Hp):List ResultVar->Option (List Value)
 | []=>some []
 | x::l=>match znj P ts hp x with
  | some v=>match zjh P ts hp l with
   | some vs=>some (v::vs)
   | none=>none
  | none=>none
def zn1 (P:Program) (rs:List ResultVar) (ts:Nat->Value) (hp:Hp):Option Value :=
 match zjh P ts hp rs with
 | some [v]=>some v
 | some vs=>some (.tuple vs.toArray)
 | none=>none

def zpq (tmps:Array Value):ResultVar->Sem Value
 | .tmp t=>pure (tmps.getD t undef)
 | .cell a t=>do loadVar t (<-asAddr (tmps.getD a undef))
theorem zv3 (fn:Func) (tmps:Array Value):results fn tmps=(do let vs <-fn.results.mapM (zpq tmps);pure (if h:vs.size=1 then vs[0] else .tuple vs)):=by
 unfold results
 congr 2

theorem z0c {r:Nat->Nat} {D:Nat->Prop} {ts:Nat->Value} {hp:Hp} {a:Act} {W:World} (h:Rel r D ts a) (hs:Sat r D hp W) {x:ResultVar} {v:Value} (hv:znj P ts hp x=some v) :
  (zpq a.tmps x).run P W=.ok (ren r v) W/\zds v=true:=by
 cases x with
 | tmp t =>
  simp only [znj] at hv
  split at hv
  ·rename_i hn
   cases hv
   have:=(h t).resolve_left (by intro e;rw [e] at hn;simp [zds,zcm] at hn)
   exact ⟨by simp only [zpq,Sem.run_pure,this.1],hn⟩
  ·cases hv
 | cell t T =>
  simp only [znj] at hv
  split at hv
  ·rename_i k off hg
   split at hv
   ·rename_i b hb
    split at hv
    ·rename_i u hu
     split at hv
     ·rename_i hn
      cases hv
      have h1:=(h t).resolve_left (by rw [hg];simp [zcm])
      rw [hg] at h1
      have h3:a.tmps.getD t undef=.pointer (some ⟨r k,off,none⟩):=h1.1
      refine ⟨?_,hn⟩
      simp only [zpq,h3,asAddr]
      have:=zh4 hu (hs k b hb).1
      simpa using this
     ·cases hv
    ·cases hv
   ·cases hv
  ·cases hv

theorem zpu {r:Nat->Nat} {D:Nat->Prop} {ts:Nat->Value} {hp:Hp} {a:Act} {W:World} (h:Rel r D ts a) (hs:Sat r D hp W):∀ (l:List ResultVar) (vs:List Value),zjh P ts hp l=some vs ->
  (l.mapM (zpq a.tmps)).run P W=.ok (vs.map (ren r)) W/\∀ v∈vs,zds v=true
 | [],vs,hv=>by simp only [zjh,Option.some.injEq] at hv;subst hv;simp
 | x::l,vs,hv=>by
  simp only [zjh] at hv
  split at hv
  ·rename_i v h1
   split at hv
   ·rename_i us h2
    cases hv
    have e1:=z0c h hs h1
    have e2:=zpu h hs l us h2
    refine ⟨?_,λu hu=>?_⟩
    ·rw [List.mapM_cons,Sem.run_bind,e1.1]
     simp only [Result.andThen_ok,Sem.run_bind,e2.1,Sem.run_pure,List.map_cons]
    ·rcases List.mem_cons.1 hu with rfl|hu
     ·exact e1.2
     ·exact e2.2 u hu
   ·cases hv
  ·cases hv

theorem zv2 {r:Nat->Nat} {v:Value} (h:zds v=true):ren r v=zay r v:=by cases v<;>simp_all [zds,ren]

theorem zdn {fn:Func} {r:Nat->Nat} {D:Nat->Prop} {ts:Nat->Value} {hp:Hp} {a:Act} {W:World} (h:Rel r D ts a) (hs:Sat r D hp W) {v:Value} (hv:zn1 P fn.results.toList ts hp=some v):(results fn a.tmps).run P W=.ok (ren r v) W:=by
 unfold zn1 at hv
 have key:∀ vs,zjh P ts hp fn.results.toList=some vs->(results fn a.tmps).run P W=.ok (if h:(vs.map (ren r)).toArray.size=1 then (vs.map (ren r)).toArray[0] else .tuple (vs.map (ren r)).toArray) W/\∀ v∈vs,zds v=true:=λvs hvs=>by
  have e:=zpu h hs _ _ hvs
  refine ⟨?_,e.2⟩
  rw [zv3,Array.mapM_eq_mapM_toList]
  simp only [Sem.run_bind,Sem.run_map,e.1,Result.andThen_ok,Sem.run_pure]
 split at hv
 ·rename_i u hu
  cases hv
  have:=(key _ hu).1
  simpa using this
 ·rename_i vs hn hu
  cases hv
  have e:=key _ hu
  rw [e.1]
  have hlen:vs.length≠1:=λhl=>by
   match vs,hl with
   | [u],_=>exact hn u rfl
  rw [dif_neg (by simpa using hlen)]
  simp only [ren]
  congr 2
  apply Array.ext'
  simp only [Array.toList_map]
  exact List.map_congr_left λv hv=>zv2 (e.2 v hv)
 ·cases hv

theorem zc9 {n:Nat} {fn:Func} {tmps:Array Value} {R:Ending->World->Prop} {u:FrameMode} (hu:u≠.run):∀ (ms:List Nat) (W:World),ms.Nodup->(∀ D∈ms,W.heap[D]? = some (.deferred (some []))) ->
  (∀ W':World,W'.heap.size=W.heap.size->W'.os=W.os->W'.tape=W.tape->W'.output=W.output->(∀ k,k∉ms->W'.heap[k]? = W.heap[k]?)->LeavesIn (Fw P none) n P fn tmps R [] u W')->LeavesInM (Fw P none) n P fn tmps R (ms.map zwr) u W
 | [],W,_,_,h=>h W rfl rfl rfl rfl λ_ _=>rfl
 | D::ms,W,hn,hd,h=>by
  have hD:=hd D (by simp)
  have hn':=List.nodup_cons.1 hn
  refine ⟨hu,.inl ⟨D,_,rfl,run_takeDeferred hD,zc9 hu ms _ hn'.2 (λE hE=>?_) λW' e1 e2 e3 e4 e5=>h W' ?_ e2 e3 e4 λk hk=>?_⟩⟩
  ·rw [World.putObj_heap_other (λe=>hn'.1 (by rw [<-e];exact hE))];exact hd E (List.mem_cons_of_mem _ hE)
  ·rw [e1,zbz]
  ·simp only [List.mem_cons,not_or] at hk
   rw [e5 k hk.2,World.putObj_heap_other (λe=>hk.1 e)]

def zdt (W:World) (D:Nat->Prop):Ext where
 X _ S W':=(∀ k,S k↔k<W.heap.size/\¬D k)/\W'.os=W.os/\W'.tape=W.tape/\W'.output=W.output/\W.heap.size<=W'.heap.size/\∀ k,S k->W'.heap[k]? = W.heap[k]?
 ok _ _ _ _ h hs os tape output size:=⟨h.1,os.trans h.2.1,tape.trans h.2.2.1,output.trans h.2.2.2.1,Nat.le_trans h.2.2.2.2.1 size,λk hk=>(hs k hk).trans (h.2.2.2.2.2 k hk)⟩

def jqn (P:Program) (fn:Func) (hp:Hp) (res:Res) (e:Exit) (s:GS):Prop :=
 match res with
 | .ret v ws=>(e=.normal\/e=.ret)/\zn1 P fn.results.toList s.ts s.hp=some v/\∀ k,dom hp k->s.hp k=zbi hp ws k
 | .pan v=>e=.panic [{ v:=v,recovered:=false }]/\∀ k,dom hp k->s.hp k=hp k
 | .new _ _=>False

theorem zp1:∀ {ws:List (Nat×Blk)} {hp:Hp} {p:Nat×Blk},p∈ws->(∀ k b c,(k,b)∈ws->(k,c)∈ws->b=c)->zbi hp ws p.1=some p.2:=λ{ws hp p} hp1 ho=>by
 have hd:dom (zbi hp ws) p.1:=zjx.2 (.inr (zag.2 ⟨p,hp1,rfl⟩))
 unfold dom at hd
 cases hb:zbi hp ws p.1 with
 | none=>exact absurd hb hd
 | some b =>
  rcases ztx hb with ⟨_,h2⟩|h2
  ·exact absurd (zag.2 ⟨p,hp1,rfl⟩) h2
  ·rw [ho p.1 b p.2 h2 hp1]

theorem zls {f:FuncId} {fn:Func} {c:Code} {args:Array Value} {hp:Hp} {rs:List Nat} {res:Res} {B:Nat} (hGF:zbo G) (hG:∀ k,k<100->hp k=G k) (hf:P.funcs[f]? = some fn) (hb:fn.body=some c) (hcall:∀ a w,(callFunc f a).run P w=.ok (.enter f a) w)
  (ha:∀ x∈args,zap (dom (rst hp rs)) x) (hcl:∀ k b,rst hp rs k=some b->b.ids (dom (rst hp rs))) (hfit:res.fits hp rs) (hn:args.size<=fn.ntmps) (hB:100<=B) (hfree:∀ x,B<=x->rst hp rs x=none)
  (h:∀ C:Ctx,C.G=G->C.hp0=rst hp rs->C.Y=none->GW P C fn.ntmps [] none c ⟨λt=>args.getD t undef,rst hp rs,B,0⟩ (jqn P fn (rst hp rs) res)):Fun P G f args hp rs res:=by
 refine ⟨hcall,ha,hcl,hfit,λr W hgok hsat hinj hlow=>callsIn_of_wp_marks hf hb ⟨fn,hf⟩ ?_⟩
 have ltW:∀ k,dom (rst hp rs) k->r k<W.heap.size:=λk hk=>by
  unfold dom at hk
  cases hb:rst hp rs k with
  | none=>exact absurd hb hk
  | some b=>exact (Array.getElem?_eq_some_iff.1 (hsat k b hb).1).1
 let im:Nat->Prop:=λj=>∃ i,dom (rst hp rs) i/\r i=j
 let C:Ctx:=⟨zdt W im,rst hp rs,r,G,none⟩
 have hi:GI P C fn.ntmps [] r ⟨λt=>args.getD t undef,rst hp rs,B,0⟩ { tmps:=args.map (ren r)++Array.replicate (fn.ntmps - (args.map (ren r)).size) undef,defers:=[] } W:=by
  refine ⟨⟨by simp;omega,λt=>?_,hsat,hinj,⟨λk=>k<W.heap.size/\¬im k,[],⟨λ_=>Iff.rfl,rfl,rfl,rfl,Nat.le_refl _,λ_ _=>rfl⟩,λk hk=>hk.1,λi hi _ hS=>hS.2 ⟨i,hi,rfl⟩,⟨rfl,List.nodup_nil⟩,by simp⟩,
   λi hi=>⟨hi,rfl⟩,λk hk=>?_,hlow⟩,hfree,hB,hGF,λy hy=>by cases hy⟩
  ·right
   dsimp only
   by_cases ht:t<args.size
   ·have hm:args[t]∈args:=Array.getElem_mem ht
    have e:args.getD t undef=args[t]:=by simp [Array.getD,ht]
    rw [e]
    refine ⟨?_,ha _ hm⟩
    have:t<(args.map (ren r)).size:=by simpa using ht
    simp [Array.getElem?_append_left this,ht]
   ·have e:args.getD t undef=undef:=by simp [Array.getElem?_eq_none (Nat.le_of_not_lt ht)]
    rw [e]
    refine ⟨?_,zcv _⟩
    rw [zci]
    simp only [Array.getD_eq_getD_getElem?]
    rw [Array.getElem?_append_right (by simpa using Nat.le_of_not_lt ht),Array.getElem?_replicate]
    split<;>rfl
  ·show rst hp rs k=G k
   simp [rst,hk,hG k hk]
 refine wpIn_mono (h C rfl rfl rfl r _ W hi) ?_
 rintro e a' W' ⟨s',r',hres,hi'⟩
 obtain ⟨S,ms,⟨hS,os,tape,output,size,hsame⟩,hS1,hS2,⟨hdef,hnd⟩,hms⟩:=hi'.ri.ext
 have hkeep:∀ i,dom (rst hp rs) i->dom s'.hp i/\r' i=r i:=hi'.ri.keep
 have hobj:∀ b:Blk,b.ids (dom (rst hp rs))->b.obj r'=b.obj r:=λb hb=>Blk.obj_congr (λk hk=>(hkeep k hk).2) hb
 -- the blocks of what was there
 have old:∀ W'':World,(∀ k,k∉ms->W''.heap[k]? = W'.heap[k]?)->∀ k,k<W.heap.size->¬im k->W''.heap[k]? = W.heap[k]?:=λW'' hW k hk hi=>by
  have hSk:S k:=(hS k).2 ⟨hk,hi⟩
  rw [hW k (λhm=>(hms k hm).2.1 hSk)]
  exact hsame k hSk
 have mine:∀ W'':World,(∀ k,k∉ms->W''.heap[k]? = W'.heap[k]?)->∀ i b,s'.hp i=some b->W''.heap[r' i]? = some (b.obj r'):=λW'' hW i b hb=>by
  rw [hW _ (λhm=>hi'.ri.ne_mark (by unfold dom;rw [hb];simp) (hms _ hm).1 rfl)]
  exact (hi'.ri.sat i b hb).1
 cases res with
 | ret v ws =>
  obtain ⟨he,hr,hhp⟩:=hres
  have hend:∀ W'':World,W''.heap.size=W'.heap.size->W''.os=W'.os->W''.tape=W'.tape->W''.output=W'.output->(∀ k,k∉ms->W''.heap[k]? = W'.heap[k]?) ->
    LeavesIn (Fw P none) 0 P fn a'.tmps ((Res.ret v ws).holds r (dom (rst hp rs)) W) [] .returning W'':=λW'' e1 e2 e3 e4 e5=>by
   have hsat':Sat r' (dom s'.hp) s'.hp W'':=λk b hk=>⟨mine W'' e5 k b hk,(hi'.ri.sat k b hk).2⟩
   have hrun:=zdn (fn:=fn) hi'.ri.rel hsat' hr
   rw [zcy (λk hk=>(hkeep k hk).2) hfit.1] at hrun
   refine ⟨_,hrun,rfl,?_⟩
   refine ⟨e2.trans os,e3.trans tape,e4.trans output,by rw [e1];exact size,λk hk hnw=>?_,λp hp1=>?_,by simp,by simp⟩
   ·by_cases hk':im k
    ·obtain ⟨i,hi1,rfl⟩:=hk'
     have hiw:i∉zaa ws:=λhm=>by obtain ⟨p,hp1,rfl⟩:=zag.1 hm;exact hnw p hp1 rfl
     cases hb:rst hp rs i with
     | none=>exact absurd hb hi1
     | some b =>
      have e:s'.hp i=some b:=by rw [hhp i hi1,za6 hiw];exact hb
      have:=mine W'' e5 i b e
      rw [(hkeep i hi1).2,hobj b (hcl i b hb)] at this
      rw [this,(hsat i b hb).1]
    ·exact old W'' e5 k hk hk'
   ·simp only [List.append_nil] at hp1
    have hk:=hfit.2.1 p.1 (zag.2 ⟨p,hp1,rfl⟩)
    have hdm:dom (rst hp rs) p.1:=by unfold dom rst at *;simp [hk.1];exact hk.2.1
    have e:s'.hp p.1=some p.2:=by rw [hhp _ hdm];exact zp1 hp1 hfit.2.2.1
    have:=mine W'' e5 _ _ e
    have hid:=hfit.2.2.2 p hp1
    rw [(hkeep _ hdm).2,hobj _ hid] at this
    exact ⟨this,Blk.ids_mono (λk hk=>.inl hk) hid⟩
  rcases he with rfl|rfl
  ·show LeavesInM _ _ _ _ _ _ a'.defers _ _
   rw [hdef,List.append_nil]
   exact zc9 (by simp) ms W' hnd (λD hD=>(hms D hD).1) hend
  ·show LeavesInM _ _ _ _ _ _ a'.defers _ _
   rw [hdef,List.append_nil]
   exact zc9 (by simp) ms W' hnd (λD hD=>(hms D hD).1) hend
 | new v ns=>exact hres.elim
 | pan v =>
  obtain ⟨rfl,hhp⟩:=hres
  show LeavesInM _ _ _ _ _ _ a'.defers _ _
  rw [hdef,List.append_nil]
  refine zc9 (by simp) ms W' hnd (λD hD=>(hms D hD).1) λW'' e1 e2 e3 e4 e5=>?_
  refine ⟨rfl,e2.trans os,e3.trans tape,e4.trans output,by rw [e1];exact size,λk hk=>?_⟩
  by_cases hk':im k
  ·obtain ⟨i,hi1,rfl⟩:=hk'
   cases hb:rst hp rs i with
   | none=>exact absurd hb hi1
   | some b =>
    have e:s'.hp i=some b:=by rw [hhp i hi1];exact hb
    have:=mine W'' e5 i b e
    rw [(hkeep i hi1).2,hobj b (hcl i b hb)] at this
    rw [this,(hsat i b hb).1]
  ·exact old W'' e5 k hk hk'

theorem zku (hGF:zbo G) (rs:List Nat):rst G rs=G:=funext λk=>by
 unfold rst
 split
 ·rfl
 ·rename_i hk
  cases hg:G k with
  | none=>rfl
  | some b=>exact absurd (.inl (hGF k b hg).1) hk

theorem zx7 (hGF:zbo G) {W:World} (h:GOK G W):Sat id (dom G) G W:=λk b hk=>by
 obtain ⟨_,hfl⟩:=hGF k b hk
 refine ⟨?_,Blk.flat_ids hfl⟩
 rw [id,h k b hk]
 rw [Blk.obj_flat (λx hx=>hfl x hx)]

theorem zv4 {f:FuncId} {args:Array Value} {v:Value} (hGF:zbo G) (hv:za0 v=true) (ha:∀ x∈args,za0 x=true) (h:Fun P G f args G [] (.ret v [])):Ret P G f args v:=by
 refine ⟨hv,ha,h.enter,λW hW=>?_⟩
 have hrun:=h.run id W hW (by rw [zku hGF];exact zx7 hGF hW) (λ_ _ _ _ e=>e) (λ_ _ _=>rfl)
 rw [zbs (λx hx=>zau (ha x hx))] at hrun
 refine hrun.mono λe W' ⟨he,ht⟩=>?_
 rw [zau hv] at he
 exact ⟨he,ht.os,ht.tape,ht.output,ht.size,λk hk=>ht.same k hk (by simp)⟩

theorem zas {f:FuncId} {fn:Func} {c:Code} {args:Array Value} {v:Value} (hGF:zbo G) (hf:P.funcs[f]? = some fn) (hb:fn.body=some c) (hcall:∀ a w,(callFunc f a).run P w=.ok (.enter f a) w)
  (hv:za0 v=true) (ha:∀ x∈args,za0 x=true) (hn:args.size<=fn.ntmps)
  (h:∀ C:Ctx,C.G=G->C.hp0=G->C.Y=none->GW P C fn.ntmps [] none c ⟨λt=>args.getD t undef,G,200,0⟩ (λe s=>(e=.normal\/e=.ret)/\zn1 P fn.results.toList s.ts s.hp=some v)):Ret P G f args v:=by
 refine zv4 hGF hv ha (zls (B:=200) hGF (λ_ _=>rfl) hf hb hcall (λx hx=>zai (ha x hx)) (λk b hk=>?_) ⟨zai hv,by simp [zaa],by simp,by simp⟩ hn (by omega) (λx hx=>?_) λC h1 h2 h3=>?_)
 ·rw [zku hGF] at hk |-
  exact Blk.flat_ids ((hGF k b hk).2)
 ·rw [zku hGF]
  cases hg:G x with
  | none=>rfl
  | some b=>have:=(hGF x b hg).1;omega
 ·rw [zku hGF] at h2 |-
  intro r a W hi
  refine wpIn_mono (h C h1 h2 h3 r a W hi) ?_
  rintro e a' W' ⟨s',r',⟨he,hr⟩,hi'⟩
  refine ⟨s',r',⟨he,hr,λk hk=>?_⟩,hi'⟩
  have hlt:k<100:=by
   unfold dom at hk
   cases hg:G k with
   | none=>exact absurd hg hk
   | some b=>exact (hGF k b hg).1
  simp only [zbi]
  rw [hi'.ri.glob k hlt,h1]

theorem zks {f:FuncId} {fn:Func} {c:Code} {args:Array Value} {oc:Out} (hGF:zbo G) (hf:P.funcs[f]? = some fn) (hb:fn.body=some c) (hcall:∀ a w,(callFunc f a).run P w=.ok (.enter f a) w)
  (hv:∀ v,oc=.ret v->za0 v=true) (ha:∀ x∈args,za0 x=true) (hn:args.size<=fn.ntmps)
  (h:∀ C:Ctx,C.G=G->C.hp0=G->C.Y=none->GW P C fn.ntmps [] none c ⟨λt=>args.getD t undef,G,200,0⟩ (λe s=>match oc with
   | .ret v=>(e=.normal\/e=.ret)/\zn1 P fn.results.toList s.ts s.hp=some v
   | .pan v=>e=.panic [{ v:=v,recovered:=false }])):zuf P G f args oc:=by
 refine ⟨hv,ha,hcall,λW hW=>?_⟩
 have low:∀ k,dom G k->k<100:=λk hk=>by
  unfold dom at hk
  cases hg:G k with
  | none=>exact absurd hg hk
  | some b=>exact (hGF k b hg).1
 cases oc with
 | ret v =>
  have hr:=zas (v:=v) hGF hf hb hcall (hv v rfl) ha hn h
  exact hr.2.2.2 W hW
 | pan v =>
  have hfun:Fun P G f args G [] (.pan v):=by
   refine zls (B:=200) hGF (λ_ _=>rfl) hf hb hcall (λx hx=>zai (ha x hx)) (λk b hk=>?_) trivial hn (by omega) (λx hx=>?_) λC h1 h2 h3=>?_
   ·rw [zku hGF] at hk |-
    exact Blk.flat_ids ((hGF k b hk).2)
   ·rw [zku hGF]
    cases hg:G x with
    | none=>rfl
    | some b=>have:=(hGF x b hg).1;omega
   ·rw [zku hGF] at h2 |-
    intro r a W hi
    refine wpIn_mono (h C h1 h2 h3 r a W hi) ?_
    rintro e a' W' ⟨s',r',he,hi'⟩
    exact ⟨s',r',⟨he,λk hk=>by rw [hi'.ri.glob k (low k hk),h1]⟩,hi'⟩
  have hrun:=hfun.run id W hW (by rw [zku hGF];exact zx7 hGF hW) (λ_ _ _ _ e=>e) (λ_ _ _=>rfl)
  rw [zbs (λx hx=>zau (ha x hx))] at hrun
  exact hrun

theorem Ret.unique {f:FuncId} {args:Array Value} {v u:Value} (hW:∃ W,GOK G W) (hi:P.inits.idxOf? f=none) (h:Ret P G f args v) (h':Ret P G f args u):v=u:=by
 obtain ⟨W,hW⟩:=hW
 have mk:∀ {v:Value},Ret P G f args v->∃ k w',runN P k (lone (Frame.enter P f args .normal) [] W)=.ended (.done v) w':=λ{v} h=>by
  have:=(h.2.2.2 W hW).calls.mono (R':=λ| .returned x,_=>x=v|_,_=>False) (λe w' ⟨he,_⟩=>by subst he;rfl)
  obtain ⟨k,x,w',h1,h2⟩:=this.done hi
  exact ⟨k,w',by rw [h1];cases h2;rfl⟩
 obtain ⟨k,w1,h1⟩:=mk h
 obtain ⟨l,w2,h2⟩:=mk h'
 have more:∀ {k:Nat} {x:Value} {w:World},runN P k (lone (Frame.enter P f args .normal) [] W)=.ended (.done x) w->∀ m,runN P (k+m) (lone (Frame.enter P f args .normal) [] W)=.ended (.done x) w:=λ{k x w} hk m=>by
  rw [runN_add,hk]
 have e1:=more h1 l
 have e2:=more h2 k
 rw [Nat.add_comm] at e2
 rw [e1] at e2
 injection e2 with e2
 injection e2

theorem zac {f:FuncId} {args:Array Value} {v:Value} {K:Value->Prop} (hW:∃ W,GOK G W) (hi:P.inits.idxOf? f=none) (h:Ret P G f args v):za2 P G f args K↔K v:=by
 refine ⟨λ⟨u,hu,hk⟩=>?_,λhk=>⟨v,.inl h,hk⟩⟩
 rcases hu with hu|hu
 ·exact Ret.unique hW hi h hu▸hk
 ·have:=h.2.2.1 args default
  rw [hu.2.2 default] at this
  cases this
theorem zup {f:FuncId} {args:Array Value} {v:Value} {K:Value->Prop} (h:ji6 P f args v):za2 P G f args K↔K v:=by
 refine ⟨λ⟨u,hu,hk⟩=>?_,λhk=>⟨v,.inr h,hk⟩⟩
 rcases hu with hu|hu
 ·have:=hu.2.2.1 args default
  rw [h.2.2 default] at this
  cases this
 ·have:=hu.2.2 default
  rw [h.2.2 default] at this
  injection this with this
  injection this with this
  subst this
  exact hk

end

section
variable {P:Program} {G:Hp}

theorem zft.of_none {E:Ext} {y:YG} (hs:y.sh=none) (h:∀ c x S W,GOK G W->y.xs[c]? = some x->c<=y.stop->E.X c S W->(∀ k,S k->k<W.heap.size) ->
  YieldAt (Fs P) 0 P y.l x W λe W'=>(match y.pan c with|none=>e=.returned (.bool (c != y.stop))|some pv=>e=.panicked [{ v:=pv,recovered:=false }])/\GOK G W'/\W.heap.size<=W'.heap.size/\(∀ k,k<W.heap.size->¬S k->W'.heap[k]? = W.heap[k]?) /\
   ∃ S',E.X (c+1) S' W'/\(∀ k,S' k->k<W'.heap.size)/\∀ k,S' k->k<W.heap.size->S k):zft P G E y:=by
 intro c x S W h1 h2 h3 h4 h5 _
 obtain ⟨fn,tmps,assign,body,hy,hr⟩:=h c x S W h1 h2 h3 h4 h5
 refine ⟨fn,tmps,assign,body,hy,RoundIn.mono hr ?_⟩
 rintro e W' ⟨a1,a2,a3,a4,a5⟩
 exact ⟨a1,a2,a3,λk hk hS _=>a4 k hk hS,by unfold YG.has;rw [hs];trivial,a5⟩
structure IterX (pn:Option Value) (P:Program) (G:Hp) (f:FuncId) (caps:Array Value) (hp:Hp) (rs:List Nat) (xs:List (Array Value)):Prop where
 enter:∀ a w,(callFunc f a).run P w=.ok (.enter f a) w
 cids:∀ x∈caps,zbr x=true/\zap (dom (rst hp rs)) x
 closed:∀ k b,rst hp rs k=some b->b.ids (dom (rst hp rs))
 run:∀ (E:Ext) (l stop:Nat) r S W,GOK G W->Sat r (dom (rst hp rs)) (rst hp rs) W->Inj r (dom (rst hp rs))->(∀ k,k<100->dom (rst hp rs) k->r k=k)->(pn≠none->stop<xs.length)->zft P G E ⟨l,xs,stop,pn,none⟩->E.X 0 S W->(∀ k,S k->k<W.heap.size) ->
  (∀ i,dom (rst hp rs) i->100<=i->¬S (r i)) ->
  zd8 P f (#[Value.func (.yield l) #[] #[]]++caps.map (ren r)) W λe W'=>match pn with
   | none=>(∃ v,e=.returned v)/\∃ S',E.X (min (stop+1) xs.length) S' W'
   | some pv=>e=.panicked [{ v:=pv,recovered:=false }]/\∃ c S',E.X c S' W'
abbrev zhp (P:Program) (G:Hp) (f:FuncId) (caps:Array Value) (hp:Hp) (rs:List Nat) (xs:List (Array Value)):Prop:=IterX none P G f caps hp rs xs
theorem z3t (pn:Option Value) {f:FuncId} {fn:Func} {c:Code} {caps:Array Value} {hp:Hp} {rs:List Nat} {xs:List (Array Value)} {B:Nat} {v:Value} (hGF:zbo G) (hG:∀ k,k<100->hp k=G k) (hf:P.funcs[f]? = some fn) (hb:fn.body=some c) (hcall:∀ a w,(callFunc f a).run P w=.ok (.enter f a) w)
  (ha:∀ x∈caps,zbr x=true/\zap (dom (rst hp rs)) x) (hcl:∀ k b,rst hp rs k=some b->b.ids (dom (rst hp rs))) (hn:caps.size+1<=fn.ntmps) (hB:100<=B) (hfree:∀ x,B<=x->rst hp rs x=none)
  (h:∀ (C:Ctx) (l stop:Nat),C.G=G->C.hp0=rst hp rs->(pn≠none->stop<xs.length)->C.Y=some ⟨l,xs,stop,pn,none⟩->GW P C fn.ntmps [] none c ⟨λt=>(#[Value.func (.yield l) #[] #[]]++caps).getD t undef,rst hp rs,B,0⟩
   (λe s=>match pn with
    | none=>(e=.normal\/e=.ret)/\zn1 P fn.results.toList s.ts s.hp=some v/\s.yc=min (stop+1) xs.length
    | some pv=>e=.panic [{ v:=pv,recovered:=false }])):IterX pn P G f caps hp rs xs:=by
 refine ⟨hcall,ha,hcl,λE l stop r S W hgok hsat hinj hlow hlen hR hX hS hdis=>callsIn_of_wp_marks hf hb ⟨fn,hf⟩ ?_⟩
 let C:Ctx:=⟨E,rst hp rs,r,G,some ⟨l,xs,stop,pn,none⟩⟩
 have hi:GI P C fn.ntmps [] r ⟨λt=>(#[Value.func (.yield l) #[] #[]]++caps).getD t undef,rst hp rs,B,0⟩
   { tmps:=(#[Value.func (.yield l) #[] #[]]++caps.map (ren r))++Array.replicate (fn.ntmps - (#[Value.func (.yield l) #[] #[]]++caps.map (ren r)).size) undef,defers:=[] } W:=by
  have hsz:(#[Value.func (.yield l) #[] #[]]++caps.map (ren r)).size=(#[Value.func (.yield l) #[] #[]]++caps).size:=by simp
  have hmap:#[Value.func (.yield l) #[] #[]]++caps.map (ren r)=(#[Value.func (.yield l) #[] #[]]++caps).map (ren r):=by simp [ren,zay,zak]
  refine ⟨⟨?_,λt=>?_,hsat,hinj,⟨S,[],hX,hS,λi hi h1=>hdis i hi h1,⟨rfl,List.nodup_nil⟩,by simp⟩,λi hi=>⟨hi,rfl⟩,λk hk=>?_,hlow⟩,hfree,hB,hGF,λy hy=>by cases hy;exact ⟨hR,trivial⟩⟩
  ·simp only [Array.size_append,Array.size_replicate,hsz]
   simp
   omega
  ·right
   dsimp only
   rw [hmap]
   generalize hA:#[Value.func (.yield l) #[] #[]]++caps=A
   have hAi:∀ x∈A,zap (dom (rst hp rs)) x:=λx hx=>by
    rw [<-hA] at hx
    rcases Array.mem_append.1 hx with hx|hx
    ·simp at hx;subst hx;simp [zap,zax,zah]
    ·exact (ha x hx).2
   by_cases ht:t<A.size
   ·have hm:A[t]∈A:=Array.getElem_mem ht
    have e:A.getD t undef=A[t]:=by simp [Array.getD,ht]
    rw [e]
    refine ⟨?_,hAi _ hm⟩
    have:t<(A.map (ren r)).size:=by simpa using ht
    simp [Array.getElem?_append_left this,ht]
   ·have e:A.getD t undef=undef:=by simp [Array.getElem?_eq_none (Nat.le_of_not_lt ht)]
    rw [e]
    refine ⟨?_,zcv _⟩
    rw [zci]
    simp only [Array.getD_eq_getD_getElem?]
    rw [Array.getElem?_append_right (by simpa using Nat.le_of_not_lt ht),Array.getElem?_replicate]
    split<;>rfl
  ·show rst hp rs k=G k
   simp [rst,hk,hG k hk]
 refine wpIn_mono (h C l stop rfl rfl hlen rfl r _ W hi) ?_
 rintro e a' W' ⟨s',r',hres,hi'⟩
 obtain ⟨S',ms,hX',hS1,hS2,⟨hdef,hnd⟩,hms⟩:=hi'.ri.ext
 cases pn with
 | none =>
  obtain ⟨he,hr,hy⟩:=hres
  have hend:∀ W'':World,W''.heap.size=W'.heap.size->W''.os=W'.os->W''.tape=W'.tape->W''.output=W'.output->(∀ k,k∉ms->W''.heap[k]? = W'.heap[k]?) ->
    LeavesIn (Fw P none) 0 P fn a'.tmps (λe W'=>(∃ v,e=.returned v)/\∃ S',E.X (min (stop+1) xs.length) S' W') [] .returning W'':=λW'' e1 e2 e3 e4 e5=>by
   have hsat':Sat r' (dom s'.hp) s'.hp W'':=λk b hk=>⟨by
    rw [e5 _ (λhm=>hi'.ri.ne_mark (by unfold dom;rw [hk];simp) (hms _ hm).1 rfl)]
    exact (hi'.ri.sat k b hk).1,(hi'.ri.sat k b hk).2⟩
   refine ⟨_,zdn (fn:=fn) hi'.ri.rel hsat' hr,⟨_,rfl⟩,S',?_⟩
   rw [<-hy]
   exact E.ok _ _ _ _ hX' (λk hk=>e5 k λhm=>(hms k hm).2.1 hk) e2 e3 e4 (by rw [e1];exact Nat.le_refl _)
  rcases he with rfl|rfl
  ·show LeavesInM _ _ _ _ _ _ a'.defers _ _
   rw [hdef,List.append_nil]
   exact zc9 (by simp) ms W' hnd (λD hD=>(hms D hD).1) hend
  ·show LeavesInM _ _ _ _ _ _ a'.defers _ _
   rw [hdef,List.append_nil]
   exact zc9 (by simp) ms W' hnd (λD hD=>(hms D hD).1) hend
 | some pv =>
  subst hres
  show LeavesInM _ _ _ _ _ _ a'.defers _ _
  rw [hdef,List.append_nil]
  refine zc9 (by simp) ms W' hnd (λD hD=>(hms D hD).1) λW'' e1 e2 e3 e4 e5=>?_
  exact ⟨rfl,_,S',E.ok _ _ _ _ hX' (λk hk=>e5 k λhm=>(hms k hm).2.1 hk) e2 e3 e4 (by rw [e1];exact Nat.le_refl _)⟩
theorem zq3 {f:FuncId} {fn:Func} {c:Code} {caps:Array Value} {hp:Hp} {rs:List Nat} {xs:List (Array Value)} {B:Nat} {v:Value} (hGF:zbo G) (hG:∀ k,k<100->hp k=G k) (hf:P.funcs[f]? = some fn) (hb:fn.body=some c) (hcall:∀ a w,(callFunc f a).run P w=.ok (.enter f a) w)
  (ha:∀ x∈caps,zbr x=true/\zap (dom (rst hp rs)) x) (hcl:∀ k b,rst hp rs k=some b->b.ids (dom (rst hp rs))) (hn:caps.size+1<=fn.ntmps) (hB:100<=B) (hfree:∀ x,B<=x->rst hp rs x=none)
  (h:∀ (C:Ctx) (l stop:Nat),C.G=G->C.hp0=rst hp rs->C.Y=some ⟨l,xs,stop,none,none⟩->GW P C fn.ntmps [] none c ⟨λt=>(#[Value.func (.yield l) #[] #[]]++caps).getD t undef,rst hp rs,B,0⟩
   (λe s=>(e=.normal\/e=.ret)/\zn1 P fn.results.toList s.ts s.hp=some v/\s.yc=min (stop+1) xs.length)):zhp P G f caps hp rs xs :=
 z3t none (v:=v) hGF hG hf hb hcall ha hcl hn hB hfree λC l stop h1 h2 _ h3=>h C l stop h1 h2 h3
def zav (ps:List Tmp) (x:List Value) (ts:Nat->Value):Nat->Value:=(ps.zip x).foldl (λts p=>upd ts p.1 p.2) ts

def zbk:Exit->Option Code
 | .ret=>some .ret
 | .exit id=>some (.exit id)
 | .goto l=>some (.goto l)
 | _=>none

variable {C:Ctx} {n:Nat} {d:List Deferred} {s:GS} {K:Exit->GS->Prop}

theorem Weak.ctx {C C':Ctx} {s s':GS} (h:C.hp0=C'.hp0) (hG:C.G=C'.G) (hw:Weak C s s'):Weak C' s s':=⟨hw.ts,hw.hp,hw.ids,by rw [<-h];exact hw.keep,by rw [<-hG];exact hw.glob,hw.yc,hw.free,hw.low⟩

def zmp (S:Nat->Prop) (W:World) (Φ:World->Prop):Prop :=
 ∀ W':World,(∀ k,S k->W'.heap[k]? = W.heap[k]?)->W'.os=W.os->W'.tape=W.tape->W'.output=W.output->W.heap.size<=W'.heap.size->Φ W'
theorem zmp.trans {S S':Nat->Prop} {W W':World} {Φ:World->Prop} (h:zmp S W Φ) (hs:∀ k,S k->S' k) (h1:∀ k,S k->W'.heap[k]? = W.heap[k]?) (h2:W'.os=W.os) (h3:W'.tape=W.tape) (h4:W'.output=W.output) (h5:W.heap.size<=W'.heap.size):zmp S' W' Φ :=
 λW'' k1 k2 k3 k4 k5=>h W'' (λk hk=>(k1 k (hs k hk)).trans (h1 k hk)) (k2.trans h2) (k3.trans h3) (k4.trans h4) (Nat.le_trans h5 k5)
theorem zmp.here {S:Nat->Prop} {W:World} {Φ:World->Prop} (h:zmp S W Φ):Φ W:=h W (λ_ _=>rfl) rfl rfl rfl (Nat.le_refl _)

structure Own0 (C:Ctx) (d:List Deferred) (So:Nat->Prop) (ms:List Nat) (yc:Nat) (a:Act) (r:Nat->Nat) (ts:Nat->Value) (hp:Hp) (V:World):Prop where
 ri:Rel r (dom hp) ts a
 sat:Sat r (dom hp) hp V
 inj:Inj r (dom hp)
 X:C.E.X yc So V
 sep:∀ i,dom hp i->100<=i->¬So (r i)
 mks:∀ D∈ms,V.heap[D]? = some (.deferred (some []))
 keep:∀ i,dom C.hp0 i->dom hp i/\r i=C.r0 i
 glob:∀ k,k<100->hp k=C.G k
 low:∀ k,k<100->dom hp k->r k=k

theorem Own0.supp {So:Nat->Prop} {ms:List Nat} {yc:Nat} {a:Act} {r:Nat->Nat} {ts:Nat->Value} {hp:Hp} {V:World} {S:Nat->Prop} (h:Own0 C d So ms yc a r ts hp V) (h1:∀ k,So k->S k) (h2:∀ i,dom hp i->S (r i)) (h3:∀ D∈ms,S D):zmp S V (Own0 C d So ms yc a r ts hp) :=
 λW' k1 k2 k3 k4 k5=>⟨h.ri,λk b hk=>⟨(k1 _ (h2 k (by unfold dom;rw [hk];simp))).trans (h.sat k b hk).1,(h.sat k b hk).2⟩,h.inj,C.E.ok _ _ _ _ h.X (λk hk=>k1 k (h1 k hk)) k2 k3 k4 k5,h.sep,λD hD=>(k1 D (h3 D hD)).trans (h.mks D hD),h.keep,h.glob,h.low⟩

theorem zey:∀ (l:List (Tmp×Value)) (A:Array Value),(l.foldl (λt (p:Tmp×Value)=>t.setIfInBounds p.1 p.2) A).size=A.size
 | [],_=>rfl
 | p::l,A=>by rw [List.foldl_cons,zey l];simp

theorem znk {r:Nat->Nat} {D:Nat->Prop}:∀ (l:List (Tmp×Value)) (ts:Nat->Value) (A:Array Value),(∀ p∈l,p.1<A.size/\za0 p.2=true)->Rel r D ts { tmps:=A,defers:=[] } ->
  Rel r D (l.foldl (λts p=>upd ts p.1 p.2) ts) { tmps:=l.foldl (λt (p:Tmp×Value)=>t.setIfInBounds p.1 p.2) A,defers:=[] }
 | [],_,_,_,h=>h
 | p::l,ts,A,hl,h=>by
  have hp:=hl p (by simp)
  refine znk l (upd ts p.1 p.2) (A.setIfInBounds p.1 p.2) (λq hq=>by simpa using hl q (List.mem_cons_of_mem _ hq)) ?_
  have:=h.put (dst:=some p.1) (λd hd=>by cases hd;exact hp.1) (zai (D:=D) hp.2)
  rw [zau hp.2] at this
  exact this

def imO (r:Nat->Nat) (hp:Hp):Nat->Prop:=λj=>∃ i,dom hp i/\r i=j

theorem RI.not_loop {C:Ctx} {r:Nat->Nat} {ts:Nat->Value} {hp:Hp} {yc:Nat} {a:Act} {V:World} (h:RI C n d r ts hp yc a V) {l:Nat} {L:Loop} (hl:V.heap[l]? = some (.loop L)):¬imO r hp l:=by
 rintro ⟨i,hd,rfl⟩
 unfold dom at hd
 cases hb:hp i with
 | none=>exact hd hb
 | some b=>have:=(h.sat i b hb).1;rw [hl] at this;exact (Blk.obj_loop this).elim

theorem zkt {d0:List Deferred} {So S:Nat->Prop} {ms:List Nat} {yc y1 y2 n0:Nat} {a a1 a2:Act} {V V1 V2:World} {rc r1 r2:Nat->Nat} {tsE ts1 ts2:Nat->Value} {hpc hp1 hp2:Hp} {l:Nat} {L0 L1 L2:Loop} (hGF:zbo C.G)
  (hown:Own0 C d0 So ms yc a rc tsE hpc V) (hSol:¬So l) (hSV:∀ k,S k->k<V.heap.size) (kSo:∀ k,So k->S k) (kms:∀ D∈ms,S D) (hrcS:∀ i,dom hpc i->S (rc i)) (hl:V.heap[l]? = some (.loop L0))
  (ri1:RI ⟨zdt V (imO rc hpc),hpc,rc,C.G,none⟩ n0 [] r1 ts1 hp1 y1 a1 V1)
  {D1:Nat->Prop} (hD1:∀ k,k<V.heap.size->D1 k->imO r1 hp1 k) (hD1l:¬D1 l) (ri2:RI ⟨zdt (V1.putObj l (.loop L1)) D1,hpc,rc,C.G,none⟩ n0 [] r2 ts2 hp2 y2 a2 V2) :
  V1.heap[l]? = some (.loop L0)/\V2.heap[l]? = some (.loop L1)/\Own0 C d0 So ms yc a r2 tsE hp2 (V2.putObj l (.loop L2))/\(∀ i,dom hp2 i->V.heap.size<=r2 i\/S (r2 i))/\V.heap.size<=V2.heap.size /\
   (∀ k,k<V.heap.size->¬imO rc hpc k->k≠l->(V2.putObj l (.loop L2)).heap[k]? = V.heap[k]?)/\GOK C.G (V2.putObj l (.loop L2)):=by
 obtain ⟨T1,m1,⟨hT1,os1,tp1,ou1,sz1,sm1⟩,hT1s,sep1,_,_⟩:=ri1.ext
 obtain ⟨T2,m2,⟨hT2,os2,tp2,ou2,sz2,sm2⟩,hT2s,sep2,_,_⟩:=ri2.ext
 have hlV:l<V.heap.size:=(Array.getElem?_eq_some_iff.1 hl).1
 have hl0:¬imO rc hpc l:=by
  rintro ⟨i,hd,rfl⟩
  unfold dom at hd
  cases hb:hpc i with
  | none=>exact hd hb
  | some b=>have:=(hown.sat i b hb).1;rw [hl] at this;exact (Blk.obj_loop this).elim
 have hl1:V1.heap[l]? = some (.loop L0):=(sm1 l ((hT1 l).2 ⟨hlV,hl0⟩)).trans hl
 have hl1i:¬imO r1 hp1 l:=ri1.not_loop hl1
 have hlt1:l<V1.heap.size:=(Array.getElem?_eq_some_iff.1 hl1).1
 have szp:(V1.putObj l (.loop L1)).heap.size=V1.heap.size:=zbz _ _ _
 have hl2:V2.heap[l]? = some (.loop L1):=(sm2 l ((hT2 l).2 ⟨by rw [szp];exact hlt1,hD1l⟩)).trans (World.putObj_heap_same hlt1)
 have size:V.heap.size<=V2.heap.size:=by rw [szp] at sz2;omega
 have g1:∀ k,k<100->hp1 k=C.G k:=ri1.glob
 have g2:∀ k,k<100->hp2 k=C.G k:=ri2.glob
 have gc:=hown.glob
 have eqd:∀ {h h':Hp} {k:Nat},h k=h' k->dom h k->dom h' k:=λ{h h' k} e hd=>by unfold dom at *;rw [<-e];exact hd
 -- an old place of a new state is an old place of an old state
 have im1:∀ k,k<V.heap.size->imO r1 hp1 k->imO rc hpc k:=λk hk ⟨i,hd,e⟩=>by
  by_cases h1:100<=i
  ·have:=sep1 i hd h1
   rw [hT1,e] at this
   exact Classical.byContradiction λhc=>this ⟨hk,hc⟩
  ·have hd':dom hpc i:=eqd ((g1 i (by omega)).trans (gc i (by omega)).symm) hd
   exact ⟨i,hd',by rw [<-e,ri1.low i (by omega) hd,hown.low i (by omega) hd']⟩
 have im2:∀ k,k<V.heap.size->imO r2 hp2 k->imO rc hpc k:=λk hk ⟨i,hd,e⟩=>by
  by_cases h1:100<=i
  ·have:=sep2 i hd h1
   rw [hT2,e,szp] at this
   exact im1 k hk (hD1 k hk (Classical.byContradiction λhc=>this ⟨by omega,hc⟩))
  ·have hd':dom hpc i:=eqd ((g2 i (by omega)).trans (gc i (by omega)).symm) hd
   exact ⟨i,hd',by rw [<-e,ri2.low i (by omega) hd,hown.low i (by omega) hd']⟩
 have keep2:∀ i,dom hpc i->dom hp2 i/\r2 i=rc i:=ri2.keep
 have old:∀ i,dom hp2 i->r2 i<V.heap.size->dom hpc i/\r2 i=rc i:=λi hd hlt=>by
  obtain ⟨q,hq,e⟩:=im2 _ hlt ⟨i,hd,rfl⟩
  have:=keep2 q hq
  have e2:q=i:=ri2.inj q i this.1 hd (this.2.trans e)
  subst e2
  exact ⟨hq,this.2⟩
 have frame:∀ k,k<V.heap.size->¬imO rc hpc k->k≠l->(V2.putObj l (.loop L2)).heap[k]? = V.heap[k]?:=λk hk hi hne=>by
  rw [World.putObj_heap_other hne,sm2 k ((hT2 k).2 ⟨by rw [szp];omega,λhc=>hi (im1 k hk (hD1 k hk hc))⟩),World.putObj_heap_other hne,sm1 k ((hT1 k).2 ⟨hk,hi⟩)]
 have sat2:Sat r2 (dom hp2) hp2 (V2.putObj l (.loop L2)):=λk b hk=>by
  have h:=ri2.sat k b hk
  exact ⟨(World.putObj_heap_other (λe=>ri2.not_loop hl2 ⟨k,by unfold dom;rw [hk];simp,e⟩)).trans h.1,h.2⟩
 have gok:∀ {r:Nat->Nat} {h:Hp} {W:World},Sat r (dom h) h W->(∀ k,k<100->h k=C.G k)->(∀ k,k<100->dom h k->r k=k)->GOK C.G W:=λ{r h W} h1 h2 h3 k b hk=>by
  obtain ⟨hlt,hfl⟩:=hGF k b hk
  have hb:h k=some b:=(h2 k hlt).trans hk
  have h9:=(h1 k b hb).1
  rw [h3 k hlt (by unfold dom;rw [hb];simp)] at h9
  rw [h9]
  rw [Blk.obj_flat (λx hx=>hfl x hx)]
 have gok2:=gok sat2 g2 ri2.low
 have gokV:=gok hown.sat gc hown.low
 refine ⟨hl1,hl2,⟨hown.ri.mono (λk hk=>(keep2 k hk).1) (λk hk=>(keep2 k hk).2),sat2,ri2.inj,?_,λi hd h1 hS=>?_,λD hD=>?_,λi hi=>?_,g2,ri2.low⟩,λi hd=>?_,size,frame,gok2⟩
 ·refine C.E.ok _ _ _ _ hown.X (λk hk=>?_) (os2.trans os1) (tp2.trans tp1) (ou2.trans ou1) (by rw [zbz];exact size)
  by_cases hi:imO rc hpc k
  ·obtain ⟨i,hd,rfl⟩:=hi
   by_cases h1:100<=i
   ·exact absurd hk (hown.sep i hd h1)
   ·have e:=hown.low i (by omega) hd
    rw [e]
    have hg:C.G i≠none:=by rw [<-gc i (by omega)];exact hd
    cases hb:C.G i with
    | none=>exact absurd hb hg
    | some b=>rw [gok2 i b hb,gokV i b hb]
  ·by_cases hkl:k=l
   ·exact absurd (hkl▸hk) hSol
   ·exact frame k (hSV k (kSo k hk)) hi hkl
 ·have hlt:=hSV _ (kSo _ hS)
  have:=old i hd hlt
  exact hown.sep i this.1 h1 (this.2▸hS)
 ·have hD':=hown.mks D hD
  rw [frame D (hSV D (kms D hD)) (λ⟨i,hd,e⟩=>?_) (λe=>by rw [e,hl] at hD';cases hD')]
  ·exact hD'
  ·unfold dom at hd
   cases hb:hpc i with
   | none=>exact hd hb
   | some b=>have:=(hown.sat i b hb).1;rw [e,hD'] at this;exact (Blk.obj_def this).elim
 ·have:=hown.keep i hi
  have k2:=keep2 i this.1
  exact ⟨k2.1,k2.2.trans this.2⟩
 ·by_cases hlt:r2 i<V.heap.size
  ·have:=old i hd hlt
   exact .inr (by rw [this.2];exact hrcS i this.1)
  ·exact .inl (by omega)

theorem zzt {W:World} {l:Nat} {ob:Obj} (h:W.heap[l]? = some ob):W.putObj l ob=W:=by
 unfold World.putObj
 congr 1
 apply Array.ext_getElem?
 intro i
 rw [Array.getElem?_setIfInBounds]
 split
 ·rename_i e;subst e
  rw [h]
  obtain ⟨hlt,_⟩:=Array.getElem?_eq_some_iff.1 h
  simp [hlt]
 ·rfl

def zdu (F:Fence) (m:Nat) (P:Program) (fn:Func) (l:Nat) (R:Ending->World->Prop):Exit->Act->World->Prop
 | .panic chain,a,w=>LeavesInM F m P fn a.tmps (λe w'=>(∃ ch,e=.panicked ch)/\R e w') a.defers (.panicking chain) w
 | e,a,w=>roundPost P l R e a w
theorem zd5 {F:Fence} {m:Nat} {l:Nat} {f:FuncId} {fn:Func} {tmps:Array Value} {assign body:Code} {w:World} {R:Ending->World->Prop} (hF:F.fn f) (hfn:P.funcs[f]? = some fn)
  (h:assign.wpIn (F.inRound l) m P (Exit.then (λa₁ w₁=>∃ w₂,(Instr.beginRound l).run P w₁=.ok () w₂/\body.wpIn (F.inRound l) m P (zdu F m P fn l R) a₁ w₂) (λ_ _ _=>False))
   { tmps:=tmps,defers:=[] } w) :
  RoundIn F m P l f tmps assign body w R:=by
 refine ⟨hF,λc cs hr=>?_⟩
 let b:Frame:={ (default:Frame) with fn:=f,kind:=.normal,roundOf:=some l }
 have hb0:Frame.round l f tmps assign body .normal=b.atR { tmps:=tmps,defers:=[] } [.code assign,.beginRound,.code body]:=by
  simp [Frame.round,Frame.atR,b]
 have hr':(F.inRound l).room ((c::cs).length+1+m):=hr
 have hF':(F.inRound l).fn b.fn:=hF
 obtain ⟨e,a₁,w₁,hq,harr⟩:=h b [.beginRound,.code body] (c::cs) rfl hF' hr'
 rw [<-hb0] at harr
 cases e with
 | normal =>
  obtain ⟨w₂,hbr,hbody⟩:=hq
  have s1:StepsIn (Machine.fenced P (F.inRound l)) P (lone (b.atR a₁ [.beginRound,.code body]) (c::cs) w₁) (lone (b.atR a₁ [.code body]) (c::cs) w₂) :=
   .one (fenced_calm (fr:=b.atR a₁ [.beginRound,.code body]) hF' hr' rfl) (stepR_beginRound rfl hbr)
  obtain ⟨e₂,a₂,w₃,hq₂,harr₂⟩:=hbody b [] (c::cs) rfl hF' hr'
  cases e₂ with
  | normal =>
   obtain ⟨v,w₄,hend,hR⟩:=hq₂
   exact ⟨.returned v,w₄,hR,(StepsIn.trans harr s1).trans (StepsIn.trans harr₂ (.one (fenced_calm (fr:=b.atR a₂ []) hF' hr' rfl) (stepR_round_end rfl rfl hend)))⟩
  | ret =>
   obtain ⟨v,w₄,hend,hR⟩:=hq₂
   obtain ⟨k₁,hs⟩:=harr₂.2 rfl
   exact ⟨.returned v,w₄,hR,(StepsIn.trans harr s1).trans (StepsIn.trans hs (.one (fenced_calm (fr:=b.atR a₂ (.code .ret::k₁)) hF' hr' rfl) (stepR_round_ret rfl rfl hend)))⟩
  | exit id =>
   obtain ⟨v,w₄,hend,hR⟩:=hq₂
   obtain ⟨k₁,hk,hs⟩:=harr₂.2 rfl rfl
   exact ⟨.returned v,w₄,hR,(StepsIn.trans harr s1).trans (StepsIn.trans hs (.one (fenced_calm (fr:=b.atR a₂ (.code (.exit id)::k₁)) hF' hr' rfl) (stepR_round_exit rfl rfl hk hend)))⟩
  | goto t =>
   obtain ⟨v,w₄,hend,hR⟩:=hq₂
   obtain ⟨k₁,hk,hs⟩:=harr₂.2 rfl rfl
   exact ⟨.returned v,w₄,hR,(StepsIn.trans harr s1).trans (StepsIn.trans hs (.one (fenced_calm (fr:=b.atR a₂ (.code (.goto t)::k₁)) hF' hr' rfl) (stepR_round_goto rfl rfl hk hend)))⟩
  | panic chain =>
   obtain ⟨todo,hs⟩:=harr₂
   obtain ⟨e',w₄,fr',⟨⟨ch,rfl⟩,hR⟩,hs',hfn',hl⟩:=leaves_stepsInM a₂.defers (.panicking chain) w₃ { b.atR a₂ todo with mode:=.panicking chain } (c::cs) rfl rfl rfl hfn rfl hF hr hq₂
   refine ⟨.panicked ch,w₄,hR,(StepsIn.trans harr s1).trans (StepsIn.trans hs (StepsIn.trans hs' (.one (fenced_leaving (n:=m) (hfn'▸hF) hr hl) (step_leave_panicked hl))))⟩
  | outgrown=>exact hq₂.elim
 | exit id=>exact hq.elim
 | goto t=>exact hq.elim
 | ret=>exact hq.elim
 | panic chain=>exact hq.elim
 | outgrown=>exact hq.elim

theorem zwx (pn:Option Value) {t:Tmp} {ps:Array Tmp} {assign body:Code} {f:FuncId} {caps:Array Value} {rs:List Nat} {xs:List (Array Value)} (hg:s.ts t=.func (.func f) #[] caps) (hit:IterX pn P C.G f caps s.hp rs xs)
  (hxs:∀ x∈xs,x.size=ps.size/\∀ v∈x,za0 v=true) (hps:∀ p∈ps,p<n) (tsE:Nat->Value) (hp:Nat->Hp) (B:Nat) (N:Nat) (hN:N<=xs.length)
  (hw:Weak C s ⟨tsE,hp 0,B,s.yc⟩) (hdis:∀ k∈rs,hp 0 k=none/\dom s.hp k) (hids:∀ i,i<=N->∀ t,zap (dom (hp i)) (tsE t))
  (rounds:∀ i x,i<N->xs[i]? = some x->∀ (C1:Ctx) (l:Nat),C1.G=C.G->C1.hp0=hp i->C1.Y=none->GW P C1 n [] (some l) assign ⟨zav ps.toList x.toList tsE,hp i,B,0⟩
   (zbx (λs1=>∀ C2:Ctx,C2.G=C.G->C2.hp0=hp i->C2.Y=none->GW P C2 n [] (some l) body s1 (zbx (λs2=>Weak C1 s2 ⟨λ_=>zcm,hp (i+1),B,s2.yc⟩) (λ_ _=>False))) (λ_ _=>False)))
  (fin:match pn with
   | none=>(N=xs.length/\K .normal ⟨tsE,hp N,B,s.yc⟩)\/∃ x,xs[N]? = some x/\∀ (C1:Ctx) (l:Nat),C1.G=C.G->C1.hp0=hp N->C1.Y=none->GW P C1 n [] (some l) assign ⟨zav ps.toList x.toList tsE,hp N,B,0⟩
    (zbx (λs1=>∀ C2:Ctx,C2.G=C.G->C2.hp0=hp N->C2.Y=none->GW P C2 n [] (some l) body s1 (λe s2=>(zbk e).isSome=true/\(∀ t,zap (dom s2.hp) (tsE t))/\K e ⟨tsE,s2.hp,s2.B,s.yc⟩)) (λ_ _=>False))
   | some pv=>(∀ c,c<=N->K (.panic [{ v:=pv,recovered:=false }]) ⟨tsE,hp c,B,s.yc⟩)/\∃ x,xs[N]? = some x/\∀ (C1:Ctx) (l:Nat),C1.G=C.G->C1.hp0=hp N->C1.Y=none->GW P C1 n [] (some l) assign ⟨zav ps.toList x.toList tsE,hp N,B,0⟩
    (zbx (λs1=>∀ C2:Ctx,C2.G=C.G->C2.hp0=hp N->C2.Y=none->GW P C2 n [] (some l) body s1 (λe s2=>e=.panic [{ v:=pv,recovered:=false }]/\(∀ t,zap (dom s2.hp) (tsE t))/\K e ⟨tsE,s2.hp,s2.B,s.yc⟩)) (λ_ _=>False))) (hYn:C.Y≠some .still:=by first|assumption|(intro h;simp_all [YG.still])) :
  GW P C n d none (.rangeFunc (.tmp t) ps assign body) s K:=by
 intro r a W hi0
 have hi:=hi0.weak hw
 obtain ⟨So,ms,hX0,hSo,hsep,⟨hdef,hnd⟩,hms⟩:=hi0.ri.ext
 have hcapv:a.eval (.tmp t)=.func (.func f) #[] (caps.map (zan r)):=by
  have:=((hi0.ri.rel t).resolve_left (by rw [hg];simp [zcm])).1
  rw [hg] at this
  simpa [ren,zay,zak,Act.eval] using this
 have hcap:caps.map (zan r)=caps.map (ren r):=Array.map_congr_left λx hx=>(zcf (hit.cids x hx).1).symm
 rw [hcap] at hcapv
 refine wpIn_rangeFunc ?_
 rintro fn ⟨fnn,hfnn⟩
 obtain ⟨rec,hrec⟩:∃ rec:LoopState->Option Code->Loop,rec=λst pe=>{ state:=st,pending:=pe,fn,tmps:=a.tmps,params:=ps,assign,body,defers:=W.heap.size }:=⟨_,rfl⟩
 obtain ⟨W1,hW1⟩:∃ W1,(W.alloc (.deferred (some []))).alloc (.loop (rec .ready none))=W1:=⟨_,rfl⟩
 have hL1:W1.heap[W.heap.size+1]? = some (.loop (rec .ready none)):=by
  rw [<-hW1];have:=World.alloc_heap_new (W.alloc (.deferred (some []))) (.loop (rec .ready none));rwa [World.size_alloc] at this
 have hK1:W1.heap[W.heap.size]? = some (.deferred (some [])):=by
  rw [<-hW1];exact (Below.heap_alloc _ _ _ (by simp)).trans (World.alloc_heap_new W _)
 have hsz1:W1.heap.size=W.heap.size+2:=by rw [<-hW1];simp
 have hb1:Below W.heap.size W W1:=by
  rw [<-hW1];exact (((Below.refl _ W).alloc (Nat.le_refl _) _).alloc (by simp) _)
 let l:=W.heap.size+1
 let D0:=W.heap.size
 let capd:Nat->Prop:=λj=>∃ i,i∈rs/\100<=i/\r i=j
 -- what is said between two rounds
 let Lv:LoopState->Option Code->World->Prop:=λst pe V=>V.heap[l]? = some (.loop (rec st pe))/\V.heap[D0]? = some (.deferred (some []))
 let XX:Nat->(Nat->Prop)->World->Prop:=λc S V=>(∀ k,So k->S k)/\(∀ D∈ms,S D)/\S l/\S D0 /\
  ((c<=N/\(∀ x,B<=x->hp c x=none)/\∃ rc,(∀ i,dom (hp c) i->S (rc i))/\zmp S V (λV'=>Own0 C d So ms s.yc a rc tsE (hp c) V'/\Lv .ready none V')) \/
  (c=N+1/\∃ e hpE BE rc,((pn=none/\(zbk e).isSome=true)\/∃ pv,pn=some pv/\e=.panic [{ v:=pv,recovered:=false }])/\K e ⟨tsE,hpE,BE,s.yc⟩/\(∀ x,BE<=x->hpE x=none)/\100<=BE/\(∀ i,dom hpE i->S (rc i))/\zmp S V (λV'=>Own0 C d So ms s.yc a rc tsE hpE V'/\V'.heap[D0]? = some (.deferred (some []))/\∀ j,zbk e=some j->Lv .done (some j) V')))
 let E:Ext:=⟨XX,λc S V V' h hs os tape output size=>⟨h.1,h.2.1,h.2.2.1,h.2.2.2.1,h.2.2.2.2.imp (λ⟨hc,hf,rc,h1,h2⟩=>⟨hc,hf,rc,h1,h2.trans (λ_ h=>h) hs os tape output size⟩)
  (λ⟨hc,e,hpE,BE,rc,h1,h2,h3,h4,h5,h6⟩=>⟨hc,e,hpE,BE,rc,h1,h2,h3,h4,h5,h6.trans (λ_ h=>h) hs os tape output size⟩)⟩⟩
 have sub:∀ i,dom (hp 0) i->dom s.hp i:=λi hd=>by
  have hhp:hp 0 i=none\/hp 0 i=s.hp i:=by
   by_cases hk:100<=i
   ·exact hw.hp i hk
   ·exact .inr ((hw.glob i (by omega)).trans (hi0.ri.glob i (by omega)).symm)
  rcases hhp with e|e
  ·exact absurd e hd
  ·have e:hp 0 i=s.hp i:=e
   unfold dom at *;rw [<-e];exact hd
 have own0:Own0 C d So ms s.yc a r tsE (hp 0) W1:=⟨hi.ri.rel,λk b hk=>⟨(hb1.block _ (hi.ri.lt (k:=k) (by unfold dom;show hp 0 k≠none;rw [hk];simp))).trans (hi.ri.sat k b hk).1,(hi.ri.sat k b hk).2⟩,hi.ri.inj,
  C.E.ok _ _ _ _ hX0 (λk hk=>hb1.block k (hSo k hk)) hb1.os hb1.tape hb1.output hb1.size,λi hd h1=>hsep i (sub i hd) h1,
  λD hD=>(hb1.block D (Array.getElem?_eq_some_iff.1 (hms D hD).1).1).trans (hms D hD).1,hi.ri.keep,hi.ri.glob,hi.ri.low⟩
 have incap:∀ i,dom s.hp i->capd (r i)->i∈rs:=λi hd ⟨j,hj,_,e⟩=>by
  have:=hi0.ri.inj j i (hdis j hj).2 hd e
  exact this▸hj
 let S1:Nat->Prop:=λk=>k<W1.heap.size/\¬capd k
 have capSmall:∀ k,capd k->k<W.heap.size:=λk ⟨i,hi1,_,e⟩=>e▸hi0.ri.lt (hdis i hi1).2
 have s1So:∀ k,So k->S1 k:=λk hk=>⟨by have:=hSo k hk;omega,λ⟨i,hi1,h1,e⟩=>hsep i (hdis i hi1).2 h1 (e▸hk)⟩
 have s1ms:∀ D∈ms,S1 D:=λD hD=>⟨by have:=(Array.getElem?_eq_some_iff.1 (hms D hD).1).1;omega,λ⟨i,hi1,_,e⟩=>hi0.ri.ne_mark (hdis i hi1).2 (hms D hD).1 e⟩
 have s1l:S1 l:=⟨by omega,λhc=>by have:=capSmall _ hc;omega⟩
 have s1D:S1 D0:=⟨by omega,λhc=>by have:=capSmall _ hc;omega⟩
 have s1hp:∀ i,dom (hp 0) i->S1 (r i):=λi hd=>⟨by have:=hi0.ri.lt (sub i hd);omega,λhc=>hd (hdis i (incap i (sub i hd) hc)).1⟩
 have X0:XX 0 S1 W1:=⟨s1So,s1ms,s1l,s1D,.inl ⟨Nat.zero_le _,hw.free,r,s1hp,λV k1 k2 k3 k4 k5=>⟨own0.supp s1So s1hp s1ms V k1 k2 k3 k4 k5,(k1 l s1l).trans hL1,(k1 D0 s1D).trans hK1⟩⟩⟩
 have gokOf:∀ {rc:Nat->Nat} {hpc:Hp} {V:World},Sat rc (dom hpc) hpc V->(∀ k,k<100->hpc k=C.G k)->(∀ k,k<100->dom hpc k->rc k=k)->GOK C.G V:=λ{rc hpc V} h1 h2 h3 k b hk=>by
  obtain ⟨hlt,hfl⟩:=hi0.flat k b hk
  have hb:hpc k=some b:=(h2 k hlt).trans hk
  have h9:=(h1 k b hb).1
  rw [h3 k hlt (by unfold dom;rw [hb];simp)] at h9
  rw [h9]
  rw [Blk.obj_flat (λx hx=>hfl x hx)]
 -- one round
 have hround:zft P C.G E ⟨l,xs,N,pn,none⟩:=by
  refine zft.of_none rfl ?_
  intro c x S V hgok hx hc hXc hSV
  obtain ⟨kSo,kms,kl,kD,hcase⟩:=hXc
  have hcN:c<=N:=hc
  obtain ⟨hc',hfreeC,rc,hrcS,hsupp⟩:c<=N/\(∀ x,B<=x->hp c x=none)/\∃ rc,(∀ i,dom (hp c) i->S (rc i))/\zmp S V (λV'=>Own0 C d So ms s.yc a rc tsE (hp c) V'/\Lv .ready none V'):=by
   rcases hcase with h|h
   ·exact h
   ·omega
  obtain ⟨hown,hl,hD⟩:=hsupp.here
  have hxm:=hxs x (List.mem_of_getElem? hx)
  have hy:=run_yield (P:=P) (args:=x) hl (by rw [hrec];exact hxm.1)
  rw [hrec] at hy
  refine ⟨fn,_,assign,body,hy,zd5 ⟨fnn,hfnn⟩ hfnn ?_⟩
  have hrel:=znk (r:=rc) (D:=dom (hp c)) (ps.toList.zip x.toList) tsE a.tmps (λp hp1=>⟨by rw [hi0.ri.size];exact hps _ (by simpa using (List.of_mem_zip hp1).1),hxm.2 _ (by simpa using (List.of_mem_zip hp1).2)⟩) hown.ri
  have htm:(ps.zip x).foldl (λt (p:Tmp×Value)=>t.setIfInBounds p.1 p.2) a.tmps=(ps.toList.zip x.toList).foldl (λt (p:Tmp×Value)=>t.setIfInBounds p.1 p.2) a.tmps:=by
   rw [<-Array.foldl_toList,Array.toList_zip]
  have hsize:((ps.zip x).foldl (λt (p:Tmp×Value)=>t.setIfInBounds p.1 p.2) a.tmps).size=n:=by
   rw [htm,zey,hi0.ri.size]
  let im:Nat->Prop:=imO rc (hp c)
  let RR:Ending->World->Prop:=λe W'=>(match (YG.mk l xs N pn none).pan c with|none=>e=.returned (.bool (c != N))|some pv=>e=.panicked [{ v:=pv,recovered:=false }])/\GOK C.G W'/\V.heap.size<=W'.heap.size/\(∀ k,k<V.heap.size->¬S k->W'.heap[k]? = V.heap[k]?) /\
      ∃ S',XX (c+1) S' W'/\(∀ k,S' k->k<W'.heap.size)/\∀ k,S' k->k<V.heap.size->S k
  -- the assignment to the loop's variables
  let C1:Ctx:=⟨zdt V im,hp c,rc,C.G,none⟩
  have ltV:∀ i,dom (hp c) i->rc i<V.heap.size:=λi hd=>hSV _ (hrcS i hd)
  have gi1:GI P C1 n [] rc ⟨zav ps.toList x.toList tsE,hp c,B,0⟩ { tmps:=(ps.zip x).foldl (λt (p:Tmp×Value)=>t.setIfInBounds p.1 p.2) a.tmps,defers:=[] } V:=by
   refine ⟨⟨hsize,?_,hown.sat,hown.inj,⟨λk=>k<V.heap.size/\¬im k,[],⟨λ_=>Iff.rfl,rfl,rfl,rfl,Nat.le_refl _,λ_ _=>rfl⟩,λk hk=>hk.1,λi hd _ hS=>hS.2 ⟨i,hd,rfl⟩,⟨rfl,List.nodup_nil⟩,by simp⟩,λi hd=>⟨hd,rfl⟩,hown.glob,hown.low⟩,hfreeC,hw.low,hi0.flat,λy hy=>by cases hy⟩
   rw [htm];exact hrel
  have hSol:¬So l:=λh=>by have:=hSo _ h;omega
  -- a round's frame,from its assignment on
  have both:∀ (Kb:Exit->GS->Prop),GW P C1 n [] (some l) assign ⟨zav ps.toList x.toList tsE,hp c,B,0⟩ (zbx (λs1=>∀ C2:Ctx,C2.G=C.G->C2.hp0=hp c->C2.Y=none->GW P C2 n [] (some l) body s1 Kb) (λ_ _=>False)) ->
    (∀ e s2 (r2:Nat->Nat) (V1 V2:World) (a1 a2:Act) (r1:Nat->Nat) (ts1:Nat->Value) (hp1:Hp) (y1:Nat) (D1:Nat->Prop),(∀ k,k<V.heap.size->D1 k->imO r1 hp1 k)->¬D1 l->Kb e s2->RI ⟨zdt V im,hp c,rc,C.G,none⟩ n [] r1 ts1 hp1 y1 a1 V1 ->
     GI P ⟨zdt (V1.putObj l (.loop (rec .busy none))) D1,hp c,rc,C.G,none⟩ n [] r2 s2 a2 V2->zdu (Fs P) 0 P fnn l RR e a2 V2) ->
    assign.wpIn ((Fs P).inRound l) 0 P (Exit.then (λa₁ w₁=>∃ w₂,(Instr.beginRound l).run P w₁=.ok () w₂/\body.wpIn ((Fs P).inRound l) 0 P (zdu (Fs P) 0 P fnn l RR) a₁ w₂) (λ_ _ _=>False))
     { tmps:=(ps.zip x).foldl (λt (p:Tmp×Value)=>t.setIfInBounds p.1 p.2) a.tmps,defers:=[] } V:=λKb hgw hend=>by
   refine wpIn_mono (hgw rc _ V gi1) ?_
   rintro e a1 V1 ⟨s1,r1,hk1,gi⟩
   cases e with
   | normal =>
    obtain ⟨T1,m1,⟨hT1,os1,tp1,ou1,sz1,sm1⟩,hT1s,sep1,df1,dm1⟩:=gi.ri.ext
    have hl1:V1.heap[l]? = some (.loop (rec .ready none)):=by
     rw [sm1 l ((hT1 l).2 ⟨hSV l kl,?_⟩)]
     ·exact hl
     ·rintro ⟨i,hd,e⟩
      unfold dom at hd
      cases hb:hp c i with
      | none=>exact hd hb
      | some b=>have:=(hown.sat i b hb).1;rw [e,hl] at this;exact (Blk.obj_loop this).elim
    refine ⟨_,run_beginRound hl1 (by rw [hrec]),?_⟩
    have hrb:{ rec .ready none with state:=.busy }=rec .busy none:=by rw [hrec]
    rw [hrb]
    have hlt1:l<V1.heap.size:=(Array.getElem?_eq_some_iff.1 hl1).1
    let D1:Nat->Prop:=λk=>imO r1 s1.hp k\/k∈m1
    let C2:Ctx:=⟨zdt (V1.putObj l (.loop (rec .busy none))) D1,hp c,rc,C.G,none⟩
    have gi2:GI P C2 n [] r1 s1 a1 (V1.putObj l (.loop (rec .busy none))):=by
     refine ⟨⟨gi.ri.size,gi.ri.rel,λk b hk=>⟨(World.putObj_heap_other (λe=>gi.ri.not_loop hl1 ⟨k,by unfold dom;rw [hk];simp,e⟩)).trans (gi.ri.sat k b hk).1,(gi.ri.sat k b hk).2⟩,gi.ri.inj,
      ⟨λk=>k<(V1.putObj l (.loop (rec .busy none))).heap.size/\¬D1 k,m1,⟨λ_=>Iff.rfl,rfl,rfl,rfl,Nat.le_refl _,λ_ _=>rfl⟩,λk hk=>hk.1,λi hd _ hS=>hS.2 (.inl ⟨i,hd,rfl⟩),df1,λD hD=>⟨?_,(λhS=>hS.2 (.inr hD)),λh=>nomatch h⟩⟩,
      λi hd=>gi.ri.keep i hd,gi.ri.glob,gi.ri.low⟩,gi.free,gi.low,gi.flat,λy hy=>by cases hy⟩
     rw [World.putObj_heap_other (λe=>?_)]
     ·exact (dm1 D hD).1
     ·have:=(dm1 D hD).1;rw [e,hl1] at this;cases this
    refine wpIn_mono (hk1 C2 rfl rfl rfl r1 a1 _ gi2) ?_
    rintro e2 a2 V2 ⟨s2,r2,hk2,gi3⟩
    refine hend e2 s2 r2 V1 V2 a1 a2 r1 s1.ts s1.hp s1.yc D1 (λk hk hD=>?_) (λhD=>?_) hk2 gi.ri gi3
    ·rcases hD with h|h
     ·exact h
     ·have h2:=(dm1 k h).2.1
      rw [hT1] at h2
      obtain ⟨i,hd,e⟩:=Classical.byContradiction λhc=>h2 ⟨hk,hc⟩
      have h3:=(dm1 k h).1
      by_cases h100:100<=i
      ·have:dom s1.hp i/\r1 i=rc i:=gi.ri.keep i hd
       exact ⟨i,this.1,this.2.trans e⟩
      ·have:dom s1.hp i/\r1 i=rc i:=gi.ri.keep i hd
       exact ⟨i,this.1,this.2.trans e⟩
    ·rcases hD with h|h
     ·exact gi.ri.not_loop hl1 h
     ·have:=(dm1 l h).1;rw [hl1] at this;cases this
   | _=>exact hk1.elim
  -- what a round leaves,put together
  have post:∀ (st:LoopState) (pe:Option Code) (r2:Nat->Nat) (V1 V2:World) (a1 a2:Act) (r1:Nat->Nat) (ts1 ts2:Nat->Value) (hp1 hp2:Hp) (y1 y2:Nat) (D1:Nat->Prop),(∀ k,k<V.heap.size->D1 k->imO r1 hp1 k)->¬D1 l->RI ⟨zdt V im,hp c,rc,C.G,none⟩ n [] r1 ts1 hp1 y1 a1 V1 ->
    RI ⟨zdt (V1.putObj l (.loop (rec .busy none))) D1,hp c,rc,C.G,none⟩ n [] r2 ts2 hp2 y2 a2 V2 ->
    V2.heap[l]? = some (.loop (rec .busy none))/\GOK C.G (V2.putObj l (.loop (rec st pe)))/\V.heap.size<=(V2.putObj l (.loop (rec st pe))).heap.size/\(∀ k,k<V.heap.size->¬S k->(V2.putObj l (.loop (rec st pe))).heap[k]? = V.heap[k]?) /\
    ∃ S':Nat->Prop,(∀ k,So k->S' k)/\(∀ D∈ms,S' D)/\S' l/\S' D0/\(∀ i,dom hp2 i->S' (r2 i))/\zmp S' (V2.putObj l (.loop (rec st pe))) (λV'=>Own0 C d So ms s.yc a r2 tsE hp2 V'/\Lv st pe V') /\
     (∀ k,S' k->k<(V2.putObj l (.loop (rec st pe))).heap.size)/\∀ k,S' k->k<V.heap.size->S k:=λst pe r2 V1 V2 a1 a2 r1 ts1 ts2 hp1 hp2 y1 y2 D1 hD1 hD1l ri1 ri2=>by
   obtain ⟨_,q1,q2,q3,q4,q5,q6⟩:=zkt (L2:=rec st pe) hi0.flat hown hSol hSV kSo kms hrcS hl ri1 hD1 hD1l ri2
   have sz:(V2.putObj l (.loop (rec st pe))).heap.size=V2.heap.size:=zbz _ _ _
   have hnim:∀ k,¬S k->¬imO rc (hp c) k:=λk hk ⟨i,hd,e⟩=>hk (e▸hrcS i hd)
   refine ⟨q1,q6,by rw [sz];exact q4,λk hk hnS=>q5 k hk (hnim k hnS) (λe=>hnS (e▸kl)),λk=>S k\/(V.heap.size<=k/\k<V2.heap.size),λk hk=>.inl (kSo k hk),λD hD=>.inl (kms D hD),.inl kl,.inl kD,λi hd=>?_,?_,λk hk=>?_,λk hk hlt=>?_⟩
   ·rcases q3 i hd with h|h
    ·exact .inr ⟨h,by
      unfold dom at hd
      cases hb:hp2 i with
      | none=>exact absurd hb hd
      | some b=>have:=(Array.getElem?_eq_some_iff.1 (q2.sat i b hb).1).1;rwa [sz] at this⟩
    ·exact .inl h
   ·have hD0:(V2.putObj l (.loop (rec st pe))).heap[D0]? = some (.deferred (some [])):=by
     rw [q5 D0 (hSV D0 kD) (λ⟨i,hd',e⟩=>by
      unfold dom at hd'
      cases hb:hp c i with
      | none=>exact hd' hb
      | some b=>have:=(hown.sat i b hb).1;rw [e,hD] at this;exact (Blk.obj_def this).elim) (by omega)]
     exact hD
    have hlt2:l<V2.heap.size:=(Array.getElem?_eq_some_iff.1 q1).1
    refine λV' k1 k2 k3 k4 k5=>⟨q2.supp (S:=λk=>S k\/(V.heap.size<=k/\k<V2.heap.size)) (λk hk=>.inl (kSo k hk)) (λi hd=>?_) (λD hD=>.inl (kms D hD)) V' k1 k2 k3 k4 k5,(k1 l (.inl kl)).trans (World.putObj_heap_same hlt2),(k1 D0 (.inl kD)).trans hD0⟩
    rcases q3 i hd with h|h
    ·exact .inr ⟨h,by
      unfold dom at hd
      cases hb:hp2 i with
      | none=>exact absurd hb hd
      | some b=>have:=(Array.getElem?_eq_some_iff.1 (q2.sat i b hb).1).1;rwa [sz] at this⟩
    ·exact .inl h
   ·rw [sz]
    rcases hk with h|h
    ·exact Nat.lt_of_lt_of_le (hSV k h) q4
    ·exact h.2
   ·exact hk.resolve_right (by omega)
  by_cases hcn:c<N
  ·refine both _ (rounds c x hcn hx C1 l rfl rfl rfl) ?_
   intro e s2 r2 V1 V2 a1 a2 r1 ts1 hp1 y1 D1 hD1 hD1l hk ri1 gi2
   cases e with
   | normal =>
    have gi3:=gi2.weak (Weak.ctx (C:=C1) rfl rfl hk)
    obtain ⟨p1,p2,p3,p4,S',p5,p6,p7,p8,p9,p10,p11,p12⟩:=post .ready none r2 V1 V2 a1 a2 r1 ts1 _ hp1 _ y1 _ D1 hD1 hD1l ri1 gi3.ri
    have hend:=run_endRound (P:=P) none p1
    rw [hrec] at hend p2 p3 p4 p10 p11
    refine ⟨_,_,hend,?_,p2,p3,p4,S',⟨p5,p6,p7,p8,.inl ⟨hcn,gi3.free,r2,p9,?_⟩⟩,p11,p12⟩
    ·have h1:(YG.mk l xs N pn none).pan c=none:=by
      show (if c=N then pn else none)=none
      rw [if_neg (by omega)]
     have h2:(c != N)=true:=by simp;omega
     rw [h1,h2];rfl
    ·simpa [hrec] using p10
   | _=>exact hk.elim
  ·obtain rfl:c=N:=by omega
   have hpanN:(YG.mk l xs c pn none).pan c=pn:=by
    show (if c=c then pn else none)=pn
    rw [if_pos rfl]
   cases pn with
   | none =>
    rcases fin with ⟨e,_⟩|⟨x',hx',hfin⟩
    ·obtain ⟨h9,_⟩:=List.getElem?_eq_some_iff.1 hx;have h9:c<xs.length:=h9;omega
    ·have hx:xs[c]? = some x:=hx
     rw [hx] at hx';cases hx'
     refine both _ (hfin C1 l rfl rfl rfl) ?_
     intro e s2 r2 V1 V2 a1 a2 r1 ts1 hp1 y1 D1 hD1 hD1l hk ri1 gi2
     obtain ⟨hk1,hk2,hk3⟩:=hk
     cases ho:zbk e with
     | none=>rw [ho] at hk1;cases hk1
     | some j =>
      obtain ⟨p1,p2,p3,p4,S',p5,p6,p7,p8,p9,p10,p11,p12⟩:=post .done (some j) r2 V1 V2 a1 a2 r1 ts1 _ hp1 _ y1 _ D1 hD1 hD1l ri1 gi2.ri
      have hend:=run_endRound (P:=P) (some j) p1
      rw [hrec] at hend p2 p3 p4 p10 p11
      have hR:∃ v w',(Instr.endRound l (some j)).run P V2=.ok v w'/\RR (.returned v) w':=by
       refine ⟨_,_,hend,?_,p2,p3,p4,S',⟨p5,p6,p7,p8,.inr ⟨rfl,e,s2.hp,s2.B,r2,.inl ⟨rfl,hk1⟩,hk3,gi2.free,gi2.low,p9,?_⟩⟩,p11,p12⟩
       ·rw [hpanN];simp
       ·intro V' k1 k2 k3 k4 k5
        obtain ⟨q1,q2⟩:=p10 V' k1 k2 k3 k4 k5
        refine ⟨q1,q2.2,λj' hj'=>?_⟩
        rw [ho] at hj';cases hj'
        simpa [hrec] using q2
      cases e<;>simp only [zbk,Option.some.injEq,reduceCtorEq] at ho
      ·subst ho;exact hR
      ·subst ho;exact hR
      ·subst ho;exact hR
   | some pv =>
    obtain ⟨_,x',hx',hfin⟩:=fin
    have hx:xs[c]? = some x:=hx
    rw [hx] at hx';cases hx'
    refine both _ (hfin C1 l rfl rfl rfl) ?_
    intro e s2 r2 V1 V2 a1 a2 r1 ts1 hp1 y1 D1 hD1 hD1l hk ri1 gi2
    obtain ⟨rfl,hk2,hk3⟩:=hk
    obtain ⟨p1,p2,p3,p4,S',p5,p6,p7,p8,p9,p10,p11,p12⟩:=post .busy none r2 V1 V2 a1 a2 r1 ts1 _ hp1 _ y1 _ D1 hD1 hD1l ri1 gi2.ri
    have hid:V2.putObj l (.loop (rec .busy none))=V2:=zzt p1
    rw [hid] at p2 p3 p4 p10 p11
    obtain ⟨T2,m2,⟨hT2,os2,tp2,ou2,sz2,sm2⟩,hT2s,sep2,⟨df2,nd2⟩,dm2⟩:=gi2.ri.ext
    have lt1:V.heap.size<=(V1.putObj l (.loop (rec .busy none))).heap.size:=by
     rw [zbz]
     obtain ⟨_,_,⟨_,_,_,_,z1,_⟩,_⟩:=ri1.ext
     exact z1
    -- a zwr of the round's own lies behind what was there
    have mnew:∀ D∈m2,V.heap.size<=D:=λD hD=>by
     have h1:=(dm2 D hD).1
     have h2:=(dm2 D hD).2.1
     refine Classical.byContradiction λhlt=>?_
     have hlt:D<V.heap.size:=by omega
     rw [hT2] at h2
     have hD1D:D1 D:=Classical.byContradiction λhc=>h2 ⟨by omega,hc⟩
     obtain ⟨i,hd,e⟩:=hD1 D hlt hD1D
     by_cases hz:100<=i
     ·obtain ⟨T1,m1,⟨hT1,_⟩,_,sep1,_⟩:=ri1.ext
      have h3:=sep1 i hd hz
      rw [hT1,e] at h3
      obtain ⟨q,hq,e2⟩:=Classical.byContradiction λhc=>h3 ⟨hlt,hc⟩
      have hk5:dom s2.hp q/\r2 q=rc q:=gi2.ri.keep q hq
      exact gi2.ri.ne_mark hk5.1 h1 (hk5.2.trans e2)
     ·have e3:hp1 i=C.G i:=ri1.glob i (by omega)
      have e4:s2.hp i=C.G i:=gi2.ri.glob i (by omega)
      have hd2:dom s2.hp i:=by unfold dom at *;rw [e4,<-e3];exact hd
      exact gi2.ri.ne_mark hd2 h1 (by rw [gi2.ri.low i (by omega) hd2,<-e,ri1.low i (by omega) hd])
    show LeavesInM _ _ _ _ _ _ a2.defers _ _
    rw [df2,List.append_nil]
    refine zc9 (by simp) m2 V2 nd2 (λD hD=>(dm2 D hD).1) λW'' e1 e2 e3 e4 e5=>?_
    refine ⟨⟨_,rfl⟩,?_⟩
    have sgok:GOK C.G W'':=λk b hk=>by
     rw [e5 k (λhm=>by have:=(dm2 k hm).1;rw [p2 k b hk] at this;exact (Blk.obj0_def this.symm).elim)]
     exact p2 k b hk
    refine ⟨?_,sgok,by rw [e1];exact p3,λk hk hnS=>?_,λk=>S' k/\k∉m2,⟨λk hk=>⟨p5 k hk,λhm=>?_⟩,λD hD=>⟨p6 D hD,λhm=>?_⟩,⟨p7,λhm=>?_⟩,⟨p8,λhm=>?_⟩,.inr ⟨rfl,_,s2.hp,s2.B,r2,.inr ⟨pv,rfl,rfl⟩,hk3,gi2.free,gi2.low,λi hd=>⟨p9 i hd,λhm=>?_⟩,?_⟩⟩,λk hk=>?_,λk hk hlt=>p12 k hk.1 hlt⟩
    ·rw [hpanN]
    ·rw [e5 k (λhm=>by have:=mnew k hm;omega)];exact p4 k hk hnS
    ·have:=mnew k hm;have:=hSV k (kSo k hk);omega
    ·have:=mnew D hm;have:=hSV D (kms D hD);omega
    ·have:=(dm2 l hm).1;rw [p1] at this;cases this
    ·have:=mnew D0 hm;have:=hSV D0 kD;omega
    ·exact gi2.ri.ne_mark hd (dm2 _ hm).1 rfl
    ·intro V' k1 k2 k3 k4 k5
     have hh:=λk (hk:S' k/\k∉m2)=>(k1 k hk).trans (e5 k hk.2)
     have hsupp2:zmp (λk=>S' k/\k∉m2) W'' (λV'=>Own0 C d So ms s.yc a r2 tsE s2.hp V'/\V'.heap[D0]? = some (.deferred (some []))):=by
      obtain ⟨own2,_,hD2⟩:=p10.here
      have own3:Own0 C d So ms s.yc a r2 tsE s2.hp W'':=own2.supp (S:=λk=>S' k/\k∉m2) (λk hk=>⟨p5 k hk,λhm=>by have:=mnew k hm;have:=hSV k (kSo k hk);omega⟩) (λi hd=>⟨p9 i hd,λhm=>gi2.ri.ne_mark hd (dm2 _ hm).1 rfl⟩) (λD hD=>⟨p6 D hD,λhm=>by have:=mnew D hm;have:=hSV D (kms D hD);omega⟩) W'' (λk hk=>e5 k hk.2) e2 e3 e4 (by rw [e1];exact Nat.le_refl _)
      have hD3:W''.heap[D0]? = some (.deferred (some [])):=(e5 D0 (λhm=>by have:=mnew D0 hm;have:=hSV D0 kD;omega)).trans hD2
      exact λV' k1 k2 k3 k4 k5=>⟨own3.supp (S:=λk=>S' k/\k∉m2) (λk hk=>⟨p5 k hk,λhm=>by have:=mnew k hm;have:=hSV k (kSo k hk);omega⟩) (λi hd=>⟨p9 i hd,λhm=>gi2.ri.ne_mark hd (dm2 _ hm).1 rfl⟩) (λD hD=>⟨p6 D hD,λhm=>by have:=mnew D hm;have:=hSV D (kms D hD);omega⟩) V' k1 k2 k3 k4 k5,(k1 D0 ⟨p8,λhm=>by have:=mnew D0 hm;have:=hSV D0 kD;omega⟩).trans hD3⟩
     obtain ⟨q1,q2⟩:=hsupp2 V' k1 k2 k3 k4 k5
     exact ⟨q1,q2,λj hj=>by simp [zbk] at hj⟩
    ·rw [e1];exact p11 k hk.1
 -- behind the iterator
 refine ⟨l,[zwr D0],W1,{ target:=.fn (.func f) (caps.map (ren r)),args:=#[.func (.yield l) #[] #[]] },W1,f,#[Value.func (.yield l) #[] #[]]++caps.map (ren r),W1,?_,?_,λf' hf'=>?_,?_,λh=>(by cases h),?_⟩
 ·rw [<-hW1,hrec];exact run_enterLoop_outer _ _ _ _ _
 ·simp only [resolve,hcapv]
  simp [go_sem,Act.eval]
 ·simp [Target.leads] at hf'
  subst hf'
  exact zff (hit.enter #[] default)
 ·simp [invoke,go_sem,hit.enter]
 ·have hsat1:Sat r (dom (rst s.hp rs)) (rst s.hp rs) W1:=λk b hk=>⟨(hb1.block _ (hi0.ri.lt (k:=k) (by unfold dom;rw [zda hk];simp))).trans (hi0.ri.sat k b (zda hk)).1,hit.closed k b hk⟩
  have hsubr:∀ k,dom (rst s.hp rs) k->dom s.hp k:=λk hk=>by
   unfold dom at *
   cases hb:rst s.hp rs k with
   | none=>exact absurd hb hk
   | some b=>rw [zda hb];simp
  have hlen:pn≠none->N<xs.length:=λhp1=>by
   cases pn with
   | none=>exact absurd rfl hp1
   | some pv =>
    obtain ⟨_,x',hx',_⟩:=fin
    exact (List.getElem?_eq_some_iff.1 hx').1
  have hcalls:=hit.run E l N r S1 W1 (gokOf own0.sat own0.glob own0.low) hsat1 (λk l' hk hl=>hi0.ri.inj k l' (hsubr k hk) (hsubr l' hl)) (λk hk hd=>hi0.ri.low k hk (hsubr k hd)) hlen hround X0 (λk hk=>hk.1) (λi hd h1 hS=>hS.2 ?_)
  ·refine CallsIn.mono (hcalls:CallsIn (Fw P none) 0 P _ _ _ _) ?_
   -- the owner's activation,behind it all
   have giV:∀ (rc:Nat->Nat) (hpE:Hp) (BE:Nat) (V:World),(∀ x,BE<=x->hpE x=none)->100<=BE->Own0 C d So ms s.yc a rc tsE hpE V->V.heap[D0]? = some (.deferred (some []))->W.heap.size<=V.heap.size ->
     GI P C n d rc ⟨tsE,hpE,BE,s.yc⟩ { a with defers:=[zwr D0]++a.defers } V:=λrc hpE BE V hfree hBE hown hD hsz =>
    ⟨⟨hi0.ri.size,hown.ri,hown.sat,hown.inj,
     ⟨So,D0::ms,hown.X,λk hk=>Nat.lt_of_lt_of_le (hSo k hk) hsz,hown.sep,⟨by simp [hdef],List.nodup_cons.2 ⟨λhm=>by have:=(Array.getElem?_eq_some_iff.1 (hms D0 hm).1).1;omega,hnd⟩⟩,λD hDm=>by
      rcases List.mem_cons.1 hDm with rfl|hDm
      ·exact ⟨hD,(λhS=>by have:=hSo _ hS;omega),hYn⟩
      ·exact ⟨hown.mks D hDm,(hms D hDm).2⟩⟩,
     hown.keep,hown.glob,hown.low⟩,hfree,hBE,hi0.flat,hi0.rounds⟩
   have szOf:∀ {S:Nat->Prop} {V:World} {c:Nat},XX c S V->(∀ V,XX c S V->S l->True)->V.heap[D0]? = some (.deferred (some []))->W.heap.size<=V.heap.size:=λ{S V c} _ _ h=>by
    have:=(Array.getElem?_eq_some_iff.1 h).1;omega
   cases pn with
   | some pv =>
    rintro e V ⟨rfl,c,S',hX⟩
    obtain ⟨kSo,kms,kl,kD,hcase⟩:=hX
    obtain ⟨hbefore,_⟩:=fin
    rcases hcase with ⟨hc',hfree,rc,hrcS,hsupp⟩|⟨hc',e,hpE,BE,rc,ho,hk,hfree,hBE,hrcS,hsupp⟩
    ·obtain ⟨hown,hl,hD⟩:=hsupp.here
     exact ⟨_,rc,hbefore c hc',giV rc _ B V hfree hw.low hown hD (by have:=(Array.getElem?_eq_some_iff.1 hD).1;omega)⟩
    ·obtain ⟨hown,hD,_⟩:=hsupp.here
     rcases ho with ⟨h1,_⟩|⟨pv',h1,rfl⟩
     ·cases h1
     ·cases h1
      exact ⟨_,rc,hk,giV rc _ BE V hfree hBE hown hD (by have:=(Array.getElem?_eq_some_iff.1 hD).1;omega)⟩
   | none =>
   rintro e V ⟨⟨v,rfl⟩,S',hX⟩
   obtain ⟨kSo,kms,kl,kD,hcase⟩:=hX
   have fini:∀ (st:LoopState) (pe:Option Code) (rc:Nat->Nat) (hpE:Hp) (BE:Nat),st≠.busy->(∀ x,BE<=x->hpE x=none)->100<=BE->Own0 C d So ms s.yc a rc tsE hpE V->Lv st pe V ->
     (Instr.endLoop l).run P V=.ok pe (V.putObj l (.loop { rec st pe with state:=.exhausted }))/\GI P C n d rc ⟨tsE,hpE,BE,s.yc⟩ { a with defers:=[zwr D0]++a.defers } (V.putObj l (.loop { rec st pe with state:=.exhausted })):=λst pe rc hpE BE hst hfree hBE hown ⟨hl,hD⟩=>by
    have hend:=run_endLoop (P:=P) hl (by rw [hrec];exact hst)
    refine ⟨by rw [hrec] at hend |-;exact hend,?_⟩
    have hlt:l<V.heap.size:=(Array.getElem?_eq_some_iff.1 hl).1
    have szV:∀ ob,(V.putObj l ob).heap.size=V.heap.size:=λob=>zbz _ _ _
    refine ⟨⟨hi0.ri.size,hown.ri,λk b hk=>⟨(World.putObj_heap_other (λe=>?_)).trans (hown.sat k b hk).1,(hown.sat k b hk).2⟩,hown.inj,
     ⟨So,D0::ms,C.E.ok _ _ _ _ hown.X (λk hk=>World.putObj_heap_other (λe=>by have:=hSo k hk;omega)) rfl rfl rfl (by rw [szV];exact Nat.le_refl _),λk hk=>by rw [szV];have:=hSo k hk;omega,hown.sep,⟨by simp [hdef],List.nodup_cons.2 ⟨λhm=>?_,hnd⟩⟩,λD hDm=>?_⟩,
     hown.keep,hown.glob,hown.low⟩,hfree,hBE,hi0.flat,hi0.rounds⟩
    ·have:=(hown.sat k b hk).1;rw [e,hl] at this;exact (Blk.obj_loop this).elim
    ·have:=(Array.getElem?_eq_some_iff.1 (hms D0 hm).1).1;omega
    ·rcases List.mem_cons.1 hDm with rfl|hDm
     ·exact ⟨(World.putObj_heap_other (by omega)).trans hD,(λhS=>by have:=hSo _ hS;omega),hYn⟩
     ·exact ⟨(World.putObj_heap_other (λe=>by have:=hown.mks D hDm;rw [e,hl] at this;cases this)).trans (hown.mks D hDm),(hms D hDm).2⟩
   rcases hcase with ⟨hc',hfree,rc,hrcS,hsupp⟩|⟨hc',e,hpE,BE,rc,ho,hk,hfree,hBE,hrcS,hsupp⟩
   ·obtain ⟨hown,hLv⟩:=hsupp.here
    have hNl:N=xs.length:=by omega
    have hmin:min (N+1) xs.length=N:=by omega
    rw [hmin] at hfree hown
    obtain ⟨f1,f2⟩:=fini .ready none rc (hp N) B (by simp) hfree hw.low hown hLv
    rcases fin with ⟨_,hK⟩|⟨x',hx',_⟩
    ·exact ⟨none,_,f1,_,rc,hK,f2⟩
    ·obtain ⟨h9,_⟩:=List.getElem?_eq_some_iff.1 hx';omega
   ·obtain ⟨hown,_,hLv⟩:=hsupp.here
    rcases ho with ⟨_,ho⟩|⟨pv,h1,_⟩
    ·cases hoj:zbk e with
     | none=>rw [hoj] at ho;cases ho
     | some j =>
      obtain ⟨f1,f2⟩:=fini .done (some j) rc hpE BE (by simp) hfree hBE hown (hLv j hoj)
      refine ⟨some j,_,f1,?_⟩
      cases e<;>simp only [zbk,Option.some.injEq,reduceCtorEq] at hoj
      ·subst hoj;exact wpIn_exit ⟨_,rc,hk,f2⟩
      ·subst hoj;exact wpIn_goto ⟨_,rc,hk,f2⟩
      ·subst hoj;exact wpIn_ret ⟨_,rc,hk,f2⟩
    ·cases h1
  ·refine ⟨i,?_,h1,rfl⟩
   unfold dom rst at hd
   split at hd
   ·rename_i h;exact h.resolve_left (by omega)
   ·exact absurd rfl hd

theorem zjk {t:Tmp} {ps:Array Tmp} {assign body:Code} {f:FuncId} {caps:Array Value} {rs:List Nat} {xs:List (Array Value)} (hg:s.ts t=.func (.func f) #[] caps) (hit:zhp P C.G f caps s.hp rs xs)
  (hxs:∀ x∈xs,x.size=ps.size/\∀ v∈x,za0 v=true) (hps:∀ p∈ps,p<n) (tsE:Nat->Value) (hp:Nat->Hp) (B:Nat) (N:Nat) (hN:N<=xs.length)
  (hw:Weak C s ⟨tsE,hp 0,B,s.yc⟩) (hdis:∀ k∈rs,hp 0 k=none/\dom s.hp k) (hids:∀ i,i<=N->∀ t,zap (dom (hp i)) (tsE t))
  (rounds:∀ i x,i<N->xs[i]? = some x->∀ (C1:Ctx) (l:Nat),C1.G=C.G->C1.hp0=hp i->C1.Y=none->GW P C1 n [] (some l) assign ⟨zav ps.toList x.toList tsE,hp i,B,0⟩
   (zbx (λs1=>∀ C2:Ctx,C2.G=C.G->C2.hp0=hp i->C2.Y=none->GW P C2 n [] (some l) body s1 (zbx (λs2=>Weak C1 s2 ⟨λ_=>zcm,hp (i+1),B,s2.yc⟩) (λ_ _=>False))) (λ_ _=>False)))
  (fin:(N=xs.length/\K .normal ⟨tsE,hp N,B,s.yc⟩)\/∃ x,xs[N]? = some x/\∀ (C1:Ctx) (l:Nat),C1.G=C.G->C1.hp0=hp N->C1.Y=none->GW P C1 n [] (some l) assign ⟨zav ps.toList x.toList tsE,hp N,B,0⟩
   (zbx (λs1=>∀ C2:Ctx,C2.G=C.G->C2.hp0=hp N->C2.Y=none->GW P C2 n [] (some l) body s1 (λe s2=>(zbk e).isSome=true/\(∀ t,zap (dom s2.hp) (tsE t))/\K e ⟨tsE,s2.hp,s2.B,s.yc⟩)) (λ_ _=>False))) (hYn:C.Y≠some .still:=by first|assumption|(intro h;simp_all [YG.still])) :
  GW P C n d none (.rangeFunc (.tmp t) ps assign body) s K :=
 zwx none hg hit hxs hps tsE hp B N hN hw hdis hids rounds fin hYn
end
end Go.Gy
