/-
  Lemmas of this claim, in their order (GyHC, GyH3, GyHK).
  Conditions: those of each theorem.
-/
import Derived.Test.YtmnknnojkhkceaaGreatDoorGz07
import Derived.ChangeSlices
import Derived.Stop.LaidErr
set_option linter.unusedSimpArgs false
set_option linter.unusedVariables false
namespace Go.Gy
set_option linter.unusedSimpArgs false
set_option linter.unusedVariables false
set_option maxRecDepth 100000
open Go Go.RowKit Go.Proofs Go.ChangeShapes Go.WideShapes Go.ChangeAt
theorem ztt:Tryz.prog.cellsOf 22=1:=by kernel_rfl
theorem zts:Tryz.prog.cellsOf 24=6:=by kernel_rfl
theorem zpx:Tryz.prog.cellTypes Tryz.prog.depth 24=some [22,3,3,3,3,3]:=by kernel_rfl
theorem zwc:Tryz.prog.bytesOf 3=8:=by kernel_rfl
theorem zp9 (d c o n:Nat):liesAt Tryz.prog d 104 c o 3 n=false:=by
 cases d with
 | zero=>rfl
 | succ d =>
  unfold liesAt
  rw [zkf (by kernel_rfl) (by kernel_rfl),Tryz.underlying3]
  rfl
theorem zt9 (d c o n:Nat):liesAt Tryz.prog d 86 c o 3 n=false:=by
 cases d with
 | zero=>rfl
 | succ d =>
  unfold liesAt
  rw [zlt (by kernel_rfl) (by kernel_rfl),Tryz.underlying3]
  rfl
theorem z0q:∀ p∈G0L,∃ t,p.2.T=.ty t∧∀ d c o n,liesAt Tryz.prog d t c o 3 n=false:=by
 intro p hp
 unfold G0L at hp
 rcases List.mem_cons.1 hp with rfl|hp
 ·exact ⟨_,rfl,zt9⟩
 rcases List.mem_cons.1 hp with rfl|hp
 ·exact ⟨_,rfl,zp9⟩
 cases hp
structure CfAt (W:World) (k off n cap:Nat) (b:Blk) (f:Nat→Int):Prop where
 le:n≤cap
 heap:W.heap[k]? = some b.obj0
 fx:b.fx
 raw:∃ c T fr,b=⟨c,.raw T fr⟩
 rd:rdI b off cap f
 i6:∀ j,j<cap→i64 (f j)
 lies:∃ row c,W.shape? k=some (row,c)∧liesAt Tryz.prog Tryz.prog.depth row (c / Tryz.prog.cellsOf row) off 3 cap=true
theorem CfAt.mb {W:World} {k off n cap:Nat} {b:Blk} {f:Nat→Int} (h:CfAt W k off n cap b f) (hn:n≤17592186044416):MB b off n f:=⟨h.rd.le h.le,h.fx,fun j hj=>h.i6 j (Nat.lt_of_lt_of_le hj h.le),hn⟩
theorem CfAt.ne {W:World} {k off n cap:Nat} {b:Blk} {f:Nat→Int} (h:CfAt W k off n cap b f) (hg:GOK G0 W):∀ g c,G0 g=some c→k≠g:=fun g c hc e=>by
 have h1:=hg g c hc
 obtain ⟨t,ht,hl'⟩:=z0q _ (zre hc)
 obtain ⟨row,q,hsh,hl⟩:=h.lies
 rw [e] at hsh
 unfold World.shape? at hsh
 rw [h1] at hsh
 obtain ⟨cc,T⟩:=c
 simp only at ht
 subst ht
 simp only [Blk.obj0,Option.some.injEq,Prod.mk.injEq] at hsh
 obtain ⟨rfl,rfl⟩:=hsh
 rw [hl'] at hl
 cases hl
section
variable {H:Type} {enc:TypeId×Value→H} {w:World} {held:Bool}
theorem zo3 {P:Program} {base:Nat} {spare:Nat→Bool} {t:TypeId} {f0 f1 f2 f3 f4 f5:Field} {fuel:Nat} {cs:List Value} {x:DataW H×List MemPlace} (ht:P.underlying t=some (.struct #[f0,f1,f2,f3,f4,f5])) (h:DataW.trod enc P w base spare held fuel t cs=some x) :
  ∃ y0 y1 y2 y3 y4 y5 n,x.1=.agg [y0.1,y1.1,y2.1,y3.1,y4.1,y5.1]∧DataW.trod enc P w base spare held n f0.type ((cs.drop f0.offset).take (P.cellsOf f0.type))=some y0∧DataW.trod enc P w base spare held n f1.type ((cs.drop f1.offset).take (P.cellsOf f1.type))=some y1 ∧
   DataW.trod enc P w base spare held n f2.type ((cs.drop f2.offset).take (P.cellsOf f2.type))=some y2∧DataW.trod enc P w base spare held n f3.type ((cs.drop f3.offset).take (P.cellsOf f3.type))=some y3∧DataW.trod enc P w base spare held n f4.type ((cs.drop f4.offset).take (P.cellsOf f4.type))=some y4∧DataW.trod enc P w base spare held n f5.type ((cs.drop f5.offset).take (P.cellsOf f5.type))=some y5:=by
 obtain ⟨xs,n,_,hx,hl,hlen,hf⟩:=DataW.trod_struct ht h
 match xs,hlen with
 | [y0,y1,y2,y3,y4,y5],_=>exact ⟨y0,y1,y2,y3,y4,y5,n,by rw [hx];rfl,by simpa using hf 0 f0 rfl,by simpa using hf 1 f1 rfl,by simpa using hf 2 f2 rfl,by simpa using hf 3 f3 rfl,by simpa using hf 4 f4 rfl,by simpa using hf 5 f5 rfl⟩
theorem zo2 {fuel:Nat} {cs:List Value} {x:DataW H×List MemPlace} (h:DataW.trod enc Tryz.prog w 0 (fun _=>true) held fuel 24 cs=some x) :
  ∃ y0 y1 y2 y3 y4 y5 n,x.1=.agg [y0.1,y1.1,y2.1,y3.1,y4.1,y5.1]∧DataW.trod enc Tryz.prog w 0 (fun _=>true) held n 22 ((cs.drop 0).take 1)=some y0∧DataW.trod enc Tryz.prog w 0 (fun _=>true) held n 3 ((cs.drop 1).take 1)=some y1∧DataW.trod enc Tryz.prog w 0 (fun _=>true) held n 3 ((cs.drop 2).take 1)=some y2 ∧
   DataW.trod enc Tryz.prog w 0 (fun _=>true) held n 3 ((cs.drop 3).take 1)=some y3∧DataW.trod enc Tryz.prog w 0 (fun _=>true) held n 3 ((cs.drop 4).take 1)=some y4∧DataW.trod enc Tryz.prog w 0 (fun _=>true) held n 3 ((cs.drop 5).take 1)=some y5:=by
 obtain ⟨y0,y1,y2,y3,y4,y5,n,hx,f0,f1,f2,f3,f4,f5⟩:=zo3 Tryz.underlying24 h
 rw [ztt] at f0
 rw [zhh] at f1 f2 f3 f4 f5
 exact ⟨y0,y1,y2,y3,y4,y5,n,hx,f0,f1,f2,f3,f4,f5⟩
theorem zx4 {r:Reach} {b0:Nat} {v:Value} {d:DataW H} {p:List MemPlace} (hv:Value.okWide Tryz.prog w r b0 24 v) (h:DataW.Trod enc Tryz.prog w 0 (fun _=>true) held 24 v d p) :
  ∃ g bx tp nr md,i64 g∧i64 bx∧i64 tp∧i64 nr∧i64 md∧(v=cfV (.slice none 0 0) g bx tp nr md∨∃ (k off n cap:Nat) (b:Blk) (f:Nat→Int),v=cfV (.slice (some ⟨k,off,none⟩) n cap) g bx tp nr md∧CfAt w k off n cap b f):=by
 simp only [Value.okWide,Tryz.underlying24] at hv
 obtain ⟨cs,rfl,hsz,ts,hts,_,hall⟩:=hv
 rw [zpx] at hts
 simp only [Option.some.injEq] at hts
 subst hts
 obtain ⟨fuel,hf⟩:=h
 obtain ⟨y0,y1,y2,y3,y4,y5,n,_,h0,h1,h2,h3,h4,h5⟩:=zo2 hf
 simp only [Value.cells] at h0 h1 h2 h3 h4 h5
 obtain ⟨g,e1,_,w1⟩:=DataW.trod_int Tryz.underlying3 h1
 obtain ⟨bx,e2,_,w2⟩:=DataW.trod_int Tryz.underlying3 h2
 obtain ⟨tp,e3,_,w3⟩:=DataW.trod_int Tryz.underlying3 h3
 obtain ⟨nr,e4,_,w4⟩:=DataW.trod_int Tryz.underlying3 h4
 obtain ⟨md,e5,_,w5⟩:=DataW.trod_int Tryz.underlying3 h5
 rw [zts] at hsz
 obtain ⟨c0,c1,c2,c3,c4,c5,rfl⟩:∃ c0 c1 c2 c3 c4 c5,cs=#[c0,c1,c2,c3,c4,c5]:=by
  obtain ⟨l⟩:=cs
  match l,hsz with
  | [c0,c1,c2,c3,c4,c5],_=>exact ⟨c0,c1,c2,c3,c4,c5,rfl⟩
 simp at e1 e2 e3 e4 e5
 subst e1 e2 e3 e4 e5
 refine ⟨g,bx,tp,nr,md,zct w1,zct w2,zct w3,zct w4,zct w5,?_⟩
 rcases open_ints Tryz.underlying22 Tryz.underlying3 zhh h0 with ⟨e0,_⟩|⟨a,len,cap,zs,e0,_,hle,_,hzl,_,hc,hw⟩
 ·simp at e0
  subst e0
  exact .inl rfl
 ·simp at e0
  subst e0
  right
  rw [if_pos rfl] at hzl
  obtain ⟨u,hu,hok⟩:=hall 0 _ rfl
  simp at hu
  subst hu
  simp only [Cell.okWide,Cell.ok,Tryz.underlying22] at hok
  obtain ⟨_,_,_,hsp,row,cells,hsh,hlies⟩:=hok
  obtain ⟨k,off,sp⟩:=a
  simp only at hsp hsh hlies
  subst hsp
  have hsh':=hsh
  unfold World.shape? at hsh'
  split at hsh'
  ·rename_i c T fr hh
   simp only [Option.some.injEq,Prod.mk.injEq] at hsh'
   obtain ⟨rfl,rfl⟩:=hsh'
   refine ⟨k,off,len,cap,⟨c,.raw T fr⟩,fun j=>zs.getD j 0,rfl,hle,hh,trivial,⟨c,T,fr,rfl⟩,fun j hj=>?_,fun j hj=>?_,T,_,hsh,hlies⟩
   ·have h2:=hc j (by omega)
    rw [Addr.add_lit] at h2
    simpa [World.cell?,hh] using h2
   ·have hjz:j<zs.length:=by omega
    exact zct (hw _ (by simp [List.getD,List.getElem?_eq_getElem hjz]))
  ·cases hsh'
theorem zwd {g bx tp nr md:Int} {a:Addr} {n cap:Nat} {d:DataW H} {p:List MemPlace} (h:DataW.Trod enc Tryz.prog w 0 (fun _=>true) held 24 (cfV (.slice (some a) n cap) g bx tp nr md) d p) (hw:∀ x∈d.weights Tryz.prog 24,x≤reachBytes):cap≤17592186044416:=by
 obtain ⟨fuel,hf⟩:=h
 obtain ⟨y0,y1,y2,y3,y4,y5,m,hx,h0,_⟩:=zo2 hf
 simp only [cfV,Value.cells] at h0
 rcases Deep.open_slice Tryz.underlying22 h0 with ⟨e1,_⟩|⟨a',len,cap',m',n',D,Pl,e1,_,hlc,hcm,hm,hy1,_⟩
 ·simp at e1
 ·simp at e1
  obtain ⟨rfl,rfl,rfl⟩:=e1
  rw [if_pos rfl] at hm
  subst hm
  rw [show d=_ from hx,hy1] at hw
  have:=hw ((n+(m' - n))*8) (by
   simp only [DataW.weights,Tryz.underlying24]
   simp [DataW.weightsEach,DataW.weights,Tryz.underlying22,zwc])
  unfold reachBytes at this
  omega
end
theorem zlr:Tryz.prog.cellsOf 96=2:=by kernel_rfl
theorem zqu:Tryz.prog.cellsOf 97=12:=by kernel_rfl
section
variable {H:Type} {enc:TypeId×Value→H} {w:World}
theorem z3h {base fuel:Nat} {spare:Nat→Bool} {held:Bool} {cs:List Value} {a b:Int} {p:List MemPlace} (h:DataW.trod enc Tryz.prog w base spare held fuel 96 cs=some (.agg [.lit (.int .i64 a),.lit (.int .i64 b)],p)):cs=[.int .i64 a,.int .i64 b]:=by
 cases fuel with
 | zero=>simp [DataW.trod] at h
 | succ fuel =>
  simp only [DataW.trod,Tryz.underlying96,zlr] at h
  split at h
  ·rename_i hl
   obtain ⟨xs,hm,hx⟩:=Option.map_eq_some_iff.1 h
   have hx1:=congrArg Prod.fst hx
   simp only [DataW.agg.injEq] at hx1
   match cs,hl with
   | [c0,c1],_ =>
    have h0:=Lib.mapM_at hm 0 _ rfl
    have h1:=Lib.mapM_at hm 1 _ rfl
    obtain ⟨y0,hy0,hf0⟩:=h0
    obtain ⟨y1,hy1,hf1⟩:=h1
    obtain ⟨z0,hc0,rfl,_⟩:=DataW.trod_int Tryz.underlying3 hf0
    obtain ⟨z1,hc1,rfl,_⟩:=DataW.trod_int Tryz.underlying3 hf1
    have e0:(xs.map (·.1))[0]? = some (DataW.lit (.int .i64 z0):DataW H):=by simp [hy0]
    have e1:(xs.map (·.1))[1]? = some (DataW.lit (.int .i64 z1):DataW H):=by simp [hy1]
    rw [hx1] at e0 e1
    simp at e0 e1
    subst e0 e1
    have q0:[c0]=[Value.int .i64 a]:=hc0
    have q1:[c1]=[Value.int .i64 b]:=hc1
    simp at q0 q1
    rw [q0,q1]
  ·cases h
theorem z3g {base fuel:Nat} {spare:Nat→Bool} {held:Bool} {cs:List Value} {p:List MemPlace} (h:DataW.trod enc Tryz.prog w base spare held fuel 97 cs=some (Proofs.YtmnknnojkhkceaaGreatDoor.Rows.laid_gyre_pull_limits,p)):cs=lmB.c.toList:=by
 cases fuel with
 | zero=>simp [DataW.trod] at h
 | succ fuel =>
  simp only [DataW.trod,Tryz.underlying97,zqu,zlr] at h
  split at h
  ·rename_i hl
   obtain ⟨xs,hm,hx⟩:=Option.map_eq_some_iff.1 h
   have hx1:=congrArg Prod.fst hx
   simp only [Proofs.YtmnknnojkhkceaaGreatDoor.Rows.laid_gyre_pull_limits,DataW.agg.injEq] at hx1
   have key:∀ (i:Nat) (a b:Int),i<6→([DataW.agg [.lit (.int .i64 (-2097152)),.lit (.int .i64 2097152)],.agg [.lit (.int .i64 1),.lit (.int .i64 2097152)],.agg [.lit (.int .i64 1),.lit (.int .i64 1048576)],.agg [.lit (.int .i64 1),.lit (.int .i64 1024)],.agg [.lit (.int .i64 (-2097152)),.lit (.int .i64 2097152)],.agg [.lit (.int .i64 0),.lit (.int .i64 13194139533312)]]:List (DataW H))[i]? = some (.agg [.lit (.int .i64 a),.lit (.int .i64 b)]) →
     (cs.drop (i*2)).take 2=[.int .i64 a,.int .i64 b]:=fun i a b hi hab=>by
    obtain ⟨y,hy,hf⟩:=Lib.mapM_at hm i i (by simp [hi])
    have e:(xs.map (·.1))[i]? = some y.1:=by simp [hy]
    rw [hx1,hab] at e
    simp only [Option.some.injEq] at e
    obtain ⟨y1,y2⟩:=y
    simp only at e
    subst e
    exact z3h hf
   have k0:=key 0 _ _ (by omega) rfl
   have k1:=key 1 _ _ (by omega) rfl
   have k2:=key 2 _ _ (by omega) rfl
   have k3:=key 3 _ _ (by omega) rfl
   have k4:=key 4 _ _ (by omega) rfl
   have k5:=key 5 _ _ (by omega) rfl
   match cs,hl with
   | [c0,c1,c2,c3,c4,c5,c6,c7,c8,c9,c10,c11],_ =>
    simp at k0 k1 k2 k3 k4 k5
    simp [lmB,k0,k1,k2,k3,k4,k5]
  ·cases h
end
theorem z6l : Tryz.prog.globalNamed "gyre/pull.limits" = some 0 := by kernel_rfl
theorem zuj:(Tryz.prog.globals[0]?).map (·.type)=some 97:=by kernel_rfl
theorem zyk:((begin Tryz.prog (fun _ _=>0) default).world.heap[0]?).bind Obj.row? = some (#[.int .i64 0,.int .i64 0,.int .i64 0,.int .i64 0,.int .i64 0,.int .i64 0,.int .i64 0,.int .i64 0,.int .i64 0,.int .i64 0,.int .i64 0,.int .i64 0],97):=by kernel_rfl
theorem zuk {W : World} {rest : List (String × DataW Unit)} (h : laidMet Tryz.prog (("gyre/pull.limits", Proofs.YtmnknnojkhkceaaGreatDoor.Rows.laid_gyre_pull_limits) :: rest) W) : W.var? Tryz.prog "gyre/pull.limits" = some lmB.c := by
 obtain ⟨ps,⟨g',t',cs,fuel,p,q,hg',ht',hvar,hd,_,_⟩,_⟩:=h
 obtain rfl:=Option.some.inj (z6l.symm.trans hg')
 obtain rfl:=Option.some.inj (zuj.symm.trans ht')
 rw [hvar]
 congr 1
 apply Array.ext'
 exact z3g hd
theorem zwx {W : World} (hS : W.ShapedOpen Tryz.prog) (h : laidMet Tryz.prog [("gyre/conf.names", Proofs.YtmnknnojkhkceaaGreatDoor.Rows.laid_gyre_conf_names), ("gyre/quot.least", Proofs.YtmnknnojkhkceaaGreatDoor.Rows.laid_gyre_quot_least), ("gyre/pull.limits", Proofs.YtmnknnojkhkceaaGreatDoor.Rows.laid_gyre_pull_limits)] W) : GOK G1 W := fun k b hk => by
 rcases za5 hk with hm|hm
 ·simp at hm
  obtain ⟨rfl,rfl⟩:=hm
  exact zg8 z6l (of_decide_eq_true (by kernel_rfl)) zyk hS (zuk (laidMet.tail (laidMet.tail h)))
 ·have h9:=zre hm
  simp [G0L] at h9
  rcases h9 with ⟨rfl,rfl⟩|⟨rfl,rfl⟩
  ·exact zg8 z5i (of_decide_eq_true (by kernel_rfl)) zwt hS (z2h (laidMet.tail h))
  ·exact zg8 z5j (of_decide_eq_true (by kernel_rfl)) zwu hS (z2r h)
theorem zus {fits:TypeId→Bool} (h:fits 3=false) (d c o n:Nat):rowAt Tryz.prog fits d 3 c o n=false:=by
 cases d with
 | zero=>rfl
 | succ d=>simp [rowAt,h,Tryz.underlying3]
theorem zq1 {fits:TypeId→Bool} (h:fits 3=false) (h2:fits 96=false) (d c o n:Nat):rowAt Tryz.prog fits d 96 c o n=false:=by
 cases d with
 | zero=>rfl
 | succ d=>simp [rowAt,h2,Tryz.underlying96,zus h]
theorem zou {fits:TypeId→Bool} (h:fits 3=false) (h2:fits 96=false) (h3:fits 97=false) (d c o n:Nat):rowAt Tryz.prog fits d 97 c o n=false:=by
 cases d with
 | zero=>rfl
 | succ d=>simp [rowAt,h3,Tryz.underlying97,zq1 h h2]
theorem zp8 (d c o n:Nat):liesAt Tryz.prog d 97 c o 45 n=false:=by
 cases d with
 | zero=>rfl
 | succ d =>
  unfold liesAt
  rw [zou (by kernel_rfl) (by kernel_rfl) (by kernel_rfl),Tryz.underlying45]
  rfl
theorem zrf {g:Nat} {c:Blk} (h:G1 g=some c):(g=0∧c=lmB)∨G0 g=some c:=by
 unfold G1 at h
 rw [zam] at h
 by_cases e:g=0
 ·rw [if_pos e] at h
  exact .inl ⟨e,(Option.some.inj h).symm⟩
 ·rw [if_neg e] at h
  exact .inr h
theorem StAt.ne1 {W:World} {k off n cap:Nat} {b:Blk} {f:Nat→Int} (h:StAt W k off n cap b f) (hg:GOK G1 W):∀ g c,G1 g=some c→k≠g:=fun g c hc e=>by
 rcases zrf hc with ⟨rfl,rfl⟩|h0
 ·have h1:=hg _ _ hc
  obtain ⟨row,q,hsh,hl⟩:=h.lies
  rw [e] at hsh
  unfold World.shape? at hsh
  rw [h1] at hsh
  simp only [lmB,Blk.obj0,Option.some.injEq,Prod.mk.injEq] at hsh
  obtain ⟨rfl,rfl⟩:=hsh
  rw [zp8] at hl
  cases hl
 ·exact h.ne (zvd W hg) g c h0 e
theorem CfAt.ne1 {W:World} {k off n cap:Nat} {b:Blk} {f:Nat→Int} (h:CfAt W k off n cap b f) (hg:GOK G1 W) (hk:¬k=0):∀ g c,G1 g=some c→k≠g:=fun g c hc e=>by
 rcases zrf hc with ⟨rfl,rfl⟩|h0
 ·exact hk e
 ·exact h.ne (zvd W hg) g c h0 e
theorem CfAt.lim {W:World} {k off n cap:Nat} {b:Blk} {f:Nat→Int} (h:CfAt W k off n cap b f) (hg:GOK G1 W) (hk:k=0) (hn:n≤17592186044416):MB lmB off n f:=by
 have h1:=hg _ _ znd
 have h2:=h.heap
 rw [hk,h1] at h2
 have hc:b.c=lmB.c:=by
  obtain ⟨c,T,fr,rfl⟩:=h.raw
  simp only [lmB,Blk.obj0,Option.some.injEq,Obj.cells.injEq] at h2
  exact h2.1.symm
 have hm:=h.mb hn
 exact ⟨fun j hj=>by rw [←hc];exact hm.rd j hj,zi0,hm.i6,hm.nn⟩
theorem z13 {P:Program} {G:Hp} {fn:FuncId} {args:Array Value} {v:Value} {W:World} (hGF:zbi G) (hF:Fun P G fn args (hpL G []) (zab []) (.ret v [])) (hv:zav v=true) (hgok:GOK G W) :
  zd4 P fn args W fun e W'=>e=.returned v∧Below W.heap.size W W':=by
 have e:rst (hpL G []) (zab [])=hpL G []:=LOk.rst (m:=[]) hGF
 have hr:=hF.run (fun k=>k) W hgok
 rw [e] at hr
 have h:=hr (fun k b hk=>by
  rw [za6] at hk
  refine ⟨?_,Blk.flat_ids (hGF k b hk).2⟩
  rw [hgok k b hk]
  congr 1
  obtain ⟨cc,T⟩:=b
  cases T with
  | ty t=>exact (Blk.obj_flat (hGF k _ hk).2).symm
  | raw t fr=>rfl
  | mp=>exact (Blk.obj_flat (hGF k _ hk).2).symm) (fun k l _ _ e=>e) (fun k _ _=>rfl)
 rw [show args.map (ren fun k=>k)=args by rw [show (ren fun k=>k)=id from funext fun v=>zkd v];simp] at h
 refine h.mono fun e' W' ⟨h1,h2⟩=>⟨?_,?_⟩
 ·rw [h1,zkd]
 ·exact ⟨h2.os,h2.tape,h2.output,h2.size,fun k hk=>h2.same k hk (by simp)⟩
end Go.Gy
