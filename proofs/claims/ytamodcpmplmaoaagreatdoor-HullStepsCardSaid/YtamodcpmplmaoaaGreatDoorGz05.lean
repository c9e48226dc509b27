/-
  Lemmas of this claim, in their order (GyWB, GyLB, GyWC, GyWD, GyWE, GyWK, GyEP, GyEQ, GyER, GyEE, GyWF, GyWG, GyWH, GyLC, GyWL, GyWM, GyCA, GyLD, GyCB, GyCC, GyCD, GyCE, GyCF).
  Conditions: those of each theorem.
-/
import Derived.Test.YtamodcpmplmaoaaGreatDoorGz04
set_option linter.unusedSimpArgs false
set_option linter.unusedVariables false
set_option maxRecDepth 20000
set_option maxHeartbeats 16000000
namespace Go.Gy
open Go Go.RowKit Go.Proofs Go.Proofs.Tryz
theorem Hx {p:Prop} (h:p:=by
 have hi:=λD=>Blk.fx_ids h.fx D;simp [aM,aI,aP,hi,dom]):p:=h
theorem Hn {p:Prop} (h:p:=by
 refine cB _ 400 hC G0F (m0:=[(100,b)]) bA zO ?_ ?_ ?_
 ·exact lO
 ·exact Hx
 ·simp):p:=h
theorem FQ {p:Prop} (h:p:=by
 refine cB _ 400 hC G0F (m0:=[(100,b)]) bA zO ?_ ?_ ?_
 ·simp [aL,cQ,aI,aP,dom,hs]
 ·exact Hx
 ·simp):p:=h
theorem QN {p:Prop} (h:p:=by
 exact eS results85):p:=h
theorem SB.int {b:Blk} {off n:Nat} {f:aJ} (h:SB b off n f) {i:Nat} (hi:i<n) {q:Nat} (hq:q<6):fB prog 3 b (off+i*6+q)=some (.int .i64 (f (6*i+q))):=by
 have Xs:=Blk.fx_rd h.fx;have:=ze (P:=prog) (T:=3) (j:=6*i+q) (cr isAgg3) h.rd zO;rw [(zO:off+i*6+q=off+(6*i+q)),this]
def Ww (bx tp:Int) (b:Blk) (off n cap:Nat) (st:Int) (i:Nat):GS :=
 ⟨tsL [(1,.int .i64 bx),(2,.int .i64 tp),(3,.pointer (some ⟨200,0,none⟩)),(7,.int .i64 i)],
 hpL G0 [(200,⟨#[.int .i64 st,.slice (some ⟨100,off,none⟩) n cap],.ty 27⟩),(100,b)],400,0⟩
theorem Lo {bx tp:Int} {f:aJ} {i:Nat}:inB bx tp f i=true↔((-bx<=f (6*i)/\f (6*i)<=bx)/\(-bx<=f (6*i+1)/\f (6*i+1)<=bx)/\(-bx<=f (6*i+2)/\f (6*i+2)<=bx))/\(-tp<=f (6*i+3)/\f (6*i+3)<=tp)/\(-tp<=f (6*i+4)/\f (6*i+4)<=tp)/\(-tp<=f (6*i+5)/\f (6*i+5)<=tp):=by
 unfold inB inV inW;simp only [bn,db];omega
theorem Qa (b:Blk) (off n cap:Nat) (f:aJ) (h:SB b off n f) (st bx tp:Int) (Tq:0<=bx/\bx<=1048576) (Zk:0<=tp/\tp<=1048576) :
  Fun prog G0 85 #[.agg #[.int .i64 st,.slice (some ⟨100,off,none⟩) n cap],.int .i64 bx,.int .i64 tp] (hpL G0 [(100,b)]) (ak [(100,b)]) (.ret (.bool (BK bx tp f n)) []):=by
 refine cg (B:=200) G0F func85 rfl call85 (aT h.fx) ?_ zS zS zS (by simp [ntmps85]) zO ?_
 ·exact RU
 intro C hC bA hY;obtain ⟨N,hN,dp,dk⟩:=Js (inB bx tp f) n;have Lk:=h.nn;have nb:¬bx<0:=zO;have nt:¬tp<0:=zO;have mb:Int.bmod (-bx) 18446744073709551616=-bx:=bm zO zO;have mt:Int.bmod (-tp) 18446744073709551616=-tp:=bm zO zO;rw [KX hN dp dk];refine iI ?_;refine fD N (Ww bx tp b off n cap st) ?_ ?_ ?_
 ·exact Hn
 ·intro i hi;have ew:i<n:=zO;have cS:(i:Int)<n:=zO;have hz:(0:Int)<=i:=zO;have hs:Int.bmod ((i:Int)+1) 18446744073709551616=((i+1:Nat):Int):=ee;have l0:=h.int ew (q:=0) zO;have l1:=h.int ew (q:=1) zO;have l2:=h.int ew (q:=2) zO;have l3:=h.int ew (q:=3) zO;have l4:=h.int ew (q:=4) zO;have l5:=h.int ew (q:=5) zO;simp only [du] at l0;obtain ⟨⟨⟨a0,b0⟩,⟨a1,b1⟩,⟨a2,b2⟩⟩,⟨a3,b3⟩,⟨a4,b4⟩,⟨a5,b5⟩⟩:=Lo.1 (dp i hi);replace a0:=dG.2 a0;replace a1:=dG.2 a1;replace a2:=dG.2 a2;replace a3:=dG.2 a3;replace a4:=dG.2 a4;replace a5:=dG.2 a5;replace b0:=dG.2 b0;replace b1:=dG.2 b1;replace b2:=dG.2 b2;replace b3:=dG.2 b3;replace b4:=dG.2 b4;replace b5:=dG.2 b5;unfold Ww;refine qv (k27 nb nt mb mt hi ew cS hz hs l0 l1 l2 l3 l4 l5 a0 a1 a2 a3 a4 a5 b0 b1 b2 b3 b4 b5) ?_;exact FQ
 ·by_cases tF:N=n
  ·rw [bg tF];subst tF;unfold Ww;refine iI ?_;exact QN
  ·rw [aR tF];have ew:N<n:=zO;have cS:(N:Int)<n:=zO;have hz:(0:Int)<=N:=zO;have l0:=h.int ew (q:=0) zO;have l1:=h.int ew (q:=1) zO;have l2:=h.int ew (q:=2) zO;have l3:=h.int ew (q:=3) zO;have l4:=h.int ew (q:=4) zO;have l5:=h.int ew (q:=5) zO;simp only [du] at l0;have aba:¬inB bx tp f N=true:=by rw [dk.resolve_left tF];simp
   rw [Lo] at aba;unfold Ww;by_cases a0:f (6*N) < -bx
   ·
    refine qv (k14 nb nt mb mt ew cS hz l0 l1 l2 l3 l4 l5 a0) ?_;exact QN
   by_cases b0:bx<f (6*N)
   ·
    refine qv (RK nb nt mb mt ew cS hz l0 l1 l2 l3 l4 l5 a0 b0) ?_;exact QN
   by_cases a3:f (6*N+3) < -tp
   ·
    refine qv (k16 nb nt mb mt ew cS hz l0 l1 l2 l3 l4 l5 a0 b0 a3) ?_;exact QN
   by_cases b3:tp<f (6*N+3)
   ·
    refine qv (k17 nb nt mb mt ew cS hz l0 l1 l2 l3 l4 l5 a0 b0 a3 b3) ?_;exact QN
   by_cases a1:f (6*N+1) < -bx
   ·
    refine qv (k18 nb nt mb mt ew cS hz l0 l1 l2 l3 l4 l5 a0 b0 a3 b3 a1) ?_;exact QN
   by_cases b1:bx<f (6*N+1)
   ·
    refine qv (k19 nb nt mb mt ew cS hz l0 l1 l2 l3 l4 l5 a0 b0 a3 b3 a1 b1) ?_;exact QN
   by_cases a4:f (6*N+4) < -tp
   ·
    refine qv (k20 nb nt mb mt ew cS hz l0 l1 l2 l3 l4 l5 a0 b0 a3 b3 a1 b1 a4) ?_;exact QN
   by_cases b4:tp<f (6*N+4)
   ·
    refine qv (k21 nb nt mb mt ew cS hz l0 l1 l2 l3 l4 l5 a0 b0 a3 b3 a1 b1 a4 b4) ?_;exact QN
   by_cases a2:f (6*N+2) < -bx
   ·
    refine qv (k22 nb nt mb mt ew cS hz l0 l1 l2 l3 l4 l5 a0 b0 a3 b3 a1 b1 a4 b4 a2) ?_;exact QN
   by_cases b2:bx<f (6*N+2)
   ·
    refine qv (k23 nb nt mb mt ew cS hz l0 l1 l2 l3 l4 l5 a0 b0 a3 b3 a1 b1 a4 b4 a2 b2) ?_;exact QN
   by_cases a5:f (6*N+5) < -tp
   ·
    refine qv (k24 nb nt mb mt ew cS hz l0 l1 l2 l3 l4 l5 a0 b0 a3 b3 a1 b1 a4 b4 a2 b2 a5) ?_;exact QN
   by_cases b5:tp<f (6*N+5)
   ·
    refine qv (k25 nb nt mb mt ew cS hz l0 l1 l2 l3 l4 l5 a0 b0 a3 b3 a1 b1 a4 b4 a2 b2 a5 b5) ?_;exact QN
   exfalso
   omega
theorem ah0 (b:Blk) (off n cap:Nat) (f:aJ) (h:SB b off n f) (st:Int) :
  Fun prog G0 85 #[.agg #[.int .i64 st,.slice (some ⟨100,off,none⟩) n cap],.int .i64 1048576,.int .i64 65536] (hpL G0 [(100,b)]) (ak [(100,b)]) (.ret (.bool (BK 1048576 65536 f n)) []):=Qa b off n cap f h st 1048576 65536 zO zO
theorem lV (b:Blk) (off n cap:Nat) (f:aJ) (h:SB b off n f) (st:Int) :
  Fun prog G0 54 #[.agg #[.int .i64 st,.slice (some ⟨100,off,none⟩) n cap]] (hpL G0 [(100,b)]) (ak [(100,b)]) (.ret (.bool (aY st f n)) []):=by
 refine cg (B:=200) G0F func54 rfl call54 (aT h.fx) ?_ zS zS zS (by simp [ntmps54]) zO ?_
 ·exact RU
 intro C hC bA hY;have hr:=λρ=>Blk.fx_rn h.fx ρ;unfold aY;by_cases c0:-1073741824<=st
 ·by_cases c1:st<=1073741824
  ·have es:stB st=true:=bg ⟨c0,c1⟩;rw [es];by_cases c2:1<=n
   ·have c2':(1:Int)<=n:=zO;have afc:0<n:=zO;by_cases c3:n<=4
    ·have c4:(n:Int)<=4:=zO;have e:decide (1<=n/\n<=4)=true:=bg zO;rw [e]
     repeat' first|refine cT ?_|((first|refine gwR [85] ?_|refine gwD [85] ?_);intro Q hQ _;(repeat first|simp [hC,hY,c0,c1,c2,c2',afc,c3,c4]|refine aE (ah0 b off n cap f h st) G0F (B:=200) (aT h.fx) (λk=>k) (λk hk=>rfl) aN zS dx ai ax ?_);refine dq hQ ?_)|fail
     exact eS results54
    ·have c4:¬(n:Int)<=4:=zO;have e:decide (1<=n/\n<=4)=false:=aR zO;rw [e];refine cA (k7 c0 c1 c2 c2' afc c3 c4) ?_;exact eS results54
   ·have c2':¬(1:Int)<=n:=zO;have afc:¬0<n:=zO;have apS:n=0:=zO;have e:decide (1<=n/\n<=4)=false:=aR zO;rw [e];refine cA (k6 c0 c1 c2 c2' afc apS) ?_;exact eS results54
  ·have es:stB st=false:=aR zO;rw [es];refine cA (k2 c0 c1) ?_;exact eS results54
 ·have es:stB st=false:=aR zO;rw [es];refine cA c0 ?_;exact eS results54
theorem Yp (st:Int):Ret prog G0 54 #[.agg #[.int .i64 st,.slice none 0 0]] (.bool false):=by
 refine aU G0F func54 rfl call54 rfl zS (by simp [ntmps54]) ?_;intro C hC bA hY;by_cases c0:-1073741824<=st
 ·by_cases c1:st<=1073741824
  ·(repeat' (first|refine cT ?_|(refine iy ?_;intro Q hQ _;simp [hC,hY,c0,c1];refine dq hQ ?_)|refine gwC ?_ ?_<;>intro hb))
   exact eR results54
  ·(repeat' (first|refine cT ?_|(refine iy ?_;intro Q hQ _;simp [hC,hY,c0,c1];refine dq hQ ?_)|refine gwC ?_ ?_<;>intro hb))
   exact eR results54
 ·(repeat' (first|refine cT ?_|(refine iy ?_;intro Q hQ _;simp [hC,hY,c0];refine dq hQ ?_)|refine gwC ?_ ?_<;>intro hb))
  exact eR results54
@[simp] theorem ayL (st:Int) (K:fQ):bl prog G0 54 #[.agg #[.int .i64 st,.slice none 0 0]] K↔K (.bool false):=ar G0W ah (Yp st)
end Go.Gy
namespace Go.Gy
open Go Go.RowKit
theorem sd {p:Prop} (h:p:=by unfold maxLen;omega):p:=h
abbrev ry := @Nat.mul_one
section
variable {P:Program} {C:Ctx} {n:Nat} {d:List Deferred} {ro:Option Nat} {s:GS} {K:l6}
theorem Sy {ops:Array Oper} {o:Oper} {post:og} {base k:Nat} {ts:fp} {hp:Hp} {yc:Nat} {T e:TypeId} {m:Nat} (hg:o.guard=none) (hd:∀ dd,o.dst=some dd->dd<n)
  (ho:o.op=.buildSlice T 0 #[]) (hu:P.underlying T=some (.slice e)) (hm:bo P e=some m)
  (h:GL P C n d ro ops base (k+1) post (cJ ts o.dst (.slice (some ⟨base+8*k,0,none⟩) 0 0)) (upd hp (base+8*k) (some ⟨#[],.ty e⟩)) yc K):GL P C n d ro ops base k (o::post) ts hp yc K:=by
 intro r a W hi hf hb hG hR;refine wpListIn_plain hg λK' MG=>?_;have rY:hp (base+8*k)=none:=hf _ (aA _);have hff:∀ x∈(#[]:Array Value),bU x=true:=zS;have B4:¬dom hp (base+8*k):=by unfold dom;simp [rY]
 have Ku:∀ q,dom hp q->upd r (base+8*k) W.heap.size q=r q:=λq hq=>ao _ _ (λe=>B4 (e▸hq));refine lz lC (R:=λu W'=>u=.slice (some ⟨W.heap.size,0,none⟩) 0 0/\W'=W.alloc (.cells #[] e)) (Rp:=λ_ _=>False) ?_ (λu W' h'=>?_) (λpv W' h=>h.elim)
 ·unfold tG;simp only [execOp,ho,Instr.buildSlice,aX,run_underlying hu,bJ,fW hm,Nat.zero_mul];simp [Instr.fill,newRow,newObj,Sem.run];rw [show Array.range 0=#[] from rfl,show ∀ f:Nat->Value,Array.map f #[]=#[] from λf=>by simp]
 ·obtain ⟨rfl,rfl⟩:=h';have hv:(Value.slice (some ⟨W.heap.size,0,none⟩) 0 0)=ren (upd r (base+8*k) W.heap.size) (.slice (some ⟨base+8*k,0,none⟩) 0 0):=by simp [ren,aW,aw,aF,upd]
  rw [hv];refine MG _ _ (h (upd r (base+8*k) W.heap.size) _ _ (hi.after (e:=⟨.slice (some ⟨base+8*k,0,none⟩) 0 0,[],[],[(base+8*k,⟨#[],.ty e⟩)],none,false⟩) hd Ku gb ⟨rfl,rfl,rfl,sF,λq hq _=>?_,λp hp1=>?_,λp hp1=>?_,by simp⟩ ai (by simp [ak,rY];omega)) (λx qy=>?_) hb hG hR)
  ·exact rG _ _ _ hq
  ·simp only [bq,br] at hp1;subst hp1;refine ⟨?_,Blk.flat_ids hff⟩;rw [Blk.obj_flat hff];show (W.alloc _).heap[upd r (base+8*k) W.heap.size (base+8*k)]? = _;rw [cY];exact heap_alloc_new W _
  ·exact HC
  ·exact yH
def ZF (κ:IntKind) (m i:Nat) (G:aJ) (e:TypeId) (hp:Hp) (sl:Value):Prop:=(i=0/\sl=.slice none 0 0)\/∃ (k c:Nat) (g:aJ),100<=k/\sl=.slice (some ⟨k,0,none⟩) i c/\hp k=some ⟨fa (m*c) κ g,.ty e⟩/\i<=c/\∀ j,j<m*i->g j=G j
theorem vA (κ:IntKind) {ops:Array Oper} {o:Oper} {post:og} {base k:Nat} {ts:fp} {hp:Hp} {yc:Nat} {tx ty:Tmp} {t e:TypeId} {m i j o9:Nat} {z:Value} {T2:BTy} {G ev:aJ} (hg:o.guard=none) (hd:∀ dd,o.dst=some dd->dd<n)
  (ho:o.op=.call { callee:=.builtin .append,args:=#[.tmp tx,.tmp ty],argTypes:=#[t,t] }) (ht:P.underlying t=some (.slice e)) (hs:bo P e=some m) (hz:dm P e=some z) (Jb:uV P e=some o9) (hb8:o9<=8*m)
  (VD:∀ x∈z.cells,x=.int κ 0) (Fv:z.cells.size=m) (vw:0<m) (AP:m<=1024) (hx:ZF κ m i G e hp (ts tx)) (hy:ts ty=.slice (some ⟨j,0,none⟩) 1 1) (oL:hp j=some ⟨fa m κ ev,T2⟩) (Sq:∀ q,q<m->ev q=G (m*i+q)) (abl:(i+1)*(8*m)<=140737488355328)
  (h:∀ k' c' g',(k'=base+8*k\/∃ c,ts tx=.slice (some ⟨k',0,none⟩) i c)->100<=k'->i+1<=c'->(∀ q,q<m*(i+1)->g' q=G q) ->
   GL P C n d ro ops base (k+1) post (cJ ts o.dst (.slice (some ⟨k',0,none⟩) (i+1) c')) (upd hp k' (some ⟨fa (m*c') κ g',.ty e⟩)) yc K) (H8:T2.rd=true:=by first|rfl|assumption):GL P C n d ro ops base k (o::post) ts hp yc K:=by
 have vr:∀ q,∀ x∈Builtin.zeroCells z.cells q,bU x=true:=λq x hx=>by rw [VD x (yW hx)];rfl
 by_cases aa8:¬100<=base
 ·intro r a W hi hf hb hG hR;exact absurd hb aa8
 replace aa8:100<=base:=Classical.not_not.1 aa8;have hle:m*(i+1)=m*i+m:=by rw [iN,ry]
 have hmi:m*i<=140737488355328:=ju (by rw [ke];exact jZ zO zO) abl;have ot:i+1<=140737488355328:=ju (Nat.le_mul_of_pos_right _ zO) abl;have h8:(i+1)*o9<=140737488355328:=ju (jZ (aA _) hb8) abl;rcases hx with ⟨rfl,hx⟩|⟨k0,c,g,Vu,hx,hb,H5,hgG⟩
 ·refine L8 (nw:=(fa m κ ev).toList) hg hd ho ht hs hz Jb hx hy oL (λq u hq=>lM) nX vr zO zS sd zO (λcM qX=>?_);rw [Bx (k:=κ) VD,Mn,Fv]
  have em:m+(cM - 1)*m=m*cM:=by
   have:cM=(cM - 1)+1:=zO;rw [this,iN,ke m];simp;omega
  rw [em];refine h _ cM _ (.inl rfl) zO zO λq hq=>?_;unfold HL;rw [ag zO];have:=Sq q zO;exact Rh
 ·refine ajW hg hd (U4 (c:=(fa (m*c) κ g).toList) (c2:=(fa m κ ev).toList) (k:=k0) (j:=j) (m:=1) (m':=1) (sl:=i) (cap:=c) (e:=e) (T2:=T2) (sz:=m) (o9:=o9) (z:=z) ho ht hs hz Jb hx Vu (by simpa using hb) nX hy (by simpa using oL) nX Od vr zS (by rw [mj,ke];exact aA _) H5 sd h8 (λhr=>?_) (λhr cM qX=>?_))
  ·have RC:m*(i+1)<=m*c:=jZ (aA _) hr;rw [ke i m,ZN zO];refine h k0 c _ (.inr ⟨c,hx⟩) Vu hr λq hq=>?_;unfold amU;by_cases om:q<m*i
   ·rw [ae zO];exact hgG q om
   ·rw [ag zO,Sq _ zO];congr 1;omega
  ·have RC:m*i<=m*c:=jZ (aA _) H5;rw [ke i m,Bx (k:=κ) VD,Fv,ZM zO]
   have em:m*i+m+(cM - (i+1))*m=m*cM:=by
    obtain ⟨x,rfl⟩:∃ x,cM=i+1+x:=⟨cM - (i+1),zO⟩
    rw [(zO:i+1+x - (i+1)=x),iN,iN,ry,ke x m]
   rw [em];refine h _ cM _ (.inl rfl) zO qX λq hq=>?_;unfold HL;by_cases om:q<m*i
   ·rw [ag om];exact hgG q om
   ·rw [ae om,ag zO,Sq _ zO];congr 1;omega
def apx (m i:Nat) (G:aJ) (e:TypeId) (hp:Hp) (sl:Value):Prop:=ZF .i64 m i G e hp sl
theorem uu {ops:Array Oper} {o:Oper} {post:og} {base k:Nat} {ts:fp} {hp:Hp} {yc:Nat} {tx ty:Tmp} {t e:TypeId} {m i j o9:Nat} {z:Value} {T2:BTy} {G ev:aJ} (hg:o.guard=none) (hd:∀ dd,o.dst=some dd->dd<n)
  (ho:o.op=.call { callee:=.builtin .append,args:=#[.tmp tx,.tmp ty],argTypes:=#[t,t] }) (ht:P.underlying t=some (.slice e)) (hs:bo P e=some m) (hz:dm P e=some z) (Jb:uV P e=some o9) (hb8:o9<=8*m)
  (VD:∀ x∈z.cells,x=.int .i64 0) (Fv:z.cells.size=m) (vw:0<m) (AP:m<=1024) (hx:apx m i G e hp (ts tx)) (hy:ts ty=.slice (some ⟨j,0,none⟩) 1 1) (oL:hp j=some ⟨fa m .i64 ev,T2⟩) (Sq:∀ q,q<m->ev q=G (m*i+q)) (abl:(i+1)*(8*m)<=140737488355328)
  (h:∀ k' c' g',(k'=base+8*k\/∃ c,ts tx=.slice (some ⟨k',0,none⟩) i c)->100<=k'->i+1<=c'->(∀ q,q<m*(i+1)->g' q=G q) ->
   GL P C n d ro ops base (k+1) post (cJ ts o.dst (.slice (some ⟨k',0,none⟩) (i+1) c')) (upd hp k' (some ⟨fa (m*c') .i64 g',.ty e⟩)) yc K) (H8:T2.rd=true:=by first|rfl|assumption):GL P C n d ro ops base k (o::post) ts hp yc K :=
 vA .i64 hg hd ho ht hs hz Jb hb8 VD Fv vw AP hx hy oL Sq abl h H8
theorem FunS.mvL {G:Hp} {f:FuncId} {args gz:ca} {m:cf} {B:Nat} {R R':Ij} {eG:Hp} {PN:List Nat} (h:FunS P G f args (hpL G m) (ak m) R) (eg:c7 G) (hm:LOk m B) (ρ:dR) (bC:∀ k,k<100->ρ k=k)
  (ea:args.map (ren ρ)=gz) (er:(ak m).map ρ=PN) (eR:RR ρ R=R') (hp0:∀ k,k<100->eG k=G k) (tS:∀ p∈m,100<=ρ p.1/\eG (ρ p.1)=some (p.2.rn ρ)) (jk:∀ k∈ak m,∀ l∈ak m,ρ k=ρ l->k=l)
  (Xy:∀ v ns,R v ns->∀ k∈ak ns,100<=ρ k/\ρ k∉PN) (Q0:∀ v ns,R v ns->∀ k∈ak ns,∀ l∈ak ns,ρ k=ρ l->k=l):FunS P G f gz eG PN R':=by
 subst ea er eR;refine h.rn ρ eg hm.low (JX hm ρ bC hp0 tS jk) (λv ns hR k hk=>?_) Q0;obtain ⟨h1,h2⟩:=Xy v ns hR k hk;refine ⟨h1,λhd=>hd ?_⟩;unfold rst;rw [ae];rintro (h3|h3)
 ·omega
 ·exact h2 h3
theorem cv {G:Hp} {ops:Array Oper} {o:Oper} {post:og} {base k:Nat} {ts:fp} {hp eG:Hp} {yc:Nat} {c:Call} {f:Operand} {g:FuncId} {cap:ca} {rs:List Nat} {args:ca} {R:Ij} (Ro:C.G=G) (hr:FunS P G g args eG rs R) (hg:o.guard=none) (hd:∀ dd,o.dst=some dd->dd<n)
  (ho:o.op=.call c) (hc:c.callee=.value f) (hf:okT ts f) (Kr:gev ts f=.func (.func g) #[] cap) (Zc:cap.all eh=true) (ha:∀ x∈c.args.toList,okX ts hp x) (n5:c.args.map (gev ts)++cap=args)
  (h1:∀ q∈rs,eG q=hp q) (h2:∀ q,q<100->eG q=hp q) (tS:∀ v ns,R v ns->∀ q∈ak ns,base+8*k<=q/\q<base+8*k+8)
  (h:∀ v ns,R v ns->GL P C n d ro ops base (k+1) post (cJ ts o.dst v) (bH hp ns) yc K):GL P C n d ro ops base k (o::post) ts hp yc K:=by
 subst Ro;exact Zs hg hd ho hc hf Kr Zc ha n5 hr h1 h2 tS h
end
end Go.Gy
namespace Go.Gy
open Go Go.RowKit Go.Proofs Go.Proofs.Tryz
theorem te {p:Prop} (h:p:=by
 refine ⟨gb,?_,?_⟩
 ·simp only [br,bN];exact ⟨zO,Blk.fx_ids (fy _ _ _) _⟩
 ·intro k b c h1 h2;simp at h1 h2;rw [h1.2,h2.2]):p:=h
theorem fy (M:Nat) (g:aJ) (T:TypeId):Blk.fx ⟨fa M .i64 g,.ty T⟩:=λx hx=>by
 obtain ⟨m,rfl⟩:=uF hx;rfl
def HJ (nk:Nat) (st:Int) (n:Nat) (f:aJ) (v:Value) (ns:cf):Prop:=∃ (c M:Nat) (g:aJ),n<=c/\6*n<=M/\(∀ j,j<6*n->g j=f j)/\v=.agg #[.int .i64 st,.slice (some ⟨nk,0,none⟩) n c]/\ns=[(nk,⟨fa M .i64 g,.ty 72⟩)]
theorem Pv {b:Blk} {st:Int} {n:Nat} {f:aJ} (v:Value) (ns:cf) (h:HJ 1000 st n f v ns):aL (eo (λk=>k∈ak [(100,b)]) ns) v/\(∀ p∈ns,200<=p.1/\p.2.ids (eo (λk=>k∈ak [(100,b)]) ns))/\(∀ k b c,(k,b)∈ns->(k,c)∈ns->b=c):=by
 obtain ⟨c,M,g,h1,h2,h3,rfl,rfl⟩:=h;exact te
theorem FunS.own1 {fn:FuncId} {args:ca} {b:Blk} {R:Ij} (h:FunS prog G0 fn args (hpL G0 [(100,b)]) (ak [(100,b)]) R) (hb:b.fx) (nk:Nat) (rY:200<=nk) (hR:∀ v ns,R v ns->∀ k∈ak ns,k=1000) (ha:args.map (ren λk=>if k=1000 then nk else k)=args) :
  FunS prog G0 fn args (hpL G0 [(100,b)]) [100] (RR (λk=>if k=1000 then nk else k) R):=by
 have h0:=h.rn (λk=>if k=1000 then nk else k) G0F (aT hb).low (eG:=hpL G0 [(100,b)]) (JX (aT hb) _ (λk hk=>ae zO) (aT hb).low (by
  simp only [br,bN];refine ⟨zS,?_⟩;rw [Blk.fx_rn hb];simp) ai) (λv ns hr k hk=>by
  rw [hR v ns hr k hk,ag rfl];refine ⟨zO,λhd=>hd ?_⟩;simp [rst,ak,(zO:¬nk=100),(zO:¬nk<100)]) (λv ns hr k hk l hl _=>by rw [hR v ns hr k hk,hR v ns hr l hl])
 rw [ha] at h0;simpa [ak] using h0
theorem ahh (nk:Nat) (st:Int) (n:Nat) (f:aJ):RR (λk=>if k=1000 then nk else k) (HJ 1000 st n f)=HJ nk st n f:=by
 funext v ns;apply propext;constructor
 ·rintro ⟨v0,JF,⟨c,M,g,h1,h2,h3,rfl,rfl⟩,rfl,rfl⟩;exact ⟨c,M,g,h1,h2,h3,aN,by simp [rnL,jH]⟩
 ·rintro ⟨c,M,g,h1,h2,h3,rfl,rfl⟩;exact ⟨_,_,⟨c,M,g,h1,h2,h3,rfl,rfl⟩,aN,by simp [rnL,jH]⟩
theorem px {p:Prop} (h:p:=by simp;rfl):p:=h
theorem Lx (b:Blk) (off n cap:Nat) (f:aJ) (h:SB b off n f) (eK:n<=cap) (st:Int) :
  FunS prog G0 92 #[.agg #[.int .i64 st,.slice (some ⟨100,off,none⟩) n cap]] (hpL G0 [(100,b)]) (ak [(100,b)]) (HJ 1000 st n f):=by
 refine eW (B:=200) G0F func92 rfl call92 (aT h.fx) ?_ Pv (by simp [ntmps92]) zO ?_
 ·exact RU
 intro C hC bA hY;have Lk:=h.nn;have Xs:=Blk.fx_rd h.fx;refine iI ?_;refine uv ?_;simp only [Array.toList];refine Sy rfl zS rfl underlying25 (aG sizeOf72) ?_;refine By trivial ?_;by_cases R4:n=0
 ·subst R4;refine UX (p:=some (216,0)) (q:=some (100,off)) rfl zS rfl underlying25 (aG sizeOf72) px px (aA _) ?_;refine By trivial ?_;refine cu ?_;refine iI ?_;refine ⟨.inr trivial,zR G0F,_,_,λk=>if k=1000 then 216 else k,⟨0,0,f,aA _,zO,λ_ _=>rfl,rfl,rfl⟩,λk hk=>ae zO,zS,zS,by simp [results92,ren,aW,aw,aF],?_⟩;simp [fa,Blk.rn]
 ·refine L8 (p:=some ⟨216,0,none⟩) (j:=100) (b2:=b) (au:=off) (m:=n) (m':=cap) (nw:=(fa (6*n) .i64 f).toList) (sz:=6) (o9:=48) (z:=.agg #[.int .i64 0,.int .i64 0,.int .i64 0,.int .i64 0,.int .i64 0,.int .i64 0]) rfl zS rfl underlying25 (aG sizeOf72) ?_ ?_ ?_ ?_ ?_ (amZ h.rd) nX (λq x hx=>?_) zO aB sd zO (λcM qX=>?_)
  ·kernel_rfl
  ·kernel_rfl
  ·simp
  ·simp
  ·simp
  ·have:=yW hx;simp [Value.cells] at this;subst this
   rfl
  ·rw [Bx (k:=.i64) zS,Mn];refine By trivial ?_;refine cu ?_;refine iI ?_;refine ⟨.inr trivial,zR G0F,_,_,λk=>if k=1000 then 216+24 else k,⟨cM,6*n+(cM - n)*6,HL f (6*n) 0 f,qX,?_,?_,rfl,rfl⟩,λk hk=>ae zO,zS,zS,by simp [results92,ren,aW,aw,aF],?_⟩
   ·omega
   ·intro j hj;unfold HL;rw [ag zO]
   ·simp only [br,bN];rw [jH];simp
theorem wO (nk:Nat) (rY:200<=nk) (b:Blk) (off n cap:Nat) (f:aJ) (h:SB b off n f) (eK:n<=cap) (st:Int) :
  FunS prog G0 92 #[.agg #[.int .i64 st,.slice (some ⟨100,off,none⟩) n cap]] (hpL G0 [(100,b)]) [100] (HJ nk st n f):=by
 have:=(Lx b off n cap f h eK st).own1 h.fx nk rY (λv ns hR k hk=>by
  obtain ⟨c,M,g,h1,h2,h3,rfl,rfl⟩:=hR;simpa [ak] using hk) aN
 rwa [ahh] at this
theorem n7:LOk [] 200:=⟨zS,ai,zS⟩
end Go.Gy
namespace Go.Gy
open Go Go.RowKit Go.Proofs
def dwE (f:aJ) (p q:Int) (i:Nat):Int:=wyE (f (6*i+3)) (f (6*i+4)) (f (6*i+5)) p q
def dwV (f:aJ) (p q:Int) (i j:Nat):Int:=eaV (dwE f p q i) (d1V (f (6*i+3+j)) p q)
def cE (st:Int) (k off n cap:Nat):Blk:=⟨#[.int .i64 st,.slice (some ⟨k,off,none⟩) n cap],.ty 27⟩
end Go.Gy
namespace Go.Gy
open Go Go.RowKit Go.Proofs
theorem tj {p:Prop} (h:p:=by
 simp [aL,cQ,aI,aP,eo,ak]):p:=h
def okB (f:aJ) (p q:Int) (i:Nat):Bool:=inV 1048576 (f (6*i)+dwV f p q i 0) (f (6*i+1)+dwV f p q i 1) (f (6*i+2)+dwV f p q i 2)
def aan (f:aJ) (p q:Int) (n:Nat):Bool:=(List.range n).all (okB f p q)
def drE (st:Int) (f:aJ) (n:Nat) (p q:Int):Int:=if (aY st f n&&iC p q)=true then (if aan f p q n=true then 0 else 20) else 2
def mvF (f:aJ) (p q:Int) (j:Nat):Int:=if j%6<3 then f j+dwV f p q (j / 6) (j%6) else f j
def drF (st:Int) (f:aJ) (n:Nat) (p q:Int):Nat->Int:=if drE st f n p q=0 then mvF f p q else f
theorem IV {f:aJ} {p q:Int} {n:Nat}:aan f p q n=true↔∀ i,i<n->okB f p q i=true:=by simp [aan]
theorem aks {f:aJ} {p q:Int} {n i:Nat} (hi:i<n) (h:okB f p q i=false):aan f p q n=false:=by
 cases hb:aan f p q n with
 | false=>rfl
 | true=>rw [IV.1 hb i hi] at h;cases h
theorem AX {m x y z:Int}:inV m x y z=true↔inW m x/\inW m y/\inW m z:=by unfold inV;exact decide_eq_true_iff
theorem ji {st:Int} {f:aJ} {n:Nat} (h:aY st f n=true):(-1073741824<=st/\st<=1073741824)/\(1<=n/\n<=4)/\∀ i,i<n->inB 1048576 65536 f i=true:=by
 unfold aY stB at h;simp only [bn,db] at h;exact ⟨h.1.1,h.1.2,IB.1 h.2⟩
theorem jy {st:Int} {f:aJ} {n:Nat} (h:aY st f n=true) {i:Nat} (hi:i<n):(inW 1048576 (f (6*i))/\inW 1048576 (f (6*i+1))/\inW 1048576 (f (6*i+2)))/\(inW 65536 (f (6*i+3))/\inW 65536 (f (6*i+4))/\inW 65536 (f (6*i+5))):=by
 have:=(ji h).2.2 i hi;unfold inB at this;rw [bn,AX,AX] at this;exact this
theorem S3 {v p q:Int} (hp:iC p q=true) (hv:inW 65536 v):d1E v p q=0:=by
 unfold inW at hv;unfold d1E;rw [ag ⟨hp,zO,zO⟩]
theorem akj {v p q:Int} (hp:iC p q=true) (hv:inW 65536 v):d1V v p q=fC (v*p) q:=by
 unfold inW at hv;unfold d1V;rw [ag ⟨hp,zO,zO⟩]
theorem Yq {st:Int} {f:aJ} {n:Nat} {p q:Int} (h:aY st f n=true) (hp:iC p q=true) {i:Nat} (hi:i<n):dwE f p q i=0:=by
 obtain ⟨_,h3,h4,h5⟩:=jy h hi;unfold dwE;rw [ad8 (S3 hp h3) (S3 hp h4),S3 hp h5]
theorem LH {st:Int} {f:aJ} {n:Nat} {p q:Int} (h:aY st f n=true) (hp:iC p q=true) {i:Nat} (hi:i<n) {u:Nat} (hu:u<3):dwV f p q i u=fC (f (6*i+3+u)*p) q:=by
 obtain ⟨_,h3,h4,h5⟩:=jy h hi
 have hv:inW 65536 (f (6*i+3+u)):=by
  obtain rfl|rfl|rfl:u=0\/u=1\/u=2:=zO
  ·exact h3
  ·exact h4
  ·exact h5
 unfold dwV;rw [Yq h hp hi,eaV,ag rfl,akj hp hv]
def mvG (g f:aJ) (p q:Int) (i j:Nat):Int:=if j<6*i/\j%6<3 then f j+dwV f p q (j / 6) (j%6) else g j
theorem asl (g f:aJ) (p q:Int):mvG g f p q 0=g:=by
 funext j;unfold mvG;rw [ae zO]
theorem TX {g f:aJ} {p q:Int} {i j:Nat} (h:6*i<=j):mvG g f p q i j=g j:=by
 unfold mvG;rw [ae zO]
theorem agU {g f:aJ} {p q:Int} {n j:Nat} (h:j<6*n) (hg:∀ j,j<6*n->g j=f j):mvG g f p q n j=mvF f p q j:=by
 unfold mvG mvF;by_cases c:j%6<3
 ·rw [ag ⟨h,c⟩,ag c]
 ·rw [ae zO,ae c];exact hg j h
theorem agV {g f:aJ} {p q:Int} {i:Nat} {a b c:Int} (ha:a=f (6*i)+dwV f p q i 0) (hb:b=f (6*i+1)+dwV f p q i 1) (hc:c=f (6*i+2)+dwV f p q i 2):JQ (mvG g f p q i) (6*i) a b c=mvG g f p q (i+1):=by
 funext j;unfold JQ;by_cases c0:j=6*i
 ·rw [ag c0,ha];unfold mvG;rw [ag zO,c0,(zO:6*i / 6=i),(zO:6*i%6=0)]
 ·rw [ae c0];by_cases c1:j=6*i+1
  ·rw [ag c1,hb];unfold mvG;rw [ag zO,c1,(zO:(6*i+1) / 6=i),(zO:(6*i+1)%6=1)]
  ·rw [ae c1];by_cases c2:j=6*i+2
   ·rw [ag c2,hc];unfold mvG;rw [ag zO,c2,(zO:(6*i+2) / 6=i),(zO:(6*i+2)%6=2)]
   ·rw [ae c2];unfold mvG;by_cases c3:j<6*i/\j%6<3
    ·rw [ag c3,ag zO]
    ·rw [ae c3,ae zO]
def Zo (nk:Nat) (st:Int) (n:Nat) (F:aJ) (E:Int) (v:Value) (ns:cf):Prop:=∃ v0,HJ nk st n F v0 ns/\v=.tuple #[v0,.int .i64 E]
theorem S7 {b:Blk} {st:Int} {n:Nat} {F:aJ} {E:Int} (v:Value) (ns:cf) (h:Zo 1000 st n F E v ns):aL (eo (λk=>k∈ak [(100,b)]) ns) v/\(∀ p∈ns,200<=p.1/\p.2.ids (eo (λk=>k∈ak [(100,b)]) ns))/\(∀ k b c,(k,b)∈ns->(k,c)∈ns->b=c):=by
 obtain ⟨v0,hV,rfl⟩:=h;obtain ⟨f1,f2,f3⟩:=Pv (b:=b) v0 ns hV;refine ⟨?_,f2,f3⟩;obtain ⟨c,M,g,h1,h2,h3,rfl,rfl⟩:=hV;exact tj
end Go.Gy
namespace Go.Gy
open Go Go.RowKit Go.Proofs
def plo (N s:Int):Int:=isq (N / s)
def phi (N s:Int):Int:=if plo N s*plo N s*s=N then plo N s else plo N s+1
theorem uh {a b:Int} (h0:0<=a) (h:a<=b):a*a<=b*b:=cU h h h0 zO
theorem wQ {N s:Int} (hN:0<=N) (hs:0<s):0<=plo N s/\plo N s*plo N s*s<=N/\N<(plo N s+1)*(plo N s+1)*s:=by
 have hq:0<=N / s:=gN hN zO;obtain ⟨r0,r1,r2⟩:=tW (N / s) hq;have h1:=eY N s;have h2:=bM N (b:=s) zO;have h3:=bQ N hs;unfold plo;generalize isq (N / s)=r at *
 generalize N / s=q at *
 refine ⟨r0,?_,?_⟩
 ·have:r*r*s<=q*s:=fE r1 zO;rw [bX q s] at this;omega
 ·have h4:(q+1)*s<=(r+1)*(r+1)*s:=fE zO zO;rw [eF,bX q s] at h4;omega
theorem amn {N s l:Int} (hN:0<=N) (hs:0<s) (hl:0<=l):l*l*s<=N↔l<=plo N s:=by
 obtain ⟨r0,r1,r2⟩:=wQ hN hs;constructor
 ·intro h;refine bu λc=>?_;have h1:=uh (a:=plo N s+1) (b:=l) zO zO;have h2:=fE h1 (zO:0<=s);omega
 ·intro h;have h1:=uh hl h;have h2:=fE h1 (zO:0<=s);omega
theorem ac6 {N s h:Int} (hN:0<=N) (hs:0<s) (hh:0<=h):N<=h*h*s↔phi N s<=h:=by
 obtain ⟨r0,r1,r2⟩:=wQ hN hs;unfold phi;constructor
 ·intro h1;split
  ·rename_i e;refine bu λc=>?_;have h2:=uh (a:=h+1) (b:=plo N s) zO zO
   have h3:h*h<plo N s*plo N s:=by
    have:(h+1)*(h+1)=h*h+2*h+1:=by rw [eF,dH];omega
    omega
   have h4:=vD h3 hs;omega
  ·rename_i e;refine bu λc=>?_;have h2:=uh (a:=h) (b:=plo N s) hh zO;have h3:=fE h2 (zO:0<=s);omega
 ·intro h1;split at h1
  ·rename_i e;have h2:=uh r0 h1;have h3:=fE h2 (zO:0<=s);omega
  ·have h2:=uh (a:=plo N s+1) (b:=h) zO h1;have h3:=fE h2 (zO:0<=s);omega
theorem amP {N s:Int} (hN:0<=N) (hs:0<s):0<=phi N s:=by
 obtain ⟨r0,_,_⟩:=wQ hN hs;unfold phi;split<;>omega
theorem PA {N s:Int}:plo N s<=phi N s/\phi N s<=plo N s+1:=by
 unfold phi;split<;>omega
structure EIn (g m w q:Int):Prop where
 g0:1<=g
 g1:g<=1048576
 m0:1<=m
 m1:m<=1024
 w0:1<=w
 w1:w<=1024
 q0:0<=q
 q1:q<=13194139533312
def enA (g m w:Int):Int:=g*m*w*1048576
def lu (g m w q:Int):Int:=plo (enA g m w*enA g m w) q
def uE (g m w q:Int):Int:=phi (enA g m w*enA g m w) q
theorem asj {a b p q:Int} (h1:1<=a) (h2:a<=p) (h3:1<=b) (h4:b<=q):1<=a*b/\a*b<=p*q:=by
 constructor
 ·have:=cU (a:=1) (b:=1) (c:=a) (d:=b) h1 h3 zO zO;omega
 ·exact cU h2 h4 zO zO
theorem EIn.gm {g m w q:Int} (h:EIn g m w q):1<=g*m/\g*m<=1073741824:=asj h.g0 h.g1 h.m0 h.m1
theorem EIn.gmw {g m w q:Int} (h:EIn g m w q):1<=g*m*w/\g*m*w<=1099511627776:=asj h.gm.1 h.gm.2 h.w0 h.w1
theorem EIn.a {g m w q:Int} (h:EIn g m w q):1048576<=enA g m w/\enA g m w<=1152921504606846976:=by
 have:=h.gmw;unfold enA;omega
theorem EIn.aa {g m w q:Int} (h:EIn g m w q):0<=enA g m w*enA g m w/\enA g m w*enA g m w<=1329227995784915872903807060280344576:=by
 have h1:=h.a;exact ⟨bK zO zO,cU h1.2 h1.2 zO zO⟩
theorem EIn.lo {g m w q:Int} (h:EIn g m w q) (hq:0<q):0<=lu g m w q/\lu g m w q<=1152921504606846976:=by
 have h1:=h.a;obtain ⟨h2,h3,h4⟩:=wQ h.aa.1 hq;refine ⟨h2,?_⟩
 have h5:lu g m w q<=enA g m w:=by
  refine bu λc=>?_;have h6:=(amn h.aa.1 hq (l:=enA g m w+1) zO).2 (by unfold lu at c;omega);have h7:(enA g m w+1)*(enA g m w+1)*1<=(enA g m w+1)*(enA g m w+1)*q:=fg hq (bK zO zO);have h8:(enA g m w+1)*(enA g m w+1)=enA g m w*enA g m w+2*enA g m w+1:=by rw [eF,dH];omega
  omega
 omega
theorem EIn.hi {g m w q:Int} (h:EIn g m w q) (hq:0<q):lu g m w q<=uE g m w q/\uE g m w q<=lu g m w q+1/\uE g m w q<=1152921504606846976:=by
 refine ⟨PA.1,PA.2,?_⟩;have h1:=h.a
 have h2:uE g m w q<=enA g m w:=(ac6 h.aa.1 hq zO).1 (by
  have h7:enA g m w*enA g m w*1<=enA g m w*enA g m w*q:=fg hq h.aa.1;omega)
 omega
theorem Oa (g m w q:Int):uE g m w q=if lu g m w q*lu g m w q*q=enA g m w*enA g m w then lu g m w q else lu g m w q+1:=rfl
theorem EIn.holds {g m w q:Int} (h:EIn g m w q) (hq:0<q):lu g m w q*lu g m w q*q<=enA g m w*enA g m w/\enA g m w*enA g m w<=uE g m w q*uE g m w q*q/\(lu g m w q=uE g m w q↔lu g m w q*lu g m w q*q=enA g m w*enA g m w):=by
 refine ⟨(wQ h.aa.1 hq).2.1,(ac6 h.aa.1 hq (amP h.aa.1 hq)).2 (rN _),?_⟩;rw [Oa];split
 ·rename_i e;exact ⟨λ_=>e,λ_=>rfl⟩
 ·rename_i e;exact ⟨λh=>absurd h zO,λh=>absurd h e⟩
theorem agJ {a q:Int} (h0:0<=a) (h1:a<=1152921504606846976) (q0:0<=q) (q1:q<=13194139533312):0<=a*a/\a*a<=1329227995784915872903807060280344576/\0<=a*a*q/\a*a*q<=17538019647970835018444217992595396235871190515712:=by
 have h2:a*a<=1152921504606846976*1152921504606846976:=cU h1 h1 h0 zO;have h3:0<=a*a:=bK h0 h0;have h4:a*a*q<=1329227995784915872903807060280344576*13194139533312:=cU h2 q1 q0 zO;exact ⟨h3,h2,bK h3 q0,h4⟩
abbrev vW := @Int.natCast_succ
abbrev lX := Nat -> Nat -> Int
def dh (f:aJ):Nat->Int
 | 0=>0
 | n+1=>dh f n+f n
def Kc (F:lX):Nat->Int
 | 0=>0
 | n+1=>Kc F n+dh (F n) n
theorem uU {f g:aJ}:∀ {n:Nat},(∀ i,i<n->f i=g i)->dh f n=dh g n
 | 0,_=>rfl
 | n+1,h=>by
  unfold dh;rw [uU (λi hi=>h i zO),h n zO]
theorem P3 (f g:aJ):∀ n:Nat,dh (λi=>f i+g i) n=dh f n+dh g n
 | 0=>rfl
 | n+1=>by
  unfold dh;rw [P3 f g n];omega
theorem Br {f:aJ} {lo hi:Int}:∀ {n:Nat},(∀ i,i<n->lo<=f i/\f i<=hi)->n*lo<=dh f n/\dh f n<=n*hi
 | 0,_=>by simp [dh]
 | n+1,h=>by
  have h1:=Br (n:=n) λi hi=>h i zO;have h2:=h n zO;unfold dh;rw [vW,eF,eF];omega
theorem YJ {Z:lX} (h0:∀ i k,Z i k=0\/Z i k=1) (n:Nat):Kc Z n=0↔∀ i k,k<i->i<n->Z i k=0:=by
 have hN:∀ (f:aJ) (m:Nat),(∀ k,f k=0\/f k=1)->0<=dh f m/\(dh f m=0↔∀ k,k<m->f k=0):=by
  intro f m hf
  induction m with
  | zero=>simp [dh]
  | succ m ih =>
   unfold dh;obtain ⟨i1,i2⟩:=ih;have hm:=hf m;refine ⟨zO,?_,?_⟩
   ·intro h k hk;by_cases hkm:k=m
    ·subst hkm;omega
    ·exact i2.1 zO k zO
   ·intro h;have:=i2.2 λk hk=>h k zO;have:=h m zO;omega
 have h2:0<=Kc Z n/\(Kc Z n=0↔∀ i k,k<i->i<n->Z i k=0):=by
  induction n with
  | zero=>simp [Kc]
  | succ n ih =>
   unfold Kc;obtain ⟨i1,i2⟩:=ih;obtain ⟨j1,j2⟩:=hN (Z n) n (h0 n);refine ⟨zO,?_,?_⟩
   ·intro h i k hk hi;by_cases ew:i=n
    ·subst ew;exact j2.1 zO k hk
    ·exact i2.1 zO i k hk zO
   ·intro h;have:=i2.2 λi k hk hi=>h i k hk zO;have:=j2.2 λk hk=>h n k hk zO;omega
 exact h2.2
end Go.Gy
namespace Go.Gy
open Go Go.RowKit Go.Proofs Go.Proofs.Tryz
def wF (x:aJ) (j:Nat):Int:=wi (x (j / 4)) (j%4)
def qZ (c:Nat) (g:aJ):Blk:=⟨fa (4*c) .u64 g,.ty 30⟩
theorem uX (c:Nat) (g:aJ):(qZ c g).fx:=λx hx=>by
 obtain ⟨m,rfl⟩:=uF hx
 rfl
theorem Wx (c:Nat) (g:aJ):LOk [(100,qZ c g)] 200:=aT (uX c g)
theorem ah2 {c n:Nat} {g:aJ} {x:aJ} (hg:∀ j,j<4*n->g j=wF x j) {i:Nat} (hi:i<n) (hc:n<=c):(fa (4*c) .u64 g).extract (i*4) (i*4+4)=#[.int .u64 (wi (x i) 0),.int .u64 (wi (x i) 1),.int .u64 (wi (x i) 2),.int .u64 (wi (x i) 3)]:=by
 have h:∀ k,k<4->g (i*4+k)=wi (x i) k:=λk hk=>by
  rw [hg _ zO];unfold wF;rw [(zO:(i*4+k) / 4=i),(zO:(i*4+k)%4=k)]
 rw [<-h 0 zO,<-h 1 zO,<-h 2 zO,<-h 3 zO];apply Array.ext
 ·exact aB
 ·intro k h1 h2;simp at h2;rw [Array.getElem_extract,afD];have:k=0\/k=1\/k=2\/k=3:=zO;rcases this with rfl|rfl|rfl|rfl<;>rfl
theorem Im {a:Int} (h0:0<=a) (h1:a<=9223372036854775807):wr a:=jl ⟨zO,zO⟩
def Y2 (c n cap:Nat) (g x:aJ) (i:Nat):GS :=
 ⟨tsL [(2,.pointer (some ⟨200,0,none⟩)),(3,.bool false),(8,.slice (some ⟨100,0,none⟩) n cap),(9,.int .i64 n),(10,.int .i64 i)],
 hpL G0 [(100,qZ c g),(200,⟨#[.int .u64 (wi (dh x i) 0),.int .u64 (wi (dh x i) 1),.int .u64 (wi (dh x i) 2),.int .u64 (wi (dh x i) 3)],.ty 30⟩)],400,0⟩
theorem adU (c n:Nat) (g x:aJ) (hnc:n<=c) (hn:n<=1000) (hg:∀ j,j<4*n->g j=wF x j) (hx:∀ j,j<n->0<=x j/\x j<=1152921504606846) :
  Fun prog G0 100 #[.slice (some ⟨100,0,none⟩) n c] (hpL G0 [(100,qZ c g)]) (ak [(100,qZ c g)]) (.ret (.tuple #[wd (dh x n),.bool false]) []):=by
 refine cg (B:=200) G0F func100 rfl call100 (Wx c g) ?_ ?_ zS zS (by simp [ntmps100]) zO ?_
 ·exact RU
 ·exact bw zS
 intro C hC bA hY;have kL:∀ D,Blk.ids D ⟨fa (4*c) .u64 g,.ty 30⟩:=λD=>Blk.fx_ids (uX c g) D;have e0:dh x 0=0:=rfl;unfold qZ at bA |-;refine cA @ct ?_;refine fD n (Y2 c n c g x) ?_ ?_ ?_
 ·refine cB _ 400 hC G0F (m0:=[(100,⟨fa (4*c) .u64 g,.ty 30⟩)]) bA zO ?_ ?_ ?_
  ·simp [Y2,qZ,aL,cQ,aI,aP,dom]
  ·simp [Y2,qZ,aM,aI,aP,kL,e0,ct]
  ·simp [Y2,qZ,e0,ct]
 ·intro i hi;have cS:(i:Int)<n:=zO;have hz:(0:Int)<=i:=zO;have hs:Int.bmod ((i:Int)+1) 18446744073709551616=((i+1:Nat):Int):=ee;have H8:=ah2 hg hi hnc;have hle:i*4+4<=4*c:=zO;have hxi:=hx i hi;have hb:=Br (f:=x) (n:=i) (lo:=0) (hi:=1152921504606846) λj hj=>hx j zO;have lY:dh x i<=1000*1152921504606846:=cC hb.2 (fE zO zO);have kF:0<=dh x i:=zO;have w1:=Im kF zO;have w2:=Im hxi.1 zO;have w3:wr (dh x i+x i):=Im zO zO;have g1:=Cb w1 kF;have g2:=Cb w2 hxi.1;have g3:=Cb w3 zO;have es:dh x (i+1)=dh x i+x i:=rfl;unfold Y2 qZ;refine cA (k4 cS hz H8 hle) ?_;refine cB _ 400 hC G0F (m0:=[(100,⟨fa (4*c) .u64 g,.ty 30⟩)]) bA zO ?_ ?_ ?_
  ·simp [aL,cQ,aI,aP,dom,hs,g1,g2,g3]
  ·simp [aM,aI,aP,kL,es]
  ·simp [es]
 ·unfold Y2 qZ;refine iI ?_;exact eS results100
end Go.Gy
namespace Go.Gy
open Go Go.RowKit Go.Proofs
def qd (f:aJ) (p q:Int) (j:Nat):Int:=dwV f p q (j / 3) (j%3)
def aeY (nk n:Nat) (G:aJ) (v:Value) (ns:cf):Prop:=(n=0/\v=.slice none 0 0/\ns=[])\/∃ (c:Nat) (g:aJ),0<n/\n<=c/\(∀ j,j<3*n->g j=G j)/\v=.slice (some ⟨nk,0,none⟩) n c/\ns=[(nk,⟨fa (3*c) .i64 g,.ty 70⟩)]
theorem ahZ {D:iH} {nk n B:Nat} {G:aJ} (hB:B<=nk) (v:Value) (ns:cf) (h:aeY nk n G v ns):aL (eo D ns) v/\(∀ p∈ns,B<=p.1/\p.2.ids (eo D ns))/\(∀ k b c,(k,b)∈ns->(k,c)∈ns->b=c):=by
 rcases h with ⟨_,rfl,rfl⟩|⟨c,g,h1,h2,h3,rfl,rfl⟩
 ·exact ga
 ·exact te
theorem qU {nk n:Nat} {G:aJ} {v:Value} {ns:cf} (h:aeY nk n G v ns):∀ k∈ak ns,k=nk:=by
 rcases h with ⟨h1,rfl,rfl⟩|⟨c,g,h1,h2,h3,rfl,rfl⟩<;>simp [ak]
theorem Wn {st:Int} {k off n cap:Nat} {ρ:dR}:(cE st k off n cap).rn ρ=cE st (ρ k) off n cap:=by simp [cE,Blk.rn,aw,aF]
def Iz (nk n:Nat) (G:aJ) (ok:Bool) (v:Value) (ns:cf):Prop:=∃ v0,aeY nk (if ok=true then n else 0) G v0 ns/\v=.tuple #[v0,.int .i64 (if ok=true then 0 else 2)]
theorem L4 {D:iH} {nk n B:Nat} {G:aJ} {ok:Bool} (hB:B<=nk) (v:Value) (ns:cf) (h:Iz nk n G ok v ns):aL (eo D ns) v/\(∀ p∈ns,B<=p.1/\p.2.ids (eo D ns))/\(∀ k b c,(k,b)∈ns->(k,c)∈ns->b=c):=by
 obtain ⟨v0,hV,rfl⟩:=h;obtain ⟨f1,f2,f3⟩:=ahZ (D:=D) hB v0 ns hV;refine ⟨?_,f2,f3⟩;rcases hV with ⟨h1,rfl,rfl⟩|⟨c,g,h1,h2,h3,rfl,rfl⟩
 ·exact ga
 ·exact tj
end Go.Gy
namespace Go.Gy
open Go Go.RowKit
theorem Fb {p:Prop} (h:p:=by
 refine At hG Sm hd ho hc hf Kr Zc ha xp (λv ns KG q hq=>CP.at' i hi q (tS v ns KG q hq).1 (tS v ns KG q hq).2) (λv ns KG r' a' W' cS=>h v ns KG r' a' W' cS (CP.after (aO.1 RE).1 λx hx kp=>?_) hb hG hR);rw [da (λhm=>kp (tS v ns KG x hm))];exact hx):p:=h
section
variable {P:Program} {C:Ctx} {n:Nat} {d:List Deferred} {ro:Option Nat} {s:GS} {K:l6}
structure AFree (ops:Array Oper) (base:Nat) (listed:Array Bool) (hp:Hp):Prop where
 at':∀ i,listed[i]? = some false->∀ x,base+8*i<=x->x<base+8*i+8->hp x=none
 up:∀ x,base+8*ops.size<=x->hp x=none
def GA (P:Program) (C:Ctx) (n:Nat) (d:List Deferred) (ro:Option Nat) (ops:Array Oper) (base:Nat) (fuel:Nat) (listed:Array Bool) (ts:fp) (hp:Hp) (yc:Nat) (K:l6):Prop :=
 ∀ r a W,RI C n d r ts hp yc a W->AFree ops base listed hp->100<=base->c7 C.G->(∀ y,C.Y=some y->ux P C y)->wpAnyIn (Fw P ro) 0 P .any ops (λe a' W'=>∃ s' r',K e s'/\GI P C n d r' s' a' W') fuel listed a W
def GO (P:Program) (C:Ctx) (n:Nat) (d:List Deferred) (ro:Option Nat) (ops:Array Oper) (base:Nat) (fuel:Nat) (listed:Array Bool) (i:Nat) (ts:fp) (hp:Hp) (yc:Nat) (K:l6):Prop :=
 ∀ r a W,RI C n d r ts hp yc a W->AFree ops base listed hp->100<=base->c7 C.G->(∀ y,C.Y=some y->ux P C y)->wpOpIn (Fw P ro) 0 P ops (λe a' W'=>∃ s' r',K e s'/\GI P C n d r' s' a' W') i (wpAnyIn (Fw P ro) 0 P .any ops (λe a' W'=>∃ s' r',K e s'/\GI P C n d r' s' a' W') fuel (listed.setIfInBounds i true)) a W
theorem Ir {id:Nat} {l:og} (hm:P.follows .mixedOrders=true) (h:GA P C n d ro l.toArray s.B l.length (Array.replicate l.length false) s.ts s.hp s.yc K):GW P C n d ro (.region id l.toArray true) s K:=λr a W hi =>
 wpIn_region_any hm (by
  have:=h r a _ hi.ri.drew ⟨λi _ x hx _=>hi.free x zO,λx hx=>hi.free x zO⟩ hi.low hi.flat hi.rounds;simpa using this)
theorem Zr {ops:Array Oper} {base fuel:Nat} {listed:Array Bool} {ts:fp} {hp:Hp} {yc:Nat} (hr:Region.ready .any ops listed=[]) (h:K .normal ⟨ts,hp,base+8*ops.size,yc⟩):GA P C n d ro ops base fuel listed ts hp yc K:=λr a W hi hf hb hG hR=>by
 have hq:∃ s' r',K .normal s'/\GI P C n d r' s' a W:=⟨⟨ts,hp,_,yc⟩,r,h,hi,hf.up,by show 100<=base+8*ops.size;omega,hG,hR⟩
 cases fuel with
 | zero=>exact ⟨hr,hq⟩
 | succ k=>exact ⟨λ_=>hq,λi hi=>by rw [hr] at hi;cases hi⟩
theorem aeJ {ops:Array Oper} {base fuel:Nat} {listed:Array Bool} {ts:fp} {hp:Hp} {yc:Nat} (l:List Nat) (hr:Region.ready .any ops listed=l) (hl:l.isEmpty=false) (h:∀ i∈l,GO P C n d ro ops base fuel listed i ts hp yc K):GA P C n d ro ops base (fuel+1) listed ts hp yc K:=λr a W hi hf hb hG hR=>by
 refine ⟨λh0=>?_,λi hm=>h i (by rw [<-hr];exact hm) r a W hi hf hb hG hR⟩;rw [hr] at h0;rw [h0] at hl;cases hl
theorem AFree.after {ops:Array Oper} {base:Nat} {listed:Array Bool} {hp eG:Hp} (h:AFree ops base listed hp) {i:Nat} (hi:i<ops.size) (e:∀ x,hp x=none->¬(base+8*i<=x/\x<base+8*i+8)->eG x=none):AFree ops base (listed.setIfInBounds i true) eG:=by
 refine ⟨λj hj x h1 h2=>?_,λx hx=>e x (h.up x hx) zO⟩;rw [gJ] at hj;split at hj
 ·split at hj<;>cases hj
 ·exact e x (h.at' j hj x h1 h2) zO
theorem aeM {l0:og} {o:Oper} {post:og} {base i fuel:Nat} {listed:Array Bool} {ts:fp} {hp:Hp} {yc:Nat} (pn:List FuncId) (hl:l0.drop i=o::post) (jJ:(pW n [o]&&Av P [o])=true) (hi:listed[i]? = some false)
  (h:∀ q:(Nat->Value)->Hp->Tr->Nat->Prop,(∀ ts hp tr yc,GA P C n d ro l0.toArray base fuel (listed.setIfInBounds i true) ts hp yc K->q ts hp tr yc) ->
   mz P C.G ⟨C.Y,pn,false⟩ base ⟨q,λ_ _=>False⟩ ((l0.take i).map (·.dst)).reverse i [o] ts hp [] yc true false):GO P C n d ro l0.toArray base fuel listed i ts hp yc K:=by
 intro r a W Sm hf hb hG hR;simp only [bn] at jJ;have eM:=And.intro (qI jJ.1 (br.2 rfl)) (uj jJ.2 o (br.2 rfl))
 have ma:l0[i]? = some o:=by
  have:=congrArg (λl=>l[0]?) hl;simpa [j5] using this
 have dp:i<l0.length:=(mK.1 ma).1;have hh:=h (λts hp _ yc=>GA P C n d ro l0.toArray base fuel (listed.setIfInBounds i true) ts hp yc K) (λ_ _ _ _ a=>a);have ek:(l0.take i).length=i:=aB
 have hx:ph P C.G ⟨C.Y,pn,false⟩ l0.toArray base (λts hp _ yc=>GA P C n d ro l0.toArray base fuel (listed.setIfInBounds i true) ts hp yc K) (λ_ _=>False) i [o] ts hp [] yc true false:=by
  refine kH (Q:=⟨_,λ_ _=>False⟩) [o] _ i _ _ _ _ _ _ (λj hj=>?_) (λj hj=>?_) hh
  ·rw [v8 aB];simp only [mW,ek,gG,js];rw [(zO:i - 1 - (i - 1 - j)=j),fI,ag hj];cases l0[j]?<;>rfl
  ·obtain rfl:j=0:=by simpa using hj
   simp [ma]
 have eU:∀ x,base+8*i<=x->x<base+8*i+8->hp x=none:=hf.at' i hi;unfold wpOpIn;rw [js,ma];simp only;simp only [ph] at hx
 cases hw:gp l0.toArray o ts with
 | none=>rw [hw] at hx;exact hx.elim
 | some b =>
  rw [hw] at hx;rw [mB Sm.rel hw]
  cases b with
  | true =>
   simp only at hx;simp only [aV];obtain ⟨e,h1,hs,hyd,h3⟩:=ub hG Sm.glob hx;refine VQ hG hR o e ts hp yc r a W 0 _ _ Sm eM.1 h1 (λx hx=>(hs.ws x hx).2) (λx hx=>?_) (λr' a' W' oz cS=>?_) (λpv W' Bw oz cS=>?_)
   ·have:=hs.ns x hx;exact ⟨eU x zO zO,zO⟩
   ·rw [oz] at h3;refine h3 r' a' W' cS (hf.after (by simpa using dp) λx VB kp=>?_) hb hG hR;rw [da (λhm=>?_)]
    ·exact VB
    ·have:x∈ak e.ws\/x∈ak e.ns:=by simpa [ak] using hm
     rcases this with h|h
     ·exact (hs.ws x h).2.1 VB
     ·have:=hs.ns x h;omega
   ·rw [oz] at h3;exact h3.2.2.elim
  | false =>
   simp only at hx;simp only [kP,cw];exact ⟨M8 (Y:=none) o ts r _ a W Sm.rel ⟨hx.1,eM.2⟩,hx.2 r _ W (Sm.put_undef eM.1.1) (hf.after (by simpa using dp) λx VB _=>VB) hb hG hR⟩
theorem vB {G:Hp} {ops:Array Oper} {o:Oper} {base i fuel:Nat} {listed:Array Bool} {ts:fp} {hp eG:Hp} {yc:Nat} {c:Call} {f:Operand} {g:FuncId} {cap:ca} {rs:List Nat} {args:ca} {R:Ij} (Ro:C.G=G) (hr:FunS P G g args eG rs R) (RE:ops[i]? = some o) (hi:listed[i]? = some false) (hg:o.guard=none) (hd:∀ dd,o.dst=some dd->dd<n)
  (ho:o.op=.call c) (hc:c.callee=.value f) (hf:okT ts f) (Kr:gev ts f=.func (.func g) #[] cap) (Zc:cap.all eh=true) (ha:∀ x∈c.args.toList,okX ts hp x) (n5:c.args.map (gev ts)++cap=args)
  (h1:∀ q∈rs,eG q=hp q) (h2:∀ q,q<100->eG q=hp q) (tS:∀ v ns,R v ns->∀ q∈ak ns,base+8*i<=q/\q<base+8*i+8)
  (h:∀ v ns,R v ns->GA P C n d ro ops base fuel (listed.setIfInBounds i true) (cJ ts o.dst v) (bH hp ns) yc K):GO P C n d ro ops base fuel listed i ts hp yc K:=by
 subst Ro;intro r a W Sm CP hb hG hR;unfold wpOpIn;rw [RE];simp only [Region.wanted,hg,aV];exact Fb
end
section
variable {P:Program} {C:Ctx} {n:Nat} {d:List Deferred} {ro:Option Nat} {s:GS} {K:l6}
theorem gwo {l0:og} {o:Oper} {post:og} {base i fuel:Nat} {listed:Array Bool} {ts:fp} {hp:Hp} {yc:Nat}
  (h:∀ q:(Nat->Value)->Hp->Tr->Nat->Prop,(∀ ts hp tr yc,GA P C n d ro l0.toArray base fuel (listed.setIfInBounds i true) ts hp yc K->q ts hp tr yc) ->
   mz P C.G ⟨C.Y,[],false⟩ base ⟨q,λ_ _=>False⟩ ((l0.take i).map (·.dst)).reverse i [o] ts hp [] yc true false) (hl:l0.drop i=o::post:=by rfl) (jJ:(pW n [o]&&Av P [o])=true:=by kernel_rfl) (hi:listed[i]? = some false:=by first|assumption|simp):GO P C n d ro l0.toArray base fuel listed i ts hp yc K:=aeM [] hl jJ hi h
end
theorem NC {P Q F:Prop} (f:F) (q:Q) (h:F->Q->P:=by intro f q;refine gwo (hi:=by first|exact hi|simp) ?_;intro Q hQ;simp [hC,hY,f];apply hQ;exact q):P:=h f q
end Go.Gy
namespace Go.Gy
open Go Go.RowKit Go.Proofs Go.Proofs.Tryz
theorem ahq {M n:Nat} {g f:aJ} {p q:Int} (hM:6*n<=M) {i:Nat} (hi:i<n) :
  (((fa M IntKind.i64 (mvG g f p q i)).setIfInBounds (i*6) (Value.int IntKind.i64 (Mi (f (6*i)) (dwV f p q i 0)))).setIfInBounds (i*6+1) (Value.int IntKind.i64 (Mi (f (6*i+1)) (dwV f p q i 1)))).setIfInBounds (i*6+1+1) (Value.int IntKind.i64 (Mi (f (6*i+2)) (dwV f p q i 2)))=fa M IntKind.i64 (mvG g f p q (i+1)):=by
 have:=PW M .i64 (mvG g f p q i) (6*i) (Mi (f (6*i)) (dwV f p q i 0)) (Mi (f (6*i+1)) (dwV f p q i 1)) (Mi (f (6*i+2)) (dwV f p q i 2)) zO;rw [agV (a:=Mi (f (6*i)) (dwV f p q i 0)) (b:=Mi (f (6*i+1)) (dwV f p q i 1)) (c:=Mi (f (6*i+2)) (dwV f p q i 2)) rfl rfl rfl] at this;rw [(zO:i*6=6*i)];simpa [gv] using this
theorem Wi {M n:Nat} {g f:aJ} {p q:Int} (hM:6*n<=M) (hg:∀ j,j<6*n->g j=f j) {i:Nat} (hi:i<n):fB prog 70 ⟨fa M .i64 (mvG g f p q i),.ty 72⟩ (i*6)=some (.agg #[.int .i64 (f (6*i)),.int .i64 (f (6*i+1)),.int .i64 (f (6*i+2))]):=by
 have:=tZ (P:=prog) (T:=70) (m:=3) (j:=6*i) (cr isAgg70) (aG sizeOf70) zO (uO M (mvG g f p q i) (.ty 72)) zO;rw [(zO:i*6=0+6*i),this,HO,TX zO,TX zO,TX zO,hg _ zO,hg _ zO,hg _ zO]
 rfl
end Go.Gy
namespace Go.Gy
open Go Go.RowKit Go.Proofs
def nn2 (nb nk k:Nat):Nat:=if k=100 then nb else if k=1000 then nk else k
theorem VY {nb nk:Nat} (k:Nat) (hk:k<100):nn2 nb nk k=k:=by
 unfold nn2;exact QR
theorem Lu {nb nk:Nat}:nn2 nb nk 100=nb:=by simp [nn2]
theorem VX {nb nk:Nat}:nn2 nb nk 1000=nk:=by simp [nn2]
theorem ZQ {nb:Nat} {b:Blk} (h:100<=nb) (k:Nat) (hk:k<100):hpL G0 [(nb,b)] k=G0 k:=by
 simp only [bV,eH];rw [ae zO]
theorem Qf {nk Cc n:Nat} {G:aJ} {ok:Bool} {ρ:dR} (h:ρ nk=Cc):RR ρ (Iz nk n G ok)=Iz Cc n G ok:=by
 funext v ns;apply propext;constructor
 ·rintro ⟨v0,JF,⟨w,hV,rfl⟩,rfl,rfl⟩;rcases hV with ⟨h1,rfl,rfl⟩|⟨c,g,h1,h2,h3,rfl,rfl⟩
  ·exact ⟨_,.inl ⟨h1,rfl,by simp [rnL]⟩,by simp [ren,aW,aw,aF]⟩
  ·exact ⟨_,.inr ⟨c,g,h1,h2,h3,rfl,by simp [rnL,jH,h]⟩,by simp [ren,aW,aw,aF,h]⟩
 ·rintro ⟨w,hV,rfl⟩;rcases hV with ⟨h1,rfl,rfl⟩|⟨c,g,h1,h2,h3,rfl,rfl⟩
  ·exact ⟨_,_,⟨_,.inl ⟨h1,rfl,rfl⟩,rfl⟩,by simp [ren,aW,aw,aF],by simp [rnL]⟩
  ·exact ⟨_,_,⟨_,.inr ⟨c,g,h1,h2,h3,rfl,rfl⟩,rfl⟩,by simp [ren,aW,aw,aF,h],by simp [rnL,jH,h]⟩
end Go.Gy
namespace Go.Gy
open Go Go.RowKit Go.Proofs Go.Proofs.Tryz
theorem nh {p:Prop} (h:p:=by simp [ren,aW,aw,aF,h0,h1]):p:=h
theorem xB {p:Prop} (h:p:=by unfold up2;rw [ag zO,ag zO];omega):p:=h
theorem xC {p:Prop} (h:p:=by unfold up2;rw [ae zO]):p:=h
theorem Hz {p:Prop} (h:p:=by
 intro k b c h1 h2;simp at h1 h2;rcases h1 with ⟨e1,rfl⟩|⟨e1,rfl⟩<;>rcases h2 with ⟨e2,rfl⟩|⟨e2,rfl⟩<;>first|rfl|omega):p:=h
theorem tf {p:Prop} (h:p:=by
 obtain ⟨rfl,rfl⟩:=h;intro k hk;simp [ak] at hk;omega):p:=h
@[simp] theorem aER:qT prog 169=true:=ah
def wiB (n lo hi:Int):Bool:=decide (lo<=n/\n<=hi)
theorem afp (n lo hi:Int):Ret prog G0 149 #[.int .i64 n,.int .i64 lo,.int .i64 hi] (.bool (wiB n lo hi)):=by
 refine aU G0F func149 rfl call149 rfl zS (by simp [ntmps149]) ?_;intro C hC bA hY;unfold wiB;by_cases c0:lo<=n
 ·by_cases c1:n<=hi
  ·rw [bg ⟨c0,c1⟩]
   (repeat' (first|refine cT ?_|(refine iy ?_;intro Q hQ _;simp [hC,hY,c0,c1];refine dq hQ ?_)|refine gwC ?_ ?_<;>intro hb))
   exact eR results149
  ·rw [aR zO]
   (repeat' (first|refine cT ?_|(refine iy ?_;intro Q hQ _;simp [hC,hY,c0,c1];refine dq hQ ?_)|refine gwC ?_ ?_<;>intro hb))
   exact eR results149
 ·rw [aR zO]
  (repeat' (first|refine cT ?_|(refine iy ?_;intro Q hQ _;simp [hC,hY,c0];refine dq hQ ?_)|refine gwC ?_ ?_<;>intro hb))
  exact eR results149
@[simp] theorem cwi (n lo hi:Int) (K:fQ):bl prog G0 149 #[.int .i64 n,.int .i64 lo,.int .i64 hi] K↔K (.bool (wiB n lo hi)):=ar G0W ah (afp n lo hi)
def WH (nk:Nat) (a m:Int) (v:Value) (ns:cf):Prop:=v=.func (.func 148) #[] #[.pointer (some ⟨nk,0,none⟩),.pointer (some ⟨nk+1,0,none⟩)]/\ns=[(nk,jb a),(nk+1,jb m)]
theorem ag3 (a m:Int):FunS prog G0 147 #[.int .i64 a,.int .i64 m] (hpL G0 []) (ak []) (WH 1000 a m):=by
 refine eW (B:=200) G0F func147 rfl call147 ⟨zS,ai,zS⟩ ?_ ?_ (by simp [ntmps147]) zO ?_
 ·exact RU
 ·rintro v ns ⟨rfl,rfl⟩;refine ⟨gb,bZ,?_⟩;exact Hz
 intro C hC bA hY;refine iI ?_;refine ⟨.inr trivial,zR G0F,_,_,λk=>if k=1000 then 200 else if k=1001 then 208 else k,⟨rfl,rfl⟩,λk hk=>?_,zS,zS,by simp [results147,ren,aW,aw,aF],?_⟩
 ·dsimp only;exact QR
 ·simp [Jp];simp [jb]
theorem ag2 {nk Cc:Nat} {a m:Int} {ρ:dR} (h0:ρ nk=Cc) (h1:ρ (nk+1)=Cc+1):RR ρ (WH nk a m)=WH Cc a m:=by
 funext v ns;apply propext;constructor
 ·rintro ⟨v0,JF,⟨rfl,rfl⟩,rfl,rfl⟩;exact ⟨nh,by simp [rnL,Jp,h0,h1]⟩
 ·rintro ⟨rfl,rfl⟩;exact ⟨_,_,⟨rfl,rfl⟩,nh,by simp [rnL,Jp,h0,h1]⟩
def up2 (nk k:Nat):Nat:=if 1000<=k then (if k<1002 then k - 1000+nk else k) else k
theorem JG (nk:Nat) (rY:200<=nk) (a m:Int):FunS prog G0 147 #[.int .i64 a,.int .i64 m] (hpL G0 []) [] (WH nk a m):=by
 have e2:∀ j,j<2->up2 nk (1000+j)=nk+j:=λj hj=>xB
 have qx:∀ v ns,WH 1000 a m v ns->∀ k∈ak ns,∃ j,j<2/\k=1000+j:=by
  rintro v ns ⟨rfl,rfl⟩ k hk;simp [ak] at hk;rcases hk with rfl|rfl
  ·exact ⟨0,zO,rfl⟩
  ·exact ⟨1,zO,rfl⟩
 have h0:=(ag3 a m).rn (up2 nk) G0F n7.low (eG:=hpL G0 []) (JX n7 _ (λk hk=>xC) n7.low zS ai) (λv ns hR k hk=>by
  obtain ⟨j,hj,rfl⟩:=qx v ns hR k hk;rw [e2 j hj];refine ⟨zO,λhd=>hd ?_⟩;simp [rst,ak];intro h4;omega) (λv ns hR k hk l hl e=>by
  obtain ⟨j,hj,rfl⟩:=qx v ns hR k hk;obtain ⟨i,hi,rfl⟩:=qx v ns hR l hl;rw [e2 j hj,e2 i hi] at e;omega)
 rw [ag2 (e2 0 zO) (e2 1 zO)] at h0;simpa [ak,ren,aW,aw,aF] using h0
theorem acK {nk:Nat} {a m:Int} {v:Value} {ns:cf} (h:WH nk a m v ns):∀ k∈ak ns,nk<=k/\k<nk+2:=by
 exact tf
theorem gX (a m:Int):Fun prog G0 148 #[.pointer (some ⟨100,0,none⟩),.pointer (some ⟨108,0,none⟩)] (hpL G0 [(100,jb a),(108,jb m)]) (ak [(100,jb a),(108,jb m)]) (.ret (.bool (wiB a 1 m)) []):=by
 refine cg (B:=200) G0F func148 rfl call148 ⟨zS,ai,bZ⟩ ?_ zS zS zS (by simp [ntmps148]) zO ?_
 ·exact RU
 intro C hC bA hY;refine cA @jb.eq_1 ?_;refine ⟨.inr rfl,by simp [results148],fU G0F kq bO⟩
def cfB (sl:Value) (g bx tp nr md:Int):Blk:=⟨#[sl,.int .i64 g,.int .i64 bx,.int .i64 tp,.int .i64 nr,.int .i64 md],.ty 24⟩
def cfV (sl:Value) (g bx tp nr md:Int):Value:=.agg #[sl,.int .i64 g,.int .i64 bx,.int .i64 tp,.int .i64 nr,.int .i64 md]
theorem aki (m:Int):Ret prog G0 152 #[.int .i64 m] (.bool !(wiB m 1 1024)):=by
 refine aU G0F func152 rfl call152 rfl zS (by simp [ntmps152]) ?_;intro C hC bA hY;refine iI ?_;exact eR results152
@[simp] theorem cm1 (m:Int) (K:fQ):bl prog G0 152 #[.int .i64 m] K↔K (.bool !(wiB m 1 1024)):=ar G0W ah (aki m)
structure MB (b:Blk) (off n:Nat) (f:aJ):Prop where
 rd:rdI b off n f
 fx:b.fx
 i6:∀ j,j<n->i64 (f j)
 nn:n<=17592186044416
theorem MB.at {b:Blk} {off n:Nat} {f:aJ} (h:MB b off n f) {i:Nat} (hi:i<n):fB prog 3 b (off+i)=some (.int .i64 (f i)):=by
 have Xs:=Blk.fx_rd h.fx;exact ze (P:=prog) (T:=3) (j:=i) (cr isAgg3) h.rd hi
def Vb (b:Blk) (off n cap:Nat) (i:Nat):GS :=
 ⟨tsL [(0,.slice (some ⟨100,off,none⟩) n cap),(1,.func (.func 152) #[] #[]),(7,.int .i64 n),(8,.int .i64 i)],hpL G0 [(100,b)],300,0⟩
def zp (f:aJ) (n:Nat):Bool:=(List.range n).all λi=>wiB (f i) 1 1024
theorem Vc (b:Blk) (off n cap:Nat) (f:aJ) (h:MB b off n f) (N:Nat) (hN:N<=n) (dp:∀ i,i<N->wiB (f i) 1 1024=true) (dk:N=n\/wiB (f N) 1 1024=false) :
  Fun prog G0 170 #[.slice (some ⟨100,off,none⟩) n cap,.func (.func 152) #[] #[]] (hpL G0 [(100,b)]) (ak [(100,b)]) (.ret (.int .i64 (if N=n then -1 else N)) []):=by
 refine cg (B:=200) G0F func170 rfl call170 (aT h.fx) ?_ zS zS zS (by simp [ntmps170]) zO ?_
 ·exact RU
 intro C hC bA hY;have Lk:=h.nn;have kL:=λD=>Blk.fx_ids h.fx D;refine iI ?_;refine fD N (Vb b off n cap) ?_ ?_ ?_
 ·refine cB _ 300 hC G0F (m0:=[(100,b)]) bA zO ?_ ?_ ?_
  ·exact lO
  ·simp [kL]
  ·simp
 ·intro i hi;have ew:i<n:=zO;have cS:(i:Int)<n:=zO;have hz:(0:Int)<=i:=zO;have hs:Int.bmod ((i:Int)+1) 18446744073709551616=((i+1:Nat):Int):=ee;have hld:=h.at ew;have hq:=dp i hi;unfold Vb;refine cA (k7 hi ew cS hz hs hld hq) ?_;refine cB _ 300 hC G0F (m0:=[(100,b)]) bA zO ?_ ?_ ?_
  ·exact QW
  ·simp [kL]
  ·simp
 ·by_cases tF:N=n
  ·subst tF;simp only [aV];unfold Vb;refine iI ?_;exact eS results170
  ·have ew:N<n:=zO;have cS:(N:Int)<n:=zO;have hz:(0:Int)<=N:=zO;have hld:=h.at ew;have hq:=dk.resolve_left tF;rw [ae tF];unfold Vb;refine cA (k5 ew cS hz hld hq) ?_;exact eS results170
theorem afj (b:Blk) (off n cap:Nat) (f:aJ) (h:MB b off n f) :
  Fun prog G0 151 #[.slice (some ⟨100,off,none⟩) n cap,.func (.func 152) #[] #[]] (hpL G0 [(100,b)]) (ak [(100,b)]) (.ret (.bool !(zp f n)) []):=by
 refine cg (B:=200) G0F func151 rfl call151 (aT h.fx) ?_ zS zS zS (by simp [ntmps151]) zO ?_
 ·exact RU
 intro C hC bA hY;have hr:=λρ=>Blk.fx_rn h.fx ρ;obtain ⟨N,hN,dp,dk⟩:=Js (λi=>wiB (f i) 1 1024) n;by_cases tF:N=n
 ·have e:zp f n=true:=by unfold zp;rw [<-tF];simpa using dp
  rw [e]
  repeat' first|refine cT ?_|((first|refine gwR [170] ?_|refine gwD [170] ?_);intro Q hQ _;(repeat first|simp [hC,hY,tF]|refine aE (Vc b off n cap f h N hN dp dk) G0F (B:=200) (aT h.fx) (λk=>k) (λk hk=>rfl) aN zS dx ai ax ?_);refine dq hQ ?_)|fail
  exact eS results151
 ·have e:zp f n=false:=by
   unfold zp;rw [List.all_eq_false];exact ⟨N,aB,by simpa using dk.resolve_left tF⟩
  have hz:(0:Int)<=N:=zO;rw [e]
  repeat' first|refine cT ?_|((first|refine gwR [170] ?_|refine gwD [170] ?_);intro Q hQ _;(repeat first|simp [hC,hY,tF,hz]|refine aE (Vc b off n cap f h N hN dp dk) G0F (B:=200) (aT h.fx) (λk=>k) (λk hk=>rfl) aN zS dx ai ax ?_);refine dq hQ ?_)|fail
  exact eS results151
def cmL (b:Blk) (off n cap:Nat) (g bx tp nr md:Int):List (Nat×Blk):=[(100,b),(108,cfB (.slice (some ⟨100,off,none⟩) n cap) g bx tp nr md)]
theorem uB {b:Blk} (hb:b.fx) (off n cap:Nat) (g bx tp nr md:Int):LOk (cmL b off n cap g bx tp nr md) 200:=⟨by simp [cmL],by simp [cmL,ak],by
 simp only [cmL,aj,az,ay,dc,bN];exact ⟨Blk.fx_ids hb _,by simp [cfB,aM,aI,aP,ak]⟩⟩
theorem y6 (b:Blk) (off n cap:Nat) (f:aJ) (h:MB b off n f) (g bx tp nr md:Int) :
  Fun prog G0 150 #[.pointer (some ⟨108,0,none⟩)] (hpL G0 (cmL b off n cap g bx tp nr md)) (ak (cmL b off n cap g bx tp nr md)) (.ret (.bool (zp f n)) []):=by
 refine cg (B:=200) G0F func150 rfl call150 (uB h.fx off n cap g bx tp nr md) ?_ zS zS zS (by simp [ntmps150]) zO ?_
 ·simp [aL,cQ,aI,aP,ak,cmL]
 intro C hC bA hY;have hr:=λρ=>Blk.fx_rn h.fx ρ;unfold cmL cfB
 repeat' first|refine cT ?_|((first|refine gwR [151] ?_|refine gwD [151] ?_);intro Q hQ _;(repeat first|simp [hC,hY]|refine aE (afj b off n cap f h) G0F (B:=200) (aT h.fx) (λk=>k) (λk hk=>rfl) aN zS dx ai ax ?_);refine dq hQ ?_)|fail
 exact eS results150
theorem afk (b:Blk) (off n cap:Nat) (hb:b.fx) (g bx tp nr md:Int) :
  Fun prog G0 153 #[.pointer (some ⟨108,0,none⟩)] (hpL G0 (cmL b off n cap g bx tp nr md)) (ak (cmL b off n cap g bx tp nr md)) (.ret (.bool (wiB md 0 4)) []):=by
 refine cg (B:=200) G0F func153 rfl call153 (uB hb off n cap g bx tp nr md) ?_ zS zS zS (by simp [ntmps153]) zO ?_
 ·simp [aL,cQ,aI,aP,ak,cmL]
 intro C hC bA hY;unfold cmL cfB;refine iI ?_;exact eS results153
end Go.Gy
namespace Go.Gy
open Go Go.RowKit
theorem sk {p:Prop} (h:p:=by simpa using h1):p:=h
abbrev vS := @List.mem_filter
abbrev mM := @List.mem_range
abbrev vL := @Option.getD_some
abbrev CC := @List.mem_zipIdx_iff_getElem?
@[simp] theorem akH:bp (.map none)=true:=by simp [bp,pX,bU,qK]
theorem Mt:∀ (l:List Bool) (i:Nat),l[i]? = some false->(l.set i true).count false+1=l.count false
 | [],i,h=>by simp at h
 | a::l,0,h=>by simp at h;subst h;simp
 | a::l,i+1,h=>by
  have:=Mt l i jz;simp only [List.set_cons_succ,List.count_cons];omega
theorem mem_ready {md:Region.Mode} {ops:Array Oper} {listed:Array Bool} (hs:listed.size=ops.size) {i:Nat}:i∈Region.ready md ops listed↔listed[i]? = some false/\∀ o,ops[i]? = some o->∀ e∈o.after,Region.binds md e=true->listed[e.on]? = some true:=by
 unfold Region.ready;simp only [vS,mM,bn,oY];constructor
 ·rintro ⟨h1,h2,h3⟩;have e1:listed[i]? = some listed[i]:=jw zO;refine ⟨?_,λo ho e he hb=>?_⟩
  ·simp only [jY,e1,vL] at h2;rw [e1,h2]
  ·rw [ho] at h3;simp only [g5,vL,dt] at h3;have:=h3 e he;rw [hb] at this;simp only [Bool.not_true,Bool.false_or,jY] at this
   cases hl:listed[e.on]? with
   | none=>rw [hl] at this;simp at this
   | some b=>rw [hl] at this;simp at this;rw [this]
 ·rintro ⟨h1,h2⟩;have dp:i<ops.size:=by have:=(aO.1 h1).1;omega
  refine ⟨dp,by simp [jY,h1],?_⟩;rw [jw dp];simp only [g5,vL,dt,rF,oY];intro e he
  cases hb:Region.binds md e with
  | false=>exact .inl rfl
  | true=>right;simp [jY,h2 _ (jw dp) e he hb]
theorem Yl {md:Region.Mode} {ops:Array Oper} {listed:Array Bool} (hs:listed.size=ops.size) (dp:(ops.toList.zipIdx.all λp=>p.1.after.all λe=>decide (e.on<p.2))=true) (h:Region.ready md ops listed=[]):∀ i,i<ops.size->listed[i]? = some true:=by
 intro i
 induction i using Nat.strongRecOn with
 | _ i ih =>
  intro hi;have e1:listed[i]? = some listed[i]:=jw zO
  cases hb:listed[i] with
  | true=>rw [e1,hb]
  | false =>
   exfalso
   have:i∈Region.ready md ops listed:=(mem_ready hs).2 ⟨by rw [e1,hb],λo ho e he _=>by
    have hm:(o,i)∈ops.toList.zipIdx:=by
     rw [CC];simpa using ho
    have:=cX.1 dp _ hm;have:=dt.1 this e he;have h3:e.on<i:=by simpa using this
    exact ih _ h3 zO⟩
   rw [h] at this;cases this
section
variable {P:Program} {C:Ctx} {n:Nat} {d:List Deferred} {ro:Option Nat} {K:l6}
theorem NJ {G:Hp} {ops:Array Oper} {o:Oper} {post:og} {base k:Nat} (sh:Nat) {ts:fp} {hp eG:Hp} {yc:Nat} {c:Call} {f:Operand} {g:FuncId} {cap:ca} {rs:List Nat} {args:ca} {R:Ij} (Ro:C.G=G) (hr:FunS P G g args eG rs R) (hg:o.guard=none) (hd:∀ dd,o.dst=some dd->dd<n)
  (ho:o.op=.call c) (hc:c.callee=.value f) (hf:okT ts f) (Kr:gev ts f=.func (.func g) #[] cap) (Zc:cap.all eh=true) (ha:∀ x∈c.args.toList,okX ts hp x) (n5:c.args.map (gev ts)++cap=args)
  (h1:∀ q∈rs,eG q=hp q) (h2:∀ q,q<100->eG q=hp q) (tS:∀ v ns,R v ns->∀ q∈ak ns,base+8*k<=q/\q<base+sh+8*k+8)
  (h:∀ v ns,R v ns->GL P C n d ro ops (base+sh) (k+1) post (cJ ts o.dst v) (bH hp ns) yc K):GL P C n d ro ops base k (o::post) ts hp yc K:=by
 subst Ro;intro r a W hi CP hb hG hR;refine wpListIn_plain hg λK' MG=>?_;refine At hG hi hd ho hc hf Kr Zc ha xp (λv ns KG q hq=>CP q (tS v ns KG q hq).1) (λv ns KG r' a' W' cS=>MG _ _ (h v ns KG r' a' W' cS (λx hx=>?_) zO hG hR));exact Hb
theorem BH {ops:Array Oper} {base yc:Nat} (I:Array Bool->(Nat->Value)->Hp->Prop)
  (fin:∀ listed ts hp,listed.size=ops.size->Region.ready .any ops listed=[]->I listed ts hp->K .normal ⟨ts,hp,base+8*ops.size,yc⟩)
  (step:∀ fuel listed ts hp i,listed.size=ops.size->listed[i]? = some false->(∀ o,ops[i]? = some o->∀ e∈o.after,Region.binds .any e=true->listed[e.on]? = some true)->I listed ts hp ->
   (∀ ov eG,I (listed.setIfInBounds i true) ov eG->GA P C n d ro ops base fuel (listed.setIfInBounds i true) ov eG yc K)->GO P C n d ro ops base fuel listed i ts hp yc K) :
  ∀ (fuel:Nat) (listed:Array Bool) (ts:fp) (hp:Hp),listed.size=ops.size->listed.toList.count false<=fuel->I listed ts hp->GA P C n d ro ops base fuel listed ts hp yc K
 | 0,listed,ts,hp,hs,hc,hI=>by
  have hr:Region.ready .any ops listed=[]:=by
   cases h:Region.ready .any ops listed with
   | nil=>rfl
   | cons i l =>
    have hm:i∈Region.ready .any ops listed:=by rw [h];simp
    have h1:=((mem_ready hs).1 hm).1;have h2:=Mt listed.toList i sk;omega
  exact Zr hr (fin _ _ _ hs hr hI)
 | fuel+1,listed,ts,hp,hs,hc,hI=>by
  cases h:Region.ready .any ops listed with
  | nil=>exact Zr h (fin _ _ _ hs h hI)
  | cons i l =>
   refine aeJ _ rfl (by rw [h];rfl) λj hj=>?_;obtain ⟨h1,h2⟩:=(mem_ready hs).1 hj;refine step fuel listed ts hp j hs h1 h2 hI λov eG Xp=>?_;have h3:=Mt listed.toList j sk;exact BH I fin step fuel _ _ _ (by simpa using hs) (by simp only [Array.toList_setIfInBounds];omega) Xp
end
end Go.Gy
namespace Go.Gy
open Go Go.RowKit Go.Proofs Go.Proofs.Tryz
theorem jA {p:Prop} (h:p:=by simp [mT]):p:=h
theorem DJ {p:Prop} (h:p:=by rw [ao _ _ (λe=>zy.1 e.symm)];exact h.t1):p:=h
theorem Dp {p:Prop} (h:p:=by rw [ao _ _ (λe=>zy.2 e.symm)];exact h.t3):p:=h
theorem nE {p:Prop} (h:p:=by simp [ntmps132]):p:=h
theorem nN {p:Prop} (h:p:=by simpa using hi):p:=h
theorem pz {p:Prop} (h:p:=by simp [okT,f0,f1,jI,lT]):p:=h
theorem iU {p:Prop} (h:p:=by simp [gev,f0,f1,jI,lT]):p:=h
theorem pI {p:Prop} (h:p:=by simp [okX,fP,f0,f1,jI,lT]):p:=h
theorem nC {p:Prop} (h:p:=by simp [mX]):p:=h
theorem cy {p:Prop} (h:p:=by simp [lT]):p:=h
theorem GM {p:Prop} (h:p:=by
 have:=aci sl n g bx tp nr p hp _ hm (.inr e);subst this;exact cY _ _ _):p:=h
theorem DU {p:Prop} (h:p:=by
 exact absurd (congrArg (λx=>x.2.1) (aci sl n g bx tp nr p hp _ hm (.inl e1))) e):p:=h
theorem FZ {p:Prop} (h:p:=by
 by_cases e:p.2.1=t
 ·exact GM
 ·rw [ao _ _ e];rcases kM hl with e1|h1
  ·exact DU
  ·exact h.tm p hp h1):p:=h
theorem D8 {p:Prop} (h:p:=by
 obtain ⟨q,hq,e,h2⟩:=l2 p hp;refine ⟨q,hq,e,?_⟩;rw [gJ,ae (λe=>Pb sl n g bx tp nr _ hm q hq e)];exact h2):p:=h
theorem D9 {p:Prop} (h:p:=by
 rcases kM uH with e1|h2
 ·exact absurd e1.symm (Pb sl n g bx tp nr _ hm q hq)
 ·exact l3 q hq h2):p:=h
theorem Q3 {p:Prop} (h:p:=by
 simp [aL,cQ,aI,aP,ak,cfV]):p:=h
theorem pR {p:Prop} (h:p:=by
 intro v ns hV k hk;have:=acK hV k hk;omega):p:=h
def mT (sl:Value) (n:Nat) (g bx tp nr:Int):List (Nat×Nat×Value):=[(0,4,.map (some 224)),
  (1,5,.func (.func 147) #[] #[]),
  (2,6,.pointer (some ⟨200,0,none⟩)),
  (3,7,sl),
  (4,8,.int .i64 n),
  (5,9,.func (.func 148) #[] #[.pointer (some ⟨264,0,none⟩),.pointer (some ⟨265,0,none⟩)]),
  (7,10,.func (.func 150) #[] #[.pointer (some ⟨200,0,none⟩)]),
  (9,11,.func (.func 147) #[] #[]),
  (10,12,.pointer (some ⟨200,1,none⟩)),
  (11,13,.int .i64 g),
  (12,14,.func (.func 148) #[] #[.pointer (some ⟨320,0,none⟩),.pointer (some ⟨321,0,none⟩)]),
  (14,15,.func (.func 147) #[] #[]),
  (15,16,.pointer (some ⟨200,2,none⟩)),
  (16,17,.int .i64 bx),
  (17,18,.func (.func 148) #[] #[.pointer (some ⟨360,0,none⟩),.pointer (some ⟨361,0,none⟩)]),
  (19,19,.func (.func 147) #[] #[]),
  (20,20,.pointer (some ⟨200,3,none⟩)),
  (21,21,.int .i64 tp),
  (22,22,.func (.func 148) #[] #[.pointer (some ⟨400,0,none⟩),.pointer (some ⟨401,0,none⟩)]),
  (24,23,.func (.func 147) #[] #[]),
  (25,24,.pointer (some ⟨200,4,none⟩)),
  (26,25,.int .i64 nr),
  (27,26,.pointer (some ⟨200,2,none⟩)),
  (28,27,.int .i64 bx),
  (29,28,.int .i64 (Int.bmod (2*bx) 18446744073709551616)),
  (30,29,.func (.func 148) #[] #[.pointer (some ⟨464,0,none⟩),.pointer (some ⟨465,0,none⟩)]),
  (32,30,.func (.func 153) #[] #[.pointer (some ⟨200,0,none⟩)]),
  (34,31,.map (some 224)),
  (35,2,.map (some 224))]
def mI:List (Nat×ByteArray×Value):=[(6,⟨#[98,111,100,105,101,115]⟩,.func (.func 148) #[] #[.pointer (some ⟨264,0,none⟩),.pointer (some ⟨265,0,none⟩)]),
  (8,⟨#[109,97,115,115]⟩,.func (.func 150) #[] #[.pointer (some ⟨200,0,none⟩)]),
  (13,⟨#[99,111,110,115,116,97,110,116]⟩,.func (.func 148) #[] #[.pointer (some ⟨320,0,none⟩),.pointer (some ⟨321,0,none⟩)]),
  (18,⟨#[98,111,120]⟩,.func (.func 148) #[] #[.pointer (some ⟨360,0,none⟩),.pointer (some ⟨361,0,none⟩)]),
  (23,⟨#[116,111,112]⟩,.func (.func 148) #[] #[.pointer (some ⟨400,0,none⟩),.pointer (some ⟨401,0,none⟩)]),
  (31,⟨#[110,101,97,114]⟩,.func (.func 148) #[] #[.pointer (some ⟨464,0,none⟩),.pointer (some ⟨465,0,none⟩)]),
  (33,⟨#[109,101,116,104,111,100]⟩,.func (.func 153) #[] #[.pointer (some ⟨200,0,none⟩)])]
def mX (n:Nat) (g bx tp nr:Int):List (Nat×Nat×Blk):=[(5,264,jb (n:Int)),(5,265,jb 4),
  (12,320,jb g),(12,321,jb 1048576),
  (17,360,jb bx),(17,361,jb 1048576),
  (22,400,jb tp),(22,401,jb 65536),
  (30,464,jb nr),(30,465,jb (Int.bmod (2*bx) 18446744073709551616))]
structure MI (b:Blk) (sl:Value) (n:Nat) (g bx tp nr md:Int) (listed:Array Bool) (ts:fp) (hp:Hp):Prop where
 t1:ts 1=.pointer (some ⟨200,0,none⟩)
 t3:ts 3=.func (.func 147) #[] #[]
 tm:∀ p∈mT sl n g bx tp nr,listed[p.1]? = some true->ts p.2.1=p.2.2
 low:∀ k,k<100->hp k=G0 k
 b:hp 100=some b
 c:hp 200=some (cfB sl g bx tp nr md)
 bx:∀ q∈mX n g bx tp nr,listed[q.1]? = some true->hp q.2.1=some q.2.2
 mp:listed[0]? = some true->∃ l,hp 224=some (mpB l)/\(∀ p∈l,∃ q∈mI,p=q.2/\listed[q.1]? = some true)/\∀ q∈mI,listed[q.1]? = some true->ix q.2.1 l=some q.2.2
 i0:∀ q∈mI,listed[q.1]? = some true->listed[0]? = some true
theorem Bn {listed:Array Bool} {i j:Nat} (h:listed[j]? = some true):(listed.setIfInBounds i true)[j]? = some true:=by
 rw [gJ];split
 ·split
  ·rfl
  ·rename_i e dp;subst e;exact absurd (aO.1 h).1 dp
 ·exact h
theorem kM {listed:Array Bool} {i j:Nat} (h:(listed.setIfInBounds i true)[j]? = some true):j=i\/listed[j]? = some true:=by
 rw [gJ] at h;by_cases e:i=j
 ·exact .inl e.symm
 ·rw [ae e] at h;exact .inr h
theorem aci (sl:Value) (n:Nat) (g bx tp nr:Int):∀ p∈mT sl n g bx tp nr,∀ q∈mT sl n g bx tp nr,p.1=q.1\/p.2.1=q.2.1->p=q:=by
 intro p hp q hq;simp only [mT,aj,az,ay] at hp hq;rcases hp with rfl|rfl|rfl|rfl|rfl|rfl|rfl|rfl|rfl|rfl|rfl|rfl|rfl|rfl|rfl|rfl|rfl|rfl|rfl|rfl|rfl|rfl|rfl|rfl|rfl|rfl|rfl|rfl|rfl<;>rcases hq with rfl|rfl|rfl|rfl|rfl|rfl|rfl|rfl|rfl|rfl|rfl|rfl|rfl|rfl|rfl|rfl|rfl|rfl|rfl|rfl|rfl|rfl|rfl|rfl|rfl|rfl|rfl|rfl|rfl<;>simp
theorem ajm (sl:Value) (n:Nat) (g bx tp nr:Int):∀ p∈mT sl n g bx tp nr,p.2.1≠1/\p.2.1≠3:=jA
theorem Pb (sl:Value) (n:Nat) (g bx tp nr:Int):∀ p∈mT sl n g bx tp nr,∀ q∈mI,p.1≠q.1:=by simp [mT,mI]
theorem amw:∀ p∈mI,∀ q∈mI,p.1=q.1\/(p.2.1==q.2.1)=false:=by
 intro p hp q hq;simp only [mI,aj,az,ay] at hp hq;rcases hp with rfl|rfl|rfl|rfl|rfl|rfl|rfl<;>rcases hq with rfl|rfl|rfl|rfl|rfl|rfl|rfl<;>first|exact .inl rfl|(right;decide +kernel)
theorem amx:∀ p∈mI,∀ q∈mI,p.1=q.1->p=q:=by
 intro p hp q hq;simp only [mI,aj,az,ay] at hp hq;rcases hp with rfl|rfl|rfl|rfl|rfl|rfl|rfl<;>rcases hq with rfl|rfl|rfl|rfl|rfl|rfl|rfl<;>simp
theorem agM:∀ p∈mI,(p.2.1==p.2.1)=true:=by
 intro p hp;simp only [mI,aj,az,ay] at hp;rcases hp with rfl|rfl|rfl|rfl|rfl|rfl|rfl<;>decide +kernel
section
variable {b:Blk} {sl:Value} {n:Nat} {g bx tp nr md:Int} {listed:Array Bool} {ts:fp} {hp:Hp}
theorem MI.tmp (h:MI b sl n g bx tp nr md listed ts hp) {i t:Nat} {v:Value} (hm:(i,t,v)∈mT sl n g bx tp nr) (hx:∀ q∈mX n g bx tp nr,q.1≠i) (hi:i≠0):MI b sl n g bx tp nr md (listed.setIfInBounds i true) (upd ts t v) hp:=by
 have zy:=ajm sl n g bx tp nr _ hm;refine ⟨DJ,Dp,λp hp hl=>?_,h.low,h.b,h.c,λq hq hl=>?_,λhl=>?_,λq hq hl=>(kM hl).elim (λe1=>absurd e1.symm (Pb sl n g bx tp nr _ hm q hq)) λh1=>Bn (h.i0 q hq h1)⟩
 ·exact FZ
 ·rcases kM hl with e1|h1
  ·exact absurd e1 (hx q hq)
  ·exact h.bx q hq h1
 ·rcases kM hl with e1|h1
  ·exact absurd e1.symm hi
  ·obtain ⟨l,l1,l2,l3⟩:=h.mp h1;refine ⟨l,l1,λp hp=>?_,λq hq uH=>?_⟩
   ·exact D8
   ·exact D9
theorem MI.mkm (h:MI b sl n g bx tp nr md listed ts hp) (h0:listed[0]? = some false):MI b sl n g bx tp nr md (listed.setIfInBounds 0 true) (upd ts 4 (.map (some 224))) (upd hp 224 (some (mpB []))):=by
 have hm:(0,4,Value.map (some 224))∈mT sl n g bx tp nr:=jA;refine ⟨by rw [ao _ _ zO];exact h.t1,by rw [ao _ _ zO];exact h.t3,λp hp hl=>?_,λk hk=>by rw [ao _ _ zO];exact h.low k hk,by rw [ao _ _ zO];exact h.b,by rw [ao _ _ zO];exact h.c,λq hq hl=>?_,λ_=>⟨[],cY _ _ _,zS,λq hq hl=>?_⟩,λq hq hl=>by simp [gJ,(aO.1 h0).1]⟩
 ·by_cases e:p.2.1=4
  ·exact GM
  ·rw [ao _ _ e];rcases kM hl with e1|h1
   ·exact DU
   ·exact h.tm p hp h1
 ·have Ss:q.1≠0/\q.2.1≠224:=(show ∀ q∈mX n g bx tp nr,q.1≠0/\q.2.1≠224 by simp [mX]) q hq;rw [ao _ _ Ss.2];rcases kM hl with e1|h1
  ·exact absurd e1 Ss.1
  ·exact h.bx q hq h1
 ·have Ss:q.1≠0:=(show ∀ q∈mI,q.1≠0 by simp [mI]) q hq;rcases kM hl with e1|h1
  ·exact absurd e1 Ss
  ·rw [h.i0 q hq h1] at h0;cases h0
theorem MI.call (h:MI b sl n g bx tp nr md listed ts hp) {i t nk:Nat} {v:Value} {a m:Int} (hm:(i,t,v)∈mT sl n g bx tp nr) (rY:225<=nk) (hi:i≠0) (hx:∀ q∈mX n g bx tp nr,(q.1=i->(q.2.1=nk/\q.2.2=jb a)\/(q.2.1=nk+1/\q.2.2=jb m))/\(q.1≠i->q.2.1≠nk/\q.2.1≠nk+1)) :
  MI b sl n g bx tp nr md (listed.setIfInBounds i true) (upd ts t v) (upd (upd hp nk (some (jb a))) (nk+1) (some (jb m))):=by
 have zy:=ajm sl n g bx tp nr _ hm;refine ⟨DJ,Dp,λp hp hl=>?_,λk hk=>by rw [ao _ _ zO,ao _ _ zO];exact h.low k hk,by rw [ao _ _ zO,ao _ _ zO];exact h.b,by rw [ao _ _ zO,ao _ _ zO];exact h.c,λq hq hl=>?_,λhl=>?_,λq hq hl=>(kM hl).elim (λe1=>absurd e1.symm (Pb sl n g bx tp nr _ hm q hq)) λh1=>Bn (h.i0 q hq h1)⟩
 ·exact FZ
 ·by_cases e:q.1=i
  ·rcases (hx q hq).1 e with ⟨e1,e2⟩|⟨e1,e2⟩
   ·rw [e1,e2,ao _ _ zO,cY]
   ·rw [e1,e2,cY]
  ·obtain ⟨e1,e2⟩:=(hx q hq).2 e;rw [ao _ _ e2,ao _ _ e1];rcases kM hl with e3|h1
   ·exact absurd e3 e
   ·exact h.bx q hq h1
 ·rcases kM hl with e1|h1
  ·exact absurd e1.symm hi
  ·obtain ⟨l,l1,l2,l3⟩:=h.mp h1;refine ⟨l,by rw [ao _ _ zO,ao _ _ zO];exact l1,λp hp=>?_,λq hq uH=>?_⟩
   ·exact D8
   ·exact D9
theorem K6 {s:ByteArray} {v:Value} {k:ByteArray}:∀ (l:List (ByteArray×Value)),ix k (l++[(s,v)])=match ix k l with|some u=>some u|none=>if (k==s)=true then some v else none
 | []=>rfl
 | p::l=>by
  simp only [bj,ix];split
  ·rfl
  ·exact K6 l
theorem MI.fresh (h:MI b sl n g bx tp nr md listed ts hp) {i:Nat} (hi:listed[i]? = some false) {l:List (ByteArray×Value)} (hl:∀ p∈l,∃ q∈mI,p=q.2/\listed[q.1]? = some true):∀ q∈mI,q.1=i->ix q.2.1 l=none:=by
 rintro p hm rfl
 induction l with
 | nil=>rfl
 | cons c l ih =>
  simp only [ix];obtain ⟨q,hq,e,h2⟩:=hl c zS
  have:(p.2.1==c.1)=false:=by
   rw [e];refine (amw _ hm q hq).resolve_left λe1=>?_;rw [<-e1,hi] at h2;cases h2
  rw [this];exact ih λp hp=>hl p (aD _ hp)
theorem MI.ins (h:MI b sl n g bx tp nr md listed ts hp) {i:Nat} {s:ByteArray} {v:Value} (hm:(i,s,v)∈mI) (dp:i<listed.size) {l:List (ByteArray×Value)} (hl:∀ p∈l,∃ q∈mI,p=q.2/\listed[q.1]? = some true) (hf:∀ q∈mI,listed[q.1]? = some true->ix q.2.1 l=some q.2.2) (hn:ix s l=none) (h00:listed[0]? = some true) :
  MI b sl n g bx tp nr md (listed.setIfInBounds i true) ts (upd hp 224 (some (mpB (l++[(s,v)])))):=by
 refine ⟨h.t1,h.t3,λp hp hl=>?_,λk hk=>by rw [ao _ _ zO];exact h.low k hk,by rw [ao _ _ zO];exact h.b,by rw [ao _ _ zO];exact h.c,λq hq hl=>?_,λ_=>⟨_,cY _ _ _,λp hp=>?_,λq hq uH=>?_⟩,λq hq hl=>Bn h00⟩
 ·rcases kM hl with e1|h1
  ·exact absurd e1 (Pb sl n g bx tp nr p hp _ hm)
  ·exact h.tm p hp h1
 ·have Ss:q.2.1≠224:=(show ∀ q∈mX n g bx tp nr,q.2.1≠224 by simp [mX]) q hq;have hq3:∀ p∈mI,q.1≠p.1:=(show ∀ q∈mX n g bx tp nr,∀ p∈mI,q.1≠p.1 by simp [mX,mI]) q hq;rw [ao _ _ Ss];rcases kM hl with e1|h1
  ·exact absurd e1 (hq3 _ hm)
  ·exact h.bx q hq h1
 ·rcases bh.1 hp with hp|hp
  ·obtain ⟨q,hq,e,h2⟩:=hl p hp;refine ⟨q,hq,e,?_⟩;exact Bn h2
  ·simp only [br] at hp;subst hp;refine ⟨_,hm,rfl,?_⟩;simp [gJ,dp]
 ·rw [K6];rcases kM uH with e1|h2
  ·have:=amx q hq _ hm e1;subst this;simp only [hn];rw [agM _ hm]
   rfl
  ·rw [hf q hq h2]
end
def mV (nk:Nat):List (ByteArray×Value):=[(⟨#[98,111,100,105,101,115]⟩,.func (.func 148) #[] #[.pointer (some ⟨nk+2,0,none⟩),.pointer (some ⟨nk+3,0,none⟩)]),
  (⟨#[109,97,115,115]⟩,.func (.func 150) #[] #[.pointer (some ⟨nk+1,0,none⟩)]),
  (⟨#[99,111,110,115,116,97,110,116]⟩,.func (.func 148) #[] #[.pointer (some ⟨nk+4,0,none⟩),.pointer (some ⟨nk+5,0,none⟩)]),
  (⟨#[98,111,120]⟩,.func (.func 148) #[] #[.pointer (some ⟨nk+6,0,none⟩),.pointer (some ⟨nk+7,0,none⟩)]),
  (⟨#[116,111,112]⟩,.func (.func 148) #[] #[.pointer (some ⟨nk+8,0,none⟩),.pointer (some ⟨nk+9,0,none⟩)]),
  (⟨#[110,101,97,114]⟩,.func (.func 148) #[] #[.pointer (some ⟨nk+10,0,none⟩),.pointer (some ⟨nk+11,0,none⟩)]),
  (⟨#[109,101,116,104,111,100]⟩,.func (.func 153) #[] #[.pointer (some ⟨nk+1,0,none⟩)])]
def mNs (nk:Nat) (l:List (ByteArray×Value)) (sl:Value) (n:Nat) (g bx tp nr md:Int):List (Nat×Blk):=[(nk,mpB l),(nk+1,cfB sl g bx tp nr md),(nk+2,jb (n:Int)),(nk+3,jb 4),(nk+4,jb g),(nk+5,jb 1048576),(nk+6,jb bx),(nk+7,jb 1048576),(nk+8,jb tp),(nk+9,jb 65536),(nk+10,jb nr),(nk+11,jb (Int.bmod (2*bx) 18446744073709551616))]
def Iv (nk:Nat) (sl:Value) (n:Nat) (g bx tp nr md:Int) (v:Value) (ns:cf):Prop:=∃ l,v=.map (some nk)/\ns=mNs nk l sl n g bx tp nr md/\(∀ p∈l,p∈mV nk)/\∀ q∈mV nk,ix q.1 l=some q.2
theorem BU {s:ByteArray} {h:Value->Value}:∀ l:List (ByteArray×Value),ix s (l.map λp=>(p.1,h p.2))=(ix s l).map h
 | []=>rfl
 | p::l=>by
  simp only [bI,ix];split
  ·rfl
  ·exact BU l
theorem aco (ρ:dR) (l:List (ByteArray×Value)):(mpB l).rn ρ=mpB (l.map λp=>(p.1,aw ρ p.2)):=by
 unfold mpB Blk.rn mpC;simp only [gH,List.map_flatMap,List.flatMap_map,bI,ft]
 rfl
def mR (k:Nat):Nat:=if k=1000 then 224 else if k=1001 then 200 else if k=1002 then 264 else if k=1003 then 265 else if k=1004 then 320 else if k=1005 then 321 else if k=1006 then 360 else if k=1007 then 361 else if k=1008 then 400 else if k=1009 then 401 else if k=1010 then 464 else if k=1011 then 465 else k
def mS (k:Nat):Nat:=if k=224 then 1000 else if k=200 then 1001 else if k=264 then 1002 else if k=265 then 1003 else if k=320 then 1004 else if k=321 then 1005 else if k=360 then 1006 else if k=361 then 1007 else if k=400 then 1008 else if k=401 then 1009 else if k=464 then 1010 else if k=465 then 1011 else k
theorem XS (b:Blk) (hb:b.fx) (off n cap:Nat) (g bx tp nr md:Int) :
  FunS prog G0 132 #[cfV (.slice (some ⟨100,off,none⟩) n cap) g bx tp nr md] (hpL G0 [(100,b)]) (ak [(100,b)]) (Iv 1000 (.slice (some ⟨100,off,none⟩) n cap) n g bx tp nr md):=by
 refine eW (B:=200) G0F func132 rfl call132 (aT hb) ?_ ?_ nE zO ?_
 ·exact Q3
 ·rintro v ns ⟨l,rfl,rfl,hl,_⟩
  have uH:∀ D:Nat->Prop,(∀ k,1000<=k->k<1012->D k)->(mpB l).ids D:=λD hD=>Bc.2 λp hp=>by
   have:=hl p hp;simp only [mV,aj,az,ay] at this;rcases this with rfl|rfl|rfl|rfl|rfl|rfl|rfl<;>simp [aI,aP,hD]
  refine ⟨by simp [aL,cQ,aI,aP,eo,ak,mNs],?_,?_⟩
  ·intro p hp;simp only [mNs,aj,az,ay] at hp
   have hD:∀ k,1000<=k->k<1012->eo (λk=>k∈ak [(100,b)]) (mNs 1000 l (.slice (some ⟨100,off,none⟩) n cap) n g bx tp nr md) k:=λk pf qx=>.inr (by
    simp only [mNs,ak,bI,ft,aj,az,ay];omega)
   rcases hp with rfl|rfl|rfl|rfl|rfl|rfl|rfl|rfl|rfl|rfl|rfl|rfl
   ·exact ⟨zO,uH _ hD⟩
   ·exact ⟨zO,by simp [cfB,aM,aI,aP,eo,ak]⟩
   all_goals exact ⟨zO,bZ⟩
  ·intro k b c h1 h2;simp only [mNs,aj,az,ay,ij] at h1 h2;rcases h1 with ⟨e1,rfl⟩|⟨e1,rfl⟩|⟨e1,rfl⟩|⟨e1,rfl⟩|⟨e1,rfl⟩|⟨e1,rfl⟩|⟨e1,rfl⟩|⟨e1,rfl⟩|⟨e1,rfl⟩|⟨e1,rfl⟩|⟨e1,rfl⟩|⟨e1,rfl⟩<;>rcases h2 with ⟨e2,rfl⟩|⟨e2,rfl⟩|⟨e2,rfl⟩|⟨e2,rfl⟩|⟨e2,rfl⟩|⟨e2,rfl⟩|⟨e2,rfl⟩|⟨e2,rfl⟩|⟨e2,rfl⟩|⟨e2,rfl⟩|⟨e2,rfl⟩|⟨e2,rfl⟩<;>first|rfl|omega
 intro C hC bA hY;unfold cfV;refine iI ?_;refine Ir follows ?_;simp only [Array.toList,fH,j6,Nat.reduceAdd];obtain ⟨sl,MQ⟩:∃ sl,Value.slice (some ⟨100,off,none⟩) n cap=sl:=⟨_,rfl⟩
 refine BH (MI b sl n g bx tp nr md) (λlisted ts hp hs hr hI=>?_) (λfuel listed ts hp i hs hi nR h hk=>?_) _ _ _ _ zS dZ ?_
 ·have iJ:=Yl hs ah hr;have iJ:∀ i,i<36->listed[i]? = some true:=λi hi=>iJ i nN;obtain ⟨l,l1,l2,l3⟩:=hI.mp (iJ 0 zO);have h2:=hI.tm (35,2,.map (some 224)) jA (iJ 35 zO);have hinv:∀ q∈mI,aw mR (aw mS q.2.2)=q.2.2:=by simp [mI,aw,aF,mR,mS]
  have aw6:∀ q∈mI,(q.2.1,aw mS q.2.2)∈mV 1000:=by simp [mI,mV,aw,aF,mS]
  have aqK:∀ q∈mV 1000,∃ p∈mI,p.2.1=q.1/\aw mS p.2.2=q.2/\p.1<36:=by
   intro q hq;simp only [mV,aj,az,ay] at hq;rcases hq with rfl|rfl|rfl|rfl|rfl|rfl|rfl
   all_goals simp [mI,aw,aF,mS]
  simp only [kB];refine Zu ?_;refine ⟨.inr rfl,fU G0F (by simp [hI.b]) (λk hk=>(hI.low k hk).trans (dA zS hk).symm),_,_,mR,⟨l.map λp=>(p.1,aw mS p.2),rfl,rfl,λp hp=>?_,λq hq=>?_⟩,λk hk=>?_,?_,?_,?_,?_⟩
  ·obtain ⟨p0,hp0,rfl⟩:=aK.1 hp;obtain ⟨q,hq,rfl,_⟩:=l2 p0 hp0;exact aw6 q hq
  ·obtain ⟨p,hp,e1,e2,dp⟩:=aqK q hq;rw [BU,<-e1,l3 p hp (iJ _ dp),<-e2]
   rfl
  ·unfold mR
   iterate 12 rw [ae zO]
  ·simp [mNs,mR]
  ·simp [mNs,mR]
  ·simp [results132,h2,ren,aW,aw,aF,mR]
   rfl
  ·subst MQ;have Tq:=hI.bx;simp [mX,iJ] at Tq
   have hm:(mpB (l.map λp=>(p.1,aw mS p.2))).rn mR=mpB l:=by
    rw [aco,rk];congr 1
    conv=>rhs;rw [<-List.map_id l]
    refine gK λp hp=>?_;obtain ⟨q,hq,rfl,_⟩:=l2 p hp;simp only [Function.comp_def,id];rw [hinv q hq]
   intro p hp;simp only [mNs,aj,az,ay] at hp;rcases hp with rfl|rfl|rfl|rfl|rfl|rfl|rfl|rfl|rfl|rfl|rfl|rfl
   ·show hp (mR 1000)=some ((mpB _).rn mR);rw [hm];exact l1
   ·show hp 200=some ((cfB _ g bx tp nr md).rn mR);rw [hI.c];simp [cfB,Blk.rn,aw,aF,mR]
   all_goals simp [mR,Jp,Tq]
 ·have dp:i<36:=by
   have:=(aO.1 hi).1;rw [hs] at this;exact Rh
  subst MQ;have jI:=h.tm;simp [mT] at jI;have f0:=h.t1;have f1:=h.t3;obtain rfl|rfl|rfl|rfl|rfl|rfl|hj|hj:i=5\/i=12\/i=17\/i=22\/i=30\/i=0\/(i=6\/i=8\/i=13\/i=18\/i=23\/i=31\/i=33)\/i=1\/i=2\/i=3\/i=4\/i=7\/i=9\/i=10\/i=11\/i=14\/i=15\/i=16\/i=19\/i=20\/i=21\/i=24\/i=25\/i=26\/i=27\/i=28\/i=29\/i=32\/i=34\/i=35:=zO
  ·-- 5
   have lT:=nR _ rfl;simp [Region.binds] at lT;refine vB (f:=.tmp 5) (cap:=#[]) hC (JG 264 zO (n:Int) 4) rfl hi rfl nE rfl rfl pz iU zS pI iU zS (λq hq=>(h.low q hq).symm▸zS) ?_ ?_
   ·exact pR
   rintro v ns ⟨rfl,rfl⟩;exact hk _ _ (h.call (i:=5) (t:=9) jA zO zO nC)
  ·-- 12
   have lT:=nR _ rfl;simp [Region.binds] at lT;refine vB (f:=.tmp 11) (cap:=#[]) hC (JG 320 zO g 1048576) rfl hi rfl nE rfl rfl pz iU zS pI iU zS (λq hq=>(h.low q hq).symm▸zS) ?_ ?_
   ·exact pR
   rintro v ns ⟨rfl,rfl⟩;exact hk _ _ (h.call (i:=12) (t:=14) jA zO zO nC)
  ·-- 17
   have lT:=nR _ rfl;simp [Region.binds] at lT;refine vB (f:=.tmp 15) (cap:=#[]) hC (JG 360 zO bx 1048576) rfl hi rfl nE rfl rfl pz iU zS pI iU zS (λq hq=>(h.low q hq).symm▸zS) ?_ ?_
   ·exact pR
   rintro v ns ⟨rfl,rfl⟩;exact hk _ _ (h.call (i:=17) (t:=18) jA zO zO nC)
  ·-- 22
   have lT:=nR _ rfl;simp [Region.binds] at lT;refine vB (f:=.tmp 19) (cap:=#[]) hC (JG 400 zO tp 65536) rfl hi rfl nE rfl rfl pz iU zS pI iU zS (λq hq=>(h.low q hq).symm▸zS) ?_ ?_
   ·exact pR
   rintro v ns ⟨rfl,rfl⟩;exact hk _ _ (h.call (i:=22) (t:=22) jA zO zO nC)
  ·-- 30
   have lT:=nR _ rfl;simp [Region.binds] at lT;refine vB (f:=.tmp 23) (cap:=#[]) hC (JG 464 zO nr (Int.bmod (2*bx) 18446744073709551616)) rfl hi rfl nE rfl rfl pz iU zS pI iU zS (λq hq=>(h.low q hq).symm▸zS) ?_ ?_
   ·exact pR
   rintro v ns ⟨rfl,rfl⟩;exact hk _ _ (h.call (i:=30) (t:=29) jA zO zO nC)
  ·-- 0 map
   refine NC (k2 f0 f1) ?_;exact hk _ _ (h.mkm hi)
  ·rcases hj with rfl|rfl|rfl|rfl|rfl|rfl|rfl
   all_goals
    have lT:=And.intro hi (nR _ rfl);simp [Region.binds] at lT;obtain ⟨l,l1,l2,l3⟩:=h.mp cy;have hn:=h.fresh hi l2;simp [mI] at hn;refine NC (k6 f0 f1 jI lT l1 hn) ?_;exact hk _ _ (h.ins (by simp [mI]) (aO.1 hi).1 l2 l3 hn cy)
  ·have fc:=h.c;unfold cfB at fc;rcases hj with rfl|rfl|rfl|rfl|rfl|rfl|rfl|rfl|rfl|rfl|rfl|rfl|rfl|rfl|rfl|rfl|rfl|rfl|rfl|rfl|rfl|rfl|rfl
   all_goals
    have lT:=And.intro hi (nR _ rfl);simp [Region.binds] at lT;refine NC (k5 f0 f1 fc jI lT) ?_;exact hk _ _ (h.tmp jA nC zO)
 ·have Ek:∀ j,(Array.replicate 36 false)[j]?≠some true:=λj=>by
   rw [mN];split<;>simp
  exact ⟨zS,zS,λp hp hl=>absurd hl (Ek _),λk hk=>by rw [ao _ _ zO];exact dA zS hk,zS,by simp [cfB,MQ],λq hq hl=>absurd hl (Ek _),λhl=>absurd hl (Ek _),λq hq hl=>absurd hl (Ek _)⟩
def ly (n:Nat) (f:aJ) (g bx tp nr md:Int):ByteArray :=
 if wiB n 1 4=false then ⟨#[98,111,100,105,101,115]⟩ else if zp f n=false then ⟨#[109,97,115,115]⟩ else if wiB g 1 1048576=false then ⟨#[99,111,110,115,116,97,110,116]⟩ else if wiB bx 1 1048576=false then ⟨#[98,111,120]⟩ else
  if wiB tp 1 65536=false then ⟨#[116,111,112]⟩ else if wiB nr 1 (Int.bmod (2*bx) 18446744073709551616)=false then ⟨#[110,101,97,114]⟩ else if wiB md 0 4=false then ⟨#[109,101,116,104,111,100]⟩ else ⟨#[]⟩
def mQ (nk k:Nat):Nat:=if 1000<=k then (if k<1012 then k - 1000+nk else k) else k
theorem uK {nk n:Nat} {sl:Value} {g bx tp nr md:Int} {v:Value} {ns:cf} (h:Iv nk sl n g bx tp nr md v ns):∀ k∈ak ns,nk<=k/\k<nk+12:=by
 obtain ⟨l,rfl,rfl,_⟩:=h;intro k hk;simp [ak,mNs] at hk;omega
theorem VP (nk j:Nat) (hj:j<12):mQ nk (1000+j)=nk+j:=by
 unfold mQ;rw [ag zO,ag zO];omega
theorem TS (nk k:Nat) (hk:k<1000):mQ nk k=k:=by
 unfold mQ;rw [ae zO]
theorem Pk {nk n off cap:Nat} {g bx tp nr md:Int} {v:Value} {ns:cf} (h:RR (mQ nk) (Iv 1000 (.slice (some ⟨100,off,none⟩) n cap) n g bx tp nr md) v ns):Iv nk (.slice (some ⟨100,off,none⟩) n cap) n g bx tp nr md v ns:=by
 obtain ⟨v0,JF,⟨l,rfl,rfl,hl,hf⟩,rfl,rfl⟩:=h;have e:=VP nk;have e0:=e 0 zO;have e1:=e 1 zO;have e2:=e 2 zO;have e3:=e 3 zO;have e4:=e 4 zO;have e5:=e 5 zO;have e6:=e 6 zO;have e7:=e 7 zO;have e8:=e 8 zO;have e9:=e 9 zO;have e10:=e 10 zO;have e11:=e 11 zO;simp only [Nat.reduceAdd,du] at e0 e1 e2 e3 e4 e5 e6 e7 e8 e9 e10 e11;have nZ:=TS nk 100 zO
 have hmv:∀ q∈mV 1000,(q.1,aw (mQ nk) q.2)∈mV nk:=by
  simp [mV,aw,aF,e1,e2,e3,e4,e5,e6,e7,e8,e9,e10,e11]
 have hvm:∀ q∈mV nk,∃ p∈mV 1000,p.1=q.1/\aw (mQ nk) p.2=q.2:=by
  simp [mV,aw,aF,e1,e2,e3,e4,e5,e6,e7,e8,e9,e10,e11]
 refine ⟨l.map λp=>(p.1,aw (mQ nk) p.2),by simp [ren,aW,aw,aF,e0],?_,λp hp=>?_,λq hq=>?_⟩
 ·have hc:(cfB (.slice (some ⟨100,off,none⟩) n cap) g bx tp nr md).rn (mQ nk)=cfB (.slice (some ⟨100,off,none⟩) n cap) g bx tp nr md:=by simp [cfB,Blk.rn,aw,aF,nZ]
  simp only [rnL,mNs,bI,ft,aco,Jp,hc,Nat.reduceAdd,e0,e1,e2,e3,e4,e5,e6,e7,e8,e9,e10,e11]
 ·obtain ⟨p0,hp0,rfl⟩:=aK.1 hp;exact hmv _ (hl _ hp0)
 ·obtain ⟨p,hp,h1,h2⟩:=hvm q hq;rw [BU,<-h1,hf p hp,<-h2]
  rfl
theorem acu (nk:Nat) (rY:200<=nk) (b:Blk) (hb:b.fx) (off n cap:Nat) (g bx tp nr md:Int) :
  FunS prog G0 132 #[cfV (.slice (some ⟨100,off,none⟩) n cap) g bx tp nr md] (hpL G0 [(100,b)]) [100] (RR (mQ nk) (Iv 1000 (.slice (some ⟨100,off,none⟩) n cap) n g bx tp nr md)):=by
 have hr:=λρ=>Blk.fx_rn hb ρ;have nZ:=TS nk 100 zO;refine (XS b hb off n cap g bx tp nr md).mvL G0F (aT hb) (mQ nk) (λk hk=>TS nk k zO) (by simp [cfV,ren,aW,aw,aF,nZ]) (by simp [ak,nZ]) rfl (aT hb).low (by simp [nZ,hr]) ai (λv ns hV k hk=>?_) (λv ns hV k hk l hl e=>?_)
 ·have h1:=uK hV k hk;obtain ⟨j,hj,rfl⟩:∃ j,j<12/\k=1000+j:=⟨k - 1000,zO,zO⟩
  rw [VP nk j hj];simp;omega
 ·have h1:=uK hV k hk;have h2:=uK hV l hl;obtain ⟨j,hj,rfl⟩:∃ j,j<12/\k=1000+j:=⟨k - 1000,zO,zO⟩
  obtain ⟨i,hi,rfl⟩:∃ j,j<12/\l=1000+j:=⟨l - 1000,zO,zO⟩
  rw [VP nk j hj,VP nk i hi] at e;omega
theorem dy {p:Prop} (h:p:=by simp [Jp]):p:=h
theorem lD {p:Prop} (h:p:=by simp [cmL,hr];simp [cfB,Blk.rn,aw,aF]):p:=h
theorem lG {p:Prop} (h:p:=by simp [ak,cmL]):p:=h
theorem lK {p:Prop} (h:p:=by simp [ak,cmL];rfl):p:=h
theorem aS {p:Prop} (h:p:=by simp [okT]):p:=h
theorem aq {p:Prop} (h:p:=by simp [gev]):p:=h
theorem aZ {p:Prop} (h:p:=by simp [okX,fP]):p:=h
theorem lH {p:Prop} (h:p:=by simp [mV]):p:=h
theorem Ds {p:Prop} (h:p:=by unfold ly;simp only [c0,c1,c2,c3,c4,c5,c6,fK,aV,cw,reduceCtorEq]):p:=h
theorem FU {p:Prop} (h:p:=by
 rw [e]
 repeat' first|refine GWL_start ?_|refine GWL_step ?_|refine cT ?_|((first|refine gwR [148,150,153] ?_|refine gwD [148,150,153] ?_);intro Q hQ _;(repeat first|simp [hC,hY,f0,f1,f2,f3,f4,f5,f6,c0,c1,c2,c3,c4,c5,c6,cnB]|(refine aE (gX n 4) G0F (B:=200) ⟨zS,ai,bZ⟩ (λk=>if k=100 then 226 else if k=108 then 227 else k) (λk hk=>(ae zO).trans (ae zO)) ?_ zS dy ai ax ?_;focus (simp [ren,aW,aw,aF];done))|(refine aE (y6 b off n cap f h g bx tp nr md) G0F (B:=200) (uB h.fx off n cap g bx tp nr md) (λk=>if k=108 then 225 else k) (λk hk=>ae zO) ?_ zS lD lG lK ?_;focus (simp [ren,aW,aw,aF];done))|(refine aE (gX g 1048576) G0F (B:=200) ⟨zS,ai,bZ⟩ (λk=>if k=100 then 228 else if k=108 then 229 else k) (λk hk=>(ae zO).trans (ae zO)) ?_ zS dy ai ax ?_;focus (simp [ren,aW,aw,aF];done))|(refine aE (gX bx 1048576) G0F (B:=200) ⟨zS,ai,bZ⟩ (λk=>if k=100 then 230 else if k=108 then 231 else k) (λk hk=>(ae zO).trans (ae zO)) ?_ zS dy ai ax ?_;focus (simp [ren,aW,aw,aF];done))|(refine aE (gX tp 65536) G0F (B:=200) ⟨zS,ai,bZ⟩ (λk=>if k=100 then 232 else if k=108 then 233 else k) (λk hk=>(ae zO).trans (ae zO)) ?_ zS dy ai ax ?_;focus (simp [ren,aW,aw,aF];done))|(refine aE (gX nr (Int.bmod (2*bx) 18446744073709551616)) G0F (B:=200) ⟨zS,ai,bZ⟩ (λk=>if k=100 then 234 else if k=108 then 235 else k) (λk hk=>(ae zO).trans (ae zO)) ?_ zS dy ai ax ?_;focus (simp [ren,aW,aw,aF];done))|(refine aE (afk b off n cap h.fx g bx tp nr md) G0F (B:=200) (uB h.fx off n cap g bx tp nr md) (λk=>if k=108 then 225 else k) (λk hk=>ae zO) ?_ zS lD lG lK ?_;focus (simp [ren,aW,aw,aF];done)));refine dq hQ ?_)|fail
 exact eS results110):p:=h
abbrev fK := @Bool.true_eq_false
theorem ah6 (b:Blk) (off n cap:Nat) (f:aJ) (h:MB b off n f) (g bx tp nr md:Int) :
  Fun prog G0 110 #[cfV (.slice (some ⟨100,off,none⟩) n cap) g bx tp nr md] (hpL G0 [(100,b)]) (ak [(100,b)]) (.ret (.string (ly n f g bx tp nr md)) []):=by
 refine cg (B:=200) G0F func110 rfl call110 (aT h.fx) ?_ zS zS zS (by simp [ntmps110]) zO ?_
 ·exact Q3
 intro C hC bA hY;have hr:=λρ=>Blk.fx_rn h.fx ρ;unfold cfV;refine iI ?_;refine gj ?_;refine qM trivial ?_;refine NJ 8 (f:=.func 132) (cap:=#[]) hC (acu 224 zO b h.fx off n cap g bx tp nr md) rfl zS rfl rfl aS aq zS aZ (by simp [gev,cfV]) zS bO (λv ns hV k hk=>by have:=uK (Pk hV) k hk;omega) ?_;intro v ns hV;obtain ⟨l,rfl,rfl,_,hf⟩:=Pk hV;refine qM @mNs.eq_1 ?_;refine cu ?_;have f0:ix ⟨#[98,111,100,105,101,115]⟩ l=some (.func (.func 148) #[] #[.pointer (some ⟨226,0,none⟩),.pointer (some ⟨227,0,none⟩)]):=hf (⟨#[98,111,100,105,101,115]⟩,_) lH;have f1:ix ⟨#[109,97,115,115]⟩ l=some (.func (.func 150) #[] #[.pointer (some ⟨225,0,none⟩)]):=hf (⟨#[109,97,115,115]⟩,_) lH;have f2:ix ⟨#[99,111,110,115,116,97,110,116]⟩ l=some (.func (.func 148) #[] #[.pointer (some ⟨228,0,none⟩),.pointer (some ⟨229,0,none⟩)]):=hf (⟨#[99,111,110,115,116,97,110,116]⟩,_) lH;have f3:ix ⟨#[98,111,120]⟩ l=some (.func (.func 148) #[] #[.pointer (some ⟨230,0,none⟩),.pointer (some ⟨231,0,none⟩)]):=hf (⟨#[98,111,120]⟩,_) lH;have f4:ix ⟨#[116,111,112]⟩ l=some (.func (.func 148) #[] #[.pointer (some ⟨232,0,none⟩),.pointer (some ⟨233,0,none⟩)]):=hf (⟨#[116,111,112]⟩,_) lH;have f5:ix ⟨#[110,101,97,114]⟩ l=some (.func (.func 148) #[] #[.pointer (some ⟨234,0,none⟩),.pointer (some ⟨235,0,none⟩)]):=hf (⟨#[110,101,97,114]⟩,_) lH;have f6:ix ⟨#[109,101,116,104,111,100]⟩ l=some (.func (.func 153) #[] #[.pointer (some ⟨225,0,none⟩)]):=hf (⟨#[109,101,116,104,111,100]⟩,_) lH
 cases c0:wiB n 1 4 with
 | false =>
  have e:ly n f g bx tp nr md=⟨#[98,111,100,105,101,115]⟩:=by unfold ly;simp only [c0,fK,aV,cw,reduceCtorEq]
  rw [e]
  repeat' first|refine GWL_start ?_|refine GWL_step ?_|refine cT ?_|((first|refine gwR [148,150,153] ?_|refine gwD [148,150,153] ?_);intro Q hQ _;(repeat first|simp [hC,hY,f0,c0,cnB]|(refine aE (gX n 4) G0F (B:=200) ⟨zS,ai,bZ⟩ (λk=>if k=100 then 226 else if k=108 then 227 else k) (λk hk=>(ae zO).trans (ae zO)) ?_ zS dy ai ax ?_;focus (simp [ren,aW,aw,aF];done)));refine dq hQ ?_)|fail
  exact eS results110
 | true =>
  cases c1:zp f n with
  | false =>
   have e:ly n f g bx tp nr md=⟨#[109,97,115,115]⟩:=by unfold ly;simp only [c0,c1,fK,aV,cw,reduceCtorEq]
   rw [e]
   repeat' first|refine GWL_start ?_|refine GWL_step ?_|refine cT ?_|((first|refine gwR [148,150,153] ?_|refine gwD [148,150,153] ?_);intro Q hQ _;(repeat first|simp [hC,hY,f0,f1,c0,c1,cnB]|(refine aE (gX n 4) G0F (B:=200) ⟨zS,ai,bZ⟩ (λk=>if k=100 then 226 else if k=108 then 227 else k) (λk hk=>(ae zO).trans (ae zO)) ?_ zS dy ai ax ?_;focus (simp [ren,aW,aw,aF];done))|(refine aE (y6 b off n cap f h g bx tp nr md) G0F (B:=200) (uB h.fx off n cap g bx tp nr md) (λk=>if k=108 then 225 else k) (λk hk=>ae zO) ?_ zS lD lG lK ?_;focus (simp [ren,aW,aw,aF];done)));refine dq hQ ?_)|fail
   exact eS results110
  | true =>
   cases c2:wiB g 1 1048576 with
   | false =>
    have e:ly n f g bx tp nr md=⟨#[99,111,110,115,116,97,110,116]⟩:=by unfold ly;simp only [c0,c1,c2,fK,aV,cw,reduceCtorEq]
    rw [e]
    repeat' first|refine GWL_start ?_|refine GWL_step ?_|refine cT ?_|((first|refine gwR [148,150,153] ?_|refine gwD [148,150,153] ?_);intro Q hQ _;(repeat first|simp [hC,hY,f0,f1,f2,c0,c1,c2,cnB]|(refine aE (gX n 4) G0F (B:=200) ⟨zS,ai,bZ⟩ (λk=>if k=100 then 226 else if k=108 then 227 else k) (λk hk=>(ae zO).trans (ae zO)) ?_ zS dy ai ax ?_;focus (simp [ren,aW,aw,aF];done))|(refine aE (y6 b off n cap f h g bx tp nr md) G0F (B:=200) (uB h.fx off n cap g bx tp nr md) (λk=>if k=108 then 225 else k) (λk hk=>ae zO) ?_ zS lD lG lK ?_;focus (simp [ren,aW,aw,aF];done))|(refine aE (gX g 1048576) G0F (B:=200) ⟨zS,ai,bZ⟩ (λk=>if k=100 then 228 else if k=108 then 229 else k) (λk hk=>(ae zO).trans (ae zO)) ?_ zS dy ai ax ?_;focus (simp [ren,aW,aw,aF];done)));refine dq hQ ?_)|fail
    exact eS results110
   | true =>
    cases c3:wiB bx 1 1048576 with
    | false =>
     have e:ly n f g bx tp nr md=⟨#[98,111,120]⟩:=by unfold ly;simp only [c0,c1,c2,c3,fK,aV,cw,reduceCtorEq]
     rw [e]
     repeat' first|refine GWL_start ?_|refine GWL_step ?_|refine cT ?_|((first|refine gwR [148,150,153] ?_|refine gwD [148,150,153] ?_);intro Q hQ _;(repeat first|simp [hC,hY,f0,f1,f2,f3,c0,c1,c2,c3,cnB]|(refine aE (gX n 4) G0F (B:=200) ⟨zS,ai,bZ⟩ (λk=>if k=100 then 226 else if k=108 then 227 else k) (λk hk=>(ae zO).trans (ae zO)) ?_ zS dy ai ax ?_;focus (simp [ren,aW,aw,aF];done))|(refine aE (y6 b off n cap f h g bx tp nr md) G0F (B:=200) (uB h.fx off n cap g bx tp nr md) (λk=>if k=108 then 225 else k) (λk hk=>ae zO) ?_ zS lD lG lK ?_;focus (simp [ren,aW,aw,aF];done))|(refine aE (gX g 1048576) G0F (B:=200) ⟨zS,ai,bZ⟩ (λk=>if k=100 then 228 else if k=108 then 229 else k) (λk hk=>(ae zO).trans (ae zO)) ?_ zS dy ai ax ?_;focus (simp [ren,aW,aw,aF];done))|(refine aE (gX bx 1048576) G0F (B:=200) ⟨zS,ai,bZ⟩ (λk=>if k=100 then 230 else if k=108 then 231 else k) (λk hk=>(ae zO).trans (ae zO)) ?_ zS dy ai ax ?_;focus (simp [ren,aW,aw,aF];done)));refine dq hQ ?_)|fail
     exact eS results110
    | true =>
     cases c4:wiB tp 1 65536 with
     | false =>
      have e:ly n f g bx tp nr md=⟨#[116,111,112]⟩:=by unfold ly;simp only [c0,c1,c2,c3,c4,fK,aV,cw,reduceCtorEq]
      rw [e]
      repeat' first|refine GWL_start ?_|refine GWL_step ?_|refine cT ?_|((first|refine gwR [148,150,153] ?_|refine gwD [148,150,153] ?_);intro Q hQ _;(repeat first|simp [hC,hY,f0,f1,f2,f3,f4,c0,c1,c2,c3,c4,cnB]|(refine aE (gX n 4) G0F (B:=200) ⟨zS,ai,bZ⟩ (λk=>if k=100 then 226 else if k=108 then 227 else k) (λk hk=>(ae zO).trans (ae zO)) ?_ zS dy ai ax ?_;focus (simp [ren,aW,aw,aF];done))|(refine aE (y6 b off n cap f h g bx tp nr md) G0F (B:=200) (uB h.fx off n cap g bx tp nr md) (λk=>if k=108 then 225 else k) (λk hk=>ae zO) ?_ zS lD lG lK ?_;focus (simp [ren,aW,aw,aF];done))|(refine aE (gX g 1048576) G0F (B:=200) ⟨zS,ai,bZ⟩ (λk=>if k=100 then 228 else if k=108 then 229 else k) (λk hk=>(ae zO).trans (ae zO)) ?_ zS dy ai ax ?_;focus (simp [ren,aW,aw,aF];done))|(refine aE (gX bx 1048576) G0F (B:=200) ⟨zS,ai,bZ⟩ (λk=>if k=100 then 230 else if k=108 then 231 else k) (λk hk=>(ae zO).trans (ae zO)) ?_ zS dy ai ax ?_;focus (simp [ren,aW,aw,aF];done))|(refine aE (gX tp 65536) G0F (B:=200) ⟨zS,ai,bZ⟩ (λk=>if k=100 then 232 else if k=108 then 233 else k) (λk hk=>(ae zO).trans (ae zO)) ?_ zS dy ai ax ?_;focus (simp [ren,aW,aw,aF];done)));refine dq hQ ?_)|fail
      exact eS results110
     | true =>
      cases c5:wiB nr 1 (Int.bmod (2*bx) 18446744073709551616) with
      | false =>
       have e:ly n f g bx tp nr md=⟨#[110,101,97,114]⟩:=by unfold ly;simp only [c0,c1,c2,c3,c4,c5,fK,aV,cw,reduceCtorEq]
       rw [e]
       repeat' first|refine GWL_start ?_|refine GWL_step ?_|refine cT ?_|((first|refine gwR [148,150,153] ?_|refine gwD [148,150,153] ?_);intro Q hQ _;(repeat first|simp [hC,hY,f0,f1,f2,f3,f4,f5,c0,c1,c2,c3,c4,c5,cnB]|(refine aE (gX n 4) G0F (B:=200) ⟨zS,ai,bZ⟩ (λk=>if k=100 then 226 else if k=108 then 227 else k) (λk hk=>(ae zO).trans (ae zO)) ?_ zS dy ai ax ?_;focus (simp [ren,aW,aw,aF];done))|(refine aE (y6 b off n cap f h g bx tp nr md) G0F (B:=200) (uB h.fx off n cap g bx tp nr md) (λk=>if k=108 then 225 else k) (λk hk=>ae zO) ?_ zS lD lG lK ?_;focus (simp [ren,aW,aw,aF];done))|(refine aE (gX g 1048576) G0F (B:=200) ⟨zS,ai,bZ⟩ (λk=>if k=100 then 228 else if k=108 then 229 else k) (λk hk=>(ae zO).trans (ae zO)) ?_ zS dy ai ax ?_;focus (simp [ren,aW,aw,aF];done))|(refine aE (gX bx 1048576) G0F (B:=200) ⟨zS,ai,bZ⟩ (λk=>if k=100 then 230 else if k=108 then 231 else k) (λk hk=>(ae zO).trans (ae zO)) ?_ zS dy ai ax ?_;focus (simp [ren,aW,aw,aF];done))|(refine aE (gX tp 65536) G0F (B:=200) ⟨zS,ai,bZ⟩ (λk=>if k=100 then 232 else if k=108 then 233 else k) (λk hk=>(ae zO).trans (ae zO)) ?_ zS dy ai ax ?_;focus (simp [ren,aW,aw,aF];done))|(refine aE (gX nr (Int.bmod (2*bx) 18446744073709551616)) G0F (B:=200) ⟨zS,ai,bZ⟩ (λk=>if k=100 then 234 else if k=108 then 235 else k) (λk hk=>(ae zO).trans (ae zO)) ?_ zS dy ai ax ?_;focus (simp [ren,aW,aw,aF];done)));refine dq hQ ?_)|fail
       exact eS results110
      | true =>
       cases c6:wiB md 0 4 with
       | false =>
        have e:ly n f g bx tp nr md=⟨#[109,101,116,104,111,100]⟩:=Ds;exact FU
       | true =>
        have e:ly n f g bx tp nr md=⟨#[]⟩:=Ds;exact FU
def fk (n:Nat) (f:aJ) (g bx tp nr md:Int):Bool:=wiB n 1 4&&(zp f n&&(wiB g 1 1048576&&(wiB bx 1 1048576&&(wiB tp 1 65536&&(wiB nr 1 (Int.bmod (2*bx) 18446744073709551616)&&(wiB md 0 4))))))
end Go.Gy
namespace Go.Gy
open Go Go.RowKit Go.Proofs Go.Proofs.Tryz
theorem dI {p:Prop} (h:p:=by simp [ren,aW,aw,aF,cfV]):p:=h
theorem Hk {p:Prop} (h:p:=by
 rw [hc] at cW;unfold cfV
 repeat' first|refine cT ?_|((first|refine gwR [110] ?_|refine gwD [110] ?_);intro Q hQ _;(repeat first|simp [hC,hY,cW]|refine aE (ah6 b off n cap f h g bx tp nr md) G0F (B:=200) (aT h.fx) (λk=>k) (λk hk=>rfl) dI zS dx ai ax ?_);refine dq hQ ?_)|fail
 exact eS results83):p:=h
abbrev lq := @Bool.eq_false_or_eq_true
abbrev kY := @Bool.false_and
abbrev jq := @Bool.true_and
def OY:Value->Bool
 | .string _=>true
 | _=>false
def YI:Value->ByteArray
 | .string s=>s
 | _=>⟨#[]⟩
def adH (a b:ByteArray):Bool:=!(a.toList==b.toList)
@[simp] theorem auR (s:ByteArray):OY (.string s)=true:=rfl
@[simp] theorem ano (s:ByteArray):YI (.string s)=s:=rfl
theorem OZ {v:Value} (h:OY v=true):v=.string (YI v):=by
 unfold OY at h;split at h
 ·rfl
 ·cases h
@[simp] theorem apI (P:Program) (op:BinOp) (T:TypeId) (a b:ByteArray):zq P op T (.string a) (.string b)=none:=by cases op<;>rfl
@[simp] theorem aj9 {dst:Option Tmp} {x y:Operand} {T:TypeId} {ps:String} {af:Array Edge} {g:Option (Nat×Bool)} {ts:fp} {hp:Hp} {C:Eff->Prop} (h:OY (gev ts x)=true) (h2:OY (gev ts y)=true) (hx:okX ts hp x) (hy:okX ts hp y) :
  SO prog none ⟨dst,.binOp .neq 9 x y 9,T,ps,af,g⟩ ts hp C↔C (val (.bool (adH (YI (gev ts x)) (YI (gev ts y)))) []):=by
 have e1:=OZ h;have e2:=OZ h2;refine Cg (K:=λv=>C (val v [])) ?_ rfl λW=>?_
 ·intro z hz;simp [Op.operands] at hz;rcases hz with rfl|rfl
  ·exact ⟨hx,by rw [e1];rfl⟩
  ·exact ⟨hy,by rw [e2];rfl⟩
 ·generalize YI (gev ts x)=a at e1 |-;generalize YI (gev ts y)=b at e2 |-;have hg:(eqGuard .neq 9 x y (.string a) (.string b)).run prog W=.ok () W:=su;simp only [execOp,e1,e2,aX,hg,bJ,binOp,Op.stringOp,cK,ano];simp [adH]
theorem Qi (n:Nat) (f:aJ) (g bx tp nr md:Int):adH (ly n f g bx tp nr md) ⟨#[]⟩=!(fk n f g bx tp nr md):=by
 unfold ly fk adH;rcases lq (wiB n 1 4) with c|c<;>simp only [c,kY,jq,aV,fK,cw,j7]<;>try decide +kernel
 rcases lq (zp f n) with c|c<;>simp only [c,kY,jq,aV,fK,cw,j7]<;>try decide +kernel
 rcases lq (wiB g 1 1048576) with c|c<;>simp only [c,kY,jq,aV,fK,cw,j7]<;>try decide +kernel
 rcases lq (wiB bx 1 1048576) with c|c<;>simp only [c,kY,jq,aV,fK,cw,j7]<;>try decide +kernel
 rcases lq (wiB tp 1 65536) with c|c<;>simp only [c,kY,jq,aV,fK,cw,j7]<;>try decide +kernel
 rcases lq (wiB nr 1 (Int.bmod (2*bx) 18446744073709551616)) with c|c<;>simp only [c,kY,jq,aV,fK,cw,j7]<;>try decide +kernel
 rcases lq (wiB md 0 4) with c|c<;>simp only [c,kY,jq,aV,fK,cw,j7]<;>try decide +kernel
theorem BO (b:Blk) (off n cap:Nat) (f:aJ) (h:MB b off n f) (g bx tp nr md:Int) :
  Fun prog G0 83 #[cfV (.slice (some ⟨100,off,none⟩) n cap) g bx tp nr md] (hpL G0 [(100,b)]) (ak [(100,b)]) (.ret (.int .i64 (if fk n f g bx tp nr md=true then 0 else 110)) []):=by
 refine cg (B:=200) G0F func83 rfl call83 (aT h.fx) ?_ zS zS zS (by simp [ntmps83]) zO ?_
 ·exact Q3
 intro C hC bA hY;have hr:=λρ=>Blk.fx_rn h.fx ρ;have cW:=Qi n f g bx tp nr md
 cases hc:fk n f g bx tp nr md with
 | true =>
  exact Hk
 | false =>
  exact Hk
end Go.Gy
