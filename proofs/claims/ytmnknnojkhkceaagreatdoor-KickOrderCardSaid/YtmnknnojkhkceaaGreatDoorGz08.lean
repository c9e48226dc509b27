/-
  Lemmas of this claim, in their order (GyH3, GyHK).
  Conditions: those of each theorem.
-/
import Derived.Test.YtmnknnojkhkceaaGreatDoorGz07
import Derived.Stop.LaidErr
set_option linter.unusedSimpArgs false
set_option linter.unusedVariables false
namespace Go.Gy
set_option linter.unusedSimpArgs false
set_option linter.unusedVariables false
set_option maxRecDepth 100000
open Go Go.RowKit Go.Proofs Go.ChangeShapes Go.WideShapes Go.ChangeAt
theorem qcells_lim:Tryz.prog.cellsOf 96=2:=by kernel_rfl
theorem qcells_lims:Tryz.prog.cellsOf 97=12:=by kernel_rfl
section
variable {H:Type} {enc:TypeId×Value→H} {w:World}
theorem qpair_of {base fuel:Nat} {spare:Nat→Bool} {held:Bool} {cs:List Value} {a b:Int} {p:List MemPlace} (h:DataW.trod enc Tryz.prog w base spare held fuel 96 cs=some (.agg [.lit (.int .i64 a),.lit (.int .i64 b)],p)):cs=[.int .i64 a,.int .i64 b]:=by
 cases fuel with
 | zero=>simp [DataW.trod] at h
 | succ fuel =>
  simp only [DataW.trod,Tryz.underlying96,qcells_lim] at h
  split at h
  ·rename_i hl
   obtain ⟨xs,hm,hx⟩:=Option.map_eq_some_iff.1 h
   have hx1:=congrArg Prod.fst hx
   simp only [DataW.agg.injEq] at hx1
   match cs,hl with
   | [c0,c1],_ =>
    have h0:=Lib.mapM_at hm 0 _ rfl
    have h1:=Lib.mapM_at hm 1 _ rfl
    obtain ⟨y0,hy0,hf0⟩:=h0
    obtain ⟨y1,hy1,hf1⟩:=h1
    obtain ⟨z0,hc0,rfl,_⟩:=DataW.trod_int Tryz.underlying3 hf0
    obtain ⟨z1,hc1,rfl,_⟩:=DataW.trod_int Tryz.underlying3 hf1
    have e0:(xs.map (·.1))[0]? = some (DataW.lit (.int .i64 z0):DataW H):=by simp [hy0]
    have e1:(xs.map (·.1))[1]? = some (DataW.lit (.int .i64 z1):DataW H):=by simp [hy1]
    rw [hx1] at e0 e1
    simp at e0 e1
    subst e0 e1
    have q0:[c0]=[Value.int .i64 a]:=hc0
    have q1:[c1]=[Value.int .i64 b]:=hc1
    simp at q0 q1
    rw [q0,q1]
  ·cases h
theorem qlims_of {base fuel:Nat} {spare:Nat→Bool} {held:Bool} {cs:List Value} {p:List MemPlace} (h:DataW.trod enc Tryz.prog w base spare held fuel 97 cs=some (Proofs.YtmnknnojkhkceaaGreatDoor.Rows.laid_gyre_pull_limits,p)):cs=lmB.c.toList:=by
 cases fuel with
 | zero=>simp [DataW.trod] at h
 | succ fuel =>
  simp only [DataW.trod,Tryz.underlying97,qcells_lims,qcells_lim] at h
  split at h
  ·rename_i hl
   obtain ⟨xs,hm,hx⟩:=Option.map_eq_some_iff.1 h
   have hx1:=congrArg Prod.fst hx
   simp only [Proofs.YtmnknnojkhkceaaGreatDoor.Rows.laid_gyre_pull_limits,DataW.agg.injEq] at hx1
   have key:∀ (i:Nat) (a b:Int),i<6→([DataW.agg [.lit (.int .i64 (-2097152)),.lit (.int .i64 2097152)],.agg [.lit (.int .i64 1),.lit (.int .i64 2097152)],.agg [.lit (.int .i64 1),.lit (.int .i64 1048576)],.agg [.lit (.int .i64 1),.lit (.int .i64 1024)],.agg [.lit (.int .i64 (-2097152)),.lit (.int .i64 2097152)],.agg [.lit (.int .i64 0),.lit (.int .i64 13194139533312)]]:List (DataW H))[i]? = some (.agg [.lit (.int .i64 a),.lit (.int .i64 b)]) →
     (cs.drop (i*2)).take 2=[.int .i64 a,.int .i64 b]:=fun i a b hi hab=>by
    obtain ⟨y,hy,hf⟩:=Lib.mapM_at hm i i (by simp [hi])
    have e:(xs.map (·.1))[i]? = some y.1:=by simp [hy]
    rw [hx1,hab] at e
    simp only [Option.some.injEq] at e
    obtain ⟨y1,y2⟩:=y
    simp only at e
    subst e
    exact qpair_of hf
   have k0:=key 0 _ _ (by omega) rfl
   have k1:=key 1 _ _ (by omega) rfl
   have k2:=key 2 _ _ (by omega) rfl
   have k3:=key 3 _ _ (by omega) rfl
   have k4:=key 4 _ _ (by omega) rfl
   have k5:=key 5 _ _ (by omega) rfl
   match cs,hl with
   | [c0,c1,c2,c3,c4,c5,c6,c7,c8,c9,c10,c11],_ =>
    simp at k0 k1 k2 k3 k4 k5
    simp [lmB,k0,k1,k2,k3,k4,k5]
  ·cases h
end
theorem qgLims : Tryz.prog.globalNamed "gyre/pull.limits" = some 0 := by kernel_rfl
theorem qgLimsType:(Tryz.prog.globals[0]?).map (·.type)=some 97:=by kernel_rfl
theorem qgLimsRow:((begin Tryz.prog (fun _ _=>0) default).world.heap[0]?).bind Obj.row? = some (#[.int .i64 0,.int .i64 0,.int .i64 0,.int .i64 0,.int .i64 0,.int .i64 0,.int .i64 0,.int .i64 0,.int .i64 0,.int .i64 0,.int .i64 0,.int .i64 0],97):=by kernel_rfl
theorem qlims_laid {W : World} {rest : List (String × DataW Unit)} (h : laidMet Tryz.prog (("gyre/pull.limits", Proofs.YtmnknnojkhkceaaGreatDoor.Rows.laid_gyre_pull_limits) :: rest) W) : W.var? Tryz.prog "gyre/pull.limits" = some lmB.c := by
 obtain ⟨ps,⟨g',t',cs,fuel,p,q,hg',ht',hvar,hd,_,_⟩,_⟩:=h
 obtain rfl:=Option.some.inj (qgLims.symm.trans hg')
 obtain rfl:=Option.some.inj (qgLimsType.symm.trans ht')
 rw [hvar]
 congr 1
 apply Array.ext'
 exact qlims_of hd
theorem gok_three {W : World} (hS : W.ShapedOpen Tryz.prog) (h : laidMet Tryz.prog [("gyre/conf.names", Proofs.YtmnknnojkhkceaaGreatDoor.Rows.laid_gyre_conf_names), ("gyre/quot.least", Proofs.YtmnknnojkhkceaaGreatDoor.Rows.laid_gyre_quot_least), ("gyre/pull.limits", Proofs.YtmnknnojkhkceaaGreatDoor.Rows.laid_gyre_pull_limits)] W) : GOK G1 W := fun k b hk => by
 rcases hpL_mem hk with hm|hm
 ·simp at hm
  obtain ⟨rfl,rfl⟩:=hm
  exact heap_of_var qgLims (of_decide_eq_true (by kernel_rfl)) qgLimsRow hS (qlims_laid (laidMet.tail (laidMet.tail h)))
 ·have h9:=G0_mem hm
  simp [G0L] at h9
  rcases h9 with ⟨rfl,rfl⟩|⟨rfl,rfl⟩
  ·exact heap_of_var gLeast (of_decide_eq_true (by kernel_rfl)) gLeastRow hS (least_of (laidMet.tail h))
  ·exact heap_of_var gNames (of_decide_eq_true (by kernel_rfl)) gNamesRow hS (names_of h)
theorem rowAt_intL {fits:TypeId→Bool} (h:fits 3=false) (d c o n:Nat):rowAt Tryz.prog fits d 3 c o n=false:=by
 cases d with
 | zero=>rfl
 | succ d=>simp [rowAt,h,Tryz.underlying3]
theorem rowAt_limit {fits:TypeId→Bool} (h:fits 3=false) (h2:fits 96=false) (d c o n:Nat):rowAt Tryz.prog fits d 96 c o n=false:=by
 cases d with
 | zero=>rfl
 | succ d=>simp [rowAt,h2,Tryz.underlying96,rowAt_intL h]
theorem rowAt_limits {fits:TypeId→Bool} (h:fits 3=false) (h2:fits 96=false) (h3:fits 97=false) (d c o n:Nat):rowAt Tryz.prog fits d 97 c o n=false:=by
 cases d with
 | zero=>rfl
 | succ d=>simp [rowAt,h3,Tryz.underlying97,rowAt_limit h h2]
theorem lies_limits (d c o n:Nat):liesAt Tryz.prog d 97 c o 45 n=false:=by
 cases d with
 | zero=>rfl
 | succ d =>
  unfold liesAt
  rw [rowAt_limits (by kernel_rfl) (by kernel_rfl) (by kernel_rfl),Tryz.underlying45]
  rfl
theorem G1_cases {g:Nat} {c:Blk} (h:G1 g=some c):(g=0∧c=lmB)∨G0 g=some c:=by
 unfold G1 at h
 rw [hpL_cons] at h
 by_cases e:g=0
 ·rw [if_pos e] at h
  exact .inl ⟨e,(Option.some.inj h).symm⟩
 ·rw [if_neg e] at h
  exact .inr h
theorem StAt.ne1 {W:World} {k off n cap:Nat} {b:Blk} {f:Nat→Int} (h:StAt W k off n cap b f) (hg:GOK G1 W):∀ g c,G1 g=some c→k≠g:=fun g c hc e=>by
 rcases G1_cases hc with ⟨rfl,rfl⟩|h0
 ·have h1:=hg _ _ hc
  obtain ⟨row,q,hsh,hl⟩:=h.lies
  rw [e] at hsh
  unfold World.shape? at hsh
  rw [h1] at hsh
  simp only [lmB,Blk.obj0,Option.some.injEq,Prod.mk.injEq] at hsh
  obtain ⟨rfl,rfl⟩:=hsh
  rw [lies_limits] at hl
  cases hl
 ·exact h.ne (G1up W hg) g c h0 e
theorem CfAt.ne1 {W:World} {k off n cap:Nat} {b:Blk} {f:Nat→Int} (h:CfAt W k off n cap b f) (hg:GOK G1 W) (hk:¬k=0):∀ g c,G1 g=some c→k≠g:=fun g c hc e=>by
 rcases G1_cases hc with ⟨rfl,rfl⟩|h0
 ·exact hk e
 ·exact h.ne (G1up W hg) g c h0 e
theorem CfAt.lim {W:World} {k off n cap:Nat} {b:Blk} {f:Nat→Int} (h:CfAt W k off n cap b f) (hg:GOK G1 W) (hk:k=0) (hn:n≤17592186044416):MB lmB off n f:=by
 have h1:=hg _ _ G1_limits
 have h2:=h.heap
 rw [hk,h1] at h2
 have hc:b.c=lmB.c:=by
  obtain ⟨c,T,fr,rfl⟩:=h.raw
  simp only [lmB,Blk.obj0,Option.some.injEq,Obj.cells.injEq] at h2
  exact h2.1.symm
 have hm:=h.mb hn
 exact ⟨fun j hj=>by rw [←hc];exact hm.rd j hj,lmB_fx,hm.i6,hm.nn⟩
theorem fun_none {P:Program} {G:Hp} {fn:FuncId} {args:Array Value} {v:Value} {W:World} (hGF:GFlat G) (hF:Fun P G fn args (hpL G []) (keys []) (.ret v [])) (hv:flatV v=true) (hgok:GOK G W) :
  CallsS P fn args W fun e W'=>e=.returned v∧Below W.heap.size W W':=by
 have e:rst (hpL G []) (keys [])=hpL G []:=LOk.rst (m:=[]) hGF
 have hr:=hF.run (fun k=>k) W hgok
 rw [e] at hr
 have h:=hr (fun k b hk=>by
  rw [hpL_nil] at hk
  refine ⟨?_,Blk.flat_ids (hGF k b hk).2⟩
  rw [hgok k b hk]
  congr 1
  obtain ⟨cc,T⟩:=b
  cases T with
  | ty t=>exact (Blk.obj_flat (hGF k _ hk).2).symm
  | raw t fr=>rfl
  | mp=>exact (Blk.obj_flat (hGF k _ hk).2).symm) (fun k l _ _ e=>e) (fun k _ _=>rfl)
 rw [show args.map (ren fun k=>k)=args by rw [show (ren fun k=>k)=id from funext fun v=>ren_id v];simp] at h
 refine h.mono fun e' W' ⟨h1,h2⟩=>⟨?_,?_⟩
 ·rw [h1,ren_id]
 ·exact ⟨h2.os,h2.tape,h2.output,h2.size,fun k hk=>h2.same k hk (by simp)⟩
end Go.Gy
