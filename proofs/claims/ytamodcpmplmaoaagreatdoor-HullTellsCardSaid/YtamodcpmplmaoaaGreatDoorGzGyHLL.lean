/-
  the module's hull and the reference's tell the same
 Conditions: those of the given card (the listed package-level variables are laid as the program's text lays them).
-/
import Derived.Test.YtamodcpmplmaoaaGreatDoorGz09
set_option linter.unusedSimpArgs false
set_option linter.unusedVariables false
namespace Go.Proofs.YtamodcpmplmaoaaGreatDoor
open Go Go.RowKit Go.ChangeShapes Go.WideShapes Go.ChangeAt Go.Gy
set_option maxRecDepth 100000
namespace HullTells
theorem reads_again:∀ t∈Tryz.f3.params.toList,Tryz.prog.readableRec t=true/\t<Tryz.prog.types.size:=by
 have h:(Tryz.f3.params.toList.all λt=>Tryz.prog.readableRec t&&decide (t<Tryz.prog.types.size))=true:=by kernel_rfl
 intro t ht
 have:=List.all_eq_true.1 h t ht
 simpa using this
theorem contract (H:Type) (enc:TypeId×Value->H) (W:World) (base:Nat) (args:Array Value) (ds gs:List (DataW H)) (before:List MemPlace)
  (hval:∀ (j:Nat) t v,Tryz.f3.params[j]? = some t->args[j]? = some v->Value.okWide Tryz.prog W .any base t v)
  (hW:DataW.Whole enc Tryz.prog Tryz.f3.params.toList Rows.hullTellsSpec.vars false W args.toList ds gs before) (hS:W.ShapedOpen Tryz.prog) (hL:laidMetH Tryz.prog Rows.hullTellsRow.laid W) (hwt:(DataW.weightsEach Tryz.prog (Tryz.f3.params.toList++(OpenSpec.ofChange Rows.hullTellsSpec).bare.plain.varTypes Tryz.prog) (ds++gs)).all (·<=reachBytes)=true) :
  Calls Tryz.prog 3 args W λe W'=>∃ v,e=.returned v/\Rows.hullTellsSpec.post enc Tryz.prog Tryz.f3 false true false false W args v W':=by
 have hW':=hW
 have hlt:=hW.lt
 obtain ⟨p,q,hA0,hV,rfl,hfz,hnd⟩:=hW
 have hA:DataW.TrodAll enc Tryz.prog W 0 (λ_=>true) true Tryz.f3.params.toList args.toList ds p:=hA0
 have hAk:=hA
 rw [Tryz.params3] at hA hval hwt
 obtain ⟨v0,vs0,d0,ds0,p0,q0,hargs,rfl,rfl,h0,r0⟩:=trodAll_cons hA
 obtain ⟨v1,vs1,d1,ds1,p1,q1,rfl,rfl,rfl,h1,r1⟩:=trodAll_cons r0
 obtain ⟨v2,vs2,d2,ds2,p2,q2,rfl,rfl,rfl,h2,r2⟩:=trodAll_cons r1
 obtain ⟨v3,vs3,d3,ds3,p3,q3,rfl,rfl,rfl,h3,r3⟩:=trodAll_cons r2
 obtain ⟨v4,vs4,d4,ds4,p4,q4,rfl,rfl,rfl,h4,r4⟩:=trodAll_cons r3
 obtain ⟨v5,vs5,d5,ds5,p5,q5,rfl,rfl,rfl,h5,r5⟩:=trodAll_cons r4
 obtain ⟨rfl,rfl,rfl⟩:=trodAll_nil r5
 obtain rfl:args=#[v0,v1,v2,v3,v4,v5]:=Array.ext' hargs
 obtain ⟨rfl,rfl⟩:=trodVars_none hV
 have hw0:∀ x∈d0.weights Tryz.prog 24,x<=reachBytes:=λx hx=>by
  have h9:=List.all_eq_true.1 hwt x (by
   simp only [List.cons_append,DataW.weightsEach]
   exact List.mem_append_left _ hx)
  simpa using h9
 have hw1:∀ x∈d1.weights Tryz.prog 27,x<=reachBytes:=λx hx=>by
  have h9:=List.all_eq_true.1 hwt x (by
   simp only [List.cons_append,DataW.weightsEach]
   exact List.mem_append_right _ (List.mem_append_left _ hx))
  simpa using h9
 have hw2:∀ x∈d2.weights Tryz.prog 27,x<=reachBytes:=λx hx=>by
  have h9:=List.all_eq_true.1 hwt x (by
   simp only [List.cons_append,DataW.weightsEach]
   exact List.mem_append_right _ (List.mem_append_right _ (List.mem_append_left _ hx)))
  simpa using h9
 have hw4:∀ x∈d4.weights Tryz.prog 36,x<=reachBytes:=λx hx=>by
  have h9:=List.all_eq_true.1 hwt x (by
   simp only [List.cons_append,DataW.weightsEach]
   exact List.mem_append_right _ (List.mem_append_right _ (List.mem_append_right _ (List.mem_append_right _ (List.mem_append_left _ hx)))))
  simpa using h9
 have hgok:GOK G0 W:=z3e hS hL
 obtain ⟨g0,bx0,tp0,nr0,md0,P0,n0,cap0,wg0,wb0,wt0,wn0,wm0,rfl,x0,l0,m0,f0⟩:=ja8 (hval 0 24 v0 rfl rfl) h0 hw0 hgok
 obtain ⟨st1,P1,n1,cap1,ws1,rfl,x1,l1,m1,f1⟩:=ztk (hval 1 27 v1 rfl rfl) h1 hw1 hgok
 obtain ⟨st2,P2,n2,cap2,ws2,rfl,x2,l2,m2,f2⟩:=ztk (hval 2 27 v2 rfl rfl) h2 hw2 hgok
 obtain ⟨N3,u3,rfl,hh3⟩:=zzh (hval 3 35 v3 rfl rfl) h3
 obtain ⟨P4,n4,cap4,rfl,x4,l4,m4,f4⟩:=zzf (hval 4 36 v4 rfl rfl) h4 hw4 hgok
 obtain ⟨u5,rfl,hx5⟩:=zzi (hval 5 38 v5 rfl rfl) h5
 have key:zd8 Tryz.prog 3 #[cfV (.slice P0 n0 cap0) g0 bx0 tp0 nr0 md0,.agg #[.int .i64 st1,.slice P1 n1 cap1],.agg #[.int .i64 st2,.slice P2 n2 cap2],zbg N3 u3,.slice P4 n4 cap4,zbh u5] W λe W'=>e=.returned (.bool true)/\Below W.heap.size W W':=by
  obtain ⟨L,nm,hLd,hlen,hx⟩:=lay (x0++(x1++(x2++x4))) (λx hx=>(List.mem_append.1 hx).elim (m0 x) λhx=>(List.mem_append.1 hx).elim (m1 x) λhx=>(List.mem_append.1 hx).elim (m2 x) λhx=>m4 x hx)
  simp only [List.length_append] at hlen
  obtain ⟨p0,gd0,e0⟩:=f0 L nm λx h=>hx x (List.mem_append_left _ h)
  obtain ⟨p1,gd1,e1⟩:=f1 L nm λx h=>hx x (List.mem_append_right _ (List.mem_append_left _ h))
  obtain ⟨p2,gd2,e2⟩:=f2 L nm λx h=>hx x (List.mem_append_right _ (List.mem_append_right _ (List.mem_append_left _ h)))
  obtain ⟨p4,gd4,e4⟩:=f4 L nm λx h=>hx x (List.mem_append_right _ (List.mem_append_right _ (List.mem_append_right _ (h))))
  have this:=z3d (args:=#[cfV (.slice p0 n0 cap0) g0 bx0 tp0 nr0 md0,.agg #[.int .i64 st1,.slice p1 n1 cap1],.agg #[.int .i64 st2,.slice p2 n2 cap2],zbg N3 u3,.slice p4 n4 cap4,zbh u5]) hLd (by omega) (zn6 (hLd.any (by omega)) wg0 wb0 wt0 wn0 wm0 ws1 ws2 hh3 hx5 gd0 gd1 gd2 gd4) rfl hgok
  have ea:(#[cfV (.slice p0 n0 cap0) g0 bx0 tp0 nr0 md0,.agg #[.int .i64 st1,.slice p1 n1 cap1],.agg #[.int .i64 st2,.slice p2 n2 cap2],zbg N3 u3,.slice p4 n4 cap4,zbh u5]:Array Value).map (ren nm)=#[cfV (.slice P0 n0 cap0) g0 bx0 tp0 nr0 md0,.agg #[.int .i64 st1,.slice P1 n1 cap1],.agg #[.int .i64 st2,.slice P2 n2 cap2],zbg N3 u3,.slice P4 n4 cap4,zbh u5]:=by simp [jh1 e0,z7p e1,z7p e2,zh2,e4,z42]
  rwa [ea] at this
 refine key.calls.mono λe W' ⟨he,hb⟩=>?_
 subst he
 exact ⟨_,rfl,zni (pv:=[]) hW' (λ_ _ _=>trodAll_cons_mk (shut_bool Tryz.underlying4 _) trodAll_mk0)
  (λsp hsp=>zh8 z3y _ _ _ _ reads_again hAk (λx hx=>hb.same (hlt x (List.mem_append_left _ hx))) (λx hx=>hsp x (List.mem_append_left _ hx))) (λ_ _=>rfl) rfl hb
  (ok_one (by kernel_rfl) rfl (okWide_bool_mk Tryz.underlying4 _))⟩
def wits:Array Value:=#[.agg #[.slice none 0 0,.int .i64 0,.int .i64 0,.int .i64 0,.int .i64 0,.int .i64 0],.agg #[.int .i64 0,.slice none 0 0],.agg #[.int .i64 0,.slice none 0 0],zbg 0 λ_=>0,.slice none 0 0,zbh λ_=>0]
noncomputable def laidWorld (os:Os):World :=
 {World.holding Tryz.prog os ⟨#[],#[],[]⟩ with heap:=(((World.holding Tryz.prog os ⟨#[],#[],[]⟩).heap.modify 0 fun
   | .cells _ t frozen=>.cells cnB.c t frozen
   | o=>o).modify 1 fun
   | .cells _ t frozen=>.cells lsB.c t frozen
   | o=>o) }
theorem laid_met (os:Os):laidMet Tryz.prog Rows.hullTellsRow.laid ((laidWorld os).forCall (λ_ _=>0) ⟨#[],wits,[]⟩).memory :=
 laidMet_of_run' 8 (by kernel_rfl) (by kernel_rfl)
theorem reads (os:Os) {H:Type} (enc:TypeId×Value->H):∃ places,DataW.whole enc Tryz.prog ((laidWorld os).forCall (λ_ _=>0) ⟨#[],wits,[]⟩).memory Tryz.f3.params.toList Rows.hullTellsSpec.vars false wits.toList 8=some ([.agg [.nil,.lit (.int .i64 0),.lit (.int .i64 0),.lit (.int .i64 0),.lit (.int .i64 0),.lit (.int .i64 0)],.agg [.lit (.int .i64 0),.nil],.agg [.lit (.int .i64 0),.nil],jf5,.nil,jgo],[],places) :=
 ⟨[],by kernel_rfl⟩
theorem lifted (os:Os) (started:os.Started) (H:Type) (enc:TypeId×Value->H) (F:Stop.Interp) :
  ReturnsInHanded {} Tryz.checked os 3 .any ((OpenSpec.ofChange Rows.hullTellsSpec).preRow enc Tryz.prog Tryz.f3 Rows.hullTellsRow.domain false Rows.hullTellsRow.laid) (((OpenSpec.ofChange Rows.hullTellsSpec).at F).post enc Tryz.prog Tryz.f3 false true false false):=by
 obtain ⟨places,hx⟩:=reads os enc
 refine returnsInHanded_of_row (C:=Tryz.checked) (s:=OpenSpec.ofChange Rows.hullTellsSpec) own started (by kernel_rfl) Tryz.func3
  (witness_row_at (enc:=enc) (C:=Tryz.checked) false (laidWorld os) wits rfl (by kernel_rfl) (by kernel_rfl) (by kernel_rfl)
   (OpenSpec.preRow_of_cond 8 hx (by kernel_rfl) (λk hk=>by cases hk) (by kernel_rfl) (laid_met os))) ?_
 intro W base args ds gs before hval hW _ _ hwt hL hS _
 exact contract H enc W base args ds gs before hval hW hS hL hwt
theorem said:Rows.HullTellsSaid :=
 OpenClaim.holds_of_cond 3 Tryz.f3 rfl rfl rfl rfl rfl rfl rfl ⟨rfl,rfl,rfl,rfl,rfl⟩ rfl rfl rfl rfl rfl (by kernel_rfl) Tryz.func3 (by kernel_rfl)
  (of_decide_eq_true (by kernel_rfl)) (by unfold Func.isWrapper;first|(rw [if_pos (by decide +kernel)];kernel_rfl)|(rw [if_neg (by decide +kernel)];exact ⟨rfl,rfl⟩))
  (λos started H enc _ F=>by rw [OpenClaim.pre_eq_preRow];exact lifted os started H enc F)
theorem plain (f : FuncId) (fn : Func) (hf : Tryz.pinned.checked.prog.funcNamed "gyre/gyrelaw24.HullTells" = some f) (hfn : Tryz.pinned.checked.prog.funcs[f]? = some fn) :
  true=Tryz.pinned.checked.prog.looks []/\∀ (j:Nat) t,fn.params[j]? = some t->Tryz.pinned.checked.prog.wantsStandIn t=false:=by
 obtain rfl : f = 3 := Option.some.inj ((show Tryz.prog.funcNamed "gyre/gyrelaw24.HullTells" = some 3 by kernel_rfl).symm.trans hf) |>.symm
 obtain rfl:fn=Tryz.f3:=(Option.some.inj (Tryz.func3.symm.trans hfn)).symm
 refine ⟨by kernel_rfl,λj t ht=>?_⟩
 rw [Tryz.params3] at ht
 have hm:=Array.mem_of_getElem? ht
 simp at hm
 rcases (show t=24\/t=27\/t=35\/t=36\/t=38 by first|exact hm|exact hm.symm|(rcases hm with h|h|h|h|h|h|h|h<;>simp [h])|(rcases hm with h|h|h|h|h|h|h<;>simp [h])|(rcases hm with h|h|h|h|h|h<;>simp [h])|(rcases hm with h|h|h|h|h<;>simp [h])|(rcases hm with h|h|h|h<;>simp [h])|(rcases hm with h|h|h<;>simp [h])|(rcases hm with h|h<;>simp [h])) with rfl|rfl|rfl|rfl|rfl
 ·exact (show Tryz.prog.wantsStandIn 24=false by kernel_rfl)
 ·exact (show Tryz.prog.wantsStandIn 27=false by kernel_rfl)
 ·exact (show Tryz.prog.wantsStandIn 35=false by kernel_rfl)
 ·exact (show Tryz.prog.wantsStandIn 36=false by kernel_rfl)
 ·exact (show Tryz.prog.wantsStandIn 38=false by kernel_rfl)
theorem card:Rows.HullTellsCardSaid :=
 Claim7.holds_tied_plain_at .later [] _ _ _ _ said (λ_ h=>by cases h) (by kernel_rfl) (λ_ h=>by cases h) hullTells_row_tie rfl ⟨rfl,rfl⟩ (by kernel_rfl) rfl plain (by kernel_rfl)
end HullTells
theorem hullTells_card:Rows.HullTellsCardSaid:=HullTells.card
end Go.Proofs.YtamodcpmplmaoaaGreatDoor
