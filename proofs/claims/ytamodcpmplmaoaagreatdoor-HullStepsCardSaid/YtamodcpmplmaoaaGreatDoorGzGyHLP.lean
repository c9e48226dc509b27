/-
  HullSteps answers true.
 Conditions: those of the given card (the listed package-level variables are laid as the program's text lays them).
-/
import Derived.Test.YtamodcpmplmaoaaGreatDoorGz11
set_option linter.unusedSimpArgs false
set_option linter.unusedVariables false
namespace Go.Proofs.YtamodcpmplmaoaaGreatDoor
open Go Go.RowKit Go.ChangeShapes Go.WideShapes Go.ChangeAt Go.Gy
set_option maxRecDepth 100000
namespace HullSteps
theorem reads_again:∀ t∈Tryz.f7.params.toList,Tryz.prog.readableRec t=true/\t<Tryz.prog.types.size:=by
 have h:(Tryz.f7.params.toList.all λt=>Tryz.prog.readableRec t&&decide (t<Tryz.prog.types.size))=true:=by kernel_rfl
 intro t ht;have:=cX.1 h t ht;simpa using this
theorem contract (H:Type) (enc:TypeId×Value->H) (W:World) (base:Nat) (args:ca) (ds gs:List (DataW H)) (before:List MemPlace)
  (HV:∀ (j:Nat) t v,Tryz.f7.params[j]? = some t->args[j]? = some v->Value.okWide Tryz.prog W .any base t v)
  (hW:DataW.Whole enc Tryz.prog Tryz.f7.params.toList Rows.hullStepsSpec.vars false W args.toList ds gs before) (hS:W.ShapedOpen Tryz.prog) (hL:laidMetH Tryz.prog Rows.hullStepsRow.laid W) (hwt:(DataW.weightsEach Tryz.prog (Tryz.f7.params.toList++(OpenSpec.ofChange Rows.hullStepsSpec).bare.plain.varTypes Tryz.prog) (ds++gs)).all (·<=reachBytes)=true) :
  Calls Tryz.prog 7 args W λe W'=>∃ v,e=.returned v/\Rows.hullStepsSpec.post enc Tryz.prog Tryz.f7 false true false false W args v W':=by
 have hW':=hW;have dp:=hW.lt;obtain ⟨p,q,hA0,hV,rfl,hfz,B4⟩:=hW;have hA:DataW.TrodAll enc Tryz.prog W 0 (λ_=>true) true Tryz.f7.params.toList args.toList ds p:=hA0;have hAk:=hA;rw [Tryz.params7] at hA HV hwt;obtain ⟨v0,vs0,d0,ds0,p0,q0,n5,rfl,rfl,h0,r0⟩:=trodAll_cons hA;obtain ⟨v1,vs1,d1,ds1,p1,q1,rfl,rfl,rfl,h1,r1⟩:=trodAll_cons r0;obtain ⟨v2,vs2,d2,ds2,p2,q2,rfl,rfl,rfl,h2,r2⟩:=trodAll_cons r1;obtain ⟨rfl,rfl,rfl⟩:=trodAll_nil r2;obtain rfl:args=#[v0,v1,v2]:=rh n5;obtain ⟨rfl,rfl⟩:=trodVars_none hV;obtain ⟨z2,rfl,rfl,rfl,w2⟩:=open_int hU (HV 2 3 v2 rfl rfl) h2
 have XC:∀ x∈d0.weights Tryz.prog 24,x<=reachBytes:=λx hx=>by
  have h9:=cX.1 hwt x (by
   simp only [bj,DataW.weightsEach];exact eE _ hx)
  simpa using h9
 have Kw:∀ x∈d1.weights Tryz.prog 27,x<=reachBytes:=λx hx=>by
  have h9:=cX.1 hwt x (by
   simp only [bj,DataW.weightsEach];exact fh _ (eE _ hx))
  simpa using h9
 have kE:GOK G0 W:=aa0 hS hL;obtain ⟨g0,bx0,tp0,nr0,md0,P0,n0,afg,wg0,wb0,wt0,wn0,wm0,rfl,x0,l0,m0,f0⟩:=ahf (HV 0 24 v0 rfl rfl) h0 XC kE;obtain ⟨R9,P1,n1,afh,QD,rfl,x1,l1,m1,f1⟩:=acV (HV 1 27 v1 rfl rfl) h1 Kw kE
 have key:l7 Tryz.prog 7 #[cfV (.slice P0 n0 afg) g0 bx0 tp0 nr0 md0,.agg #[.int .i64 R9,.slice P1 n1 afh],.int .i64 z2] W λe W'=>e=.returned (.bool true)/\Below W.heap.size W W':=by
  obtain ⟨L,nm,hLd,hlen,hx⟩:=lay (x0++x1) (λx hx=>(bh.1 hx).elim (m0 x) λhx=>m1 x hx);simp only [rf] at hlen;obtain ⟨p0,gd0,e0⟩:=f0 L nm λx h=>hx x (eE _ h);obtain ⟨p1,gd1,e1⟩:=f1 L nm λx h=>hx x (fh _ (h));have this:=aaW (args:=#[cfV (.slice p0 n0 afg) g0 bx0 tp0 nr0 md0,.agg #[.int .i64 R9,.slice p1 n1 afh],.int .i64 z2]) hLd zO (Mb (hLd.any zO) (λx hx=>by have:=(hLd.ok.big x hx).2;omega) wg0 wb0 wt0 wn0 wm0 QD gd0 gd1) rfl kE;have ea:(#[cfV (.slice p0 n0 afg) g0 bx0 tp0 nr0 md0,.agg #[.int .i64 R9,.slice p1 n1 afh],.int .i64 z2]:Array Value).map (ren nm)=#[cfV (.slice P0 n0 afg) g0 bx0 tp0 nr0 md0,.agg #[.int .i64 R9,.slice P1 n1 afh],.int .i64 z2]:=by simp [am2 e0,am3 e1,ahw]
  rwa [ea] at this
 refine key.calls.mono λe W' ⟨he,hb⟩=>?_;subst he
 exact ⟨_,rfl,KN (pv:=[]) hW' (λ_ _ _=>trodAll_cons_mk (shut_bool Tryz.underlying4 _) trodAll_mk0)
  (λsp RJ=>zZ ab6 _ _ _ _ reads_again hAk (λx hx=>hb.same (dp x (eE _ hx))) (λx hx=>RJ x (eE _ hx))) (λ_ _=>rfl) rfl hb
  (ok_one (by kernel_rfl) rfl (okWide_bool_mk Tryz.underlying4 _))⟩
def wits:Array Value:=#[.agg #[.slice none 0 0,.int .i64 0,.int .i64 0,.int .i64 0,.int .i64 0,.int .i64 0],.agg #[.int .i64 0,.slice none 0 0],.int .i64 0]
noncomputable def laidWorld (os:Os):World :=
 {World.holding Tryz.prog os ⟨#[],#[],[]⟩ with heap:=(((World.holding Tryz.prog os ⟨#[],#[],[]⟩).heap.modify 0 fun
   | .cells _ t frozen=>.cells cnB.c t frozen
   | o=>o).modify 1 fun
   | .cells _ t frozen=>.cells lsB.c t frozen
   | o=>o) }
theorem laid_met (os:Os):laidMet Tryz.prog Rows.hullStepsRow.laid ((laidWorld os).forCall (λ_ _=>0) ⟨#[],wits,[]⟩).memory :=
 laidMet_of_run' 8 (by kernel_rfl) (by kernel_rfl)
theorem reads (os:Os) {H:Type} (enc:TypeId×Value->H):∃ places,DataW.whole enc Tryz.prog ((laidWorld os).forCall (λ_ _=>0) ⟨#[],wits,[]⟩).memory Tryz.f7.params.toList Rows.hullStepsSpec.vars false wits.toList 8=some ([.agg [.nil,.lit (.int .i64 0),.lit (.int .i64 0),.lit (.int .i64 0),.lit (.int .i64 0),.lit (.int .i64 0)],.agg [.lit (.int .i64 0),.nil],.lit (.int .i64 0)],[],places) :=
 ⟨[],by kernel_rfl⟩
theorem lifted (os:Os) (started:os.Started) (H:Type) (enc:TypeId×Value->H) (F:Stop.Interp) :
  ReturnsInHanded {} Tryz.checked os 7 .any ((OpenSpec.ofChange Rows.hullStepsSpec).preRow enc Tryz.prog Tryz.f7 Rows.hullStepsRow.domain false Rows.hullStepsRow.laid) (((OpenSpec.ofChange Rows.hullStepsSpec).at F).post enc Tryz.prog Tryz.f7 false true false false):=by
 obtain ⟨places,hx⟩:=reads os enc
 refine returnsInHanded_of_row (C:=Tryz.checked) (s:=OpenSpec.ofChange Rows.hullStepsSpec) own started (by kernel_rfl) Tryz.func7
  (witness_row_at (enc:=enc) (C:=Tryz.checked) false (laidWorld os) wits rfl (by kernel_rfl) (by kernel_rfl) (by kernel_rfl)
   (OpenSpec.preRow_of_cond 8 hx (by kernel_rfl) (λk hk=>by cases hk) (by kernel_rfl) (laid_met os))) ?_
 intro W base args ds gs before HV hW _ _ hwt hL hS _;exact contract H enc W base args ds gs before HV hW hS hL hwt
theorem said:Rows.HullStepsSaid :=
 OpenClaim.holds_of_cond 7 Tryz.f7 rfl rfl rfl rfl rfl rfl rfl ⟨rfl,rfl,rfl,rfl,rfl⟩ rfl rfl rfl rfl rfl (by kernel_rfl) Tryz.func7 (by kernel_rfl)
  (gF (by kernel_rfl)) (by unfold Func.isWrapper;first|(rw [ag (by decide +kernel)];kernel_rfl)|(rw [ae (by decide +kernel)];exact ⟨rfl,rfl⟩))
  (λos started H enc _ F=>by rw [OpenClaim.pre_eq_preRow];exact lifted os started H enc F)
theorem plain (f : FuncId) (fn : Func) (hf : Tryz.pinned.checked.prog.funcNamed "gyre/gyrelaw24.HullSteps" = some f) (NF : Tryz.pinned.checked.prog.funcs[f]? = some fn) :
  true=Tryz.pinned.checked.prog.looks []/\∀ (j:Nat) t,fn.params[j]? = some t->Tryz.pinned.checked.prog.wantsStandIn t=false:=by
 obtain rfl : f = 7 := lj ((show Tryz.prog.funcNamed "gyre/gyrelaw24.HullSteps" = some 7 by kernel_rfl).symm.trans hf) |>.symm
 obtain rfl:fn=Tryz.f7:=(lj (Tryz.func7.symm.trans NF)).symm;refine ⟨by kernel_rfl,λj t ht=>?_⟩;rw [Tryz.params7] at ht;have hm:=kW ht;simp at hm;rcases (show t=24\/t=27\/t=3 by first|exact hm|exact hm.symm|(rcases hm with h|h|h|h|h|h|h|h<;>simp [h])|(rcases hm with h|h|h|h|h|h|h<;>simp [h])|(rcases hm with h|h|h|h|h|h<;>simp [h])|(rcases hm with h|h|h|h|h<;>simp [h])|(rcases hm with h|h|h|h<;>simp [h])|(rcases hm with h|h|h<;>simp [h])|(rcases hm with h|h<;>simp [h])) with rfl|rfl|rfl
 ·exact (show Tryz.prog.wantsStandIn 24=false by kernel_rfl)
 ·exact (show Tryz.prog.wantsStandIn 27=false by kernel_rfl)
 ·exact (show Tryz.prog.wantsStandIn 3=false by kernel_rfl)
theorem card:Rows.HullStepsCardSaid :=
 Claim7.holds_tied_plain_at .later [] _ _ _ _ said (λ_ h=>by cases h) (by kernel_rfl) (λ_ h=>by cases h) hullSteps_row_tie rfl ⟨rfl,rfl⟩ (by kernel_rfl) rfl plain (by kernel_rfl)
end HullSteps
theorem hullSteps_card:Rows.HullStepsCardSaid:=HullSteps.card
end Go.Proofs.YtamodcpmplmaoaaGreatDoor
