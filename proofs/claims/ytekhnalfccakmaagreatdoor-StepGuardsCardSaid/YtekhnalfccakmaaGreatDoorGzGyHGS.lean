/-
  StepGuards answers true.
 Conditions: those of the given card (the listed package-level variables are laid as the program's text lays them).
-/
import Derived.Test.YtekhnalfccakmaaGreatDoorGz09
set_option linter.unusedSimpArgs false
set_option linter.unusedVariables false
namespace Go.Proofs.YtekhnalfccakmaaGreatDoor
open Go Go.RowKit Go.ChangeShapes Go.WideShapes Go.ChangeAt Go.Gy
set_option maxRecDepth 100000
namespace StepGuards
theorem reads_again:∀ t∈Tryz.f4.params.toList,Tryz.prog.readableRec t=true/\t<Tryz.prog.types.size:=by
 have h:(Tryz.f4.params.toList.all λt=>Tryz.prog.readableRec t&&decide (t<Tryz.prog.types.size))=true:=by kernel_rfl
 intro t ht;have:=dL.1 h t ht;simpa using this
theorem contract (H:Type) (enc:TypeId×Value->H) (W:World) (base:Nat) (args:bV) (ds gs:List (DataW H)) (before:List MemPlace)
  (GC:∀ (j:Nat) t v,Tryz.f4.params[j]? = some t->args[j]? = some v->Value.okWide Tryz.prog W .any base t v)
  (hW:DataW.Whole enc Tryz.prog Tryz.f4.params.toList Rows.stepGuardsSpec.vars false W args.toList ds gs before) (hS:W.ShapedOpen Tryz.prog) (hL:laidMetH Tryz.prog Rows.stepGuardsRow.laid W) (hwt:(DataW.weightsEach Tryz.prog (Tryz.f4.params.toList++(OpenSpec.ofChange Rows.stepGuardsSpec).bare.plain.varTypes Tryz.prog) (ds++gs)).all (·<=reachBytes)=true) :
  Calls Tryz.prog 4 args W λe W'=>∃ v,e=.returned v/\Rows.stepGuardsSpec.post enc Tryz.prog Tryz.f4 false true false false W args v W':=by
 have hW':=hW;have cA:=hW.lt;obtain ⟨p,q,hA0,hV,rfl,hfz,BS⟩:=hW;have hA:DataW.TrodAll enc Tryz.prog W 0 (λ_=>true) true Tryz.f4.params.toList args.toList ds p:=hA0;have hAk:=hA;rw [Tryz.params4] at hA GC hwt;obtain ⟨v0,vs0,d0,ds0,p0,q0,kv,rfl,rfl,h0,r0⟩:=trodAll_cons hA;obtain ⟨v1,vs1,d1,ds1,p1,q1,rfl,rfl,rfl,h1,r1⟩:=trodAll_cons r0;obtain ⟨v2,vs2,d2,ds2,p2,q2,rfl,rfl,rfl,h2,r2⟩:=trodAll_cons r1;obtain ⟨rfl,rfl,rfl⟩:=trodAll_nil r2;obtain rfl:args=#[v0,v1,v2]:=jk kv;obtain ⟨rfl,rfl⟩:=trodVars_none hV;obtain ⟨g0,bx0,tp0,nr0,md0,wg0,wb0,wt0,wn0,wm0,arO⟩:=Un (GC 0 24 v0 rfl rfl) h0;obtain ⟨st1,SR,arP⟩:=Qj (GC 1 27 v1 rfl rfl) h1;obtain ⟨k2,y2,z2,wk2,wy2,wz2,rfl,rfl,rfl⟩:=acW (GC 2 33 v2 rfl rfl) h2
 have VC:∀ x∈d0.weights Tryz.prog 24,x<=reachBytes:=λx hx=>by
  have h9:=dL.1 hwt x (by
   simp only [bq,DataW.weightsEach];exact fB _ hx)
  simpa using h9
 have hw1:∀ x∈d1.weights Tryz.prog 27,x<=reachBytes:=λx hx=>by
  have h9:=dL.1 hwt x (by
   simp only [bq,DataW.weightsEach];exact lK _ (fB _ hx))
  simpa using h9
 have fM:GOK G1 W:=TH hS hL
 have key:jD Tryz.prog 4 #[v0,v1,.agg #[.int .u8 k2,.int .i64 y2,.int .i64 z2]] W λe W'=>e=.returned (.bool true)/\Below W.heap.size W W':=by
  rcases arO with rfl|⟨k0,acH,n0,aa2,b0,f0,rfl,LZ⟩<;>rcases arP with rfl|⟨k1,ahD,n1,afI,b1,f1,rfl,KO⟩
  ·exact (I6 g0 bx0 tp0 nr0 md0 st1 k2 y2 z2 wg0 wb0 wt0 wn0 wm0 SR (KB wk2) (jh wy2) (jh wz2)).2.2.2 W fM
  ·have hn1:=fS KO.le (Wu h1 hw1);have:=A8 G1F (I7 b1 ahD n1 afI f1 (KO.sb hn1) KO.le g0 bx0 tp0 nr0 md0 st1 k2 y2 z2 wg0 wb0 wt0 wn0 wm0 SR (KB wk2) (jh wy2) (jh wz2)) rfl fM KO.fx KO.heap (KO.ne1 fM);simpa [ren,aT,aw,aA,cfV] using this
  ·have hn0:=fS LZ.le (Rl h0 VC);by_cases hk:k0=2
   ·have hl:=LZ.lim fM hk hn0;subst hk;have:=Xi G1F (yD [] 2 lmB ⟨.inr ⟨rfl,rfl,rfl⟩,pM⟩ acH n0 aa2 f0 hl LZ.le g0 bx0 tp0 nr0 md0 st1 k2 y2 z2 wg0 wb0 wt0 wn0 wm0 SR (KB wk2) (jh wy2) (jh wz2)) rfl fM;simpa [ren,aT,aw,aA,cfV] using this
   ·have:=A8 G1F (yD [(100,b0)] 100 b0 ⟨.inl ⟨rfl,rfl⟩,LZ.fx⟩ acH n0 aa2 f0 (LZ.mb hn0) LZ.le g0 bx0 tp0 nr0 md0 st1 k2 y2 z2 wg0 wb0 wt0 wn0 wm0 SR (KB wk2) (jh wy2) (jh wz2)) rfl fM LZ.fx LZ.heap (LZ.ne1 fM hk);simpa [ren,aT,aw,aA,cfV] using this
  ·have hn0:=fS LZ.le (Rl h0 VC);have hn1:=fS KO.le (Wu h1 hw1);by_cases hk:k0=2
   ·have hl:=LZ.lim fM hk hn0;subst hk;have:=A8 G1F (uA [(100,b1)] 2 100 lmB b1 (LKa.lim KO.fx) acH n0 aa2 f0 hl LZ.le ahD n1 afI f1 (KO.sb hn1) KO.le g0 bx0 tp0 nr0 md0 st1 k2 y2 z2 wg0 wb0 wt0 wn0 wm0 SR (KB wk2) (jh wy2) (jh wz2)) rfl fM KO.fx KO.heap (KO.ne1 fM);simpa [ren,aT,aw,aA,cfV] using this
   ·refine abw G1F (λL ks hT=>uA L 100 ks b0 b1 (LKa.of hT) acH n0 aa2 f0 (LZ.mb hn0) LZ.le ahD n1 afI f1 (KO.sb hn1) KO.le g0 bx0 tp0 nr0 md0 st1 k2 y2 z2 wg0 wb0 wt0 wn0 wm0 SR (KB wk2) (jh wy2) (jh wz2)) rfl fM LZ.fx KO.fx LZ.heap KO.heap LZ.raw KO.raw (LZ.ne1 fM hk) (KO.ne1 fM) ?_;rintro ks (⟨rfl,rfl⟩|rfl)<;>simp [ren,aT,aw,aA,cfV]
 refine key.calls.mono λe W' ⟨he,hb⟩=>?_;subst he
 exact ⟨_,rfl,Jq (pv:=[]) hW' (λ_ _ _=>trodAll_cons_mk (shut_bool Tryz.underlying4 _) trodAll_mk0)
  (λsp hsp=>yM X3 _ _ _ _ reads_again hAk (λx hx=>hb.same (cA x (fB _ hx))) (λx hx=>hsp x (fB _ hx))) (λ_ _=>rfl) rfl hb
  (ok_one (by kernel_rfl) rfl (okWide_bool_mk Tryz.underlying4 _))⟩
def wits:Array Value:=#[.agg #[.slice none 0 0,.int .i64 0,.int .i64 0,.int .i64 0,.int .i64 0,.int .i64 0],.agg #[.int .i64 0,.slice none 0 0],.agg #[.int .u8 0,.int .i64 0,.int .i64 0]]
noncomputable def laidWorld (os:Os):World :=
 {World.holding Tryz.prog os ⟨#[],#[],[]⟩ with heap:=((((World.holding Tryz.prog os ⟨#[],#[],[]⟩).heap.modify 1 fun
   | .cells _ t frozen=>.cells cnB.c t frozen
   | o=>o).modify 3 fun
   | .cells _ t frozen=>.cells lsB.c t frozen
   | o=>o).modify 2 fun
   | .cells _ t frozen=>.cells lmB.c t frozen
   | o=>o) }
theorem laid_met (os:Os):laidMet Tryz.prog Rows.stepGuardsRow.laid ((laidWorld os).forCall (λ_ _=>0) ⟨#[],wits,[]⟩).memory :=
 laidMet_of_run' 8 (by kernel_rfl) (by kernel_rfl)
theorem reads (os:Os) {H:Type} (enc:TypeId×Value->H):∃ places,DataW.whole enc Tryz.prog ((laidWorld os).forCall (λ_ _=>0) ⟨#[],wits,[]⟩).memory Tryz.f4.params.toList Rows.stepGuardsSpec.vars false wits.toList 8=some ([.agg [.nil,.lit (.int .i64 0),.lit (.int .i64 0),.lit (.int .i64 0),.lit (.int .i64 0),.lit (.int .i64 0)],.agg [.lit (.int .i64 0),.nil],.agg [.lit (.int .u8 0),.lit (.int .i64 0),.lit (.int .i64 0)]],[],places) :=
 ⟨[],by kernel_rfl⟩
theorem lifted (os:Os) (started:os.Started) (H:Type) (enc:TypeId×Value->H) (F:Stop.Interp) :
  ReturnsInHanded {} Tryz.checked os 4 .any ((OpenSpec.ofChange Rows.stepGuardsSpec).preRow enc Tryz.prog Tryz.f4 Rows.stepGuardsRow.domain false Rows.stepGuardsRow.laid) (((OpenSpec.ofChange Rows.stepGuardsSpec).at F).post enc Tryz.prog Tryz.f4 false true false false):=by
 obtain ⟨places,hx⟩:=reads os enc
 refine returnsInHanded_of_row (C:=Tryz.checked) (s:=OpenSpec.ofChange Rows.stepGuardsSpec) own started (by kernel_rfl) Tryz.func4
  (witness_row_at (enc:=enc) (C:=Tryz.checked) false (laidWorld os) wits rfl (by kernel_rfl) (by kernel_rfl) (by kernel_rfl)
   (OpenSpec.preRow_of_cond 8 hx (by kernel_rfl) (λk hk=>by cases hk) (by kernel_rfl) (laid_met os))) ?_
 intro W base args ds gs before GC hW _ _ hwt hL hS _;exact contract H enc W base args ds gs before GC hW hS hL hwt
theorem said:Rows.StepGuardsSaid :=
 OpenClaim.holds_of_cond 4 Tryz.f4 rfl rfl rfl rfl rfl rfl rfl ⟨rfl,rfl,rfl,rfl,rfl⟩ rfl rfl rfl rfl rfl (by kernel_rfl) Tryz.func4 (by kernel_rfl)
  (nQ (by kernel_rfl)) (by unfold Func.isWrapper;first|(rw [ai (by decide +kernel)];kernel_rfl)|(rw [ab (by decide +kernel)];exact ⟨rfl,rfl⟩))
  (λos started H enc _ F=>by rw [OpenClaim.pre_eq_preRow];exact lifted os started H enc F)
theorem plain (f : FuncId) (fn : Func) (hf : Tryz.pinned.checked.prog.funcNamed "gyre/gyrelaw18.StepGuards" = some f) (Gw : Tryz.pinned.checked.prog.funcs[f]? = some fn) :
  true=Tryz.pinned.checked.prog.looks []/\∀ (j:Nat) t,fn.params[j]? = some t->Tryz.pinned.checked.prog.wantsStandIn t=false:=by
 obtain rfl : f = 4 := kj ((show Tryz.prog.funcNamed "gyre/gyrelaw18.StepGuards" = some 4 by kernel_rfl).symm.trans hf) |>.symm
 obtain rfl:fn=Tryz.f4:=(kj (Tryz.func4.symm.trans Gw)).symm;refine ⟨by kernel_rfl,λj t ht=>?_⟩;rw [Tryz.params4] at ht;have hm:=ke ht;simp at hm;rcases (show t=24\/t=27\/t=33 by first|exact hm|exact hm.symm|(rcases hm with h|h|h|h|h|h|h|h<;>simp [h])|(rcases hm with h|h|h|h|h|h|h<;>simp [h])|(rcases hm with h|h|h|h|h|h<;>simp [h])|(rcases hm with h|h|h|h|h<;>simp [h])|(rcases hm with h|h|h|h<;>simp [h])|(rcases hm with h|h|h<;>simp [h])|(rcases hm with h|h<;>simp [h])) with rfl|rfl|rfl
 ·exact (show Tryz.prog.wantsStandIn 24=false by kernel_rfl)
 ·exact (show Tryz.prog.wantsStandIn 27=false by kernel_rfl)
 ·exact (show Tryz.prog.wantsStandIn 33=false by kernel_rfl)
theorem card:Rows.StepGuardsCardSaid :=
 Claim7.holds_tied_plain_at .later [] _ _ _ _ said (λ_ h=>by cases h) (by kernel_rfl) (λ_ h=>by cases h) stepGuards_row_tie rfl ⟨rfl,rfl⟩ (by kernel_rfl) rfl plain (by kernel_rfl)
end StepGuards
theorem stepGuards_card:Rows.StepGuardsCardSaid:=StepGuards.card
end Go.Proofs.YtekhnalfccakmaaGreatDoor
