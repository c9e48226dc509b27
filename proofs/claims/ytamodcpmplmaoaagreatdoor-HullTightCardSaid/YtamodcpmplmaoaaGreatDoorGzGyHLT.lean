/-
  each end of a hull is an end of a loss that was taken: it is no wider than it must be.
 Conditions: those of the given card (the listed package-level variables are laid as the program's text lays them).
-/
import Derived.Test.YtamodcpmplmaoaaGreatDoorGz09
set_option linter.unusedSimpArgs false
set_option linter.unusedVariables false
namespace Go.Proofs.YtamodcpmplmaoaaGreatDoor
open Go Go.RowKit Go.ChangeShapes Go.WideShapes Go.ChangeAt Go.Gy
set_option maxRecDepth 100000
namespace HullTight
theorem reads_again:∀ t∈Tryz.f6.params.toList,Tryz.prog.readableRec t=true/\t<Tryz.prog.types.size:=by
 have h:(Tryz.f6.params.toList.all λt=>Tryz.prog.readableRec t&&decide (t<Tryz.prog.types.size))=true:=by kernel_rfl
 intro t ht
 have:=List.all_eq_true.1 h t ht
 simpa using this
theorem contract (H:Type) (enc:TypeId×Value->H) (W:World) (base:Nat) (args:Array Value) (ds gs:List (DataW H)) (before:List MemPlace)
  (hval:∀ (j:Nat) t v,Tryz.f6.params[j]? = some t->args[j]? = some v->Value.okWide Tryz.prog W .any base t v)
  (hW:DataW.Whole enc Tryz.prog Tryz.f6.params.toList Rows.hullTightSpec.vars false W args.toList ds gs before) (hS:W.ShapedOpen Tryz.prog) (hL:laidMetH Tryz.prog Rows.hullTightRow.laid W) (hwt:(DataW.weightsEach Tryz.prog (Tryz.f6.params.toList++(OpenSpec.ofChange Rows.hullTightSpec).bare.plain.varTypes Tryz.prog) (ds++gs)).all (·<=reachBytes)=true) :
  Calls Tryz.prog 6 args W λe W'=>∃ v,e=.returned v/\Rows.hullTightSpec.post enc Tryz.prog Tryz.f6 false true false false W args v W':=by
 have hW':=hW
 have hlt:=hW.lt
 obtain ⟨p,q,hA0,hV,rfl,hfz,hnd⟩:=hW
 have hA:DataW.TrodAll enc Tryz.prog W 0 (λ_=>true) true Tryz.f6.params.toList args.toList ds p:=hA0
 have hAk:=hA
 rw [Tryz.params6] at hA hval hwt
 obtain ⟨v0,vs0,d0,ds0,p0,q0,hargs,rfl,rfl,h0,r0⟩:=trodAll_cons hA
 obtain ⟨rfl,rfl,rfl⟩:=trodAll_nil r0
 obtain rfl:args=#[v0]:=Array.ext' hargs
 obtain ⟨rfl,rfl⟩:=trodVars_none hV
 have hst0:=zqu (hval 0 36 v0 rfl rfl) h0
 have hw0:∀ x∈d0.weights Tryz.prog 36,x<=reachBytes:=λx hx=>by
  have h9:=List.all_eq_true.1 hwt x (by
   simp only [List.cons_append,DataW.weightsEach]
   exact List.mem_append_left _ hx)
  simpa using h9
 have hgok:GOK G0 W:=z1z hS hL
 have key:zd3 Tryz.prog 6 #[v0] W λe W'=>e=.returned (.bool true)/\Below W.heap.size W W':=by
  rcases hst0 with rfl|⟨k0,off0,n0,cap0,b0,f0,rfl,at0⟩
  ·exact (zpx  ).2.2.2 W hgok
  ·have hn0:=Nat.le_trans at0.le (z7c h0 hw0)
   have:=zw1 G0F (zl0 b0 off0 n0 cap0 f0 (at0.lb hn0) at0.le  ) rfl hgok at0.fx at0.heap (at0.ne hgok)
   simpa [ren,za1,zak,zan,cfV] using this
 refine key.calls.mono λe W' ⟨he,hb⟩=>?_
 subst he
 exact ⟨_,rfl,zmv (pv:=[]) hW' (λ_ _ _=>trodAll_cons_mk (shut_bool Tryz.underlying4 _) trodAll_mk0)
  (λsp hsp=>zh2 z2h _ _ _ _ reads_again hAk (λx hx=>hb.same (hlt x (List.mem_append_left _ hx))) (λx hx=>hsp x (List.mem_append_left _ hx))) (λ_ _=>rfl) rfl hb
  (ok_one (by kernel_rfl) rfl (okWide_bool_mk Tryz.underlying4 _))⟩
def wits:Array Value:=#[.slice none 0 0]
noncomputable def laidWorld (os:Os):World :=
 {World.holding Tryz.prog os ⟨#[],#[],[]⟩ with heap:=(((World.holding Tryz.prog os ⟨#[],#[],[]⟩).heap.modify 0 fun
   | .cells _ t frozen=>.cells cnB.c t frozen
   | o=>o).modify 1 fun
   | .cells _ t frozen=>.cells lsB.c t frozen
   | o=>o) }
theorem laid_met (os:Os):laidMet Tryz.prog Rows.hullTightRow.laid ((laidWorld os).forCall (λ_ _=>0) ⟨#[],wits,[]⟩).memory :=
 laidMet_of_run' 8 (by kernel_rfl) (by kernel_rfl)
theorem reads (os:Os) {H:Type} (enc:TypeId×Value->H):∃ places,DataW.whole enc Tryz.prog ((laidWorld os).forCall (λ_ _=>0) ⟨#[],wits,[]⟩).memory Tryz.f6.params.toList Rows.hullTightSpec.vars false wits.toList 8=some ([.nil],[],places) :=
 ⟨[],by kernel_rfl⟩
theorem lifted (os:Os) (started:os.Started) (H:Type) (enc:TypeId×Value->H) (F:Stop.Interp) :
  ReturnsInHanded {} Tryz.checked os 6 .any ((OpenSpec.ofChange Rows.hullTightSpec).preRow enc Tryz.prog Tryz.f6 Rows.hullTightRow.domain false Rows.hullTightRow.laid) (((OpenSpec.ofChange Rows.hullTightSpec).at F).post enc Tryz.prog Tryz.f6 false true false false):=by
 obtain ⟨places,hx⟩:=reads os enc
 refine returnsInHanded_of_row (C:=Tryz.checked) (s:=OpenSpec.ofChange Rows.hullTightSpec) own started (by kernel_rfl) Tryz.func6
  (witness_row_at (enc:=enc) (C:=Tryz.checked) false (laidWorld os) wits rfl (by kernel_rfl) (by kernel_rfl) (by kernel_rfl)
   (OpenSpec.preRow_of_cond 8 hx (by kernel_rfl) (λk hk=>by cases hk) (by kernel_rfl) (laid_met os))) ?_
 intro W base args ds gs before hval hW _ _ hwt hL hS _
 exact contract H enc W base args ds gs before hval hW hS hL hwt
theorem said:Rows.HullTightSaid :=
 OpenClaim.holds_of_cond 6 Tryz.f6 rfl rfl rfl rfl rfl rfl rfl ⟨rfl,rfl,rfl,rfl,rfl⟩ rfl rfl rfl rfl rfl (by kernel_rfl) Tryz.func6 (by kernel_rfl)
  (of_decide_eq_true (by kernel_rfl)) (by unfold Func.isWrapper;first|(rw [if_pos (by decide +kernel)];kernel_rfl)|(rw [if_neg (by decide +kernel)];exact ⟨rfl,rfl⟩))
  (λos started H enc _ F=>by rw [OpenClaim.pre_eq_preRow];exact lifted os started H enc F)
theorem plain (f : FuncId) (fn : Func) (hf : Tryz.pinned.checked.prog.funcNamed "gyre/gyrelaw24.HullTight" = some f) (hfn : Tryz.pinned.checked.prog.funcs[f]? = some fn) :
  true=Tryz.pinned.checked.prog.looks []/\∀ (j:Nat) t,fn.params[j]? = some t->Tryz.pinned.checked.prog.wantsStandIn t=false:=by
 obtain rfl : f = 6 := Option.some.inj ((show Tryz.prog.funcNamed "gyre/gyrelaw24.HullTight" = some 6 by kernel_rfl).symm.trans hf) |>.symm
 obtain rfl:fn=Tryz.f6:=(Option.some.inj (Tryz.func6.symm.trans hfn)).symm
 refine ⟨by kernel_rfl,λj t ht=>?_⟩
 rw [Tryz.params6] at ht
 have hm:=Array.mem_of_getElem? ht
 simp at hm
 subst hm
 exact (show Tryz.prog.wantsStandIn 36=false by kernel_rfl)
theorem card:Rows.HullTightCardSaid :=
 Claim7.holds_tied_plain_at .later [] _ _ _ _ said (λ_ h=>by cases h) (by kernel_rfl) (λ_ h=>by cases h) hullTight_row_tie rfl ⟨rfl,rfl⟩ (by kernel_rfl) rfl plain (by kernel_rfl)
end HullTight
theorem hullTight_card:Rows.HullTightCardSaid:=HullTight.card
end Go.Proofs.YtamodcpmplmaoaaGreatDoor
