/-
  a hull holds what it took, in whatever order
 Conditions: those of the given card (the listed package-level variables are laid as the program's text lays them).
-/
import Derived.Test.YtamodcpmplmaoaaGreatDoorGz08
set_option linter.unusedSimpArgs false
set_option linter.unusedVariables false
namespace Go.Proofs.YtamodcpmplmaoaaGreatDoor
open Go Go.RowKit Go.ChangeShapes Go.WideShapes Go.ChangeAt Go.Gy
set_option maxRecDepth 100000
namespace HullHolds
theorem reads_again:∀ t∈Tryz.f5.params.toList,Tryz.prog.readableRec t=true/\t<Tryz.prog.types.size:=by
 have h:(Tryz.f5.params.toList.all λt=>Tryz.prog.readableRec t&&decide (t<Tryz.prog.types.size))=true:=by kernel_rfl
 intro t ht
 have:=List.all_eq_true.1 h t ht
 simpa using this
theorem contract (H:Type) (enc:TypeId×Value->H) (W:World) (base:Nat) (args:Array Value) (ds gs:List (DataW H)) (before:List MemPlace)
  (hval:∀ (j:Nat) t v,Tryz.f5.params[j]? = some t->args[j]? = some v->Value.okWide Tryz.prog W .any base t v)
  (hW:DataW.Whole enc Tryz.prog Tryz.f5.params.toList Rows.hullHoldsSpec.vars false W args.toList ds gs before) (hS:W.ShapedOpen Tryz.prog) (hL:laidMetH Tryz.prog Rows.hullHoldsRow.laid W) (hwt:(DataW.weightsEach Tryz.prog (Tryz.f5.params.toList++(OpenSpec.ofChange Rows.hullHoldsSpec).bare.plain.varTypes Tryz.prog) (ds++gs)).all (·<=reachBytes)=true) :
  Calls Tryz.prog 5 args W λe W'=>∃ v,e=.returned v/\Rows.hullHoldsSpec.post enc Tryz.prog Tryz.f5 false true false false W args v W':=by
 have hW':=hW
 have hlt:=hW.lt
 obtain ⟨p,q,hA0,hV,rfl,hfz,hnd⟩:=hW
 have hA:DataW.TrodAll enc Tryz.prog W 0 (λ_=>true) true Tryz.f5.params.toList args.toList ds p:=hA0
 have hAk:=hA
 rw [Tryz.params5] at hA hval hwt
 obtain ⟨v0,vs0,d0,ds0,p0,q0,hargs,rfl,rfl,h0,r0⟩:=trodAll_cons hA
 obtain ⟨v1,vs1,d1,ds1,p1,q1,rfl,rfl,rfl,h1,r1⟩:=trodAll_cons r0
 obtain ⟨v2,vs2,d2,ds2,p2,q2,rfl,rfl,rfl,h2,r2⟩:=trodAll_cons r1
 obtain ⟨rfl,rfl,rfl⟩:=trodAll_nil r2
 obtain rfl:args=#[v0,v1,v2]:=Array.ext' hargs
 obtain ⟨rfl,rfl⟩:=trodVars_none hV
 have hw1:∀ x∈d1.weights Tryz.prog 36,x<=reachBytes:=λx hx=>by
  have h9:=List.all_eq_true.1 hwt x (by
   simp only [List.cons_append,DataW.weightsEach]
   exact List.mem_append_right _ (List.mem_append_left _ hx))
  simpa using h9
 have hw2:∀ x∈d2.weights Tryz.prog 36,x<=reachBytes:=λx hx=>by
  have h9:=List.all_eq_true.1 hwt x (by
   simp only [List.cons_append,DataW.weightsEach]
   exact List.mem_append_right _ (List.mem_append_right _ (List.mem_append_left _ hx)))
  simpa using h9
 have hgok:GOK G0 W:=zz2 hS hL
 obtain ⟨N0,u0,rfl,hh0⟩:=zwq (hval 0 35 v0 rfl rfl) h0
 obtain ⟨P1,n1,cap1,rfl,x1,l1,m1,f1⟩:=zn8 (hval 1 36 v1 rfl rfl) h1 hw1 hgok
 obtain ⟨P2,n2,cap2,rfl,x2,l2,m2,f2⟩:=zn8 (hval 2 36 v2 rfl rfl) h2 hw2 hgok
 have key:zdw Tryz.prog 5 #[zbq N0 u0,.slice P1 n1 cap1,.slice P2 n2 cap2] W λe W'=>e=.returned (.bool true)/\Below W.heap.size W W':=by
  obtain ⟨L,nm,hLd,hlen,hx⟩:=lay (x1++x2) (λx hx=>(List.mem_append.1 hx).elim (m1 x) λhx=>m2 x hx)
  simp only [List.length_append] at hlen
  obtain ⟨p1,gd1,e1⟩:=f1 L nm λx h=>hx x (List.mem_append_left _ h)
  obtain ⟨p2,gd2,e2⟩:=f2 L nm λx h=>hx x (List.mem_append_right _ (h))
  have this:=zz1 (args:=#[zbq N0 u0,.slice p1 n1 cap1,.slice p2 n2 cap2]) hLd (by omega) (zmv (hLd.any (by omega)) hh0 gd1 gd2) rfl hgok
  have ea:(#[zbq N0 u0,.slice p1 n1 cap1,.slice p2 n2 cap2]:Array Value).map (ren nm)=#[zbq N0 u0,.slice P1 n1 cap1,.slice P2 n2 cap2]:=by simp [zl1,e1,e2]
  rwa [ea] at this
 refine key.calls.mono λe W' ⟨he,hb⟩=>?_
 subst he
 exact ⟨_,rfl,zl0 (pv:=[]) hW' (λ_ _ _=>trodAll_cons_mk (shut_bool Tryz.underlying4 _) trodAll_mk0)
  (λsp hsp=>zho z0h _ _ _ _ reads_again hAk (λx hx=>hb.same (hlt x (List.mem_append_left _ hx))) (λx hx=>hsp x (List.mem_append_left _ hx))) (λ_ _=>rfl) rfl hb
  (ok_one (by kernel_rfl) rfl (okWide_bool_mk Tryz.underlying4 _))⟩
def wits:Array Value:=#[zbq 0 λ_=>0,.slice none 0 0,.slice none 0 0]
noncomputable def laidWorld (os:Os):World :=
 {World.holding Tryz.prog os ⟨#[],#[],[]⟩ with heap:=(((World.holding Tryz.prog os ⟨#[],#[],[]⟩).heap.modify 0 fun
   | .cells _ t frozen=>.cells cnB.c t frozen
   | o=>o).modify 1 fun
   | .cells _ t frozen=>.cells lsB.c t frozen
   | o=>o) }
theorem laid_met (os:Os):laidMet Tryz.prog Rows.hullHoldsRow.laid ((laidWorld os).forCall (λ_ _=>0) ⟨#[],wits,[]⟩).memory :=
 laidMet_of_run' 8 (by kernel_rfl) (by kernel_rfl)
theorem reads (os:Os) {H:Type} (enc:TypeId×Value->H):∃ places,DataW.whole enc Tryz.prog ((laidWorld os).forCall (λ_ _=>0) ⟨#[],wits,[]⟩).memory Tryz.f5.params.toList Rows.hullHoldsSpec.vars false wits.toList 8=some ([jbg,.nil,.nil],[],places) :=
 ⟨[],by kernel_rfl⟩
theorem lifted (os:Os) (started:os.Started) (H:Type) (enc:TypeId×Value->H) (F:Stop.Interp) :
  ReturnsInHanded {} Tryz.checked os 5 .any ((OpenSpec.ofChange Rows.hullHoldsSpec).preRow enc Tryz.prog Tryz.f5 Rows.hullHoldsRow.domain false Rows.hullHoldsRow.laid) (((OpenSpec.ofChange Rows.hullHoldsSpec).at F).post enc Tryz.prog Tryz.f5 false true false false):=by
 obtain ⟨places,hx⟩:=reads os enc
 refine returnsInHanded_of_row (C:=Tryz.checked) (s:=OpenSpec.ofChange Rows.hullHoldsSpec) own started (by kernel_rfl) Tryz.func5
  (witness_row_at (enc:=enc) (C:=Tryz.checked) false (laidWorld os) wits rfl (by kernel_rfl) (by kernel_rfl) (by kernel_rfl)
   (OpenSpec.preRow_of_cond 8 hx (by kernel_rfl) (λk hk=>by cases hk) (by kernel_rfl) (laid_met os))) ?_
 intro W base args ds gs before hval hW _ _ hwt hL hS _
 exact contract H enc W base args ds gs before hval hW hS hL hwt
theorem said:Rows.HullHoldsSaid :=
 OpenClaim.holds_of_cond 5 Tryz.f5 rfl rfl rfl rfl rfl rfl rfl ⟨rfl,rfl,rfl,rfl,rfl⟩ rfl rfl rfl rfl rfl (by kernel_rfl) Tryz.func5 (by kernel_rfl)
  (of_decide_eq_true (by kernel_rfl)) (by unfold Func.isWrapper;first|(rw [if_pos (by decide +kernel)];kernel_rfl)|(rw [if_neg (by decide +kernel)];exact ⟨rfl,rfl⟩))
  (λos started H enc _ F=>by rw [OpenClaim.pre_eq_preRow];exact lifted os started H enc F)
theorem plain (f : FuncId) (fn : Func) (hf : Tryz.pinned.checked.prog.funcNamed "gyre/gyrelaw24.HullHolds" = some f) (hfn : Tryz.pinned.checked.prog.funcs[f]? = some fn) :
  true=Tryz.pinned.checked.prog.looks []/\∀ (j:Nat) t,fn.params[j]? = some t->Tryz.pinned.checked.prog.wantsStandIn t=false:=by
 obtain rfl : f = 5 := Option.some.inj ((show Tryz.prog.funcNamed "gyre/gyrelaw24.HullHolds" = some 5 by kernel_rfl).symm.trans hf) |>.symm
 obtain rfl:fn=Tryz.f5:=(Option.some.inj (Tryz.func5.symm.trans hfn)).symm
 refine ⟨by kernel_rfl,λj t ht=>?_⟩
 rw [Tryz.params5] at ht
 have hm:=Array.mem_of_getElem? ht
 simp at hm
 rcases (show t=35\/t=36 by first|exact hm|exact hm.symm|(rcases hm with h|h|h|h|h|h|h|h<;>simp [h])|(rcases hm with h|h|h|h|h|h|h<;>simp [h])|(rcases hm with h|h|h|h|h|h<;>simp [h])|(rcases hm with h|h|h|h|h<;>simp [h])|(rcases hm with h|h|h|h<;>simp [h])|(rcases hm with h|h|h<;>simp [h])|(rcases hm with h|h<;>simp [h])) with rfl|rfl
 ·exact (show Tryz.prog.wantsStandIn 35=false by kernel_rfl)
 ·exact (show Tryz.prog.wantsStandIn 36=false by kernel_rfl)
theorem card:Rows.HullHoldsCardSaid :=
 Claim7.holds_tied_plain_at .later [] _ _ _ _ said (λ_ h=>by cases h) (by kernel_rfl) (λ_ h=>by cases h) hullHolds_row_tie rfl ⟨rfl,rfl⟩ (by kernel_rfl) rfl plain (by kernel_rfl)
end HullHolds
theorem hullHolds_card:Rows.HullHoldsCardSaid:=HullHolds.card
end Go.Proofs.YtamodcpmplmaoaaGreatDoor
