/-
  Whatever is asked of a configuration of at most 9 masses and a state of at most 9 bodies, who fits, kicks of one, of all, states behind and who is still are as the document says.
 Conditions: those of the given card (the listed package-level variables are laid as the program's text lays them).
-/
import Derived.Test.YtmnknnojkhkceaaGreatDoorGz08
set_option linter.unusedSimpArgs false
set_option linter.unusedVariables false
namespace Go.Proofs.YtmnknnojkhkceaaGreatDoor
open Go Go.RowKit Go.ChangeShapes Go.WideShapes Go.ChangeAt Go.Gy
set_option maxRecDepth 100000
namespace KickTells
theorem reads_again:∀ t∈Tryz.f3.params.toList,Tryz.prog.readableRec t=true/\t<Tryz.prog.types.size:=by
 have h:(Tryz.f3.params.toList.all λt=>Tryz.prog.readableRec t&&decide (t<Tryz.prog.types.size))=true:=by kernel_rfl
 intro t ht
 have:=List.all_eq_true.1 h t ht
 simpa using this
theorem contract (H:Type) (enc:TypeId×Value->H) (W:World) (base:Nat) (args:Array Value) (ds gs:List (DataW H)) (before:List MemPlace)
  (hval:∀ (j:Nat) t v,Tryz.f3.params[j]? = some t->args[j]? = some v->Value.okWide Tryz.prog W .any base t v)
  (hW:DataW.Whole enc Tryz.prog Tryz.f3.params.toList Rows.kickTellsSpec.vars false W args.toList ds gs before) (hS:W.ShapedOpen Tryz.prog) (hL:laidMetH Tryz.prog Rows.kickTellsRow.laid W) (hwt:(DataW.weightsEach Tryz.prog (Tryz.f3.params.toList++(OpenSpec.ofChange Rows.kickTellsSpec).bare.plain.varTypes Tryz.prog) (ds++gs)).all (·<=reachBytes)=true) :
  Calls Tryz.prog 3 args W λe W'=>∃ v,e=.returned v/\Rows.kickTellsSpec.post enc Tryz.prog Tryz.f3 false true false false W args v W':=by
 have hW':=hW
 have hlt:=hW.lt
 obtain ⟨p,q,hA0,hV,rfl,hfz,hnd⟩:=hW
 have hA:DataW.TrodAll enc Tryz.prog W 0 (λ_=>true) true Tryz.f3.params.toList args.toList ds p:=hA0
 have hAk:=hA
 rw [Tryz.params3] at hA hval hwt
 obtain ⟨v0,vs0,d0,ds0,p0,q0,hargs,rfl,rfl,h0,r0⟩:=trodAll_cons hA
 obtain ⟨v1,vs1,d1,ds1,p1,q1,rfl,rfl,rfl,h1,r1⟩:=trodAll_cons r0
 obtain ⟨v2,vs2,d2,ds2,p2,q2,rfl,rfl,rfl,h2,r2⟩:=trodAll_cons r1
 obtain ⟨v3,vs3,d3,ds3,p3,q3,rfl,rfl,rfl,h3,r3⟩:=trodAll_cons r2
 obtain ⟨v4,vs4,d4,ds4,p4,q4,rfl,rfl,rfl,h4,r4⟩:=trodAll_cons r3
 obtain ⟨rfl,rfl,rfl⟩:=trodAll_nil r4
 obtain rfl:args=#[v0,v1,v2,v3,v4]:=Array.ext' hargs
 obtain ⟨rfl,rfl⟩:=trodVars_none hV
 obtain ⟨g0,bx0,tp0,nr0,md0,wg0,wb0,wt0,wn0,wm0,hst0⟩:=zzl (hval 0 24 v0 rfl rfl) h0
 obtain ⟨st1,ws1,hst1⟩:=zvc (hval 1 27 v1 rfl rfl) h1
 obtain ⟨z2,rfl,rfl,rfl,w2⟩:=open_int Tryz.underlying3 (hval 2 3 v2 rfl rfl) h2
 obtain ⟨z3,rfl,rfl,rfl,w3⟩:=open_int Tryz.underlying3 (hval 3 3 v3 rfl rfl) h3
 obtain ⟨z4,rfl,rfl,rfl,w4⟩:=open_int Tryz.underlying3 (hval 4 3 v4 rfl rfl) h4
 have hw0:∀ x∈d0.weights Tryz.prog 24,x<=reachBytes:=λx hx=>by
  have h9:=List.all_eq_true.1 hwt x (by
   simp only [List.cons_append,DataW.weightsEach]
   exact List.mem_append_left _ hx)
  simpa using h9
 have hw1:∀ x∈d1.weights Tryz.prog 27,x<=reachBytes:=λx hx=>by
  have h9:=List.all_eq_true.1 hwt x (by
   simp only [List.cons_append,DataW.weightsEach]
   exact List.mem_append_right _ (List.mem_append_left _ hx))
  simpa using h9
 have hgok:GOK G1 W:=zx6 hS hL
 have key:zef Tryz.prog 3 #[v0,v1,.int .i64 z2,.int .i64 z3,.int .i64 z4] W λe W'=>e=.returned (.bool true)/\Below W.heap.size W W':=by
  rcases hst0 with rfl|⟨k0,off0,n0,cap0,b0,f0,rfl,at0⟩<;>rcases hst1 with rfl|⟨k1,off1,n1,cap1,b1,f1,rfl,at1⟩
  ·exact (zn4 g0 bx0 tp0 nr0 md0 st1 z2 z3 z4 wg0 wb0 wt0 wn0 wm0 ws1 (zc4 w2) (zc4 w3) (zc4 w4)).2.2.2 W hgok
  ·have hn1:=Nat.le_trans at1.le (z56 h1 hw1)
   have:=zkh G1F (zn5 b1 off1 n1 cap1 f1 (at1.sb hn1) at1.le g0 bx0 tp0 nr0 md0 st1 z2 z3 z4 wg0 wb0 wt0 wn0 wm0 ws1 (zc4 w2) (zc4 w3) (zc4 w4)) rfl hgok at1.fx at1.heap (at1.ne1 hgok)
   simpa [ren,zas,zan,zao,cfV] using this
  ·have hn0:=Nat.le_trans at0.le (zxj h0 hw0)
   by_cases hk:k0=0
   ·have hl:=at0.lim hgok hk hn0
    subst hk
    have:=z3e G1F (zjd [] 0 lmB ⟨.inr ⟨rfl,rfl,rfl⟩,zjj⟩ off0 n0 cap0 f0 hl at0.le g0 bx0 tp0 nr0 md0 st1 z2 z3 z4 wg0 wb0 wt0 wn0 wm0 ws1 (zc4 w2) (zc4 w3) (zc4 w4)) rfl hgok
    simpa [ren,zas,zan,zao,cfV] using this
   ·have:=zkh G1F (zjd [(100,b0)] 100 b0 ⟨.inl ⟨rfl,rfl⟩,at0.fx⟩ off0 n0 cap0 f0 (at0.mb hn0) at0.le g0 bx0 tp0 nr0 md0 st1 z2 z3 z4 wg0 wb0 wt0 wn0 wm0 ws1 (zc4 w2) (zc4 w3) (zc4 w4)) rfl hgok at0.fx at0.heap (at0.ne1 hgok hk)
    simpa [ren,zas,zan,zao,cfV] using this
  ·have hn0:=Nat.le_trans at0.le (zxj h0 hw0)
   have hn1:=Nat.le_trans at1.le (z56 h1 hw1)
   by_cases hk:k0=0
   ·have hl:=at0.lim hgok hk hn0
    subst hk
    have:=zkh G1F (zhx [(100,b1)] 0 100 lmB b1 (LKa.lim at1.fx) off0 n0 cap0 f0 hl at0.le off1 n1 cap1 f1 (at1.sb hn1) at1.le g0 bx0 tp0 nr0 md0 st1 z2 z3 z4 wg0 wb0 wt0 wn0 wm0 ws1 (zc4 w2) (zc4 w3) (zc4 w4)) rfl hgok at1.fx at1.heap (at1.ne1 hgok)
    simpa [ren,zas,zan,zao,cfV] using this
   ·refine z81 G1F (λL ks hT=>zhx L 100 ks b0 b1 (LKa.of hT) off0 n0 cap0 f0 (at0.mb hn0) at0.le off1 n1 cap1 f1 (at1.sb hn1) at1.le g0 bx0 tp0 nr0 md0 st1 z2 z3 z4 wg0 wb0 wt0 wn0 wm0 ws1 (zc4 w2) (zc4 w3) (zc4 w4)) rfl hgok at0.fx at1.fx at0.heap at1.heap at0.raw at1.raw (at0.ne1 hgok hk) (at1.ne1 hgok) ?_
    rintro ks (⟨rfl,rfl⟩|rfl)<;>simp [ren,zas,zan,zao,cfV]
 refine key.calls.mono λe W' ⟨he,hb⟩=>?_
 subst he
 exact ⟨_,rfl,zni (pv:=[]) hW' (λ_ _ _=>trodAll_cons_mk (shut_bool Tryz.underlying4 _) trodAll_mk0)
  (λsp hsp=>zin z3r _ _ _ _ reads_again hAk (λx hx=>hb.same (hlt x (List.mem_append_left _ hx))) (λx hx=>hsp x (List.mem_append_left _ hx))) (λ_ _=>rfl) rfl hb
  (ok_one (by kernel_rfl) rfl (okWide_bool_mk Tryz.underlying4 _))⟩
def wits:Array Value:=#[.agg #[.slice none 0 0,.int .i64 0,.int .i64 0,.int .i64 0,.int .i64 0,.int .i64 0],.agg #[.int .i64 0,.slice none 0 0],.int .i64 0,.int .i64 0,.int .i64 0]
noncomputable def laidWorld (os:Os):World :=
 { World.holding Tryz.prog os ⟨#[],#[],[]⟩ with heap:=((((World.holding Tryz.prog os ⟨#[],#[],[]⟩).heap.modify 1 fun
   | .cells _ t frozen=>.cells cnB.c t frozen
   | o=>o).modify 2 fun
   | .cells _ t frozen=>.cells lsB.c t frozen
   | o=>o).modify 0 fun
   | .cells _ t frozen=>.cells lmB.c t frozen
   | o=>o) }
theorem laid_met (os:Os):laidMet Tryz.prog Rows.kickTellsRow.laid ((laidWorld os).forCall (λ_ _=>0) ⟨#[],wits,[]⟩).memory :=
 laidMet_of_run' 8 (by kernel_rfl) (by kernel_rfl)
theorem reads (os:Os) {H:Type} (enc:TypeId×Value->H):∃ places,DataW.whole enc Tryz.prog ((laidWorld os).forCall (λ_ _=>0) ⟨#[],wits,[]⟩).memory Tryz.f3.params.toList Rows.kickTellsSpec.vars false wits.toList 8=some ([.agg [.nil,.lit (.int .i64 0),.lit (.int .i64 0),.lit (.int .i64 0),.lit (.int .i64 0),.lit (.int .i64 0)],.agg [.lit (.int .i64 0),.nil],.lit (.int .i64 0),.lit (.int .i64 0),.lit (.int .i64 0)],[],places) :=
 ⟨[],by kernel_rfl⟩
theorem lifted (os:Os) (started:os.Started) (H:Type) (enc:TypeId×Value->H) (F:Stop.Interp) :
  ReturnsInHanded {} Tryz.checked os 3 .any ((OpenSpec.ofChange Rows.kickTellsSpec).preRow enc Tryz.prog Tryz.f3 Rows.kickTellsRow.domain false Rows.kickTellsRow.laid) (((OpenSpec.ofChange Rows.kickTellsSpec).at F).post enc Tryz.prog Tryz.f3 false true false false):=by
 obtain ⟨places,hx⟩:=reads os enc
 refine returnsInHanded_of_row (C:=Tryz.checked) (s:=OpenSpec.ofChange Rows.kickTellsSpec) own started (by kernel_rfl) Tryz.func3
  (witness_row_at (enc:=enc) (C:=Tryz.checked) false (laidWorld os) wits rfl (by kernel_rfl) (by kernel_rfl) (by kernel_rfl)
   (OpenSpec.preRow_of_cond 8 hx (by kernel_rfl) (λk hk=>by cases hk) (by kernel_rfl) (laid_met os))) ?_
 intro W base args ds gs before hval hW _ _ hwt hL hS _
 exact contract H enc W base args ds gs before hval hW hS hL hwt
theorem said:Rows.KickTellsSaid :=
 OpenClaim.holds_of_cond 3 Tryz.f3 rfl rfl rfl rfl rfl rfl rfl ⟨rfl,rfl,rfl,rfl,rfl⟩ rfl rfl rfl rfl rfl (by kernel_rfl) Tryz.func3 (by kernel_rfl)
  (of_decide_eq_true (by kernel_rfl)) (by unfold Func.isWrapper;first|(rw [if_pos (by decide +kernel)];kernel_rfl)|(rw [if_neg (by decide +kernel)];exact ⟨rfl,rfl⟩))
  (λos started H enc _ F=>by rw [OpenClaim.pre_eq_preRow];exact lifted os started H enc F)
theorem plain (f : FuncId) (fn : Func) (hf : Tryz.pinned.checked.prog.funcNamed "gyre/gyrelaw16.KickTells" = some f) (hfn : Tryz.pinned.checked.prog.funcs[f]? = some fn) :
  true=Tryz.pinned.checked.prog.looks []/\∀ (j:Nat) t,fn.params[j]? = some t->Tryz.pinned.checked.prog.wantsStandIn t=false:=by
 obtain rfl : f = 3 := Option.some.inj ((show Tryz.prog.funcNamed "gyre/gyrelaw16.KickTells" = some 3 by kernel_rfl).symm.trans hf) |>.symm
 obtain rfl:fn=Tryz.f3:=(Option.some.inj (Tryz.func3.symm.trans hfn)).symm
 refine ⟨by kernel_rfl,λj t ht=>?_⟩
 rw [Tryz.params3] at ht
 have hm:=Array.mem_of_getElem? ht
 simp at hm
 rcases (show t=24\/t=27\/t=3 by first|exact hm|exact hm.symm|(rcases hm with h|h|h|h|h|h|h|h<;>simp [h])|(rcases hm with h|h|h|h|h|h|h<;>simp [h])|(rcases hm with h|h|h|h|h|h<;>simp [h])|(rcases hm with h|h|h|h|h<;>simp [h])|(rcases hm with h|h|h|h<;>simp [h])|(rcases hm with h|h|h<;>simp [h])|(rcases hm with h|h<;>simp [h])) with rfl|rfl|rfl
 ·exact (show Tryz.prog.wantsStandIn 24=false by kernel_rfl)
 ·exact (show Tryz.prog.wantsStandIn 27=false by kernel_rfl)
 ·exact (show Tryz.prog.wantsStandIn 3=false by kernel_rfl)
theorem card:Rows.KickTellsCardSaid :=
 Claim7.holds_tied_plain_at .later [] _ _ _ _ said (λ_ h=>by cases h) (by kernel_rfl) (λ_ h=>by cases h) kickTells_row_tie rfl ⟨rfl,rfl⟩ (by kernel_rfl) rfl plain (by kernel_rfl)
end KickTells
theorem kickTells_card:Rows.KickTellsCardSaid:=KickTells.card
end Go.Proofs.YtmnknnojkhkceaaGreatDoor
