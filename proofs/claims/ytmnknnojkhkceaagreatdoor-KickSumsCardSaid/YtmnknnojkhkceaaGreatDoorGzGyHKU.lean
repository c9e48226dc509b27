/-
  Of a configuration and a state that fit, a body's kick is the sum of the pulls of the others, each asked by itself.
 Conditions: those of the given card (the listed package-level variables are laid as the program's text lays them).
-/
import Derived.Test.YtmnknnojkhkceaaGreatDoorGz08
set_option linter.unusedSimpArgs false
set_option linter.unusedVariables false
namespace Go.Proofs.YtmnknnojkhkceaaGreatDoor
open Go Go.RowKit Go.ChangeShapes Go.WideShapes Go.ChangeAt Go.Gy
set_option linter.unusedVariables false
set_option maxRecDepth 100000
namespace KickSums
theorem reads_again:∀ t∈Tryz.f4.params.toList,Tryz.prog.readableRec t=true∧t<Tryz.prog.types.size:=by
 have h:(Tryz.f4.params.toList.all fun t=>Tryz.prog.readableRec t&&decide (t<Tryz.prog.types.size))=true:=by kernel_rfl
 intro t ht
 have:=List.all_eq_true.1 h t ht
 simpa using this
theorem contract (H:Type) (enc:TypeId×Value→H) (W:World) (base:Nat) (args:Array Value) (ds gs:List (DataW H)) (before:List MemPlace)
  (hval:∀ (j:Nat) t v,Tryz.f4.params[j]? = some t→args[j]? = some v→Value.okWide Tryz.prog W .any base t v)
  (hW:DataW.Whole enc Tryz.prog Tryz.f4.params.toList Rows.kickSumsSpec.vars false W args.toList ds gs before) (hS:W.ShapedOpen Tryz.prog) (hL:laidMetH Tryz.prog Rows.kickSumsRow.laid W) (hwt:(DataW.weightsEach Tryz.prog (Tryz.f4.params.toList++(OpenSpec.ofChange Rows.kickSumsSpec).bare.plain.varTypes Tryz.prog) (ds++gs)).all (·≤reachBytes)=true) :
  Calls Tryz.prog 4 args W fun e W'=>∃ v,e=.returned v∧Rows.kickSumsSpec.post enc Tryz.prog Tryz.f4 false true false false W args v W':=by
 have hW':=hW
 have hlt:=hW.lt
 obtain ⟨p,q,hA0,hV,rfl,hfz,hnd⟩:=hW
 have hA:DataW.TrodAll enc Tryz.prog W 0 (fun _=>true) true Tryz.f4.params.toList args.toList ds p:=hA0
 have hAk:=hA
 rw [Tryz.params4] at hA hval hwt
 obtain ⟨v0,vs0,d0,ds0,p0,q0,hargs,rfl,rfl,h0,r0⟩:=trodAll_cons hA
 obtain ⟨v1,vs1,d1,ds1,p1,q1,rfl,rfl,rfl,h1,r1⟩:=trodAll_cons r0
 obtain ⟨v2,vs2,d2,ds2,p2,q2,rfl,rfl,rfl,h2,r2⟩:=trodAll_cons r1
 obtain ⟨v3,vs3,d3,ds3,p3,q3,rfl,rfl,rfl,h3,r3⟩:=trodAll_cons r2
 obtain ⟨v4,vs4,d4,ds4,p4,q4,rfl,rfl,rfl,h4,r4⟩:=trodAll_cons r3
 obtain ⟨rfl,rfl,rfl⟩:=trodAll_nil r4
 obtain rfl:args=#[v0,v1,v2,v3,v4]:=Array.ext' hargs
 obtain ⟨rfl,rfl⟩:=trodVars_none hV
 obtain ⟨g0,bx0,tp0,nr0,md0,wg0,wb0,wt0,wn0,wm0,hst0⟩:=zx4 (hval 0 24 v0 rfl rfl) h0
 obtain ⟨st1,ws1,hst1⟩:=zuc (hval 1 27 v1 rfl rfl) h1
 obtain ⟨z2,rfl,rfl,rfl,w2⟩:=open_int Tryz.underlying3 (hval 2 3 v2 rfl rfl) h2
 obtain ⟨z3,rfl,rfl,rfl,w3⟩:=open_int Tryz.underlying3 (hval 3 3 v3 rfl rfl) h3
 obtain ⟨z4,rfl,rfl,rfl,w4⟩:=open_int Tryz.underlying3 (hval 4 3 v4 rfl rfl) h4
 have hw0:∀ x∈d0.weights Tryz.prog 24,x≤reachBytes:=fun x hx=>by
  have h9:=List.all_eq_true.1 hwt x (by
   simp only [List.cons_append,DataW.weightsEach]
   exact List.mem_append_left _ hx)
  simpa using h9
 have hw1:∀ x∈d1.weights Tryz.prog 27,x≤reachBytes:=fun x hx=>by
  have h9:=List.all_eq_true.1 hwt x (by
   simp only [List.cons_append,DataW.weightsEach]
   exact List.mem_append_right _ (List.mem_append_left _ hx))
  simpa using h9
 have hgok:GOK G1 W:=zwx hS hL
 have key:zd4 Tryz.prog 4 #[v0,v1,.int .i64 z2,.int .i64 z3,.int .i64 z4] W fun e W'=>e=.returned (.bool true)∧Below W.heap.size W W':=by
  rcases hst0 with rfl|⟨k0,off0,n0,cap0,b0,f0,rfl,at0⟩<;>rcases hst1 with rfl|⟨k1,off1,n1,cap1,b1,f1,rfl,at1⟩
  ·exact (zph g0 bx0 tp0 nr0 md0 st1 z2 z3 z4 wg0 wb0 wt0 wn0 wm0 ws1 (zct w2) (zct w3) (zct w4)).2.2.2 W hgok
  ·have hn1:=Nat.le_trans at1.le (z44 h1 hw1)
   have:=zjz G1F (zpi b1 off1 n1 cap1 f1 (at1.sb hn1) at1.le g0 bx0 tp0 nr0 md0 st1 z2 z3 z4 wg0 wb0 wt0 wn0 wm0 ws1 (zct w2) (zct w3) (zct w4)) rfl hgok at1.fx at1.heap (at1.ne1 hgok)
   simpa [ren,zax,zak,zao,cfV] using this
  ·have hn0:=Nat.le_trans at0.le (zwd h0 hw0)
   by_cases hk:k0=0
   ·have hl:=at0.lim hgok hk hn0
    subst hk
    have:=z13 G1F (zjr [] 0 lmB ⟨.inr ⟨rfl,rfl,rfl⟩,zi0⟩ off0 n0 cap0 f0 hl at0.le g0 bx0 tp0 nr0 md0 st1 z2 z3 z4 wg0 wb0 wt0 wn0 wm0 ws1 (zct w2) (zct w3) (zct w4)) rfl hgok
    simpa [ren,zax,zak,zao,cfV] using this
   ·have:=zjz G1F (zjr [(100,b0)] 100 b0 ⟨.inl ⟨rfl,rfl⟩,at0.fx⟩ off0 n0 cap0 f0 (at0.mb hn0) at0.le g0 bx0 tp0 nr0 md0 st1 z2 z3 z4 wg0 wb0 wt0 wn0 wm0 ws1 (zct w2) (zct w3) (zct w4)) rfl hgok at0.fx at0.heap (at0.ne1 hgok hk)
    simpa [ren,zax,zak,zao,cfV] using this
  ·have hn0:=Nat.le_trans at0.le (zwd h0 hw0)
   have hn1:=Nat.le_trans at1.le (z44 h1 hw1)
   by_cases hk:k0=0
   ·have hl:=at0.lim hgok hk hn0
    subst hk
    have:=zjz G1F (ziv [(100,b1)] 0 100 lmB b1 (LKa.lim at1.fx) off0 n0 cap0 f0 hl at0.le off1 n1 cap1 f1 (at1.sb hn1) at1.le g0 bx0 tp0 nr0 md0 st1 z2 z3 z4 wg0 wb0 wt0 wn0 wm0 ws1 (zct w2) (zct w3) (zct w4)) rfl hgok at1.fx at1.heap (at1.ne1 hgok)
    simpa [ren,zax,zak,zao,cfV] using this
   ·refine z8c G1F (fun L ks hT=>ziv L 100 ks b0 b1 (LKa.of hT) off0 n0 cap0 f0 (at0.mb hn0) at0.le off1 n1 cap1 f1 (at1.sb hn1) at1.le g0 bx0 tp0 nr0 md0 st1 z2 z3 z4 wg0 wb0 wt0 wn0 wm0 ws1 (zct w2) (zct w3) (zct w4)) rfl hgok at0.fx at1.fx at0.heap at1.heap at0.raw at1.raw (at0.ne1 hgok hk) (at1.ne1 hgok) ?_
    rintro ks (⟨rfl,rfl⟩|rfl)<;>simp [ren,zax,zak,zao,cfV]
 refine key.calls.mono fun e W' ⟨he,hb⟩=>?_
 subst he
 exact ⟨_,rfl,zmv (pv:=[]) hW' (fun _ _ _=>trodAll_cons_mk (shut_bool Tryz.underlying4 _) trodAll_mk0)
  (fun sp hsp=>zh9 z2f _ _ _ _ reads_again hAk (fun x hx=>hb.same (hlt x (List.mem_append_left _ hx))) (fun x hx=>hsp x (List.mem_append_left _ hx))) (fun _ _=>rfl) rfl hb
  (ok_one (by kernel_rfl) rfl (okWide_bool_mk Tryz.underlying4 _))⟩
def wits:Array Value:=#[.agg #[.slice none 0 0,.int .i64 0,.int .i64 0,.int .i64 0,.int .i64 0,.int .i64 0],.agg #[.int .i64 0,.slice none 0 0],.int .i64 0,.int .i64 0,.int .i64 0]
noncomputable def laidWorld (os:Os):World :=
 { World.holding Tryz.prog os ⟨#[],#[],[]⟩ with heap:=((((World.holding Tryz.prog os ⟨#[],#[],[]⟩).heap.modify 1 fun
   | .cells _ t frozen=>.cells cnB.c t frozen
   | o=>o).modify 2 fun
   | .cells _ t frozen=>.cells lsB.c t frozen
   | o=>o).modify 0 fun
   | .cells _ t frozen=>.cells lmB.c t frozen
   | o=>o) }
theorem laid_met (os:Os):laidMet Tryz.prog Rows.kickSumsRow.laid ((laidWorld os).forCall (fun _ _=>0) ⟨#[],wits,[]⟩).memory :=
 laidMet_of_run' 8 (by kernel_rfl) (by kernel_rfl)
theorem reads (os:Os) {H:Type} (enc:TypeId×Value→H):∃ places,DataW.whole enc Tryz.prog ((laidWorld os).forCall (fun _ _=>0) ⟨#[],wits,[]⟩).memory Tryz.f4.params.toList Rows.kickSumsSpec.vars false wits.toList 8=some ([.agg [.nil,.lit (.int .i64 0),.lit (.int .i64 0),.lit (.int .i64 0),.lit (.int .i64 0),.lit (.int .i64 0)],.agg [.lit (.int .i64 0),.nil],.lit (.int .i64 0),.lit (.int .i64 0),.lit (.int .i64 0)],[],places) :=
 ⟨[],by kernel_rfl⟩
theorem lifted (os:Os) (started:os.Started) (H:Type) (enc:TypeId×Value→H) (F:Stop.Interp) :
  ReturnsInHanded {} Tryz.checked os 4 .any ((OpenSpec.ofChange Rows.kickSumsSpec).preRow enc Tryz.prog Tryz.f4 Rows.kickSumsRow.domain false Rows.kickSumsRow.laid) (((OpenSpec.ofChange Rows.kickSumsSpec).at F).post enc Tryz.prog Tryz.f4 false true false false):=by
 obtain ⟨places,hx⟩:=reads os enc
 refine returnsInHanded_of_row (C:=Tryz.checked) (s:=OpenSpec.ofChange Rows.kickSumsSpec) own started (by kernel_rfl) Tryz.func4
  (witness_row_at (enc:=enc) (C:=Tryz.checked) false (laidWorld os) wits rfl (by kernel_rfl) (by kernel_rfl) (by kernel_rfl)
   (OpenSpec.preRow_of_cond 8 hx (by kernel_rfl) (fun k hk=>by cases hk) (by kernel_rfl) (laid_met os))) ?_
 intro W base args ds gs before hval hW _ _ hwt hL hS _
 exact contract H enc W base args ds gs before hval hW hS hL hwt
theorem said:Rows.KickSumsSaid :=
 OpenClaim.holds_of_cond 4 Tryz.f4 rfl rfl rfl rfl rfl rfl rfl ⟨rfl,rfl,rfl,rfl,rfl⟩ rfl rfl rfl rfl rfl (by kernel_rfl) Tryz.func4 (by kernel_rfl)
  (of_decide_eq_true (by kernel_rfl)) (by unfold Func.isWrapper;first|(rw [if_pos (by decide +kernel)];kernel_rfl)|(rw [if_neg (by decide +kernel)];exact ⟨rfl,rfl⟩))
  (fun os started H enc _ F=>by rw [OpenClaim.pre_eq_preRow];exact lifted os started H enc F)
theorem plain (f : FuncId) (fn : Func) (hf : Tryz.pinned.checked.prog.funcNamed "gyre/gyrelaw16.KickSums" = some f) (hfn : Tryz.pinned.checked.prog.funcs[f]? = some fn) :
  true=Tryz.pinned.checked.prog.looks []∧∀ (j:Nat) t,fn.params[j]? = some t→Tryz.pinned.checked.prog.wantsStandIn t=false:=by
 obtain rfl : f = 4 := Option.some.inj ((show Tryz.prog.funcNamed "gyre/gyrelaw16.KickSums" = some 4 by kernel_rfl).symm.trans hf) |>.symm
 obtain rfl:fn=Tryz.f4:=(Option.some.inj (Tryz.func4.symm.trans hfn)).symm
 refine ⟨by kernel_rfl,fun j t ht=>?_⟩
 rw [Tryz.params4] at ht
 have hm:=Array.mem_of_getElem? ht
 simp at hm
 rcases (show t=24∨t=27∨t=3 by first|exact hm|exact hm.symm|(rcases hm with h|h|h|h|h|h|h|h<;>simp [h])|(rcases hm with h|h|h|h|h|h|h<;>simp [h])|(rcases hm with h|h|h|h|h|h<;>simp [h])|(rcases hm with h|h|h|h|h<;>simp [h])|(rcases hm with h|h|h|h<;>simp [h])|(rcases hm with h|h|h<;>simp [h])|(rcases hm with h|h<;>simp [h])) with rfl|rfl|rfl
 ·exact (show Tryz.prog.wantsStandIn 24=false by kernel_rfl)
 ·exact (show Tryz.prog.wantsStandIn 27=false by kernel_rfl)
 ·exact (show Tryz.prog.wantsStandIn 3=false by kernel_rfl)
theorem card:Rows.KickSumsCardSaid :=
 Claim7.holds_tied_plain_at .later [] _ _ _ _ said (fun _ h=>by cases h) (by kernel_rfl) (fun _ h=>by cases h) kickSums_row_tie rfl ⟨rfl,rfl⟩ (by kernel_rfl) rfl plain (by kernel_rfl)
end KickSums
theorem kickSums_card:Rows.KickSumsCardSaid:=KickSums.card
end Go.Proofs.YtmnknnojkhkceaaGreatDoor
