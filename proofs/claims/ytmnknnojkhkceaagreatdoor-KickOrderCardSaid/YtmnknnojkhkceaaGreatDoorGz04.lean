/-
  Lemmas of this claim, in their order (GyZ3, GyW1, GyU1, GyPU, GyV2, GyVA, GyRA, GyRB, GyDM, GyQA, GyVB, GyVC, GyVD, GyRC, GyRF, GyQB, GyDB, GyDC, GyWA, GyWB, GyWC, GyWD, GyWE, GyWF, GyWG, GyWH, GyWK, GyWL, GyWM, GyCA, GyCB, GyCC).
  Conditions: those of each theorem.
-/
import Derived.Test.YtmnknnojkhkceaaGreatDoorGz03
set_option linter.unusedSimpArgs false
set_option linter.unusedVariables false
namespace Go.Gy
set_option linter.unusedSimpArgs false
set_option linter.unusedVariables false
open Go Go.RowKit Go.Proofs
theorem next_ret (a:Int):Ret Tryz.prog G0 90 #[wd a] (wd (a+1)):=by
 refine ret_of G0F Tryz.func90 rfl Tryz.call90 (by simp) (by simp) (by simp [Tryz.ntmps90]) ?_
 intro C hC hC0 hY
 have i1:=i64_1
 repeat' (first|refine gwA ?_|(refine gwX ?_;intro Q hQ hP;simp [hC,hY,i1];(first|refine hQ _ _ _ _ (by kernel_rfl) ?_|refine hP _ _ (by kernel_rfl) fun _=>?_);clear hQ hP Q)|(refine gwC ?_ ?_<;>(intro hb;try (cases hb;done))))
 refine ⟨.inr trivial,?_⟩
 simp [Tryz.results90]
@[simp] theorem rnext (a:Int) (K:Value→Prop):callK Tryz.prog G0 90 #[Value.agg #[.int .u64 (wi (a) 0),.int .u64 (wi (a) 1),.int .u64 (wi (a) 2),.int .u64 (wi (a) 3)]] K↔K (wd (a+1)):=callK_iff G0W (by kernel_rfl) (next_ret a)
def hp1 (a:Int):Hp:=hpL G0 [(200,wb a)]
theorem isq_le (a:Int) (ha:wr a) (h0:0≤a):isq a<340282366920938463463374607431768211456∧wr (isq a):=by
 obtain ⟨h1,h2,h3⟩:=isq_spec a h0
 have hau:=ha.2
 have h4:=sq_bd 340282366920938463463374607431768211456 h1 (by decide) (by omega)
 exact ⟨h4,Int.le_trans (by decide) h1,Int.lt_trans h4 (by decide)⟩
theorem div_wr {a b:Int} (ha:wr a) (h0:0≤a) (hb:0<b):wr (a / b)∧0≤a / b:=by
 have h1:0≤a / b:=Int.ediv_nonneg h0 (by omega)
 exact ⟨⟨Int.le_trans (by decide) h1,Int.lt_of_le_of_lt (Int.ediv_le_self b h0) ha.2⟩,h1⟩
theorem lst_ne {a:Int} (h0:0≤a):a≠lst:=fun e=>by rw [e] at h0;exact absurd h0 (by decide)
theorem of_ret (a b:Int) (ha:wr a) (hb:wr b) (h0:0≤a) (hb0:0<b):Ret Tryz.prog G0 91 #[wd a,wd b] (wd (isq (a / b))):=by
 refine ret_of G0F Tryz.func91 rfl Tryz.call91 (by simp) (by simp) (by simp [Tryz.ntmps91]) ?_
 intro C hC hC0 hY
 have hz:=wr_ne hb (by omega)
 have s1:0≤cmpI (sz a) 0:=by rw [wr_sz ha];unfold cmpI;split<;>(try split)<;>omega
 have s2:0<cmpI (sz b) 0:=by rw [wr_sz hb];unfold cmpI;split<;>(try split)<;>omega
 obtain ⟨d1,d2⟩:=div_wr ha h0 hb0
 have hl:=lst_ne h0
 repeat' (first|refine gwA ?_|(refine gwX ?_;intro Q hQ hP;simp [hC,hY,hz,s1,s2,ha,hb,hb0,hl,d1,d2];(first|refine hQ _ _ _ _ (by kernel_rfl) ?_|refine hP _ _ (by kernel_rfl) fun _=>?_);clear hQ hP Q)|(refine gwC ?_ ?_<;>(intro hb;try (cases hb;done))))
 refine ⟨.inr trivial,?_⟩
 simp [Tryz.results91]
@[simp] theorem rof (a b:Int) (ha:wr a) (hb:wr b) (h0:0≤a) (hb0:0<b) (K:Value→Prop):callK Tryz.prog G0 91 #[Value.agg #[.int .u64 (wi (a) 0),.int .u64 (wi (a) 1),.int .u64 (wi (a) 2),.int .u64 (wi (a) 3)],Value.agg #[.int .u64 (wi (b) 0),.int .u64 (wi (b) 1),.int .u64 (wi (b) 2),.int .u64 (wi (b) 3)]] K↔K (wd (isq (a / b))):=callK_iff G0W (by kernel_rfl) (of_ret a b ha hb h0 hb0)
theorem rHalf1_p (a b:Int) (ha:wr a) (hb:wr b) (h0:0≤a) (hb0:0<b):Fun Tryz.prog G0 88 [.pointer (some ⟨200,0,none⟩),.pointer (some ⟨208,0,none⟩)].toArray (hp2 a b) [200,208] (.ret (wd ((isq (a / b)+1) / 2)) []):=by
 refine fun_of (B:=300) G0F (fun k hk=>hpL_low (by simp) hk) Tryz.func88 rfl Tryz.call88 ?_ ?_ ⟨flatV_ids (by simp),by simp [keys],by simp,by simp⟩ (by simp [Tryz.ntmps88]) (by omega) ?_ ?_
 ·rw [hp2_rst];simp [hp2,dom]
 ·rw [hp2_rst];exact hp2_closed a b _
 ·rw [hp2_rst];exact hp2_free a b
 ·intro C hC hC0 hY
  rw [hp2_rst] at hC0 ⊢
  obtain ⟨d1,d2⟩:=div_wr ha h0 hb0
  obtain ⟨q0,q1⟩:=isq_le _ d1 d2
  have q2:=(isq_spec _ d2).1
  have w2:wr 2:=by unfold wr;omega
  have w1:wr (isq (a / b)+1):=⟨Int.le_trans (by decide) (by omega:0≤isq (a / b)+1),by omega⟩
  have wl:isq (a / b)+1≠lst:=lst_ne (by omega)
  have i2:i64 2:=by decide
  repeat' (first|refine gwA ?_|(refine gwX ?_;intro Q hQ hP;simp [hC,hY,hp2,wb,ha,hb,h0,hb0,w1,wl,w2,i2];(first|refine hQ _ _ _ _ (by kernel_rfl) ?_|refine hP _ _ (by kernel_rfl) fun _=>?_);clear hQ hP Q)|(refine gwC ?_ ?_<;>(intro hb;try (cases hb;done))))
  refine ⟨.inr rfl,by simp [Tryz.results88],fun k hk=>?_⟩
  have hk3:k<300:=Classical.byContradiction fun h=>hk (hp2_free a _ k (by omega))
  simp (disch:=omega) only [upd_far]
  rfl
theorem rHalf_p_ret (a b:Int) (ha:wr a) (hb:wr b) (h0:0≤a) (hb0:0<b):Ret Tryz.prog G0 70 #[wd a,wd b] (.tuple #[wd ((isq (a / b)+1) / 2),.int .i64 0]):=by
 refine ret_of G0F Tryz.func70 rfl Tryz.call70 (by simp) (by simp) (by simp [Tryz.ntmps70]) ?_
 intro C hC hC0 hY
 repeat' (first|refine gwA ?_|((first|refine gwR [87] ?_|refine gwD [87] ?_);intro Q hQ hP;simp [hC,hY];(repeat ((first|(refine heapK_of (hp':=hp2 a b) (rtold_ret (fun k hk=>hpL_low (by simp) hk) (by simp) rfl (by simp) (rHalf1_p a b ha hb h0 hb0)) (by simp [hp2,wb]) (fun k hk=>hpL_low (by simp) hk) trivial ?_));try simp [hC,hY]));(first|refine hQ _ _ _ _ (by kernel_rfl) ?_|refine hP _ _ (by kernel_rfl) fun _=>?_);clear hQ hP Q)|(refine gwC ?_ ?_<;>(intro hb;try (cases hb;done))))
 refine ⟨.inr trivial,?_⟩
 simp [Tryz.results70,wi_zero]
theorem i64_wr {n:Int} (h:i64 n):wr n:=by unfold i64 at h;unfold wr;omega
end Go.Gy
namespace Go.Gy
set_option linter.unusedSimpArgs false
set_option linter.unusedVariables false
open Go Go.RowKit Go.Proofs
def lmB:Blk:=⟨#[.int .i64 (-2097152),.int .i64 2097152,.int .i64 1,.int .i64 2097152,.int .i64 1,.int .i64 1048576,.int .i64 1,.int .i64 1024,.int .i64 (-2097152),.int .i64 2097152,.int .i64 0,.int .i64 13194139533312],.ty 97⟩
def G1:Hp:=hpL G0 [(0,lmB)]
theorem G1F:GFlat G1:=fun k b h=>by
 rcases hpL_mem h with h|h
 ·simp at h
  obtain ⟨rfl,rfl⟩:=h
  exact ⟨by omega,by simp [lmB]⟩
 ·exact G0F k b h
@[simp] theorem G1_big (k:Nat) (h:100≤k):G1 k=none:=by
 cases hb:G1 k with
 | none=>rfl
 | some b=>have:=(G1F k b hb).1;omega
@[simp] theorem G1_limits:G1 0=some lmB:=by simp [G1]
theorem G1_dom {k:Nat} (h:dom G1 k):k<100:=by
 refine Classical.byContradiction fun hk=>?_
 exact h (G1_big k (by omega))
theorem G1_closed (D:Nat→Prop) (k:Nat) (b:Blk) (h:G1 k=some b):b.ids D:=Blk.flat_ids ((G1F k b h).2)
theorem G1W:∃ W,GOK G1 W:=⟨{ (default:World) with heap:=Array.ofFn (n:=100) fun k=>match G1 k.1 with|some b=>b.obj0|none=>.cells #[] 0 (0,0) },fun k b h=>by
 have hk:=(G1F k b h).1
 simp [hk,h]⟩
theorem G1up (W:World) (h:GOK G1 W):GOK G0 W:=fun k b hk=>h k b (by
 have h0:¬k=0:=fun e=>by subst e;simp [G0,G0L] at hk
 simp [G1,h0,hk])

@[simp] theorem wOf' (n:Int) (h:i64 n) (K:Value→Prop):callK Tryz.prog G1 92 #[.int .i64 n] K↔K (wd n):=callK_iff G1W (by kernel_rfl) ((wof_ret n h).up G1up)
@[simp] theorem wMul' (a b:Int) (K:Value→Prop):callK Tryz.prog G1 94 #[Value.agg #[.int .u64 (wi (a) 0),.int .u64 (wi (a) 1),.int .u64 (wi (a) 2),.int .u64 (wi (a) 3)],Value.agg #[.int .u64 (wi (b) 0),.int .u64 (wi (b) 1),.int .u64 (wi (b) 2),.int .u64 (wi (b) 3)]] K↔K (.tuple #[wd (sz a*sz b),.bool (mulO a b)]):=callK_iff G1W (by kernel_rfl) ((wmul_ret a b).up G1up)
@[simp] theorem wInt' (z:Int) (K:Value→Prop):callK Tryz.prog G1 73 #[Value.agg #[.int .u64 (wi (z) 0),.int .u64 (wi (z) 1),.int .u64 (wi (z) 2),.int .u64 (wi (z) 3)]] K↔K (.tuple #[.int .i64 (if i64 (sz z) then sz z else 0),.bool (decide (i64 (sz z)))]):=callK_iff G1W (by kernel_rfl) ((wint_ret z).up G1up)
@[simp] theorem rHalf' (a b:Int) (ha:wr a) (hb:wr b) (h0:0≤a) (hb0:0<b) (K:Value→Prop):callK Tryz.prog G1 70 #[Value.agg #[.int .u64 (wi (a) 0),.int .u64 (wi (a) 1),.int .u64 (wi (a) 2),.int .u64 (wi (a) 3)],Value.agg #[.int .u64 (wi (b) 0),.int .u64 (wi (b) 1),.int .u64 (wi (b) 2),.int .u64 (wi (b) 3)]] K↔K (.tuple #[wd ((isq (a / b)+1) / 2),.int .i64 0]):=callK_iff G1W (by kernel_rfl) ((rHalf_p_ret a b ha hb h0 hb0).up G1up)
theorem pmust_t (n:Int):RetP Tryz.prog G1 67 #[.bool true,.int .i64 n] (.ret (.tuple #[])):=by
 refine retp_of G1F Tryz.func67 rfl Tryz.call67 (fun v h=>by cases h;simp) (by simp) (by simp [Tryz.ntmps67]) ?_
 intro C hC hC0 hY
 repeat' (first|refine gwA ?_|(refine gwX ?_;intro Q hQ hP;simp [hC,hY];(first|refine hQ _ _ _ _ (by kernel_rfl) ?_|refine hP _ _ (by kernel_rfl) fun _=>?_);clear hQ hP Q)|(refine gwC ?_ ?_<;>(intro hb;try (cases hb;done))))
 exact ⟨.inl trivial,by simp [Tryz.results67]⟩
theorem pmust_f (n:Int):RetP Tryz.prog G1 67 #[.bool false,.int .i64 n] (.pan (erV n)):=by
 refine retp_of G1F Tryz.func67 rfl Tryz.call67 (fun v h=>by cases h) (by simp) (by simp [Tryz.ntmps67]) ?_
 intro C hC hC0 hY
 repeat' (first|refine gwA ?_|(refine gwX ?_;intro Q hQ hP;simp [hC,hY];(first|refine hQ _ _ _ _ (by kernel_rfl) ?_|refine hP _ _ (by kernel_rfl) fun _=>?_);clear hQ hP Q)|(refine gwC ?_ ?_<;>(intro hb;try (cases hb;done))))
 rfl
def capP:Array Value:=#[.pointer (some ⟨100000,0,none⟩)]
def hpP (n:Int):Hp:=hpL G1 [(100000,eB n)]
theorem hpP_rst (n:Int):rst (hpP n) [100000]=hpP n:=hpL_rst G1F (by simp)
theorem hpP_ids (n:Int) (k:Nat) (b:Blk) (D:Nat→Prop) (h:hpP n k=some b):b.ids D:=by
 rcases hpL_mem h with h|h
 ·simp at h
  rcases h with ⟨_,rfl⟩
  simp [eB]
 ·exact G1_closed _ _ _ h
@[simp] theorem opX_assertE' {dst:Option Tmp} {x:Operand} {T:TypeId} {ps:String} {af:Array Edge} {g:Option (Nat×Bool)} {V:XV} {yc nk:Nat} {ts:Nat→Value} {hp:Hp} {C:Eff→Prop} (h:ifE (gev ts x)=true) (hx:okX ts hp x) :
  opX Tryz.prog G1 V yc ⟨dst,.typeAssert x 20 32 false,T,ps,af,g⟩ ts hp nk C↔C (val (ifN (gev ts x)) []):=by
 obtain ⟨n,hn⟩:=ifE_of h
 refine pureV_iff (K:=fun v=>C (val v [])) ?_ ?_ fun W=>?_
 ·intro y hy
  simp [Op.operands] at hy
  subst hy
  exact ⟨hx,by rw [hn];rfl⟩
 ·rw [hn];rfl
 ·simp only [execOp,hn]
  kernel_rfl
theorem rep6:Array.replicate 6 undef=#[undef,undef,undef,undef,undef,undef]:=rfl
theorem prec (n:Int):RecF Tryz.prog G1 66 capP (hpP 0) [100000] (erV n) [(100000,eB n)]:=by
 refine ⟨⟨_,Tryz.func66⟩,Tryz.call66,?_,?_⟩
 ·refine back_of (k:=1) Tryz.func66 rfl fun args c₀ cs W hk hu=>?_
  obtain ⟨p0,rfl⟩:∃ p0,args=#[p0]:=by
   rcases args with ⟨l⟩
   match l,hk with
   | [a],_=>exact ⟨a,rfl⟩
  have hn:Tryz.f66.ntmps=7:=Tryz.ntmps66
  refine wpSIn_seq (wpSIn_region ?_)
  simp [wpOpsSIn,List.range,List.range.loop,go_sem,recoverD,hu,hn,rep6]
  refine wpSIn_seq (wpSIn_region ?_)
  simp [wpOpsSIn,List.range,List.range.loop,go_sem,neq_nil0]
  refine wpSIn_cond (t:=false) (by simp [Act.eval]) ?_
  refine wpSIn_of_wpIn rfl (wpIn_skip ?_)
  exact ⟨.inl rfl,rfl,rfl,rfl,.tuple #[],by simp [results,Tryz.results66,go_sem]⟩
 ·refine caught_of (B:=200000) (A:=#[.pointer (some ⟨100000,0,none⟩),erV n,erV n,undef,undef,undef,undef]) G1F (fun k hk=>hpL_low (by simp) hk) Tryz.func66 rfl (by simp [Tryz.ntmps66]) ?_ ?_ ?_ ?_ ?_ ?_ (by omega) ?_ ?_
  ·rw [hpP_rst];simp [hpP,dom]
  ·intro r c₀ cs W Q hu hQ
   have hrn:∀ v,flatV v=true→ren r v=v:=fun v hv=>flatV_ren hv
   simp only [List.map_toArray,List.map_cons,List.map_nil,capP] at hQ ⊢
   generalize ren r (.pointer (some ⟨100000,0,none⟩))=p0 at hQ ⊢
   simp only [hrn (erV n) rfl,ren_undef] at hQ
   have hn:Tryz.f66.ntmps=7:=Tryz.ntmps66
   simp [wpOpsSIn,List.range,List.range.loop,go_sem,recoverD,hu,pand,erV,hn,rep6]
   exact hQ
  ·rw [hpP_rst];exact fun k b h=>hpP_ids 0 k b _ h
  ·rw [hpP_rst];simp [hpP,dom]
  ·intro k b c h1 h2
   simp at h1 h2
   rw [h1.2,h2.2]
  ·simp [eB]
  ·rw [hpP_rst];exact fun x hx=>by simp [hpP,show ¬x=100000 by omega,show 100≤x by omega]
  ·intro C hC hC0 hY
   rw [hpP_rst]
   repeat' (first|refine gwA ?_|(refine gwX ?_;intro Q hQ hP;simp [hC,hY,hpP,eB];(first|refine hQ _ _ _ _ (by kernel_rfl) ?_|refine hP _ _ (by kernel_rfl) fun _=>?_);clear hQ hP Q)|(refine gwC ?_ ?_<;>(intro hb;try (cases hb;done))))
   refine ⟨.inl trivial,by simp [Tryz.results66],fun k hk=>?_⟩
   simp [eB,hpP]
theorem ptold_ret {g:FuncId} {capv:List Value} {hp:Hp} {rs:List Nat} {ws:List (Nat×Blk)} (hG:∀ k,k<100→hp k=G1 k) (hrs:∀ k∈rs,k<100000) (hc:capv.isEmpty=false) (hpl:capv.all plain0=true)
  (h:Fun Tryz.prog G1 g capv.toArray hp rs (.ret (.tuple #[]) ws)) :
  Fun Tryz.prog G1 44 #[.func (.func g) #[] capv.toArray] hp rs (.ret (.int .i64 0) ws):=by
 have hids:∀ x∈capv,ids0 (dom (rst hp rs)) x:=fun x hx=>(ids_plain0 (List.all_eq_true.1 hpl x hx)).1 (h.ids x (by simpa using hx))
 have hbig:∀ x,100000≤x→rst hp rs x=none:=fun x hx=>by
  unfold rst;rw [if_neg];rintro (h1|h1)
  ·omega
  ·have:=hrs x h1;omega
 refine fun_rec (out:=.ret (.int .i64 0) ws) (B:=100000) (B1:=100008) (id:=1) (t:=3) (ts1:=upd (fun t=>[Value.func (.func g) #[] capv.toArray][t]?.getD undef) 2 (gptr 100000))
  (hp1:=upd (rst hp rs) 100000 (some (eB 0))) capP G1F hG Tryz.func44 rfl (by simp [Tryz.ntmps44]) Tryz.call44 ⟨_,_,_,_,prec 0⟩ ?_ h.closed ?_ (by simp [Tryz.ntmps44]) (by omega) hbig ?_ ?_ ?_ ?_ ?_ ?_
 ·simpa using hids
 ·exact ⟨flatV_ids (by simp),h.fits.2⟩
 ·intro C hC hC0 hY
  repeat' (first|refine gwA ?_|(refine gwX ?_;intro Q hQ hP;simp [hC,hY];(first|refine hQ _ _ _ _ (by kernel_rfl) ?_|refine hP _ _ (by kernel_rfl) fun _=>?_);clear hQ hP Q)|(refine gwC ?_ ?_<;>(intro hb;try (cases hb;done))))
  exact ⟨trivial,rfl⟩
 ·intro k hk
  have h1:¬k=100000:=fun e=>hk (hbig k (by omega))
  simp [h1]
 ·simp [okT,capP]
 ·simp [capP]
 ·simp [capP]
 ·intro C d hC hC0 hY
  refine GW_seq ?_
  refine GW_region' [] (by kernel_rfl) ?_;intro Q hQ hP;simp [hC,hY,hc,hpl]
  have hk1:∀ k∈keys ws,k<100000:=fun k hk=>hrs k (h.fits.2.1 k hk).1
  have hk2:(100000:Nat)∉keys ws:=fun hm=>by have:=hk1 _ hm;omega
  have w1:updL (upd (rst hp rs) 100000 (some (eB 0))) ws 100000=some (eB 0):=by
   rw [updL_other hk2];simp
  refine heapK_of (hp':=hp) h (fun k hk=>?_) hG trivial ?_
  ·have:=hrs k hk
   simp [rst,hk,show ¬k=100000 by omega]
  simp only [eB] at w1
  simp [w1,eB]
  refine hQ _ _ _ _ ?_
  repeat' (first|refine gwA ?_|(refine gwX ?_;intro Q hQ hP;simp [hC,hY,w1,eB];(first|refine hQ _ _ _ _ (by kernel_rfl) ?_|refine hP _ _ (by kernel_rfl) fun _=>?_);clear hQ hP Q)|(refine gwC ?_ ?_<;>(intro hb;try (cases hb;done))))
  refine ⟨.inr rfl,by simp [Tryz.results44],fun k hk=>?_⟩
  have h1:¬k=100000:=fun e=>hk (hbig k (by omega))
  rw [updL_comm_upd hk2]
  simp [h1]
theorem ptold_pan {g:FuncId} {capv:List Value} {hp:Hp} {rs:List Nat} {n:Int} (hG:∀ k,k<100→hp k=G1 k) (hrs:∀ k∈rs,k<100000) (hc:capv.isEmpty=false) (hpl:capv.all plain0=true)
  (h:Fun Tryz.prog G1 g capv.toArray hp rs (.pan (erV n))) :
  Fun Tryz.prog G1 44 #[.func (.func g) #[] capv.toArray] hp rs (.ret (.int .i64 n) []):=by
 have hids:∀ x∈capv,ids0 (dom (rst hp rs)) x:=fun x hx=>(ids_plain0 (List.all_eq_true.1 hpl x hx)).1 (h.ids x (by simpa using hx))
 have hbig:∀ x,100000≤x→rst hp rs x=none:=fun x hx=>by
  unfold rst;rw [if_neg];rintro (h1|h1)
  ·omega
  ·have:=hrs x h1;omega
 refine fun_rec (out:=.pan (erV n) [100000] [(100000,eB n)] (.int .i64 n)) (B:=100000) (B1:=100008) (id:=1) (t:=3) (ts1:=upd (fun t=>[Value.func (.func g) #[] capv.toArray][t]?.getD undef) 2 (gptr 100000))
  (hp1:=upd (rst hp rs) 100000 (some (eB 0))) capP G1F hG Tryz.func44 rfl (by simp [Tryz.ntmps44]) Tryz.call44 ⟨_,_,_,_,prec 0⟩ ?_ h.closed ?_ (by simp [Tryz.ntmps44]) (by omega) hbig ?_ ?_ ?_ ?_ ?_ ?_
 ·simpa using hids
 ·exact ⟨flatV_ids (by simp),by simp [keys],by simp,by simp⟩
 ·intro C hC hC0 hY
  repeat' (first|refine gwA ?_|(refine gwX ?_;intro Q hQ hP;simp [hC,hY];(first|refine hQ _ _ _ _ (by kernel_rfl) ?_|refine hP _ _ (by kernel_rfl) fun _=>?_);clear hQ hP Q)|(refine gwC ?_ ?_<;>(intro hb;try (cases hb;done))))
  exact ⟨trivial,rfl⟩
 ·intro k hk
  have h1:¬k=100000:=fun e=>hk (hbig k (by omega))
  simp [h1]
 ·simp [okT,capP]
 ·simp [capP]
 ·simp [capP]
 ·intro C d hC hC0 hY
  refine GW_seq ?_
  refine GW_region' [] (by kernel_rfl) ?_;intro Q hQ hP;simp [hC,hY,hc,hpl]
  refine heapK_of (hp':=hp) h (fun k hk=>?_) hG trivial ?_
  ·have:=hrs k hk
   simp [rst,hk,show ¬k=100000 by omega]
  simp
  refine hP _ _ fun yc=>?_
  simp only [thenG_panic]
  have e:∀ k,(k<100∨k∈[100000])→hpP 0 k=upd (rst hp rs) 100000 (some (eB 0)) k:=fun k hk=>by
   rcases hk with hk|hk
   ·simp [hpP,show ¬k=100000 by omega,rst,hk,hG k hk]
   ·simp at hk;subst hk;simp [hpP]
  have er:rst (upd (rst hp rs) 100000 (some (eB 0))) [100000]=hpP 0:=by rw [←rst_congr e,hpP_rst]
  refine ⟨rfl,by simp [Tryz.results44,eB],fun k hk=>rfl,(prec n).under e,fun k hk=>?_,fun k hk=>?_,?_⟩
  ·rw [er] at hk;unfold dom at hk ⊢
   by_cases h1:k=100000
   ·subst h1;simp
   ·simp only [hpP,hpL_cons,hpL_nil,h1,if_false] at hk
    have hk100:=G1_dom hk
    simp [h1,rst,hk100,hG k hk100];exact hk
  ·rw [er]
   simp [keys] at hk
   subst hk
   exact ⟨by simp [hpP,dom],by omega,fun hd=>hd (hbig _ (by omega))⟩
  ·rw [er];exact fun k b hk=>hpP_ids 0 k b _ hk
end Go.Gy
namespace Go.Gy
set_option linter.unusedSimpArgs false
set_option linter.unusedVariables false
open Go Go.RowKit
section
variable {P:Program} {G G':Hp}
structure LOd (G:Hp) (m:List (Nat×Blk)) (B:Nat):Prop where
 big:∀ p∈m,100≤p.1∧p.1<B
 one:(keys m).Nodup
 ids:∀ p∈m,p.2.ids (dom (hpL G m))
theorem LOk.sub' {m:List (Nat×Blk)} (h1:(keys m).Nodup) (k:Nat) (hk:k∈keys m):dom (hpL G m) k:=by
 obtain ⟨p,hp,rfl⟩:=mem_keys.1 hk
 unfold dom;rw [LOk.at h1 p hp];simp
theorem LOd.low {m:List (Nat×Blk)} {B:Nat} (h:LOd G m B):∀ k,k<100→hpL G m k=G k:=fun _ hk=>hpL_low (fun p hp=>(h.big p hp).1) hk
theorem LOd.sub {m:List (Nat×Blk)} {B:Nat} (h:LOd G m B) (k:Nat) (hk:k∈keys m):dom (hpL G m) k:=LOk.sub' h.one k hk
theorem LOd.closed {m:List (Nat×Blk)} {B:Nat} (hGF:GFlat G) (h:LOd G m B) (k:Nat) (b:Blk) (hk:hpL G m k=some b):b.ids (dom (hpL G m)):=by
 rcases hpL_mem hk with h1|h1
 ·exact h.ids (k,b) h1
 ·exact Blk.flat_ids (hGF k b h1).2
theorem LOd.free {m:List (Nat×Blk)} {B:Nat} (hGF:GFlat G) (hB:100≤B) (h:LOd G m B) (x:Nat) (hx:B≤x):hpL G m x=none:=by
 cases hb:hpL G m x with
 | none=>rfl
 | some b =>
  rcases hpL_mem hb with h1|h1
  ·have:=(h.big _ h1).2;simp at this;omega
  ·have:=(hGF x b h1).1;omega
theorem fun_ofD {f:FuncId} {fn:Func} {c:Code} {args:Array Value} {m:List (Nat×Blk)} {v:Value} {ws:List (Nat×Blk)} {B:Nat} (hGF:GFlat G) (hf:P.funcs[f]? = some fn) (hb:fn.body=some c) (hcall:∀ a w,(callFunc f a).run P w=.ok (.enter f a) w)
  (hm:LOk m B) (ha:∀ x∈args,idsV (dom (hpL G m)) x) (hv:idsV (fun k=>k∈keys m) v) (hw:∀ p∈ws,p.1∈keys m∧p.2.ids (fun k=>k∈keys m)) (hw1:∀ k b c,(k,b)∈ws→(k,c)∈ws→b=c) (hn:args.size≤fn.ntmps) (hB:100≤B)
  (h:∀ C:Ctx,C.G=G→C.hp0=hpL G m→C.Y=none→GW P C fn.ntmps [] none c ⟨fun t=>args.getD t undef,hpL G m,B,0⟩ (resP P fn (hpL G m) (.ret v ws))):Fun P G f args (hpL G m) (keys m) (.ret v ws):=by
 have e:=LOk.rst (m:=m) hGF
 refine fun_of (B:=B) hGF hm.low hf hb hcall (by rw [e];exact ha) (by rw [e];exact hm.closed hGF) ⟨by rw [e];exact idsV_mono (fun q hq=>hm.sub q hq) hv,fun k hk=>?_,hw1,fun p hp=>?_⟩ hn hB (by rw [e];exact hm.free hGF hB) (by rw [e];exact h)
 ·obtain ⟨p,hp,rfl⟩:=mem_keys.1 hk
  have:=(hw p hp).1
  obtain ⟨q,hq,e1⟩:=mem_keys.1 this
  exact ⟨this,hm.sub _ this,by rw [←e1];exact (hm.big q hq).1⟩
 ·rw [e];exact Blk.ids_mono (fun q hq=>hm.sub q hq) (hw p hp).2
theorem iterk_ofD {f:FuncId} {fn:Func} {c:Code} {caps:Array Value} {m:List (Nat×Blk)} {xs:List (Array Value)} {B:Nat} {v:Value} (hGF:GFlat G) (hf:P.funcs[f]? = some fn) (hb:fn.body=some c) (hcall:∀ a w,(callFunc f a).run P w=.ok (.enter f a) w)
  (hm:LOd G m B) (ha:∀ x∈caps,plain0 x=true∧idsV (fun k=>k∈keys m) x) (hn:caps.size+1≤fn.ntmps) (hB:100≤B)
  (h:∀ (C:Ctx) (l stop:Nat),C.G=G→C.hp0=hpL G m→C.Y=some ⟨l,xs,stop,none⟩→GW P C fn.ntmps [] none c ⟨fun t=>(#[Value.func (.yield l) #[] #[]]++caps).getD t undef,hpL G m,B,0⟩
   (fun e s=>(e=.normal∨e=.ret)∧resG P fn.results.toList s.ts s.hp=some v∧s.yc=min (stop+1) xs.length∧∀ k,dom (hpL G m) k→s.hp k=hpL G m k)):IterK P G f caps (hpL G m) (keys m) xs:=by
 have e:=LOk.rst (m:=m) hGF
 exact iterk_of (B:=B) (v:=v) hGF hm.low hf hb hcall (by rw [e];exact fun x hx=>⟨(ha x hx).1,idsV_mono (fun q hq=>hm.sub q hq) (ha x hx).2⟩) (by rw [e];exact hm.closed hGF) hn hB (by rw [e];exact hm.free hGF hB) (by rw [e];exact h)
theorem newS_ofD {f:FuncId} {fn:Func} {c:Code} {args:Array Value} {m:List (Nat×Blk)} {R:Value→List (Nat×Blk)→Prop} {B:Nat} (hGF:GFlat G) (hf:P.funcs[f]? = some fn) (hb:fn.body=some c) (hcall:∀ a w,(callFunc f a).run P w=.ok (.enter f a) w)
  (hm:LOk m B) (ha:∀ x∈args,idsV (dom (hpL G m)) x)
  (hfit:∀ v ns,R v ns→idsV (extD (dom (hpL G m)) ns) v∧(∀ p∈ns,B≤p.1∧p.2.ids (extD (dom (hpL G m)) ns))∧(∀ k b c,(k,b)∈ns→(k,c)∈ns→b=c))
  (hn:args.size≤fn.ntmps) (hB:100≤B)
  (h:∀ C:Ctx,C.G=G→C.hp0=hpL G m→C.Y=none→GW P C fn.ntmps [] none c ⟨fun t=>args.getD t undef,hpL G m,B,0⟩ fun e s=>(e=.normal∨e=.ret)∧(∀ k,dom (hpL G m) k→s.hp k=hpL G m k) ∧
   ∃ v ns ρ,R v ns∧(∀ k,k<B→ρ k=k)∧(∀ p∈ns,B≤ρ p.1)∧(∀ p∈ns,∀ q∈ns,ρ p.1=ρ q.1→p.1=q.1)∧resG P fn.results.toList s.ts s.hp=some (ren ρ v)∧∀ p∈ns,s.hp (ρ p.1)=some (p.2.rn ρ)):FunS P G f args (hpL G m) (keys m) R:=by
 have e:=LOk.rst (m:=m) hGF
 have hlt:∀ k,dom (hpL G m) k→k<B:=fun k hk=>by
  refine Classical.byContradiction fun h1=>hk (hm.free hGF hB k (by omega))
 refine newS_of (B:=B) hGF hm.low hf hb hcall (by rw [e];exact ha) (by rw [e];exact hm.closed hGF) (fun v ns hR=>?_) hn hB (by rw [e];exact hm.free hGF hB) (fun C h1 h2 h3=>?_)
 ·rw [e]
  obtain ⟨f1,f2,f3⟩:=hfit v ns hR
  refine ⟨f1,fun k hk=>?_,f3,fun p hp=>(f2 p hp).2⟩
  obtain ⟨p,hp,rfl⟩:=mem_keys.1 hk
  have:=(f2 p hp).1
  exact ⟨by omega,fun hd=>by have:=hlt _ hd;omega⟩
 ·rw [e] at h2 ⊢
  refine GW_mono (h C h1 h2 h3) fun e s=>fun ⟨q1,q2,v,ns,ρ,q3,q4,q5,q6,q7,q8⟩=>⟨q1,q2,v,ns,ρ,q3,fun k hk=>q4 k (hlt k hk),fun p hp=>?_,q6,q7,q8⟩
  have:=q5 p hp
  exact ⟨fun hd=>by have:=hlt _ hd;omega,by omega⟩
structure MvG (G G':Hp) (m m':List (Nat×Blk)) (ρ:Nat→Nat):Prop where
 gf:GFlat G
 gf':GFlat G'
 ok:∃ B,LOk m B
 ok':∃ B,LOk m' B
 sub:∀ k b,G k=some b→G' k=some b∧ρ k=k
 at':∀ p∈m,∃ c,hpL G' m' (ρ p.1)=some c∧∀ r,c.obj r=(p.2.rn ρ).obj r
 inj:∀ k∈keys m,∀ l∈keys m,ρ k=ρ l→k=l
 far:∀ k∈keys m,∀ l b,G l=some b→ρ k≠l
theorem MvG.dom {m m':List (Nat×Blk)} {ρ:Nat→Nat} (h:MvG G G' m m' ρ) {k:Nat} (hk:Gy.dom (hpL G m) k):Gy.dom (hpL G' m') (ρ k):=by
 unfold Gy.dom at hk
 cases hb:hpL G m k with
 | none=>exact absurd hb hk
 | some b =>
  rcases hpL_mem hb with h1|h1
  ·obtain ⟨c,h2,_⟩:=h.at' (k,b) h1
   unfold Gy.dom
   rw [show hpL G' m' (ρ k)=some c from h2]
   simp
  ·obtain ⟨h2,h3⟩:=h.sub k b h1
   obtain ⟨B,ok'⟩:=h.ok'
   unfold Gy.dom
   rw [h3,ok'.low k (h.gf k b h1).1,h2]
   simp
theorem MvG.run {m m':List (Nat×Blk)} {ρ:Nat→Nat} (h:MvG G G' m m' ρ) (hcl:∀ k b,hpL G m k=some b→b.ids (Gy.dom (hpL G m))) {r:Nat→Nat} {W:World} (hg:GOK G' W) (hs:Sat r (Gy.dom (hpL G' m')) (hpL G' m') W) (hi:Inj r (Gy.dom (hpL G' m'))) (hl:∀ k,k<100→Gy.dom (hpL G' m') k→r k=k) :
  GOK G W∧Sat (fun k=>r (ρ k)) (Gy.dom (hpL G m)) (hpL G m) W∧Inj (fun k=>r (ρ k)) (Gy.dom (hpL G m))∧(∀ k,k<100→Gy.dom (hpL G m) k→r (ρ k)=k):=by
 obtain ⟨B',ok'⟩:=h.ok'
 obtain ⟨B,ok⟩:=h.ok
 have hG:GOK G W:=fun k b hk=>hg k b (h.sub k b hk).1
 have key:∀ k,Gy.dom (hpL G m) k→(k∈keys m∧100≤k)∨(∃ b,G k=some b∧k<100∧ρ k=k):=fun k hk=>by
  unfold Gy.dom at hk
  cases hb:hpL G m k with
  | none=>exact absurd hb hk
  | some b =>
   rcases hpL_mem hb with h1|h1
   ·exact .inl ⟨mem_keys.2 ⟨_,h1,rfl⟩,(ok.big _ h1).1⟩
   ·exact .inr ⟨b,h1,(h.gf k b h1).1,(h.sub k b h1).2⟩
 refine ⟨hG,fun k b hk=>⟨?_,hcl k b hk⟩,fun k l hk hl' e=>?_,fun k hk hd=>?_⟩
 ·rcases hpL_mem hk with h1|h1
  ·obtain ⟨c,h2,h3⟩:=h.at' (k,b) h1
   rw [(hs _ c h2).1,h3 r,Blk.rn_obj]
  ·obtain ⟨h2,h3⟩:=h.sub k b h1
   have h4:=(h.gf k b h1).1
   have h5:hpL G' m' k=some b:=by rw [ok'.low k h4,h2]
   have:=(hs k b h5).1
   show W.heap[r (ρ k)]? = _
   rw [h3,this]
   exact congrArg some (Blk.obj_congr (D:=fun _=>False) (fun _ hf=>hf.elim) (Blk.flat_ids (h.gf k b h1).2))
 ·have e2:ρ k=ρ l:=hi _ _ (h.dom hk) (h.dom hl') e
  rcases key k hk with ⟨k1,_⟩|⟨b,k1,_,k2⟩<;>rcases key l hl' with ⟨l1,_⟩|⟨c,l1,_,l2⟩
  ·exact h.inj k k1 l l1 e2
  ·exact absurd (e2.trans l2) (h.far k k1 l c l1)
  ·exact absurd (e2.symm.trans k2) (h.far l l1 k b k1)
  ·rw [←k2,←l2,e2]
 ·rcases key k hd with ⟨_,k1⟩|⟨b,k1,k3,k2⟩
  ·omega
  ·have:=hl k hk (by have:=h.dom hd;rwa [k2] at this)
   rw [k2,this]
theorem Fun.mvG {f:FuncId} {args args':Array Value} {m m' ws:List (Nat×Blk)} {v:Value} {ρ:Nat→Nat} (hi:Fun P G f args (hpL G m) (keys m) (.ret v ws)) (h:MvG G G' m m' ρ) (hw:∀ k∈keys ws,ρ k∈keys m') (ea:args.map (ren ρ)=args') :
  Fun P G' f args' (hpL G' m') (keys m') (.ret (ren ρ v) (rnL ρ ws)):=by
 subst ea
 have er:=LOk.rst (m:=m) h.gf
 have er':=LOk.rst (m:=m') h.gf'
 obtain ⟨B',ok'⟩:=h.ok'
 obtain ⟨en,ids,closed,fits,run⟩:=hi
 rw [er] at ids closed run
 obtain ⟨f1,f2,f3,f4⟩:=fits
 rw [er] at f1 f4
 refine ⟨en,fun x hx=>?_,fun k b hb=>?_,⟨?_,fun k hk=>?_,fun k b c h1 h2=>?_,fun p hp1=>?_⟩,fun r W hgok hsat hinj hlow=>?_⟩
 ·rw [er']
  obtain ⟨y,hy,rfl⟩:=Array.mem_map.1 hx
  exact idsV_rn (fun k hk=>h.dom hk) (ids y hy)
 ·rw [er'] at hb ⊢
  exact ok'.closed h.gf' k b hb
 ·rw [er'];exact idsV_rn (fun k hk=>h.dom hk) f1
 ·obtain ⟨q,hq,rfl⟩:=keys_rnL hk
  have h1:=hw q hq
  refine ⟨h1,ok'.sub _ h1,?_⟩
  obtain ⟨p,hp,e⟩:=mem_keys.1 h1
  rw [←e];exact (ok'.big p hp).1
 ·simp only [rnL,List.mem_map,Prod.mk.injEq] at h1 h2
  obtain ⟨p,hp1,e1,rfl⟩:=h1
  obtain ⟨q,hq1,e2,rfl⟩:=h2
  have k1:=f2 p.1 (mem_keys.2 ⟨p,hp1,rfl⟩)
  have k2:=f2 q.1 (mem_keys.2 ⟨q,hq1,rfl⟩)
  have e3:=h.inj p.1 k1.1 q.1 k2.1 (e1.trans e2.symm)
  rw [f3 p.1 p.2 q.2 hp1 (by rw [e3];exact hq1)]
 ·simp only [rnL,List.mem_map] at hp1
  obtain ⟨p,hp1,rfl⟩:=hp1
  rw [er']
  exact Blk.ids_rn (fun k hk=>h.dom hk) (f4 p hp1)
 ·rw [er'] at hsat hinj hlow
  obtain ⟨s0,s1,s2,s3⟩:=h.run closed hgok hsat hinj hlow
  have hrun:=run (fun k=>r (ρ k)) W s0 s1 s2 s3
  have ha:(args.map (ren ρ)).map (ren r)=args.map (ren fun k=>r (ρ k)):=by
   rw [Array.map_map]
   exact Array.map_congr_left fun x _=>ren_comp r ρ x
  rw [ha]
  refine hrun.mono fun e W' ⟨he,ht⟩=>⟨?_,ht.os,ht.tape,ht.output,ht.size,fun k hk hnw=>ht.same k hk fun p hp1=>?_,fun p hp1=>?_,by simp,by simp⟩
  ·rw [he,ren_comp]
  ·exact hnw (ρ p.1,p.2.rn ρ) (by simp only [rnL,List.mem_map];exact ⟨p,hp1,rfl⟩)
  ·simp only [List.append_nil,rnL,List.mem_map] at hp1
   obtain ⟨p,hp1,rfl⟩:=hp1
   have hh:=ht.has p (by simpa using hp1)
   refine ⟨by rw [Blk.rn_obj];exact hh.1,?_⟩
   rw [er']
   exact Blk.ids_rn (fun k hk=>hk.elim (fun h1=>.inl (h.dom h1)) (fun h1=>.inr (by simp [keys] at h1))) hh.2
theorem FunS.mvG {f:FuncId} {args args':Array Value} {m m':List (Nat×Blk)} {R R':Value→List (Nat×Blk)→Prop} {ρ:Nat→Nat} (hi:FunS P G f args (hpL G m) (keys m) R) (h:MvG G G' m m' ρ) (ea:args.map (ren ρ)=args') (eR:RR ρ R=R')
  (hnew:∀ v ns,R v ns→∀ k∈keys ns,100≤ρ k∧¬dom (hpL G' m') (ρ k)) (hnj:∀ v ns,R v ns→∀ k∈keys ns,∀ l∈keys ns,ρ k=ρ l→k=l):FunS P G' f args' (hpL G' m') (keys m') R':=by
 subst ea eR
 have er:=LOk.rst (m:=m) h.gf
 have er':=LOk.rst (m:=m') h.gf'
 obtain ⟨B',ok'⟩:=h.ok'
 obtain ⟨en,ids,closed,fits,run⟩:=hi
 rw [er] at ids closed run fits
 have hext:∀ ns,∀ k,extD (dom (hpL G m)) ns k→extD (dom (hpL G' m')) (rnL ρ ns) (ρ k):=fun ns k hk=>hk.elim (fun h1=>.inl (h.dom h1)) (fun h1=>.inr (mem_keys_rnL h1))
 refine ⟨en,fun x hx=>?_,fun k b hb=>?_,fun v' ns' hR'=>?_,fun r W hgok hsat hinj hlow=>?_⟩
 ·rw [er']
  obtain ⟨y,hy,rfl⟩:=Array.mem_map.1 hx
  exact idsV_rn (fun k hk=>h.dom hk) (ids y hy)
 ·rw [er'] at hb ⊢
  exact ok'.closed h.gf' k b hb
 ·rw [er']
  obtain ⟨v,ns,hR,rfl,rfl⟩:=hR'
  obtain ⟨f1,f2,f3,f4⟩:=fits v ns hR
  refine ⟨idsV_rn (hext ns) f1,fun k hk=>?_,fun k b c h1 h2=>?_,fun p hp1=>?_⟩
  ·obtain ⟨q,hq,rfl⟩:=keys_rnL hk
   exact hnew v ns hR q hq
  ·simp only [rnL,List.mem_map,Prod.mk.injEq] at h1 h2
   obtain ⟨p,hp1,e1,rfl⟩:=h1
   obtain ⟨q,hq1,e2,rfl⟩:=h2
   have e3:=hnj v ns hR p.1 (mem_keys.2 ⟨p,hp1,rfl⟩) q.1 (mem_keys.2 ⟨q,hq1,rfl⟩) (e1.trans e2.symm)
   rw [f3 p.1 p.2 q.2 hp1 (by rw [e3];exact hq1)]
  ·simp only [rnL,List.mem_map] at hp1
   obtain ⟨p,hp1,rfl⟩:=hp1
   exact Blk.ids_rn (hext ns) (f4 p hp1)
 ·rw [er'] at hsat hinj hlow ⊢
  obtain ⟨s0,s1,s2,s3⟩:=h.run closed hgok hsat hinj hlow
  have hrun:=run (fun k=>r (ρ k)) W s0 s1 s2 s3
  have ha:(args.map (ren ρ)).map (ren r)=args.map (ren fun k=>r (ρ k)):=by
   rw [Array.map_map]
   exact Array.map_congr_left fun x _=>ren_comp r ρ x
  rw [ha]
  refine hrun.mono fun e W' ⟨v,ns,r1,hR,hr1,he,ht⟩=>?_
  obtain ⟨f1,f2,f3,f4⟩:=fits v ns hR
  let r2:Nat→Nat:=fun k'=>match (keys ns).find? (fun k=>ρ k==k') with|some k=>r1 k|none=>r k'
  have e1:∀ k∈keys ns,r2 (ρ k)=r1 k:=fun k hk=>by
   show (match (keys ns).find? (fun l=>ρ l==ρ k) with|some k=>r1 k|none=>r (ρ k))=r1 k
   cases hf:(keys ns).find? (fun l=>ρ l==ρ k) with
   | none=>have:=List.find?_eq_none.1 hf k hk;simp at this
   | some l =>
    have h1:=List.find?_some hf
    have h2:=List.mem_of_find?_eq_some hf
    simp only [beq_iff_eq] at h1
    rw [hnj v ns hR l h2 k hk h1]
  have e2:∀ k,dom (hpL G' m') k→r2 k=r k:=fun k hk=>by
   show (match (keys ns).find? (fun l=>ρ l==k) with|some k=>r1 k|none=>r k)=r k
   cases hf:(keys ns).find? (fun l=>ρ l==k) with
   | none=>rfl
   | some l =>
    have h1:=List.find?_some hf
    have h2:=List.mem_of_find?_eq_some hf
    simp only [beq_iff_eq] at h1
    exact absurd (h1▸hk) (hnew v ns hR l h2).2
  have e3:∀ k,extD (dom (hpL G m)) ns k→r2 (ρ k)=r1 k:=fun k hk=>hk.elim (fun h1=>by rw [e2 _ (h.dom h1),hr1 k h1]) (fun h1=>e1 k h1)
  refine ⟨ren ρ v,rnL ρ ns,r2,⟨v,ns,hR,rfl,rfl⟩,e2,?_,ht.os,ht.tape,ht.output,ht.size,fun k hk hnw=>ht.same k hk (by simp),fun p hp1=>?_,fun p hp1=>?_,fun p hp1 q hq1 hpq=>?_⟩
  ·rw [he,ren_comp]
   exact congrArg _ (ren_congr (D:=extD (dom (hpL G m)) ns) (fun k hk=>(e3 k hk).symm) f1)
  ·simp only [List.nil_append,rnL,List.mem_map] at hp1
   obtain ⟨p,hp1,rfl⟩:=hp1
   have hh:=ht.has p (by simpa using hp1)
   refine ⟨?_,Blk.ids_rn (hext ns) hh.2⟩
   rw [Blk.rn_obj,Blk.obj_congr e3 hh.2]
   show W'.heap[r2 (ρ p.1)]? = _
   rw [e1 _ (mem_keys.2 ⟨p,hp1,rfl⟩)]
   exact hh.1
  ·simp only [rnL,List.mem_map] at hp1
   obtain ⟨p,hp1,rfl⟩:=hp1
   show W.heap.size≤r2 (ρ p.1)
   rw [e1 _ (mem_keys.2 ⟨p,hp1,rfl⟩)]
   exact ht.fresh p hp1
  ·simp only [rnL,List.mem_map] at hp1 hq1
   obtain ⟨p,hp1,rfl⟩:=hp1
   obtain ⟨q,hq1,rfl⟩:=hq1
   have k1:=mem_keys.2 ⟨p,hp1,rfl⟩
   have k2:=mem_keys.2 ⟨q,hq1,rfl⟩
   have hpq':r2 (ρ p.1)=r2 (ρ q.1):=hpq
   rw [e1 _ k1,e1 _ k2] at hpq'
   have:=ht.apart p hp1 q hq1 hpq'
   show ρ p.1=ρ q.1
   rw [this]
end
@[simp] theorem rg1:Array.range 1=#[0]:=rfl
@[simp] theorem rg2:Array.range 2=#[0,1]:=rfl
@[simp] theorem rg3:Array.range 3=#[0,1,2]:=rfl
@[simp] theorem rg4:Array.range 4=#[0,1,2,3]:=rfl
@[simp] theorem rg5:Array.range 5=#[0,1,2,3,4]:=rfl
@[simp] theorem rg6:Array.range 6=#[0,1,2,3,4,5]:=rfl
@[simp] theorem rg20:Array.range 20=#[0,1,2,3,4,5,6,7,8,9,10,11,12,13,14,15,16,17,18,19]:=rfl
@[simp] theorem rg36:Array.range 36=#[0,1,2,3,4,5,6,7,8,9,10,11,12,13,14,15,16,17,18,19,20,21,22,23,24,25,26,27,28,29,30,31,32,33,34,35]:=rfl
section
variable {P:Program} {G:Hp} {V:XV} {yc nk:Nat} {ts:Nat→Value} {hp:Hp} {C:Eff→Prop} {dst:Option Tmp} {type:TypeId} {pos:String} {after:Array Edge} {guard:Option (Nat×Bool)}
def bsZ (e len m nk:Nat) (ps:List (Nat×Value)) (z:Option Value) (C:Eff→Prop):Prop :=
 match z with
 | some z=>okCells z=true∧flatV z=true∧0<len*m∧len*m≤16777216∧bsX (fillG (.inr m) ((Array.range (len*m)).map (z.cells[·%z.cells.size]!)) ps) e len nk C
 | none=>False
@[simp] theorem bsZ_some (e len m nk:Nat) (ps:List (Nat×Value)) (z:Value) (C:Eff→Prop):bsZ e len m nk ps (some z) C=(okCells z=true∧flatV z=true∧0<len*m∧len*m≤16777216∧bsX (fillG (.inr m) ((Array.range (len*m)).map (z.cells[·%z.cells.size]!)) ps) e len nk C):=rfl
def bsM (P:Program) (e len nk:Nat) (ps:List (Nat×Value)) (m:Option Nat) (C:Eff→Prop):Prop :=
 match m with
 | some m=>bsZ e len m nk ps (tyZero P e) C
 | none=>False
@[simp] theorem bsM_some (P:Program) (e len m nk:Nat) (ps:List (Nat×Value)) (C:Eff→Prop):bsM P e len nk ps (some m) C=bsZ e len m nk ps (tyZero P e) C:=rfl
def bsU (P:Program) (len nk:Nat) (ps:List (Nat×Value)) (u:Option TypeDesc) (C:Eff→Prop):Prop :=
 match u with
 | some (.slice e)=>bsM P e len nk ps (tySize P e) C
 | _=>False
@[simp] theorem bsU_some (P:Program) (e len nk:Nat) (ps:List (Nat×Value)) (C:Eff→Prop):bsU P len nk ps (some (.slice e)) C=bsM P e len nk ps (tySize P e) C:=rfl
@[simp ↓] theorem opX_buildSlice (T:TypeId) (len:Nat) (parts:Array (Nat×Operand)):opX P G V yc ⟨dst,.buildSlice T len parts,type,pos,after,guard⟩ ts hp nk C =
  ((∀ p∈parts.toList,okX ts hp p.2∧okCells (gev ts p.2)=true)∧bsU P len nk (partsG ts parts) (P.underlying T) C):=by
 unfold opX bsU
 simp only
 cases hu:P.underlying T with
 | none=>rfl
 | some u =>
  cases u with
  | slice e =>
   simp only [bsM]
   cases hm:tySize P e with
   | none=>rfl
   | some m =>
    simp only [bsZ]
    cases hz:tyZero P e with
    | none=>rfl
    | some z =>
     simp only
     cases hf:fillG (.inr m) ((Array.range (len*m)).map (z.cells[·%z.cells.size]!)) (partsG ts parts)<;>rfl
  | _=>rfl
@[simp] theorem msZ_int (e m:Nat) (z:Value) (b:Nat) (l:Int) (w:Value) (C:Eff→Prop):msZ P e m nk (some z) (some b) (.int .i64 l) w C=(w=.int .i64 l∧okCells z=true∧flatV z=true∧(0<l∧l≤4096)∧b≤4096∧0<m∧C ⟨.slice (some ⟨nk,0,none⟩) l.toNat l.toNat,[],[],[(nk,⟨(Array.range (l.toNat*m)).map (z.cells[·%z.cells.size]!),e⟩)],none,false⟩):=rfl
@[simp] theorem msM_some (e m:Nat) (v w:Value) (C:Eff→Prop):msM P e nk (some m) v w C=msZ P e m nk (tyZero P e) (tyB P e) v w C:=rfl
@[simp] theorem msU_slice (e:Nat) (v w:Value) (C:Eff→Prop):msU P nk (some (.slice e)) v w C=msM P e nk (tySize P e) v w C:=rfl
@[simp ↓] theorem opX_makeSlice (T:TypeId) (x y:Operand):opX P G V yc ⟨dst,.makeSlice T x y,type,pos,after,guard⟩ ts hp nk C=(okX ts hp x∧okX ts hp y∧msU P nk (P.underlying T) (gev ts x) (gev ts y) C):=nr rfl
end
end Go.Gy
namespace Go.Gy
set_option linter.unusedSimpArgs false
set_option linter.unusedVariables false
open Go Go.RowKit Go.Proofs
def vf (x0 x1 x2:Int):Nat→Int
 | 0=>x0
 | 1=>x1
 | _=>x2
def vf2 (x0 x1 x2 y0 y1 y2:Int):Nat→Int
 | 0=>x0
 | 1=>x1
 | 2=>x2
 | 3=>y0
 | 4=>y1
 | _=>y2
def xsV (N:Nat) (f:Nat→Int):List (Array Value):=(List.range N).map fun j=>#[.int .i64 ((j%3:Nat):Int),.int .i64 (f j)]
theorem xsV_at (N:Nat) (f:Nat→Int) (i:Nat) (h:i<N):(xsV N f)[i]? = some #[.int .i64 ((i%3:Nat):Int),.int .i64 (f i)]:=by simp [xsV,h]
theorem vparts_new (b k m c:Nat) (cs:Array Value) (hcs:∀ x∈cs,flatF x=true) (hb:100≤b) (hb2:b<100000) (hk:100≤k) (hbk:b≠k):Fun Tryz.prog G0 86 #[.slice (some ⟨b,0,none⟩) m c] (hpL G0 [(b,⟨cs,.ty 31⟩)]) [b] (.new (.func (.func 113) #[] #[.pointer (some ⟨k,0,none⟩)]) [(k,⟨#[.slice (some ⟨b,0,none⟩) m c],.ty 35⟩)]):=by
 have e0:rst (hpL G0 [(b,⟨cs,.ty 31⟩)]) [b]=hpL G0 [(b,⟨cs,.ty 31⟩)]:=hpL_rst G0F (by simp)
 have hdom:∀ j,dom (hpL G0 [(b,⟨cs,.ty 31⟩)]) j→j=b∨j<100:=fun j hj=>by
  unfold dom at hj
  cases hq:hpL G0 [(b,⟨cs,.ty 31⟩)] j with
  | none=>exact absurd hq hj
  | some q =>
   rcases hpL_mem hq with h|h
   ·simp at h;exact .inl h.1
   ·exact .inr (G0F j q h).1
 have hdb:dom (hpL G0 [(b,⟨cs,.ty 31⟩)]) b:=by unfold dom;simp
 refine new_of (B:=100000) (fun j=>if j=k then 100000 else j) G0F (fun j hj=>hpL_low (by simp;omega) hj) Tryz.func86 rfl Tryz.call86 ?_ ?_ ?_ (by simp [Tryz.ntmps86]) (by omega) ?_ (fun j hj=>?_) ?_ ?_ ?_ ?_
 ·rw [e0];simp [idsV,idsA,idsF,ids0];exact hdb
 ·rw [e0]
  intro j q hq
  rcases hpL_mem hq with h|h
  ·simp at h;rw [h.2];exact Blk.flat_ids hcs
  ·exact G0_closed _ _ _ h
 ·refine ⟨by simp [idsV,idsA,idsF,ids0,extD,keys],by simp [keys];omega,fun q b c h1 h2=>?_⟩
  simp at h1 h2
  rw [h1.2,h2.2]
 ·rw [e0]
  intro x hx
  simp [show ¬x=b by omega,show 100≤x by omega]
 ·rw [e0] at hj
  rcases hdom j hj with h|h
  ·rw [if_neg (by omega)]
  ·rw [if_neg (by omega)]
 ·rw [e0]
  intro p hp
  simp at hp
  subst hp
  refine ⟨fun h=>?_,by simp⟩
  rcases hdom _ h with h|h<;>simp at h<;>omega
 ·simp
 ·rw [e0];simp [idsF,ids0];exact hdb
 ·intro C hC hC0 hY
  rw [e0]
  have hbB:¬b=100000:=by omega
  have hBb:¬100000=b:=by omega
  repeat' (first|refine gwA ?_|(refine gwX ?_;intro Q hQ hP;simp [hC,hY,hbB,hBb,hbk];refine hQ _ _ _ _ (by kernel_rfl) ?_;clear hQ hP Q)|(refine gwC ?_ ?_<;>(intro hb;try (cases hb;done))))
  refine ⟨.inr trivial,?_⟩
  simp [Tryz.results86,ren,renA,renF,ren0]
  intro j hj
  rcases hdom j hj with h|h
  ·have:¬j=100000:=by omega
   simp [this]
  ·have:¬j=100000:=by omega
   simp [this]
def pvL1 (x0 x1 x2:Int):List (Nat×Blk):=[(100,⟨#[.slice (some ⟨108,0,none⟩) 1 1],.ty 35⟩),(108,⟨#[.int .i64 x0,.int .i64 x1,.int .i64 x2],.ty 31⟩)]
abbrev pv1 (x0 x1 x2:Int):Hp:=hpL G0 (pvL1 x0 x1 x2)
theorem vparts1_itk (x0 x1 x2:Int):IterK Tryz.prog G0 113 #[.pointer (some ⟨100,0,none⟩)] (pv1 x0 x1 x2) [100,108] (xsV 3 (vf x0 x1 x2)):=by
 have hL:LOk (pvL1 x0 x1 x2) 200:=⟨by simp [pvL1],by simp [pvL1,keys],by simp [pvL1,ids_lit,idsF,ids0,keys]⟩
 have hlt:∀ k,dom (hpL G0 (pvL1 x0 x1 x2)) k→k<200:=fun k hk=>Classical.byContradiction fun h1=>hk (hL.free G0F (by omega) k (by omega))
 refine iterk_ofL (m:=pvL1 x0 x1 x2) (B:=200) (v:=.tuple #[]) G0F Tryz.func113 rfl Tryz.call113 hL ?_ (by simp [Tryz.ntmps113]) (by omega) ?_
 ·simp [idsV,idsA,idsF,ids0,pvL1,keys]
 ·intro C l stop hC hC0 hY
  have exs:xsV 3 (vf x0 x1 x2)=[#[.int .i64 0,.int .i64 x0],#[.int .i64 1,.int .i64 x1],#[.int .i64 2,.int .i64 x2]]:=rfl
  rw [exs] at hY ⊢
  by_cases h3:3≤stop
  ·have q0:(0 != stop)=true:=by simp;omega
   have q1:(1 != stop)=true:=by simp;omega
   have q2:(2 != stop)=true:=by simp;omega
   have l1:1≤stop:=by omega
   have l2:2≤stop:=by omega
   repeat' (first|refine GWL_start ?_|refine GWL_step ?_|refine gwA ?_|(refine gwX ?_;intro Q hQ hP;simp [hC,hY,pvL1,q0,q1,q2,l1,l2,h3];refine hQ _ _ _ _ (by kernel_rfl) ?_;clear hQ hP Q)|(refine gwC ?_ ?_<;>(intro hb;try (cases hb;done))))
   refine ⟨by simp,by simp [Tryz.results113],by first|(simp;omega)|omega,fun k hk=>?_⟩
   have hk:=hlt k hk
   simp (disch:=omega) only [upd_other]
   rfl
  ·have:stop=0∨stop=1∨stop=2:=by omega
   rcases this with rfl|rfl|rfl
   all_goals
    repeat' (first|refine GWL_start ?_|refine GWL_step ?_|refine gwA ?_|(refine gwX ?_;intro Q hQ hP;simp [hC,hY,pvL1];refine hQ _ _ _ _ (by kernel_rfl) ?_;clear hQ hP Q)|(refine gwC ?_ ?_<;>(intro hb;try (cases hb;done))))
   all_goals
    refine ⟨by simp,by simp [Tryz.results113],by simp,fun k hk=>?_⟩
    have hk:=hlt k hk
    simp (disch:=omega) only [upd_other]
    rfl
theorem vparts1_it (x0 x1 x2:Int):IterG Tryz.prog G0 113 #[.pointer (some ⟨100,0,none⟩)] (pv1 x0 x1 x2) [100,108] (xsV 3 (vf x0 x1 x2)):=(vparts1_itk x0 x1 x2).g
def pvL2 (x0 x1 x2 y0 y1 y2:Int):List (Nat×Blk):=[(100,⟨#[.slice (some ⟨108,0,none⟩) 2 2],.ty 35⟩),(108,⟨#[.int .i64 x0,.int .i64 x1,.int .i64 x2,.int .i64 y0,.int .i64 y1,.int .i64 y2],.ty 31⟩)]
abbrev pv2 (x0 x1 x2 y0 y1 y2:Int):Hp:=hpL G0 (pvL2 x0 x1 x2 y0 y1 y2)
set_option maxRecDepth 20000 in
set_option maxHeartbeats 4000000 in
theorem vparts2_itk (x0 x1 x2 y0 y1 y2:Int):IterK Tryz.prog G0 113 #[.pointer (some ⟨100,0,none⟩)] (pv2 x0 x1 x2 y0 y1 y2) [100,108] (xsV 6 (vf2 x0 x1 x2 y0 y1 y2)):=by
 have hL:LOk (pvL2 x0 x1 x2 y0 y1 y2) 200:=⟨by simp [pvL2],by simp [pvL2,keys],by simp [pvL2,ids_lit,idsF,ids0,keys]⟩
 have hlt:∀ k,dom (hpL G0 (pvL2 x0 x1 x2 y0 y1 y2)) k→k<200:=fun k hk=>Classical.byContradiction fun h1=>hk (hL.free G0F (by omega) k (by omega))
 refine iterk_ofL (m:=pvL2 x0 x1 x2 y0 y1 y2) (B:=200) (v:=.tuple #[]) G0F Tryz.func113 rfl Tryz.call113 hL ?_ (by simp [Tryz.ntmps113]) (by omega) ?_
 ·simp [idsV,idsA,idsF,ids0,pvL2,keys]
 ·intro C l stop hC hC0 hY
  have exs:xsV 6 (vf2 x0 x1 x2 y0 y1 y2)=[#[.int .i64 0,.int .i64 x0],#[.int .i64 1,.int .i64 x1],#[.int .i64 2,.int .i64 x2],#[.int .i64 0,.int .i64 y0],#[.int .i64 1,.int .i64 y1],#[.int .i64 2,.int .i64 y2]]:=rfl
  rw [exs] at hY ⊢
  by_cases h6:6≤stop
  ·have q0:(0 != stop)=true:=by simp;omega
   have q1:(1 != stop)=true:=by simp;omega
   have q2:(2 != stop)=true:=by simp;omega
   have q3:(3 != stop)=true:=by simp;omega
   have q4:(4 != stop)=true:=by simp;omega
   have q5:(5 != stop)=true:=by simp;omega
   have l1:1≤stop:=by omega
   have l2:2≤stop:=by omega
   have l3:3≤stop:=by omega
   have l4:4≤stop:=by omega
   have l5:5≤stop:=by omega
   repeat' (first|refine GWL_start ?_|refine GWL_step ?_|refine gwA ?_|(refine gwX ?_;intro Q hQ hP;simp [hC,hY,pvL2,q0,q1,q2,q3,q4,q5,l1,l2,l3,l4,l5,h6];refine hQ _ _ _ _ (by kernel_rfl) ?_;clear hQ hP Q)|(refine gwC ?_ ?_<;>(intro hb;try (cases hb;done))))
   refine ⟨by simp,by simp [Tryz.results113],by first|(simp;omega)|omega,fun k hk=>?_⟩
   have hk:=hlt k hk
   simp (disch:=omega) only [upd_other]
   rfl
  ·have:stop=0∨stop=1∨stop=2∨stop=3∨stop=4∨stop=5:=by omega
   rcases this with rfl|rfl|rfl|rfl|rfl|rfl
   all_goals
    repeat' (first|refine GWL_start ?_|refine GWL_step ?_|refine gwA ?_|(refine gwX ?_;intro Q hQ hP;simp [hC,hY,pvL2];refine hQ _ _ _ _ (by kernel_rfl) ?_;clear hQ hP Q)|(refine gwC ?_ ?_<;>(intro hb;try (cases hb;done))))
   all_goals
    refine ⟨by simp,by simp [Tryz.results113],by simp,fun k hk=>?_⟩
    have hk:=hlt k hk
    simp (disch:=omega) only [upd_other]
    rfl
end Go.Gy
namespace Go.Gy
set_option linter.unusedSimpArgs false
set_option linter.unusedVariables false
open Go Go.RowKit Go.Proofs
def wl (z:Int):List Value:=[.int .u64 (wi z 0),.int .u64 (wi z 1),.int .u64 (wi z 2),.int .u64 (wi z 3)]
@[simp] theorem wl_len (z:Int):(wl z).length=4:=rfl
def lc (b:Int):Nat→List Value
 | 0=>[]
 | k+1=>lc b k++wl (b*2^k)
@[simp] theorem lc_len (b:Int) (k:Nat):(lc b k).length=4*k:=by
 induction k with
 | zero=>rfl
 | succ k ih=>simp [lc,ih];omega
end Go.Gy
namespace Go.Gy
set_option linter.unusedSimpArgs false
set_option linter.unusedVariables false
def nearQ (a b:Int):Int:=if b<2*(a%b)∨(2*(a%b)=b∧0≤a / b) then a / b+1 else a / b
end Go.Gy
namespace Go.Gy
set_option linter.unusedSimpArgs false
set_option linter.unusedVariables false
open Go Go.RowKit Go.Proofs
def sm (z:Int):Prop:=-1329227995784915872903807060280344576≤z∧z≤1329227995784915872903807060280344576
theorem sm.wr {z:Int} (h:sm z):wr z:=⟨Int.le_trans (by decide) h.1,Int.lt_of_le_of_lt h.2 (by decide)⟩
theorem sm.up {z:Int} (h:sm z):Gy.wr (z+1):=⟨Int.le_trans (by decide) (Int.le_trans h.1 (Int.le_add_one (Int.le_refl _))),Int.lt_of_le_of_lt (Int.add_le_add_right h.2 1) (by decide)⟩
def jb (n:Int):Blk:=⟨#[.int .i64 n],.ty 3⟩
theorem lead (p:Nat→Prop) (m:Nat):∃ N,N≤m∧(∀ i,i<N→p i)∧(N=m∨¬p N):=by
 induction m with
 | zero=>exact ⟨0,Nat.le_refl _,fun i hi=>absurd hi (Nat.not_lt_zero i),.inl rfl⟩
 | succ m ih =>
  obtain ⟨N,h1,h2,h3⟩:=ih
  rcases h3 with rfl|h3
  ·by_cases hp:p N
   ·exact ⟨N+1,Nat.le_refl _,fun i hi=>by
     by_cases e:i=N
     ·subst e;exact hp
     ·exact h2 i (by omega),.inl rfl⟩
   ·exact ⟨N,by omega,h2,.inr hp⟩
  ·exact ⟨N,by omega,h2,.inr h3⟩
def inW (m x:Int):Prop:=0≤m∧-m≤x∧x≤m
instance inWdec (m x:Int):Decidable (inW m x):=by unfold inW;infer_instance
theorem neg_in {m:Int} (h:i64 m) (h0:0≤m):Int.bmod (-m) 18446744073709551616=-m:=by
 have:=h.1;have:=h.2
 rw [Int.bmod_def];omega
def wiHp (x0 x1 x2 m:Int):Hp:=hpL G0 [(200,⟨#[.int .i64 x0,.int .i64 x1,.int .i64 x2],.ty 31⟩),(208,jb m),(216,⟨#[.bool false],.ty 4⟩)]
def wiTs:Nat→Value:=tsL [(3,.pointer (some ⟨208,0,none⟩)),(4,.pointer (some ⟨216,0,none⟩))]
set_option maxRecDepth 8000 in
theorem within_ret (x0 x1 x2 m:Int) (hm:i64 m) (h0:i64 x0) (h1:i64 x1) (h2:i64 x2):Ret Tryz.prog G0 77 #[.agg #[.int .i64 x0,.int .i64 x1,.int .i64 x2],.int .i64 m] (.bool (decide (inW m x0∧inW m x1∧inW m x2))):=by
 refine ret_of G0F Tryz.func77 rfl Tryz.call77 (by simp) (by simp) (by simp [Tryz.ntmps77]) ?_
 intro C hC hC0 hY
 obtain ⟨N,hN,hlt,hend⟩:=lead (fun i=>inW m (vf x0 x1 x2 i)) 3
 repeat' (first|refine gwA ?_|((first|refine gwR [86] ?_|refine gwD [86] ?_);intro Q hQ hP;simp [hC,hY,jb];(repeat ((first|(refine heapK_of (vparts_new 232 240 1 1 #[.int .i64 x0,.int .i64 x1,.int .i64 x2] (by simp) (by omega) (by omega) (by omega) (by omega)) (by simp) (fun k hk=>hpL_low (by simp) hk) (by simp [Res.at,keys]) ?_));try simp [hC,hY,jb]));refine hQ _ _ _ _ (by kernel_rfl) ?_;clear hQ hP Q)|(refine gwC ?_ ?_<;>(intro hb;try (cases hb;done))))
 have hT:m<0∨0≤m:=by omega
 refine GW_range (f:=113) (rs:=[240,232]) (xs:=xsV 3 (vf x0 x1 x2)) (caps:=#[.pointer (some ⟨240,0,none⟩)]) (by simp) ?_ (by simp [xsV]) (by simp [Tryz.ntmps77]) wiTs (fun _=>wiHp x0 x1 x2 m) 300 N (by simp [xsV];omega) ?_ ?_ ?_ ?_ ?_
 ·rw [hC]
  refine IterG.cast (IterX.rn (fun k=>if k=100 then 240 else if k=108 then 232 else k) G0F (fun k hk=>hpL_low (by simp [pvL1]) hk) (rs:=[100,108]) ?_ (vparts1_it x0 x1 x2)) (by simp [ren0]) (by simp)
  refine ⟨fun k hk=>?_,?_,?_,?_⟩
  ·have h1:¬k=100:=by omega
   have h2:¬k=108:=by omega
   have h3:¬k=200:=by omega
   have h4:¬k=208:=by omega
   have h5:¬k=216:=by omega
   have h8:¬k=232:=by omega
   have h9:¬k=240:=by omega
   simp [h1,h2,h3,h4,h5,h8,h9,pv1,pvL1]
  ·simp
  ·simp [pvL1,Blk.rn,renF,ren0]
  ·simp
 ·refine weakL _ 300 hC G0F (m0:=[]) hC0 (by omega) ?_ ?_ ?_
  ·simp [idsV,idsA,idsF,ids0,dom]
  ·simp [ids_lit,idsF,ids0,jb]
  ·simp
 ·simp [wiHp,dom]
 ·intro i hi t
  refine tsL_ids ?_ t
  simp [idsV,idsA,idsF,ids0,dom,wiHp]
 ·intro i x hi hx C1 l hC1 hh1 hY1
  have hCC:=hC
  have hC1':C1.G=G0:=hC1.trans hC
  obtain ⟨g0,g1,g2⟩:=hlt i hi
  replace hC:=hC1'
  replace hY:=hY1
  have:i=0∨i=1∨i=2:=by omega
  rcases this with rfl|rfl|rfl
  all_goals
   rw [xsV_at _ _ _ (by omega)] at hx
   simp only [Option.some.injEq] at hx
   subst hx
   simp only [vf] at *
   unfold wiHp
  all_goals
   repeat' (first|refine gwA ?_|(refine gwX ?_;intro Q hQ hP;simp [hC,hY,roundTs,wiTs,jb];refine hQ _ _ _ _ (by kernel_rfl) ?_;clear hQ hP Q)|(refine gwC ?_ ?_<;>(intro hb;try (cases hb;done))))
  all_goals
   intro C2 hC2 hh2 hY2
   replace hC:C2.G=G0:=hC2.trans hCC
   replace hY:=hY2
   have q0:¬m<0:=by omega
   have q1:=Int.not_lt.2 g1
   have q2:=Int.not_lt.2 g2
   have hbm:=neg_in hm g0
   repeat' (first|refine gwA ?_|(refine gwX ?_;intro Q hQ hP;simp [hC,hY,roundTs,wiTs,jb,hbm,q0,q1,q2];refine hQ _ _ _ _ (by kernel_rfl) ?_;clear hQ hP Q)|(refine gwC ?_ ?_<;>(intro hb;try (cases hb;done))))
  all_goals
   refine weakL [] 300 hC1' G0F hh1 (by omega) ?_ ?_ ?_
   ·simp
   ·simp [ids_lit,idsF,ids0,jb]
   ·simp [jb]
 ·by_cases hend':N=3
  ·subst hend'
   left
   refine ⟨by simp [xsV],?_⟩
   have e:(inW m x0∧inW m x1∧inW m x2)=True:=by
    simp only [eq_iff_iff,iff_true]
    exact ⟨hlt 0 (by omega),hlt 1 (by omega),hlt 2 (by omega)⟩
   simp only [e]
   unfold wiHp wiTs jb
   repeat' (first|refine gwA ?_|(refine gwX ?_;intro Q hQ hP;simp [hC,hY];refine hQ _ _ _ _ (by kernel_rfl) ?_;clear hQ hP Q)|(refine gwC ?_ ?_<;>(intro hb;try (cases hb;done))))
   refine ⟨.inr trivial,?_⟩
   simp [Tryz.results77]
  ·right
   have hN3:N<3:=by omega
   replace hend:=hend.resolve_left hend'
   refine ⟨_,xsV_at _ _ _ hN3,?_⟩
   have e:(inW m x0∧inW m x1∧inW m x2)=False:=by
    simp only [eq_iff_iff,iff_false]
    rintro ⟨a0,a1,a2⟩
    have:N=0∨N=1∨N=2:=by omega
    rcases this with rfl|rfl|rfl<;>contradiction
   simp only [e]
   have hor:m<0∨(¬m<0∧vf x0 x1 x2 N < -m)∨(¬m<0∧¬vf x0 x1 x2 N < -m∧m<vf x0 x1 x2 N):=by
    unfold inW at hend;omega
   intro C1 l hC1 hh1 hY1
   have hCC:=hC
   replace hC:=hC1.trans hC
   replace hY:=hY1
   clear hlt hN
   have:N=0∨N=1∨N=2:=by omega
   rcases this with rfl|rfl|rfl
   all_goals
    simp only [vf] at hor ⊢
    unfold wiHp
   all_goals
    repeat' (first|refine gwA ?_|(refine gwX ?_;intro Q hQ hP;simp [hC,hY,roundTs,wiTs,jb];refine hQ _ _ _ _ (by kernel_rfl) ?_;clear hQ hP Q)|(refine gwC ?_ ?_<;>(intro hb;try (cases hb;done))))
   all_goals
    intro C2 hC2 hh2 hY2
    replace hC:C2.G=G0:=hC2.trans hCC
    replace hY:=hY2
    rcases hor with q0|⟨q0,q1⟩|⟨q0,q1,q2⟩
    ·
     repeat' (first|refine gwA ?_|(refine gwX ?_;intro Q hQ hP;simp [hC,hY,roundTs,wiTs,jb,q0];refine hQ _ _ _ _ (by kernel_rfl) ?_;clear hQ hP Q)|(refine gwC ?_ ?_<;>(intro hb;try (cases hb;done))))
     refine ⟨by simp [outCode],fun t=>tsL_ids (by simp [idsV,idsA,idsF,ids0,dom]) t,.inr trivial,?_⟩
     simp [Tryz.results77,wiTs]
    ·have hbm:=neg_in hm (Int.not_lt.1 q0)
     repeat' (first|refine gwA ?_|(refine gwX ?_;intro Q hQ hP;simp [hC,hY,roundTs,wiTs,jb,hbm,q0,q1];refine hQ _ _ _ _ (by kernel_rfl) ?_;clear hQ hP Q)|(refine gwC ?_ ?_<;>(intro hb;try (cases hb;done))))
     refine ⟨by simp [outCode],fun t=>tsL_ids (by simp [idsV,idsA,idsF,ids0,dom]) t,.inr trivial,?_⟩
     simp [Tryz.results77,wiTs]
    ·have hbm:=neg_in hm (Int.not_lt.1 q0)
     repeat' (first|refine gwA ?_|(refine gwX ?_;intro Q hQ hP;simp [hC,hY,roundTs,wiTs,jb,hbm,q0,q1,q2];refine hQ _ _ _ _ (by kernel_rfl) ?_;clear hQ hP Q)|(refine gwC ?_ ?_<;>(intro hb;try (cases hb;done))))
     refine ⟨by simp [outCode],fun t=>tsL_ids (by simp [idsV,idsA,idsF,ids0,dom]) t,.inr trivial,?_⟩
     simp [Tryz.results77,wiTs]
def inV (m x0 x1 x2:Int):Bool:=decide (inW m x0∧inW m x1∧inW m x2)
@[simp] theorem vwithin (x0 x1 x2 m:Int) (hm:i64 m) (h0:i64 x0) (h1:i64 x1) (h2:i64 x2) (K:Value→Prop):callK Tryz.prog G0 77 #[.agg #[.int .i64 x0,.int .i64 x1,.int .i64 x2],.int .i64 m] K↔K (.bool (inV m x0 x1 x2)):=callK_iff G0W (by kernel_rfl) (within_ret x0 x1 x2 m hm h0 h1 h2)
def fnI (x:Int):Prop:=-536870912≤x∧x≤536870912
instance fnIdec (x:Int):Decidable (fnI x):=by unfold fnI;infer_instance
theorem fine_fun (M m:Nat) (v:Bool) (cs:Array Value) (hcs:∀ x∈cs,flatF x=true) (f:Nat→Int) (hit:IterK Tryz.prog G0 113 #[.pointer (some ⟨100,0,none⟩)] (hpL G0 [(100,⟨#[.slice (some ⟨108,0,none⟩) m m],.ty 35⟩),(108,⟨cs,.ty 31⟩)]) (keys [(100,⟨#[.slice (some ⟨108,0,none⟩) m m],.ty 35⟩),(108,⟨cs,.ty 31⟩)]) (xsV M f)) (hv:v=true↔∀ j,j<M→fnI (f j)) :
  Fun Tryz.prog G0 85 #[.slice (some ⟨100,0,none⟩) m m] (hpL G0 [(100,⟨cs,.ty 31⟩)]) [100] (.ret (.bool v) []):=by
 have hfx:Blk.fx (Blk.mk cs (.ty 31)):=hcs
 have hfi:∀ D,(Blk.mk cs (.ty 31)).ids D:=fun D=>Blk.fx_ids hfx D
 refine fun_ofL (m:=[(100,⟨cs,.ty 31⟩)]) (B:=200) G0F Tryz.func85 rfl Tryz.call85 ⟨by simp,by simp [keys],by simp only [List.mem_singleton,forall_eq];exact hfi _⟩ ?_ (by simp) (by simp) (by simp) (by simp [Tryz.ntmps85]) (by omega) ?_
 ·simp [idsV,idsA,idsF,ids0,keys]
 intro C hC hC0 hY
 obtain ⟨N,hN,hlt,hend⟩:=lead (fun i=>fnI (f i)) M
 repeat' (first|refine gwA ?_|((first|refine gwR [86] ?_|refine gwD [86] ?_);intro Q hQ hP;simp [hC,hY,jb];(repeat ((first|(refine heapK_of (vparts_new 100 216 m m cs hcs (by omega) (by omega) (by omega) (by omega)) (by simp) (fun k hk=>hpL_low (by simp) hk) (by simp [Res.at,keys]) ?_));try simp [hC,hY,jb]));refine hQ _ _ _ _ (by kernel_rfl) ?_;clear hQ hP Q)|(refine gwC ?_ ?_<;>(intro hb;try (cases hb;done))))
 refine GW_rangeKL (G:=G0) (f:=113) (rs:=[216,100]) (xs:=xsV M f) (caps:=#[.pointer (some ⟨216,0,none⟩)]) (m0:=[(100,⟨cs,.ty 31⟩)]) [216,100] G0F hC hC0 hY (by simp) ?_ (by simp [xsV]) (by simp [Tryz.ntmps85]) [(2,.pointer (some ⟨200,0,none⟩))] [] (fun _=>[(200,⟨#[.bool false],.ty 4⟩)]) 300 N (by simp [xsV];omega) (by omega) (by simp) (by simp [dom]) ?_ (by simp) (by simp) (by simp) ?_ (by simp) ?_ ?_
 ·refine iterk_mv (m:=[(100,⟨#[.slice (some ⟨108,0,none⟩) m m],.ty 35⟩),(108,⟨cs,.ty 31⟩)]) (B:=200) hit G0F ⟨by simp,by simp [keys],?_⟩ (fun k=>if k=100 then 216 else if k=108 then 100 else k) (fun k hk=>?_) (by simp [ren0]) (by simp [keys]) (by (intro k hk;first|rfl|(simp (disch:=omega) only [addB,List.mem_cons,List.not_mem_nil,or_false,upd_other,hpL_cons,hpL_nil,if_neg,updL]<;>done))) ?_ ?_
  ·simp only [List.mem_cons,List.not_mem_nil,or_false,forall_eq_or_imp,forall_eq]
   exact ⟨by simp [ids_lit,idsF,ids0,keys],hfi _⟩
  ·rw [if_neg (by omega),if_neg (by omega)]
  ·have hr:=fun ρ=>fx_map hcs ρ
   simp [hr,Blk.rn,renF,ren0]
  ·simp [keys]
 ·intro k hk b hb
  simp only [List.mem_cons,List.not_mem_nil,or_false] at hk
  rcases hk with rfl|rfl
  ·simp at hb;subst hb;simp [ids_lit,idsF,ids0]
  ·simp at hb;subst hb;exact hfi _
 ·intro i hi
  simp [idsV,idsA,idsF,ids0,dom,ids_lit]
 ·intro i x hi hx C1 l hC1 hh1 hY1
  rw [xsV_at _ _ _ (by omega)] at hx
  simp only [Option.some.injEq] at hx
  subst hx
  obtain ⟨g1,g2⟩:=hlt i hi
  have q1:=Int.not_lt.2 g1
  have q2:=Int.not_lt.2 g2
  clear hC hY
  have hC:=hC1
  have hY:=hY1
  repeat' (first|refine gwA ?_|(refine gwX ?_;intro Q hQ hP;simp [hC,hY,roundTs];refine hQ _ _ _ _ (by kernel_rfl) ?_;clear hQ hP Q)|(refine gwC ?_ ?_<;>(intro hb;try (cases hb;done))))
  intro C2 hC2 hh2 hY2
  clear hC hY
  have hC:=hC2
  have hY:=hY2
  repeat' (first|refine gwA ?_|(refine gwX ?_;intro Q hQ hP;simp [hC,hY,roundTs,q1,q2];refine hQ _ _ _ _ (by kernel_rfl) ?_;clear hQ hP Q)|(refine gwC ?_ ?_<;>(intro hb;try (cases hb;done))))
  simp
 ·by_cases hend':N=M
  ·subst hend'
   left
   refine ⟨by simp [xsV],?_⟩
   have e:=hv.2 hlt
   subst e
   repeat' (first|refine gwA ?_|(refine gwX ?_;intro Q hQ hP;simp [hC,hY,addB,List.cons_append,List.nil_append];refine hQ _ _ _ _ (by kernel_rfl) ?_;clear hQ hP Q)|(refine gwC ?_ ?_<;>(intro hb;try (cases hb;done))))
   refine ⟨.inr rfl,by simp [Tryz.results85],keep_of G0F (by simp [addB]) (by (intro k hk;first|rfl|(simp (disch:=omega) only [addB,List.mem_cons,List.not_mem_nil,or_false,upd_other,hpL_cons,hpL_nil,if_neg,updL]<;>done)))⟩
  ·right
   have hN3:N<M:=by omega
   replace hend:=hend.resolve_left hend'
   refine ⟨_,xsV_at _ _ _ hN3,?_⟩
   have e:v=false:=by
    cases v
    ·rfl
    ·exact absurd (hv.1 rfl N hN3) hend
   subst e
   have hor:f N < -536870912∨(¬f N < -536870912∧536870912<f N):=by
    unfold fnI at hend;omega
   intro C1 l hC1 hh1 hY1
   clear hC hY
   have hC:=hC1
   have hY:=hY1
   repeat' (first|refine gwA ?_|(refine gwX ?_;intro Q hQ hP;simp [hC,hY,roundTs];refine hQ _ _ _ _ (by kernel_rfl) ?_;clear hQ hP Q)|(refine gwC ?_ ?_<;>(intro hb;try (cases hb;done))))
   intro C2 hC2 hh2 hY2
   clear hC hY
   have hC:=hC2
   have hY:=hY2
   rcases hor with q1|⟨q1,q2⟩
   ·
    repeat' (first|refine gwA ?_|(refine gwX ?_;intro Q hQ hP;simp [hC,hY,roundTs,q1];refine hQ _ _ _ _ (by kernel_rfl) ?_;clear hQ hP Q)|(refine gwC ?_ ?_<;>(intro hb;try (cases hb;done))))
    refine ⟨by simp [outCode],by simp [idsV,idsA,idsF,ids0,dom],by simp,.inr rfl,by simp [Tryz.results85,addB],keep_of G0F (by simp [addB]) (by (intro k hk;first|rfl|(simp (disch:=omega) only [addB,List.mem_cons,List.not_mem_nil,or_false,upd_other,hpL_cons,hpL_nil,if_neg,updL]<;>done)))⟩
   ·
    repeat' (first|refine gwA ?_|(refine gwX ?_;intro Q hQ hP;simp [hC,hY,roundTs,q1,q2];refine hQ _ _ _ _ (by kernel_rfl) ?_;clear hQ hP Q)|(refine gwC ?_ ?_<;>(intro hb;try (cases hb;done))))
    refine ⟨by simp [outCode],by simp [idsV,idsA,idsF,ids0,dom],by simp,.inr rfl,by simp [Tryz.results85,addB],keep_of G0F (by simp [addB]) (by (intro k hk;first|rfl|(simp (disch:=omega) only [addB,List.mem_cons,List.not_mem_nil,or_false,upd_other,hpL_cons,hpL_nil,if_neg,updL]<;>done)))⟩

theorem fine1_fun (x0 x1 x2:Int) (v:Bool) (hv:v=true↔fnI x0∧fnI x1∧fnI x2):Fun Tryz.prog G0 85 #[.slice (some ⟨100,0,none⟩) 1 1] (hpL G0 [(100,⟨#[.int .i64 x0,.int .i64 x1,.int .i64 x2],.ty 31⟩)]) [100] (.ret (.bool v) []):=by
 refine fine_fun 3 1 _ _ (by simp) _ (vparts1_itk x0 x1 x2) ?_
 rw [hv]
 refine ⟨fun ⟨h0,h1,h2⟩ j hj=>?_,fun h=>⟨h 0 (by omega),h 1 (by omega),h 2 (by omega)⟩⟩
 have:j=0∨j=1∨j=2:=by omega
 rcases this with rfl|rfl|rfl<;>assumption
theorem fine2_fun (x0 x1 x2 y0 y1 y2:Int) (v:Bool) (hv:v=true↔(fnI x0∧fnI x1∧fnI x2)∧fnI y0∧fnI y1∧fnI y2):Fun Tryz.prog G0 85 #[.slice (some ⟨100,0,none⟩) 2 2] (hpL G0 [(100,⟨#[.int .i64 x0,.int .i64 x1,.int .i64 x2,.int .i64 y0,.int .i64 y1,.int .i64 y2],.ty 31⟩)]) [100] (.ret (.bool v) []):=by
 refine fine_fun 6 2 _ _ (by simp) _ (vparts2_itk x0 x1 x2 y0 y1 y2) ?_
 rw [hv]
 refine ⟨fun ⟨⟨h0,h1,h2⟩,h3,h4,h5⟩ j hj=>?_,fun h=>⟨⟨h 0 (by omega),h 1 (by omega),h 2 (by omega)⟩,h 3 (by omega),h 4 (by omega),h 5 (by omega)⟩⟩
 have:j=0∨j=1∨j=2∨j=3∨j=4∨j=5:=by omega
 rcases this with rfl|rfl|rfl|rfl|rfl|rfl<;>assumption
@[simp] theorem flatV_fn0 (f:Fn):flatV (.func f #[] #[])=true:=by simp [flatV,flatA,flatF,Array.all]
def eaE (op:Int→Int→Int) (a0 a1 a2 b0 b1 b2:Int):Int:=if ((fnI a0∧fnI a1∧fnI a2)∧fnI b0∧fnI b1∧fnI b2)∧fnI (op a0 b0)∧fnI (op a1 b1)∧fnI (op a2 b2) then 0 else 20
def eaV (e v:Int):Int:=if e=0 then v else 0
def eaL (g:FuncId) (op:Int→Int→Int) (a0 a1 a2 b0 b1 b2:Int) (i:Nat):List (Nat×Blk):=[(200,⟨#[.int .i64 a0,.int .i64 a1,.int .i64 a2],.ty 31⟩),(208,⟨#[.int .i64 b0,.int .i64 b1,.int .i64 b2],.ty 31⟩),(216,⟨#[.func (.func g) #[] #[]],.ty 93⟩),
 (224,⟨#[.int .i64 (if 0<i then op a0 b0 else 0),.int .i64 (if 1<i then op a1 b1 else 0),.int .i64 (if 2<i then op a2 b2 else 0)],.ty 31⟩)]
set_option maxRecDepth 8000 in
theorem each_ret (g:FuncId) (op:Int→Int→Int) (hop:∀ x y K,fnI x→fnI y→(callK Tryz.prog G0 g #[.int .i64 x,.int .i64 y] K↔K (.int .i64 (op x y)))) (a0 a1 a2 b0 b1 b2:Int):Ret Tryz.prog G0 64 #[.agg #[.int .i64 a0,.int .i64 a1,.int .i64 a2],.agg #[.int .i64 b0,.int .i64 b1,.int .i64 b2],.func (.func g) #[] #[]]
  (.tuple #[.agg #[.int .i64 (eaV (eaE op a0 a1 a2 b0 b1 b2) (op a0 b0)),.int .i64 (eaV (eaE op a0 a1 a2 b0 b1 b2) (op a1 b1)),.int .i64 (eaV (eaE op a0 a1 a2 b0 b1 b2) (op a2 b2))],.int .i64 (eaE op a0 a1 a2 b0 b1 b2)]):=by
 refine ret_of G0F Tryz.func64 rfl Tryz.call64 (by simp) (by simp) (by simp [Tryz.ntmps64]) ?_
 intro C hC hC0 hY
 obtain ⟨v,hv⟩:∃ v:Bool,v=true↔(fnI a0∧fnI a1∧fnI a2)∧fnI b0∧fnI b1∧fnI b2:=⟨decide _,decide_eq_true_iff⟩
 cases v with
 | false =>
  have e:eaE op a0 a1 a2 b0 b1 b2=20:=by unfold eaE;rw [if_neg];intro h;exact absurd (hv.2 h.1) (by simp)
  rw [e]
  repeat' (first|refine gwA ?_|((first|refine gwR [85] ?_|refine gwD [85] ?_);intro Q hQ hP;simp [hC,hY];(repeat ((first|(refine heapK_mv (fine2_fun a0 a1 a2 b0 b1 b2 _ hv) G0F (B:=200) ⟨by simp,by simp [keys],by simp [ids_lit,idsF,ids0]⟩ (fun k=>if k=100 then 256 else k) (fun k hk=>if_neg (by omega)) (by simp [ren,renA,renF,ren0]) (by simp) (by simp [Blk.rn,renF,ren0]) (by simp [keys]) (by simp [keys];rfl) ?_));try simp [hC,hY]));refine hQ _ _ _ _ (by kernel_rfl) ?_;clear hQ hP Q)|(refine gwC ?_ ?_<;>(intro hb;try (cases hb;done))))
  refine ⟨.inr trivial,?_⟩
  simp [Tryz.results64,eaV]
 | true =>
  repeat' (first|refine gwA ?_|((first|refine gwR [85,86] ?_|refine gwD [85,86] ?_);intro Q hQ hP;simp [hC,hY];(repeat ((first|(first|(refine heapK_mv (fine2_fun a0 a1 a2 b0 b1 b2 _ hv) G0F (B:=200) ⟨by simp,by simp [keys],by simp [ids_lit,idsF,ids0]⟩ (fun k=>if k=100 then 256 else k) (fun k hk=>if_neg (by omega)) (by simp [ren,renA,renF,ren0]) (by simp) (by simp [Blk.rn,renF,ren0]) (by simp [keys]) (by simp [keys];rfl) ?_)|refine heapK_of (vparts_new 288 296 1 1 #[.int .i64 a0,.int .i64 a1,.int .i64 a2] (by simp) (by omega) (by omega) (by omega) (by omega)) (by simp) (fun k hk=>hpL_low (by simp) hk) (by simp [Res.at,keys]) ?_));try simp [hC,hY]));refine hQ _ _ _ _ (by kernel_rfl) ?_;clear hQ hP Q)|(refine gwC ?_ ?_<;>(intro hb;try (cases hb;done))))
  obtain ⟨⟨f0,f1,f2⟩,g0,g1,g2⟩:=hv.1 rfl
  have s0:=fun K=>hop a0 b0 K f0 g0
  have s1:=fun K=>hop a1 b1 K f1 g1
  have s2:=fun K=>hop a2 b2 K f2 g2
  refine GW_rangeKL (G:=G0) (f:=113) (rs:=[296,288]) (xs:=xsV 3 (vf a0 a1 a2)) (caps:=#[.pointer (some ⟨296,0,none⟩)]) (m0:=[]) [296,288] G0F hC hC0 hY (by simp) ?_ (by simp [xsV]) (by simp [Tryz.ntmps64]) [(3,.pointer (some ⟨200,0,none⟩)),(4,.pointer (some ⟨208,0,none⟩)),(5,.pointer (some ⟨216,0,none⟩)),(6,.pointer (some ⟨224,0,none⟩)),(7,.int .i64 0)] [] (eaL g op a0 a1 a2 b0 b1 b2) 400 3 (by simp [xsV]) (by omega) (by simp) (by simp [dom]) ?_ (by simp) (by simp) (by simp [eaL]) ?_ (by simp) ?_ ?_
  ·refine iterk_mv (m:=pvL1 a0 a1 a2) (B:=200) (vparts1_itk a0 a1 a2) G0F ⟨by simp [pvL1],by simp [pvL1,keys],by simp [pvL1,ids_lit,idsF,ids0,keys]⟩ (fun k=>if k=100 then 296 else if k=108 then 288 else k) (fun k hk=>?_) (by simp [ren0]) (by simp [pvL1,keys]) (by (intro k hk;first|rfl|(simp (disch:=omega) only [addB,List.mem_cons,List.not_mem_nil,or_false,upd_other,hpL_cons,hpL_nil,if_neg,updL]<;>done))) ?_ ?_
   ·rw [if_neg (by omega),if_neg (by omega)]
   ·simp [pvL1,Blk.rn,renF,ren0]
   ·simp [pvL1,keys]
  ·intro k hk b hb
   simp only [List.mem_cons,List.not_mem_nil,or_false] at hk
   rcases hk with rfl|rfl
   ·simp at hb;subst hb;simp [ids_lit,idsF,ids0]
   ·simp at hb;subst hb;simp [ids_lit,idsF,ids0]
  ·intro i hi
   simp [eaL,idsV,idsA,idsF,ids0,dom,ids_lit]
  ·intro i x hi hx C1 l hC1 hh1 hY1
   rw [xsV_at _ _ _ (by omega)] at hx
   simp only [Option.some.injEq] at hx
   subst hx
   clear hC hY
   have hC:=hC1
   have hY:=hY1
   have:i=0∨i=1∨i=2:=by omega
   rcases this with rfl|rfl|rfl
   all_goals
    simp only [vf]
    unfold eaL
   all_goals
    repeat' (first|refine gwA ?_|(refine gwX ?_;intro Q hQ hP;simp [hC,hY,roundTs];refine hQ _ _ _ _ (by kernel_rfl) ?_;clear hQ hP Q)|(refine gwC ?_ ?_<;>(intro hb;try (cases hb;done))))
   all_goals
    intro C2 hC2 hh2 hY2
    clear hC hY
    have hC:=hC2
    have hY:=hY2
    repeat' (first|refine gwA ?_|(refine gwX ?_;intro Q hQ hP;simp [hC,hY,roundTs,s0,s1,s2];refine hQ _ _ _ _ (by kernel_rfl) ?_;clear hQ hP Q)|(refine gwC ?_ ?_<;>(intro hb;try (cases hb;done))))
   all_goals simp
  ·left
   refine ⟨by simp [xsV],?_⟩
   obtain ⟨w,hw⟩:∃ w:Bool,w=true↔fnI (op a0 b0)∧fnI (op a1 b1)∧fnI (op a2 b2):=⟨decide _,decide_eq_true_iff⟩
   cases w with
   | false =>
    have e:eaE op a0 a1 a2 b0 b1 b2=20:=by unfold eaE;rw [if_neg];intro h;exact absurd (hw.2 h.2) (by simp)
    rw [e]
    unfold eaL
    repeat' (first|refine gwA ?_|((first|refine gwR [85] ?_|refine gwD [85] ?_);intro Q hQ hP;simp [hC,hY,addB,List.cons_append,List.nil_append];(repeat ((first|(refine heapK_mv (fine1_fun (op a0 b0) (op a1 b1) (op a2 b2) _ hw) G0F (B:=200) ⟨by simp,by simp [keys],by simp [ids_lit,idsF,ids0]⟩ (fun k=>if k=100 then 408 else k) (fun k hk=>if_neg (by omega)) (by simp [ren,renA,renF,ren0]) (by simp) (by simp [Blk.rn,renF,ren0]) (by simp [keys]) (by simp [keys];rfl) ?_));try simp [hC,hY,addB,List.cons_append,List.nil_append]));refine hQ _ _ _ _ (by kernel_rfl) ?_;clear hQ hP Q)|(refine gwC ?_ ?_<;>(intro hb;try (cases hb;done))))
    refine ⟨.inr trivial,?_⟩
    simp [Tryz.results64,eaV]
   | true =>
    have e:eaE op a0 a1 a2 b0 b1 b2=0:=by unfold eaE;rw [if_pos];exact ⟨hv.1 rfl,hw.1 rfl⟩
    rw [e]
    unfold eaL
    repeat' (first|refine gwA ?_|((first|refine gwR [85] ?_|refine gwD [85] ?_);intro Q hQ hP;simp [hC,hY,addB,List.cons_append,List.nil_append];(repeat ((first|(refine heapK_mv (fine1_fun (op a0 b0) (op a1 b1) (op a2 b2) _ hw) G0F (B:=200) ⟨by simp,by simp [keys],by simp [ids_lit,idsF,ids0]⟩ (fun k=>if k=100 then 408 else k) (fun k hk=>if_neg (by omega)) (by simp [ren,renA,renF,ren0]) (by simp) (by simp [Blk.rn,renF,ren0]) (by simp [keys]) (by simp [keys];rfl) ?_));try simp [hC,hY,addB,List.cons_append,List.nil_append]));refine hQ _ _ _ _ (by kernel_rfl) ?_;clear hQ hP Q)|(refine gwC ?_ ?_<;>(intro hb;try (cases hb;done))))
    refine ⟨.inr trivial,?_⟩
    simp [Tryz.results64,eaV]
theorem veach (g:FuncId) (op:Int→Int→Int) (hop:∀ x y K,fnI x→fnI y→(callK Tryz.prog G0 g #[.int .i64 x,.int .i64 y] K↔K (.int .i64 (op x y)))) (a0 a1 a2 b0 b1 b2:Int) (K:Value→Prop):callK Tryz.prog G0 64 #[.agg #[.int .i64 a0,.int .i64 a1,.int .i64 a2],.agg #[.int .i64 b0,.int .i64 b1,.int .i64 b2],.func (.func g) #[] #[]] K ↔
  K (.tuple #[.agg #[.int .i64 (eaV (eaE op a0 a1 a2 b0 b1 b2) (op a0 b0)),.int .i64 (eaV (eaE op a0 a1 a2 b0 b1 b2) (op a1 b1)),.int .i64 (eaV (eaE op a0 a1 a2 b0 b1 b2) (op a2 b2))],.int .i64 (eaE op a0 a1 a2 b0 b1 b2)]):=callK_iff G0W (by kernel_rfl) (each_ret g op hop a0 a1 a2 b0 b1 b2)
end Go.Gy
namespace Go.Gy
set_option linter.unusedSimpArgs false
set_option linter.unusedVariables false
open Go Go.RowKit Go.Proofs
end Go.Gy
namespace Go.Gy
set_option linter.unusedSimpArgs false
set_option linter.unusedVariables false
open Go Go.RowKit Go.Proofs
def partB (n d:Int):Bool:=decide (-2097152≤n∧n≤2097152∧1≤d∧d≤2097152)
def d1E (v n d:Int):Int:=if partB n d=true∧-1073741824≤v∧v≤1073741824 then 0 else 2
def d1V (v n d:Int):Int:=if partB n d=true∧-1073741824≤v∧v≤1073741824 then nearQ (v*n) d else 0
def wyE (v0 v1 v2 n d:Int):Int:=if d1E v0 n d=0 then (if d1E v1 n d=0 then d1E v2 n d else d1E v1 n d) else d1E v0 n d
theorem within9_ret (x0 x1 x2 m:Int) (hm:i64 m):Ret Tryz.prog G0 74 #[.agg #[.int .i64 x0,.int .i64 x1,.int .i64 x2],.int .i64 m] (.bool (decide (inW m x0∧inW m x1∧inW m x2))):=by
 refine ret_of G0F Tryz.func74 rfl Tryz.call74 rfl (by simp) (by simp [Tryz.ntmps74]) ?_
 intro C hC hC0 hY
 by_cases q:m<0
 ·have e:decide (inW m x0∧inW m x1∧inW m x2)=false:=decide_eq_false (by unfold inW;omega)
  rw [e]
  repeat' (first|refine GWL_start ?_|refine GWL_step ?_|refine gwA ?_|(refine gwX ?_;intro Q hQ hP;simp [hC,hY,q];refine hQ _ _ _ _ (by kernel_rfl) ?_;clear hQ hP Q)|(refine gwC ?_ ?_<;>(intro hb;try (cases hb;done))))
  refine ⟨.inr trivial,?_⟩
  simp [Tryz.results74]
 ·have hbm:=neg_in hm (Int.not_lt.1 q)
  rcases Classical.em (m<x0) with a0|a0
  ·have e:decide (inW m x0∧inW m x1∧inW m x2)=false:=decide_eq_false (by unfold inW;omega)
   rw [e]
   repeat' (first|refine GWL_start ?_|refine GWL_step ?_|refine gwA ?_|(refine gwX ?_;intro Q hQ hP;simp [hC,hY,q,hbm,a0];refine hQ _ _ _ _ (by kernel_rfl) ?_;clear hQ hP Q)|(refine gwC ?_ ?_<;>(intro hb;try (cases hb;done))))
   refine ⟨.inr trivial,?_⟩
   simp [Tryz.results74]
  rcases Classical.em (x0 < -m) with b0|b0
  ·have e:decide (inW m x0∧inW m x1∧inW m x2)=false:=decide_eq_false (by unfold inW;omega)
   rw [e]
   repeat' (first|refine GWL_start ?_|refine GWL_step ?_|refine gwA ?_|(refine gwX ?_;intro Q hQ hP;simp [hC,hY,q,hbm,a0,b0];refine hQ _ _ _ _ (by kernel_rfl) ?_;clear hQ hP Q)|(refine gwC ?_ ?_<;>(intro hb;try (cases hb;done))))
   refine ⟨.inr trivial,?_⟩
   simp [Tryz.results74]
  rcases Classical.em (m<x1) with a1|a1
  ·have e:decide (inW m x0∧inW m x1∧inW m x2)=false:=decide_eq_false (by unfold inW;omega)
   rw [e]
   repeat' (first|refine GWL_start ?_|refine GWL_step ?_|refine gwA ?_|(refine gwX ?_;intro Q hQ hP;simp [hC,hY,q,hbm,a0,b0,a1];refine hQ _ _ _ _ (by kernel_rfl) ?_;clear hQ hP Q)|(refine gwC ?_ ?_<;>(intro hb;try (cases hb;done))))
   refine ⟨.inr trivial,?_⟩
   simp [Tryz.results74]
  rcases Classical.em (x1 < -m) with b1|b1
  ·have e:decide (inW m x0∧inW m x1∧inW m x2)=false:=decide_eq_false (by unfold inW;omega)
   rw [e]
   repeat' (first|refine GWL_start ?_|refine GWL_step ?_|refine gwA ?_|(refine gwX ?_;intro Q hQ hP;simp [hC,hY,q,hbm,a0,b0,a1,b1];refine hQ _ _ _ _ (by kernel_rfl) ?_;clear hQ hP Q)|(refine gwC ?_ ?_<;>(intro hb;try (cases hb;done))))
   refine ⟨.inr trivial,?_⟩
   simp [Tryz.results74]
  rcases Classical.em (m<x2) with a2|a2
  ·have e:decide (inW m x0∧inW m x1∧inW m x2)=false:=decide_eq_false (by unfold inW;omega)
   rw [e]
   repeat' (first|refine GWL_start ?_|refine GWL_step ?_|refine gwA ?_|(refine gwX ?_;intro Q hQ hP;simp [hC,hY,q,hbm,a0,b0,a1,b1,a2];refine hQ _ _ _ _ (by kernel_rfl) ?_;clear hQ hP Q)|(refine gwC ?_ ?_<;>(intro hb;try (cases hb;done))))
   refine ⟨.inr trivial,?_⟩
   simp [Tryz.results74]
  rcases Classical.em (x2 < -m) with b2|b2
  ·have e:decide (inW m x0∧inW m x1∧inW m x2)=false:=decide_eq_false (by unfold inW;omega)
   rw [e]
   repeat' (first|refine GWL_start ?_|refine GWL_step ?_|refine gwA ?_|(refine gwX ?_;intro Q hQ hP;simp [hC,hY,q,hbm,a0,b0,a1,b1,a2,b2];refine hQ _ _ _ _ (by kernel_rfl) ?_;clear hQ hP Q)|(refine gwC ?_ ?_<;>(intro hb;try (cases hb;done))))
   refine ⟨.inr trivial,?_⟩
   simp [Tryz.results74]
  have e:decide (inW m x0∧inW m x1∧inW m x2)=true:=decide_eq_true (by unfold inW;omega)
  rw [e]
  repeat' (first|refine GWL_start ?_|refine GWL_step ?_|refine gwA ?_|(refine gwX ?_;intro Q hQ hP;simp [hC,hY,q,hbm,a0,b0,a1,b1,a2,b2];refine hQ _ _ _ _ (by kernel_rfl) ?_;clear hQ hP Q)|(refine gwC ?_ ?_<;>(intro hb;try (cases hb;done))))
  refine ⟨.inr trivial,?_⟩
  simp [Tryz.results74]
@[simp] theorem within9 (x0 x1 x2 m:Int) (hm:i64 m) (K:Value→Prop):callK Tryz.prog G0 74 #[.agg #[.int .i64 x0,.int .i64 x1,.int .i64 x2],.int .i64 m] K↔K (.bool (inV m x0 x1 x2)):=callK_iff G0W (by kernel_rfl) (within9_ret x0 x1 x2 m hm)
structure SB (b:Blk) (off n:Nat) (f:Nat→Int):Prop where
 rd:rdI b off (6*n) f
 fx:b.fx
 i6:∀ j,j<6*n→i64 (f j)
 nn:n≤2932031007402
def inB (bx tp:Int) (f:Nat→Int) (i:Nat):Bool:=inV bx (f (6*i)) (f (6*i+1)) (f (6*i+2))&&inV tp (f (6*i+3)) (f (6*i+4)) (f (6*i+5))
theorem SB.body {b:Blk} {off n:Nat} {f:Nat→Int} (h:SB b off n f) {i:Nat} (hi:i<n):loadK Tryz.prog 45 b (off+i*6)=some (.agg #[.int .i64 (f (6*i)),.int .i64 (f (6*i+1)),.int .i64 (f (6*i+2)),.int .i64 (f (6*i+3)),.int .i64 (f (6*i+4)),.int .i64 (f (6*i+5))]):=by
 have hbrd:=Blk.fx_rd h.fx
 have:=loadK_rd (P:=Tryz.prog) (T:=45) (m:=6) (j:=6*i) (tyAgg_of Tryz.isAgg45) (tySize_of Tryz.sizeOf45) (by omega) h.rd (by omega)
 rw [show off+i*6=off+6*i by omega,this,fa_6]
 rfl
theorem SB.i {b:Blk} {off n:Nat} {f:Nat→Int} (h:SB b off n f) {i:Nat} (hi:i<n) (q:Nat) (hq:q<6):i64 (f (6*i+q)):=h.i6 _ (by omega)
theorem wi1_fun (bx tp x0 x1 x2 v0 v1 v2:Int) (hbx:i64 bx) (htp:i64 tp) (h0:i64 x0) (h1:i64 x1) (h2:i64 x2) (h3:i64 v0) (h4:i64 v1) (h5:i64 v2) :
  Fun Tryz.prog G0 76 #[.agg #[.int .i64 x0,.int .i64 x1,.int .i64 x2,.int .i64 v0,.int .i64 v1,.int .i64 v2],.pointer (some ⟨100,0,none⟩),.pointer (some ⟨108,0,none⟩)] (hpL G0 [(100,jb bx),(108,jb tp)]) (keys [(100,jb bx),(108,jb tp)]) (.ret (.bool !(inV bx x0 x1 x2&&inV tp v0 v1 v2)) []):=by
 refine fun_ofL (B:=200) G0F Tryz.func76 rfl Tryz.call76 ⟨by simp,by simp [keys],by simp [jb,ids_lit,idsF,ids0]⟩ ?_ (by simp) (by simp) (by simp) (by simp [Tryz.ntmps76]) (by omega) ?_
 ·simp [idsV,idsA,idsF,ids0,keys]
 intro C hC hC0 hY
 cases c0:inV bx x0 x1 x2 with
 | true =>
  cases c1:inV tp v0 v1 v2 with
  | true =>
   repeat' (first|refine gwA ?_|(refine gwX ?_;intro Q hQ hP;simp [hC,hY,jb,hbx,htp,h0,h1,h2,h3,h4,h5,c0,c1];refine hQ _ _ _ _ (by kernel_rfl) ?_;clear hQ hP Q)|(refine gwC ?_ ?_<;>(intro hb;try (cases hb;done))))
   refine ⟨.inr rfl,by simp [Tryz.results76],keep_of G0F (by simp [jb]) (by (intro k hk;first|rfl|(simp (disch:=omega) only [addB,List.mem_cons,List.not_mem_nil,or_false,upd_other,hpL_cons,hpL_nil,if_neg,updL]<;>done)))⟩
  | false =>
   repeat' (first|refine gwA ?_|(refine gwX ?_;intro Q hQ hP;simp [hC,hY,jb,hbx,htp,h0,h1,h2,h3,h4,h5,c0,c1];refine hQ _ _ _ _ (by kernel_rfl) ?_;clear hQ hP Q)|(refine gwC ?_ ?_<;>(intro hb;try (cases hb;done))))
   refine ⟨.inr rfl,by simp [Tryz.results76],keep_of G0F (by simp [jb]) (by (intro k hk;first|rfl|(simp (disch:=omega) only [addB,List.mem_cons,List.not_mem_nil,or_false,upd_other,hpL_cons,hpL_nil,if_neg,updL]<;>done)))⟩
 | false =>
  repeat' (first|refine gwA ?_|(refine gwX ?_;intro Q hQ hP;simp [hC,hY,jb,hbx,htp,h0,h1,h2,h3,h4,h5,c0];refine hQ _ _ _ _ (by kernel_rfl) ?_;clear hQ hP Q)|(refine gwC ?_ ?_<;>(intro hb;try (cases hb;done))))
  refine ⟨.inr rfl,by simp [Tryz.results76],keep_of G0F (by simp [jb]) (by (intro k hk;first|rfl|(simp (disch:=omega) only [addB,List.mem_cons,List.not_mem_nil,or_false,upd_other,hpL_cons,hpL_nil,if_neg,updL]<;>done)))⟩
theorem jb_rn {m:Int} {ρ:Nat→Nat}:(jb m).rn ρ=jb m:=by simp [jb,Blk.rn,renF,ren0]
def ixSt (b:Blk) (off n cap:Nat) (bx tp:Int) (i:Nat):GS :=
 ⟨tsL [(0,.slice (some ⟨100,off,none⟩) n cap),(1,.func (.func 76) #[] #[.pointer (some ⟨108,0,none⟩),.pointer (some ⟨116,0,none⟩)]),(7,.int .i64 n),(8,.int .i64 i)],
 hpL G0 [(100,b),(108,jb bx),(116,jb tp)],300,0⟩
def ixL (b:Blk) (bx tp:Int):List (Nat×Blk):=[(100,b),(108,jb bx),(116,jb tp)]
theorem ixL_ok {b:Blk} (hb:b.fx) (bx tp:Int):LOk (ixL b bx tp) 200:=⟨by simp [ixL],by simp [ixL,keys],by
 simp only [ixL,List.mem_cons,List.not_mem_nil,or_false,forall_eq_or_imp,forall_eq]
 exact ⟨Blk.fx_ids hb _,by simp [jb,ids_lit,idsF,ids0],by simp [jb,ids_lit,idsF,ids0]⟩⟩
theorem ix_fun (b:Blk) (off n cap:Nat) (f:Nat→Int) (h:SB b off n f) (bx tp:Int) (hbx:i64 bx) (htp:i64 tp) (N:Nat) (hN:N≤n) (hlt:∀ i,i<N→inB bx tp f i=true) (hend:N=n∨inB bx tp f N=false) :
  Fun Tryz.prog G0 95 #[.slice (some ⟨100,off,none⟩) n cap,.func (.func 76) #[] #[.pointer (some ⟨108,0,none⟩),.pointer (some ⟨116,0,none⟩)]] (hpL G0 (ixL b bx tp)) (keys (ixL b bx tp)) (.ret (.int .i64 (if N=n then -1 else N)) []):=by
 refine fun_ofL (B:=200) G0F Tryz.func95 rfl Tryz.call95 (ixL_ok h.fx bx tp) ?_ (by simp) (by simp) (by simp) (by simp [Tryz.ntmps95]) (by omega) ?_
 ·simp [idsV,idsA,idsF,ids0,keys,ixL]
 intro C hC hC0 hY
 have hnn:=h.nn
 unfold ixL
 repeat' (first|refine gwA ?_|(refine gwX ?_;intro Q hQ hP;simp [hC,hY];refine hQ _ _ _ _ (by kernel_rfl) ?_;clear hQ hP Q)|(refine gwC ?_ ?_<;>(intro hb;try (cases hb;done))))
 refine GW_for N (ixSt b off n cap bx tp) ?_ ?_ ?_
 ·refine weakL _ 300 hC G0F (m0:=[(100,b),(108,jb bx),(116,jb tp)]) hC0 (by omega) ?_ ?_ ?_
  ·simp [idsV,idsA,idsF,ids0,dom]
  ·have hi:=fun D=>Blk.fx_ids h.fx D
   simp [ids_lit,idsF,ids0,jb,hi]
  ·simp
 ·intro i hi
  have hin:i<n:=by omega
  have hi':(i:Int)<n:=by omega
  have hz:(0:Int)≤i:=by omega
  have hs:Int.bmod ((i:Int)+1) 18446744073709551616=((i+1:Nat):Int):=by rw [bm (by omega) (by omega)];rfl
  have hld:=h.body hin
  have hq:=hlt i hi
  unfold inB at hq
  rw [Bool.and_eq_true] at hq
  obtain ⟨q1,q2⟩:=hq
  unfold ixSt
  repeat' (first|refine gwA ?_|((first|refine gwR [76] ?_|refine gwD [76] ?_);intro Q hQ hP;simp [hC,hY,hi,hi',hz,hs,hld,q1,q2,jb];(repeat ((first|(refine heapK_mv (wi1_fun bx tp _ _ _ _ _ _ hbx htp (h.i hin 0 (by omega)) (h.i hin 1 (by omega)) (h.i hin 2 (by omega)) (h.i hin 3 (by omega)) (h.i hin 4 (by omega)) (h.i hin 5 (by omega))) G0F (B:=200) ⟨by simp,by simp [keys],by simp [jb,ids_lit,idsF,ids0]⟩ (fun k=>if k=100 then 108 else if k=108 then 116 else k) (fun k hk=>(if_neg (by omega)).trans (if_neg (by omega))) (by simp [ren,renA,renF,ren0]) (by simp) (by simp [jb,Blk.rn,renF,ren0]) (by simp [keys]) (by simp [keys];rfl) ?_));try simp [hC,hY,hi,hi',hz,hs,hld,q1,q2,jb]));refine hQ _ _ _ _ (by kernel_rfl) ?_;clear hQ hP Q)|(refine gwC ?_ ?_<;>(intro hb;try (cases hb;done))))
  refine weakL _ 300 hC G0F (m0:=[(100,b),(108,jb bx),(116,jb tp)]) hC0 (by omega) ?_ ?_ ?_
  ·simp [idsV,idsA,idsF,ids0,dom,hs]
  ·have hi:=fun D=>Blk.fx_ids h.fx D
   simp [ids_lit,idsF,ids0,jb,hi]
  ·simp [jb]
 ·by_cases hNn:N=n
  ·subst hNn
   simp only [if_true]
   unfold ixSt
   repeat' (first|refine gwA ?_|(refine gwX ?_;intro Q hQ hP;simp [hC,hY];refine hQ _ _ _ _ (by kernel_rfl) ?_;clear hQ hP Q)|(refine gwC ?_ ?_<;>(intro hb;try (cases hb;done))))
   refine ⟨.inr rfl,by simp [Tryz.results95],kpS G0F⟩
  ·have hin:N<n:=by omega
   have hi':(N:Int)<n:=by omega
   have hz:(0:Int)≤N:=by omega
   have hld:=h.body hin
   have hq:=hend.resolve_left hNn
   unfold inB at hq
   rw [if_neg hNn]
   unfold ixSt
   cases q1:inV bx (f (6*N)) (f (6*N+1)) (f (6*N+2)) with
   | false =>
    repeat' (first|refine gwA ?_|((first|refine gwR [76] ?_|refine gwD [76] ?_);intro Q hQ hP;simp [hC,hY,hin,hi',hz,hld,q1,jb];(repeat ((first|(refine heapK_mv (wi1_fun bx tp _ _ _ _ _ _ hbx htp (h.i hin 0 (by omega)) (h.i hin 1 (by omega)) (h.i hin 2 (by omega)) (h.i hin 3 (by omega)) (h.i hin 4 (by omega)) (h.i hin 5 (by omega))) G0F (B:=200) ⟨by simp,by simp [keys],by simp [jb,ids_lit,idsF,ids0]⟩ (fun k=>if k=100 then 108 else if k=108 then 116 else k) (fun k hk=>(if_neg (by omega)).trans (if_neg (by omega))) (by simp [ren,renA,renF,ren0]) (by simp) (by simp [jb,Blk.rn,renF,ren0]) (by simp [keys]) (by simp [keys];rfl) ?_));try simp [hC,hY,hin,hi',hz,hld,q1,jb]));refine hQ _ _ _ _ (by kernel_rfl) ?_;clear hQ hP Q)|(refine gwC ?_ ?_<;>(intro hb;try (cases hb;done))))
    refine ⟨.inr rfl,by simp [Tryz.results95],keep_of G0F (by simp [jb]) (by (intro k hk;first|rfl|(simp (disch:=omega) only [addB,List.mem_cons,List.not_mem_nil,or_false,upd_other,hpL_cons,hpL_nil,if_neg,updL]<;>done)))⟩
   | true =>
    have q2:inV tp (f (6*N+3)) (f (6*N+4)) (f (6*N+5))=false:=by rw [q1] at hq;simpa using hq
    repeat' (first|refine gwA ?_|((first|refine gwR [76] ?_|refine gwD [76] ?_);intro Q hQ hP;simp [hC,hY,hin,hi',hz,hld,q1,q2,jb];(repeat ((first|(refine heapK_mv (wi1_fun bx tp _ _ _ _ _ _ hbx htp (h.i hin 0 (by omega)) (h.i hin 1 (by omega)) (h.i hin 2 (by omega)) (h.i hin 3 (by omega)) (h.i hin 4 (by omega)) (h.i hin 5 (by omega))) G0F (B:=200) ⟨by simp,by simp [keys],by simp [jb,ids_lit,idsF,ids0]⟩ (fun k=>if k=100 then 108 else if k=108 then 116 else k) (fun k hk=>(if_neg (by omega)).trans (if_neg (by omega))) (by simp [ren,renA,renF,ren0]) (by simp) (by simp [jb,Blk.rn,renF,ren0]) (by simp [keys]) (by simp [keys];rfl) ?_));try simp [hC,hY,hin,hi',hz,hld,q1,q2,jb]));refine hQ _ _ _ _ (by kernel_rfl) ?_;clear hQ hP Q)|(refine gwC ?_ ?_<;>(intro hb;try (cases hb;done))))
    refine ⟨.inr rfl,by simp [Tryz.results95],keep_of G0F (by simp [jb]) (by (intro k hk;first|rfl|(simp (disch:=omega) only [addB,List.mem_cons,List.not_mem_nil,or_false,upd_other,hpL_cons,hpL_nil,if_neg,updL]<;>done)))⟩
def allB (bx tp:Int) (f:Nat→Int) (n:Nat):Bool:=(List.range n).all (inB bx tp f)
theorem allB_iff {bx tp:Int} {f:Nat→Int} {n:Nat}:allB bx tp f n=true↔∀ i,i<n→inB bx tp f i=true:=by simp [allB]
theorem allB_lead {bx tp:Int} {f:Nat→Int} {n N:Nat} (hN:N≤n) (hlt:∀ i,i<N→inB bx tp f i=true) (hend:N=n∨inB bx tp f N=false):allB bx tp f n=decide (N=n):=by
 by_cases h:N=n
 ·subst h;rw [decide_eq_true rfl];exact allB_iff.2 hlt
 ·rw [decide_eq_false h]
  cases hb:allB bx tp f n with
  | false=>rfl
  | true=>have:=allB_iff.1 hb N (by omega);rw [hend.resolve_left h] at this;cases this
theorem leadB (p:Nat→Bool) (m:Nat):∃ N,N≤m∧(∀ i,i<N→p i=true)∧(N=m∨p N=false):=by
 obtain ⟨N,h1,h2,h3⟩:=lead (fun i=>p i=true) m
 exact ⟨N,h1,h2,h3.imp id (fun h=>by simpa using h)⟩
theorem cf_fun (b:Blk) (off n cap:Nat) (f:Nat→Int) (h:SB b off n f) (bx tp:Int) (hbx:i64 bx) (htp:i64 tp) :
  Fun Tryz.prog G0 75 #[.slice (some ⟨100,off,none⟩) n cap,.func (.func 76) #[] #[.pointer (some ⟨108,0,none⟩),.pointer (some ⟨116,0,none⟩)]] (hpL G0 (ixL b bx tp)) (keys (ixL b bx tp)) (.ret (.bool !(allB bx tp f n)) []):=by
 refine fun_ofL (B:=200) G0F Tryz.func75 rfl Tryz.call75 (ixL_ok h.fx bx tp) ?_ (by simp) (by simp) (by simp) (by simp [Tryz.ntmps75]) (by omega) ?_
 ·simp [idsV,idsA,idsF,ids0,keys,ixL]
 intro C hC hC0 hY
 obtain ⟨N,hN,hlt,hend⟩:=leadB (inB bx tp f) n
 rw [allB_lead hN hlt hend]
 have hr:=fun ρ=>Blk.fx_rn h.fx ρ
 unfold ixL
 by_cases hNn:N=n
 ·have hNn':(decide (N=n))=true:=decide_eq_true hNn
  rw [hNn']
  repeat' (first|refine gwA ?_|((first|refine gwR [95] ?_|refine gwD [95] ?_);intro Q hQ hP;simp [hC,hY,hNn];(repeat ((first|(refine heapK_mv (ix_fun b off n cap f h bx tp hbx htp N hN hlt hend) G0F (B:=200) (ixL_ok h.fx bx tp) (fun k=>k) (fun k hk=>rfl) (by simp [ren,renA,renF,ren0]) (by simp) (by simp [ixL,jb,Blk.rn_id]) (by simp [keys]) (by simp [keys,ixL];rfl) ?_));try simp [hC,hY,hNn]));refine hQ _ _ _ _ (by kernel_rfl) ?_;clear hQ hP Q)|(refine gwC ?_ ?_<;>(intro hb;try (cases hb;done))))
  refine ⟨.inr rfl,by simp [Tryz.results75],keep_of G0F (by simp [jb]) (by (intro k hk;first|rfl|(simp (disch:=omega) only [addB,List.mem_cons,List.not_mem_nil,or_false,upd_other,hpL_cons,hpL_nil,if_neg,updL]<;>done)))⟩
 ·have hNn':(decide (N=n))=false:=decide_eq_false hNn
  have hz:(0:Int)≤N:=by omega
  rw [hNn']
  repeat' (first|refine gwA ?_|((first|refine gwR [95] ?_|refine gwD [95] ?_);intro Q hQ hP;simp [hC,hY,hNn,hz];(repeat ((first|(refine heapK_mv (ix_fun b off n cap f h bx tp hbx htp N hN hlt hend) G0F (B:=200) (ixL_ok h.fx bx tp) (fun k=>k) (fun k hk=>rfl) (by simp [ren,renA,renF,ren0]) (by simp) (by simp [ixL,jb,Blk.rn_id]) (by simp [keys]) (by simp [keys,ixL];rfl) ?_));try simp [hC,hY,hNn,hz]));refine hQ _ _ _ _ (by kernel_rfl) ?_;clear hQ hP Q)|(refine gwC ?_ ?_<;>(intro hb;try (cases hb;done))))
  refine ⟨.inr rfl,by simp [Tryz.results75],keep_of G0F (by simp [jb]) (by (intro k hk;first|rfl|(simp (disch:=omega) only [addB,List.mem_cons,List.not_mem_nil,or_false,upd_other,hpL_cons,hpL_nil,if_neg,updL]<;>done)))⟩
theorem oneL_ok {b:Blk} (hb:b.fx):LOk [(100,b)] 200:=⟨by simp,by simp [keys],by
 simp only [List.mem_singleton,forall_eq]
 exact Blk.fx_ids hb _⟩
theorem swi_fun (b:Blk) (off n cap:Nat) (f:Nat→Int) (h:SB b off n f) (st bx tp:Int) (hbx:i64 bx) (htp:i64 tp) :
  Fun Tryz.prog G0 52 #[.agg #[.int .i64 st,.slice (some ⟨100,off,none⟩) n cap],.int .i64 bx,.int .i64 tp] (hpL G0 [(100,b)]) (keys [(100,b)]) (.ret (.bool (allB bx tp f n)) []):=by
 refine fun_ofL (B:=200) G0F Tryz.func52 rfl Tryz.call52 (oneL_ok h.fx) ?_ (by simp) (by simp) (by simp) (by simp [Tryz.ntmps52]) (by omega) ?_
 ·simp [idsV,idsA,idsF,ids0,keys]
 intro C hC hC0 hY
 have hr:=fun ρ=>Blk.fx_rn h.fx ρ
 repeat' (first|refine gwA ?_|((first|refine gwR [75] ?_|refine gwD [75] ?_);intro Q hQ hP;simp [hC,hY];(repeat ((first|(refine heapK_mv (cf_fun b off n cap f h bx tp hbx htp) G0F (B:=200) (ixL_ok h.fx bx tp) (fun k=>if k=108 then 208 else if k=116 then 216 else k) (fun k hk=>(if_neg (by omega)).trans (if_neg (by omega))) (by simp [ren,renA,renF,ren0]) (by simp) (by simp [ixL,hr,jb_rn];simp [jb]) (by simp [keys,ixL]) (by simp [keys,ixL];rfl) ?_));try simp [hC,hY]));refine hQ _ _ _ _ (by kernel_rfl) ?_;clear hQ hP Q)|(refine gwC ?_ ?_<;>(intro hb;try (cases hb;done))))
 refine ⟨.inr rfl,by simp [Tryz.results52],keep_of G0F (by simp [jb]) (by (intro k hk;first|rfl|(simp (disch:=omega) only [addB,List.mem_cons,List.not_mem_nil,or_false,upd_other,hpL_cons,hpL_nil,if_neg,updL]<;>done)))⟩
def stB (st:Int):Bool:=decide (-1073741824≤st∧st≤1073741824)
theorem stB_max (st:Int) (hs:i64 st):stB st=(decide ((if st<Int.bmod (-st) 18446744073709551616 then Int.bmod (-st) 18446744073709551616 else st)≤1073741824)&&decide (-1073741824≤st)):=by
 have h1:=hs.1
 have h2:=hs.2
 unfold stB
 rw [Bool.eq_iff_iff]
 simp only [Bool.and_eq_true,decide_eq_true_eq]
 rw [Int.bmod_def]
 split<;>split<;>omega
def rightB (st:Int) (f:Nat→Int) (n:Nat):Bool:=stB st&&decide (1≤n∧n≤4)&&allB 1048576 65536 f n
theorem i64_box:i64 1048576:=by unfold i64;omega
theorem i64_top:i64 65536:=by unfold i64;omega
theorem rig_fun (b:Blk) (off n cap:Nat) (f:Nat→Int) (h:SB b off n f) (st:Int) (hs:i64 st) :
  Fun Tryz.prog G0 33 #[.agg #[.int .i64 st,.slice (some ⟨100,off,none⟩) n cap]] (hpL G0 [(100,b)]) (keys [(100,b)]) (.ret (.bool (rightB st f n)) []):=by
 refine fun_ofL (B:=200) G0F Tryz.func33 rfl Tryz.call33 (oneL_ok h.fx) ?_ (by simp) (by simp) (by simp) (by simp [Tryz.ntmps33]) (by omega) ?_
 ·simp [idsV,idsA,idsF,ids0,keys]
 intro C hC hC0 hY
 have hr:=fun ρ=>Blk.fx_rn h.fx ρ
 obtain ⟨m,hm⟩:∃ m,(if st<Int.bmod (-st) 18446744073709551616 then Int.bmod (-st) 18446744073709551616 else st)=m:=⟨_,rfl⟩
 have key:=stB_max st hs
 rw [hm] at key
 unfold rightB
 rw [key]
 by_cases c0:m≤1073741824
 ·by_cases c1:-1073741824≤st
  ·by_cases c2:0<n
   ·by_cases c3:n≤4
    ·have c4:(n:Int)≤4:=by omega
     have e:decide (1≤n∧n≤4)=true:=decide_eq_true (by omega)
     rw [decide_eq_true c0,decide_eq_true c1,e]
     repeat' (first|refine gwA ?_|((first|refine gwR [52] ?_|refine gwD [52] ?_);intro Q hQ hP;simp [hC,hY,hm,c0,c1,c2,c3,c4];(repeat ((first|(refine heapK_mv (swi_fun b off n cap f h st 1048576 65536 i64_box i64_top) G0F (B:=200) (oneL_ok h.fx) (fun k=>k) (fun k hk=>rfl) (by simp [ren,renA,renF,ren0]) (by simp) (by simp [hr]) (by simp [keys]) (by simp [keys];rfl) ?_));try simp [hC,hY,hm,c0,c1,c2,c3,c4]));refine hQ _ _ _ _ (by kernel_rfl) ?_;clear hQ hP Q)|(refine gwC ?_ ?_<;>(intro hb;try (cases hb;done))))
     refine ⟨.inr rfl,by simp [Tryz.results33],kpS G0F⟩
    ·have c4:¬(n:Int)≤4:=by omega
     have e:decide (1≤n∧n≤4)=false:=decide_eq_false (by omega)
     rw [decide_eq_true c0,decide_eq_true c1,e]
     repeat' (first|refine gwA ?_|(refine gwX ?_;intro Q hQ hP;simp [hC,hY,hm,c0,c1,c2,c3,c4];refine hQ _ _ _ _ (by kernel_rfl) ?_;clear hQ hP Q)|(refine gwC ?_ ?_<;>(intro hb;try (cases hb;done))))
     refine ⟨.inr rfl,by simp [Tryz.results33],kpS G0F⟩
   ·have e:decide (1≤n∧n≤4)=false:=decide_eq_false (by omega)
    rw [decide_eq_true c0,decide_eq_true c1,e]
    repeat' (first|refine gwA ?_|(refine gwX ?_;intro Q hQ hP;simp [hC,hY,hm,c0,c1,c2];refine hQ _ _ _ _ (by kernel_rfl) ?_;clear hQ hP Q)|(refine gwC ?_ ?_<;>(intro hb;try (cases hb;done))))
    refine ⟨.inr rfl,by simp [Tryz.results33],kpS G0F⟩
  ·rw [decide_eq_true c0,decide_eq_false c1]
   repeat' (first|refine gwA ?_|(refine gwX ?_;intro Q hQ hP;simp [hC,hY,hm,c0,c1];refine hQ _ _ _ _ (by kernel_rfl) ?_;clear hQ hP Q)|(refine gwC ?_ ?_<;>(intro hb;try (cases hb;done))))
   refine ⟨.inr rfl,by simp [Tryz.results33],kpS G0F⟩
 ·rw [decide_eq_false c0]
  repeat' (first|refine gwA ?_|(refine gwX ?_;intro Q hQ hP;simp [hC,hY,hm,c0];refine hQ _ _ _ _ (by kernel_rfl) ?_;clear hQ hP Q)|(refine gwC ?_ ?_<;>(intro hb;try (cases hb;done))))
  refine ⟨.inr rfl,by simp [Tryz.results33],kpS G0F⟩
theorem SB.int {b:Blk} {off n:Nat} {f:Nat→Int} (h:SB b off n f) {i:Nat} (hi:i<n) {q:Nat} (hq:q<6):loadK Tryz.prog 3 b (off+i*6+q)=some (.int .i64 (f (6*i+q))):=by
 have hbrd:=Blk.fx_rd h.fx
 have:=loadK_rd1 (P:=Tryz.prog) (T:=3) (j:=6*i+q) (tyAgg_of Tryz.isAgg3) h.rd (by omega)
 rw [show off+i*6+q=off+(6*i+q) by omega,this]
def w10St (b:Blk) (off n cap:Nat) (st:Int) (i:Nat):GS :=
 ⟨tsL [(1,.int .i64 1048576),(2,.int .i64 65536),(3,.pointer (some ⟨200,0,none⟩)),(7,.int .i64 i)],
 hpL G0 [(200,⟨#[.int .i64 st,.slice (some ⟨100,off,none⟩) n cap],.ty 27⟩),(100,b)],400,0⟩
theorem inB_cases {f:Nat→Int} {i:Nat}:inB 1048576 65536 f i=true↔((-1048576≤f (6*i)∧f (6*i)≤1048576)∧(-1048576≤f (6*i+1)∧f (6*i+1)≤1048576)∧(-1048576≤f (6*i+2)∧f (6*i+2)≤1048576))∧(-65536≤f (6*i+3)∧f (6*i+3)≤65536)∧(-65536≤f (6*i+4)∧f (6*i+4)≤65536)∧(-65536≤f (6*i+5)∧f (6*i+5)≤65536):=by
 unfold inB inV inW
 simp only [Bool.and_eq_true,decide_eq_true_eq]
 omega
set_option maxHeartbeats 4000000 in
set_option maxRecDepth 20000 in
theorem w10_fun (b:Blk) (off n cap:Nat) (f:Nat→Int) (h:SB b off n f) (st:Int) :
  Fun Tryz.prog G0 53 #[.agg #[.int .i64 st,.slice (some ⟨100,off,none⟩) n cap],.int .i64 1048576,.int .i64 65536] (hpL G0 [(100,b)]) (keys [(100,b)]) (.ret (.bool (allB 1048576 65536 f n)) []):=by
 refine fun_ofL (B:=200) G0F Tryz.func53 rfl Tryz.call53 (oneL_ok h.fx) ?_ (by simp) (by simp) (by simp) (by simp [Tryz.ntmps53]) (by omega) ?_
 ·simp [idsV,idsA,idsF,ids0,keys]
 intro C hC hC0 hY
 obtain ⟨N,hN,hlt,hend⟩:=leadB (inB 1048576 65536 f) n
 have hnn:=h.nn
 rw [allB_lead hN hlt hend]
 repeat' (first|refine gwA ?_|(refine gwX ?_;intro Q hQ hP;simp [hC,hY];refine hQ _ _ _ _ (by kernel_rfl) ?_;clear hQ hP Q)|(refine gwC ?_ ?_<;>(intro hb;try (cases hb;done))))
 refine GW_for N (w10St b off n cap st) ?_ ?_ ?_
 ·refine weakL _ 400 hC G0F (m0:=[(100,b)]) hC0 (by omega) ?_ ?_ ?_
  ·simp [idsV,idsA,idsF,ids0,dom]
  ·have hi:=fun D=>Blk.fx_ids h.fx D
   simp [ids_lit,idsF,ids0,hi,dom]
  ·simp
 ·intro i hi
  have hin:i<n:=by omega
  have hi':(i:Int)<n:=by omega
  have hz:(0:Int)≤i:=by omega
  have hs:Int.bmod ((i:Int)+1) 18446744073709551616=((i+1:Nat):Int):=by rw [bm (by omega) (by omega)];rfl
  have l0:=h.int hin (q:=0) (by omega)
  have l1:=h.int hin (q:=1) (by omega)
  have l2:=h.int hin (q:=2) (by omega)
  have l3:=h.int hin (q:=3) (by omega)
  have l4:=h.int hin (q:=4) (by omega)
  have l5:=h.int hin (q:=5) (by omega)
  simp only [Nat.add_zero] at l0
  obtain ⟨⟨⟨a0,b0⟩,⟨a1,b1⟩,⟨a2,b2⟩⟩,⟨a3,b3⟩,⟨a4,b4⟩,⟨a5,b5⟩⟩:=inB_cases.1 (hlt i hi)
  replace a0:=Int.not_lt.2 a0
  replace a1:=Int.not_lt.2 a1
  replace a2:=Int.not_lt.2 a2
  replace a3:=Int.not_lt.2 a3
  replace a4:=Int.not_lt.2 a4
  replace a5:=Int.not_lt.2 a5
  replace b0:=Int.not_lt.2 b0
  replace b1:=Int.not_lt.2 b1
  replace b2:=Int.not_lt.2 b2
  replace b3:=Int.not_lt.2 b3
  replace b4:=Int.not_lt.2 b4
  replace b5:=Int.not_lt.2 b5
  unfold w10St
  repeat' (first|refine GWL_start ?_|refine GWL_step ?_|refine gwA ?_|(refine gwX ?_;intro Q hQ hP;simp [hC,hY,hi,hin,hi',hz,hs,l0,l1,l2,l3,l4,l5,a0,a1,a2,a3,a4,a5,b0,b1,b2,b3,b4,b5];refine hQ _ _ _ _ (by kernel_rfl) ?_;clear hQ hP Q)|(refine gwC ?_ ?_<;>(intro hb;try (cases hb;done))))
  refine weakL _ 400 hC G0F (m0:=[(100,b)]) hC0 (by omega) ?_ ?_ ?_
  ·simp [idsV,idsA,idsF,ids0,dom,hs]
  ·have hi:=fun D=>Blk.fx_ids h.fx D
   simp [ids_lit,idsF,ids0,hi,dom]
  ·simp
 ·by_cases hNn:N=n
  ·rw [decide_eq_true hNn]
   subst hNn
   unfold w10St
   repeat' (first|refine gwA ?_|(refine gwX ?_;intro Q hQ hP;simp [hC,hY];refine hQ _ _ _ _ (by kernel_rfl) ?_;clear hQ hP Q)|(refine gwC ?_ ?_<;>(intro hb;try (cases hb;done))))
   refine ⟨.inr rfl,by simp [Tryz.results53],kpS G0F⟩
  ·rw [decide_eq_false hNn]
   have hin:N<n:=by omega
   have hi':(N:Int)<n:=by omega
   have hz:(0:Int)≤N:=by omega
   have l0:=h.int hin (q:=0) (by omega)
   have l1:=h.int hin (q:=1) (by omega)
   have l2:=h.int hin (q:=2) (by omega)
   have l3:=h.int hin (q:=3) (by omega)
   have l4:=h.int hin (q:=4) (by omega)
   have l5:=h.int hin (q:=5) (by omega)
   simp only [Nat.add_zero] at l0
   have hbad:¬inB 1048576 65536 f N=true:=by rw [hend.resolve_left hNn];simp
   rw [inB_cases] at hbad
   unfold w10St
   by_cases a0:f (6*N) < -1048576
   ·
    repeat' (first|refine GWL_start ?_|refine GWL_step ?_|refine gwA ?_|(refine gwX ?_;intro Q hQ hP;simp [hC,hY,hin,hi',hz,l0,l1,l2,l3,l4,l5,a0];refine hQ _ _ _ _ (by kernel_rfl) ?_;clear hQ hP Q)|(refine gwC ?_ ?_<;>(intro hb;try (cases hb;done))))
    refine ⟨.inr rfl,by simp [Tryz.results53],kpS G0F⟩
   by_cases b0:1048576<f (6*N)
   ·
    repeat' (first|refine GWL_start ?_|refine GWL_step ?_|refine gwA ?_|(refine gwX ?_;intro Q hQ hP;simp [hC,hY,hin,hi',hz,l0,l1,l2,l3,l4,l5,a0,b0];refine hQ _ _ _ _ (by kernel_rfl) ?_;clear hQ hP Q)|(refine gwC ?_ ?_<;>(intro hb;try (cases hb;done))))
    refine ⟨.inr rfl,by simp [Tryz.results53],kpS G0F⟩
   by_cases a3:f (6*N+3) < -65536
   ·
    repeat' (first|refine GWL_start ?_|refine GWL_step ?_|refine gwA ?_|(refine gwX ?_;intro Q hQ hP;simp [hC,hY,hin,hi',hz,l0,l1,l2,l3,l4,l5,a0,b0,a3];refine hQ _ _ _ _ (by kernel_rfl) ?_;clear hQ hP Q)|(refine gwC ?_ ?_<;>(intro hb;try (cases hb;done))))
    refine ⟨.inr rfl,by simp [Tryz.results53],kpS G0F⟩
   by_cases b3:65536<f (6*N+3)
   ·
    repeat' (first|refine GWL_start ?_|refine GWL_step ?_|refine gwA ?_|(refine gwX ?_;intro Q hQ hP;simp [hC,hY,hin,hi',hz,l0,l1,l2,l3,l4,l5,a0,b0,a3,b3];refine hQ _ _ _ _ (by kernel_rfl) ?_;clear hQ hP Q)|(refine gwC ?_ ?_<;>(intro hb;try (cases hb;done))))
    refine ⟨.inr rfl,by simp [Tryz.results53],kpS G0F⟩
   by_cases a1:f (6*N+1) < -1048576
   ·
    repeat' (first|refine GWL_start ?_|refine GWL_step ?_|refine gwA ?_|(refine gwX ?_;intro Q hQ hP;simp [hC,hY,hin,hi',hz,l0,l1,l2,l3,l4,l5,a0,b0,a3,b3,a1];refine hQ _ _ _ _ (by kernel_rfl) ?_;clear hQ hP Q)|(refine gwC ?_ ?_<;>(intro hb;try (cases hb;done))))
    refine ⟨.inr rfl,by simp [Tryz.results53],kpS G0F⟩
   by_cases b1:1048576<f (6*N+1)
   ·
    repeat' (first|refine GWL_start ?_|refine GWL_step ?_|refine gwA ?_|(refine gwX ?_;intro Q hQ hP;simp [hC,hY,hin,hi',hz,l0,l1,l2,l3,l4,l5,a0,b0,a3,b3,a1,b1];refine hQ _ _ _ _ (by kernel_rfl) ?_;clear hQ hP Q)|(refine gwC ?_ ?_<;>(intro hb;try (cases hb;done))))
    refine ⟨.inr rfl,by simp [Tryz.results53],kpS G0F⟩
   by_cases a4:f (6*N+4) < -65536
   ·
    repeat' (first|refine GWL_start ?_|refine GWL_step ?_|refine gwA ?_|(refine gwX ?_;intro Q hQ hP;simp [hC,hY,hin,hi',hz,l0,l1,l2,l3,l4,l5,a0,b0,a3,b3,a1,b1,a4];refine hQ _ _ _ _ (by kernel_rfl) ?_;clear hQ hP Q)|(refine gwC ?_ ?_<;>(intro hb;try (cases hb;done))))
    refine ⟨.inr rfl,by simp [Tryz.results53],kpS G0F⟩
   by_cases b4:65536<f (6*N+4)
   ·
    repeat' (first|refine GWL_start ?_|refine GWL_step ?_|refine gwA ?_|(refine gwX ?_;intro Q hQ hP;simp [hC,hY,hin,hi',hz,l0,l1,l2,l3,l4,l5,a0,b0,a3,b3,a1,b1,a4,b4];refine hQ _ _ _ _ (by kernel_rfl) ?_;clear hQ hP Q)|(refine gwC ?_ ?_<;>(intro hb;try (cases hb;done))))
    refine ⟨.inr rfl,by simp [Tryz.results53],kpS G0F⟩
   by_cases a2:f (6*N+2) < -1048576
   ·
    repeat' (first|refine GWL_start ?_|refine GWL_step ?_|refine gwA ?_|(refine gwX ?_;intro Q hQ hP;simp [hC,hY,hin,hi',hz,l0,l1,l2,l3,l4,l5,a0,b0,a3,b3,a1,b1,a4,b4,a2];refine hQ _ _ _ _ (by kernel_rfl) ?_;clear hQ hP Q)|(refine gwC ?_ ?_<;>(intro hb;try (cases hb;done))))
    refine ⟨.inr rfl,by simp [Tryz.results53],kpS G0F⟩
   by_cases b2:1048576<f (6*N+2)
   ·
    repeat' (first|refine GWL_start ?_|refine GWL_step ?_|refine gwA ?_|(refine gwX ?_;intro Q hQ hP;simp [hC,hY,hin,hi',hz,l0,l1,l2,l3,l4,l5,a0,b0,a3,b3,a1,b1,a4,b4,a2,b2];refine hQ _ _ _ _ (by kernel_rfl) ?_;clear hQ hP Q)|(refine gwC ?_ ?_<;>(intro hb;try (cases hb;done))))
    refine ⟨.inr rfl,by simp [Tryz.results53],kpS G0F⟩
   by_cases a5:f (6*N+5) < -65536
   ·
    repeat' (first|refine GWL_start ?_|refine GWL_step ?_|refine gwA ?_|(refine gwX ?_;intro Q hQ hP;simp [hC,hY,hin,hi',hz,l0,l1,l2,l3,l4,l5,a0,b0,a3,b3,a1,b1,a4,b4,a2,b2,a5];refine hQ _ _ _ _ (by kernel_rfl) ?_;clear hQ hP Q)|(refine gwC ?_ ?_<;>(intro hb;try (cases hb;done))))
    refine ⟨.inr rfl,by simp [Tryz.results53],kpS G0F⟩
   by_cases b5:65536<f (6*N+5)
   ·
    repeat' (first|refine GWL_start ?_|refine GWL_step ?_|refine gwA ?_|(refine gwX ?_;intro Q hQ hP;simp [hC,hY,hin,hi',hz,l0,l1,l2,l3,l4,l5,a0,b0,a3,b3,a1,b1,a4,b4,a2,b2,a5,b5];refine hQ _ _ _ _ (by kernel_rfl) ?_;clear hQ hP Q)|(refine gwC ?_ ?_<;>(intro hb;try (cases hb;done))))
    refine ⟨.inr rfl,by simp [Tryz.results53],kpS G0F⟩
   exfalso
   omega
theorem rig10_fun (b:Blk) (off n cap:Nat) (f:Nat→Int) (h:SB b off n f) (st:Int) :
  Fun Tryz.prog G0 34 #[.agg #[.int .i64 st,.slice (some ⟨100,off,none⟩) n cap]] (hpL G0 [(100,b)]) (keys [(100,b)]) (.ret (.bool (rightB st f n)) []):=by
 refine fun_ofL (B:=200) G0F Tryz.func34 rfl Tryz.call34 (oneL_ok h.fx) ?_ (by simp) (by simp) (by simp) (by simp [Tryz.ntmps34]) (by omega) ?_
 ·simp [idsV,idsA,idsF,ids0,keys]
 intro C hC hC0 hY
 have hr:=fun ρ=>Blk.fx_rn h.fx ρ
 unfold rightB
 by_cases c0:-1073741824≤st
 ·by_cases c1:st≤1073741824
  ·have es:stB st=true:=decide_eq_true ⟨c0,c1⟩
   rw [es]
   by_cases c2:1≤n
   ·have c2':(1:Int)≤n:=by omega
    have c2'':0<n:=by omega
    by_cases c3:n≤4
    ·have c4:(n:Int)≤4:=by omega
     have e:decide (1≤n∧n≤4)=true:=decide_eq_true (by omega)
     rw [e]
     repeat' (first|refine gwA ?_|((first|refine gwR [53] ?_|refine gwD [53] ?_);intro Q hQ hP;simp [hC,hY,c0,c1,c2,c2',c2'',c3,c4];(repeat ((first|(refine heapK_mv (w10_fun b off n cap f h st) G0F (B:=200) (oneL_ok h.fx) (fun k=>k) (fun k hk=>rfl) (by simp [ren,renA,renF,ren0]) (by simp) (by simp [hr]) (by simp [keys]) (by simp [keys];rfl) ?_));try simp [hC,hY,c0,c1,c2,c2',c2'',c3,c4]));refine hQ _ _ _ _ (by kernel_rfl) ?_;clear hQ hP Q)|(refine gwC ?_ ?_<;>(intro hb;try (cases hb;done))))
     refine ⟨.inr rfl,by simp [Tryz.results34],kpS G0F⟩
    ·have c4:¬(n:Int)≤4:=by omega
     have e:decide (1≤n∧n≤4)=false:=decide_eq_false (by omega)
     rw [e]
     repeat' (first|refine gwA ?_|(refine gwX ?_;intro Q hQ hP;simp [hC,hY,c0,c1,c2,c2',c2'',c3,c4];refine hQ _ _ _ _ (by kernel_rfl) ?_;clear hQ hP Q)|(refine gwC ?_ ?_<;>(intro hb;try (cases hb;done))))
     refine ⟨.inr rfl,by simp [Tryz.results34],kpS G0F⟩
   ·have c2':¬(1:Int)≤n:=by omega
    have c2'':¬0<n:=by omega
    have c2''':n=0:=by omega
    have e:decide (1≤n∧n≤4)=false:=decide_eq_false (by omega)
    rw [e]
    repeat' (first|refine gwA ?_|(refine gwX ?_;intro Q hQ hP;simp [hC,hY,c0,c1,c2,c2',c2'',c2'''];refine hQ _ _ _ _ (by kernel_rfl) ?_;clear hQ hP Q)|(refine gwC ?_ ?_<;>(intro hb;try (cases hb;done))))
    refine ⟨.inr rfl,by simp [Tryz.results34],kpS G0F⟩
  ·have es:stB st=false:=decide_eq_false (by omega)
   rw [es]
   repeat' (first|refine gwA ?_|(refine gwX ?_;intro Q hQ hP;simp [hC,hY,c0,c1];refine hQ _ _ _ _ (by kernel_rfl) ?_;clear hQ hP Q)|(refine gwC ?_ ?_<;>(intro hb;try (cases hb;done))))
   refine ⟨.inr rfl,by simp [Tryz.results34],kpS G0F⟩
 ·have es:stB st=false:=decide_eq_false (by omega)
  rw [es]
  repeat' (first|refine gwA ?_|(refine gwX ?_;intro Q hQ hP;simp [hC,hY,c0];refine hQ _ _ _ _ (by kernel_rfl) ?_;clear hQ hP Q)|(refine gwC ?_ ?_<;>(intro hb;try (cases hb;done))))
  refine ⟨.inr rfl,by simp [Tryz.results34],kpS G0F⟩
theorem rig10_nil (st:Int):Ret Tryz.prog G0 34 #[.agg #[.int .i64 st,.slice none 0 0]] (.bool false):=by
 refine ret_of G0F Tryz.func34 rfl Tryz.call34 rfl (by simp) (by simp [Tryz.ntmps34]) ?_
 intro C hC hC0 hY
 by_cases c0:-1073741824≤st
 ·by_cases c1:st≤1073741824
  ·(repeat' (first|refine gwA ?_|(refine gwX ?_;intro Q hQ hP;simp [hC,hY,c0,c1];refine hQ _ _ _ _ (by kernel_rfl) ?_;clear hQ hP Q)|(refine gwC ?_ ?_<;>(intro hb;try (cases hb;done)))))
   refine ⟨.inr trivial,?_⟩
   simp [Tryz.results34]
  ·(repeat' (first|refine gwA ?_|(refine gwX ?_;intro Q hQ hP;simp [hC,hY,c0,c1];refine hQ _ _ _ _ (by kernel_rfl) ?_;clear hQ hP Q)|(refine gwC ?_ ?_<;>(intro hb;try (cases hb;done)))))
   refine ⟨.inr trivial,?_⟩
   simp [Tryz.results34]
 ·(repeat' (first|refine gwA ?_|(refine gwX ?_;intro Q hQ hP;simp [hC,hY,c0];refine hQ _ _ _ _ (by kernel_rfl) ?_;clear hQ hP Q)|(refine gwC ?_ ?_<;>(intro hb;try (cases hb;done)))))
  refine ⟨.inr trivial,?_⟩
  simp [Tryz.results34]
@[simp] theorem rig10N (st:Int) (K:Value→Prop):callK Tryz.prog G0 34 #[.agg #[.int .i64 st,.slice none 0 0]] K↔K (.bool false):=callK_iff G0W (by kernel_rfl) (rig10_nil st)
def OwnR (nk n:Nat) (f:Nat→Int) (v:Value) (ns:List (Nat×Blk)):Prop:=∃ (c M:Nat) (g:Nat→Int),n≤c∧6*n≤M∧(∀ j,j<6*n→g j=f j)∧v=.slice (some ⟨nk,0,none⟩) n c∧ns=[(nk,⟨fa M .i64 g,.ty 45⟩)]
theorem fa_fx (M:Nat) (g:Nat→Int) (T:TypeId):Blk.fx ⟨fa M .i64 g,.ty T⟩:=fun x hx=>by
 obtain ⟨m,rfl⟩:=fa_mem hx;rfl
theorem own_fit {b:Blk} {n:Nat} {f:Nat→Int} (v:Value) (ns:List (Nat×Blk)) (h:OwnR 1000 n f v ns):idsV (extD (fun k=>k∈keys [(100,b)]) ns) v∧(∀ p∈ns,200≤p.1∧p.2.ids (extD (fun k=>k∈keys [(100,b)]) ns))∧(∀ k b c,(k,b)∈ns→(k,c)∈ns→b=c):=by
 obtain ⟨c,M,g,h1,h2,h3,rfl,rfl⟩:=h
 refine ⟨by simp [idsV,idsA,idsF,ids0,extD,keys],?_,?_⟩
 ·simp only [List.mem_singleton,forall_eq]
  exact ⟨by omega,Blk.fx_ids (fa_fx _ _ _) _⟩
 ·intro k b c h1 h2
  simp at h1 h2
  rw [h1.2,h2.2]
theorem clone_fun (b:Blk) (off n cap:Nat) (f:Nat→Int) (h:SB b off n f) (hcap:n≤cap) :
  FunS Tryz.prog G0 51 #[.slice (some ⟨100,off,none⟩) n cap] (hpL G0 [(100,b)]) (keys [(100,b)]) (OwnR 1000 n f):=by
 refine newS_ofL (B:=200) G0F Tryz.func51 rfl Tryz.call51 (oneL_ok h.fx) ?_ own_fit (by simp [Tryz.ntmps51]) (by omega) ?_
 ·simp [idsV,idsA,idsF,ids0,keys]
 intro C hC hC0 hY
 have hnn:=h.nn
 have hbrd:=Blk.fx_rd h.fx
 repeat' (first|refine gwA ?_|(refine gwX ?_;intro Q hQ hP;simp [hC,hY];refine hQ _ _ _ _ (by kernel_rfl) ?_;clear hQ hP Q)|(refine gwC ?_ ?_<;>(intro hb;try (cases hb;done))))
 refine GW_list ?_
 simp only [Array.toList]
 refine GL_bs0 rfl (by simp) rfl Tryz.underlying25 (tySize_of Tryz.sizeOf45) ?_
 refine GL_walk 1 [] rfl (by simp) (by kernel_rfl) ?_;intro q hq;simp [hC,hY];refine hq _ _ _ _ ?_;clear hq q
 simp only [wT,List.length_cons,List.length_nil,Nat.reduceAdd]
 by_cases hn0:n=0
 ·subst hn0
  refine GL_appZ (p:=some (224,0)) (q:=some (100,off)) rfl (by simp) rfl Tryz.underlying25 (tySize_of Tryz.sizeOf45) (by simp;rfl) (by simp;rfl) (Nat.le_refl _) ?_
  refine GL_walk 1 [] rfl (by simp) (by kernel_rfl) ?_;intro q hq;simp [hC,hY,putT];refine hq _ _ _ _ ?_;clear hq q
  simp only [wT,List.length_cons,List.length_nil,Nat.reduceAdd]
  refine GL_nil ?_
  repeat' (first|refine gwA ?_|(refine gwX ?_;intro Q hQ hP;simp [hC,hY];refine hQ _ _ _ _ (by kernel_rfl) ?_;clear hQ hP Q)|(refine gwC ?_ ?_<;>(intro hb;try (cases hb;done))))
  refine ⟨.inr trivial,kpS G0F,_,_,fun k=>if k=1000 then 224 else k,⟨0,0,f,Nat.le_refl _,by omega,fun _ _=>rfl,rfl,rfl⟩,fun k hk=>if_neg (by omega),by simp,by simp,by simp [Tryz.results51,ren,renA,renF,ren0],?_⟩
  simp [fa,Blk.rn]
 ·refine GL_app0 (p:=some ⟨224,0,none⟩) (j:=100) (b2:=b) (off2:=off) (m:=n) (m':=cap) (nw:=(fa (6*n) .i64 f).toList) (sz:=6) (by':=48) (z:=.agg #[.int .i64 0,.int .i64 0,.int .i64 0,.int .i64 0,.int .i64 0,.int .i64 0]) rfl (by simp) rfl Tryz.underlying25 (tySize_of Tryz.sizeOf45) ?_ ?_ ?_ ?_ ?_ (rdI_nw h.rd) fa_list_flat (fun q x hx=>?_) (by omega) (by simp;omega) (by unfold maxLen;omega) (by omega) (fun cap' hc'=>?_)
  ·kernel_rfl
  ·kernel_rfl
  ·simp
  ·simp
  ·simp
  ·have:=zc_mem hx
   simp [Value.cells] at this
   subst this
   rfl
  ·rw [zeros_fa (k:=.i64) (by simp),app_new]
   refine GL_walk 1 [] rfl (by simp) (by kernel_rfl) ?_;intro q hq;simp [hC,hY,putT];refine hq _ _ _ _ ?_;clear hq q
   simp only [wT,List.length_cons,List.length_nil,Nat.reduceAdd]
   refine GL_nil ?_
   repeat' (first|refine gwA ?_|(refine gwX ?_;intro Q hQ hP;simp [hC,hY];refine hQ _ _ _ _ (by kernel_rfl) ?_;clear hQ hP Q)|(refine gwC ?_ ?_<;>(intro hb;try (cases hb;done))))
   refine ⟨.inr trivial,kpS G0F,_,_,fun k=>if k=1000 then 224+16 else k,⟨cap',6*n+(cap' - n)*6,catN f (6*n) 0 f,hc',?_,?_,rfl,rfl⟩,fun k hk=>if_neg (by omega),by simp,by simp,by simp [Tryz.results51,ren,renA,renF,ren0],?_⟩
   ·omega
   ·intro j hj
    unfold catN
    rw [if_pos (by omega)]
   ·simp only [List.mem_singleton,forall_eq]
    rw [fa_rn]
    simp
def OwnS (nk:Nat) (st:Int) (n:Nat) (f:Nat→Int) (v:Value) (ns:List (Nat×Blk)):Prop:=∃ (c M:Nat) (g:Nat→Int),n≤c∧6*n≤M∧(∀ j,j<6*n→g j=f j)∧v=.agg #[.int .i64 st,.slice (some ⟨nk,0,none⟩) n c]∧ns=[(nk,⟨fa M .i64 g,.ty 45⟩)]
theorem owns_fit {b:Blk} {st:Int} {n:Nat} {f:Nat→Int} (v:Value) (ns:List (Nat×Blk)) (h:OwnS 1000 st n f v ns):idsV (extD (fun k=>k∈keys [(100,b)]) ns) v∧(∀ p∈ns,200≤p.1∧p.2.ids (extD (fun k=>k∈keys [(100,b)]) ns))∧(∀ k b c,(k,b)∈ns→(k,c)∈ns→b=c):=by
 obtain ⟨c,M,g,h1,h2,h3,rfl,rfl⟩:=h
 refine ⟨by simp [idsV,idsA,idsF,ids0,extD,keys],?_,?_⟩
 ·simp only [List.mem_singleton,forall_eq]
  exact ⟨by omega,Blk.fx_ids (fa_fx _ _ _) _⟩
 ·intro k b c h1 h2
  simp at h1 h2
  rw [h1.2,h2.2]
theorem FunS.own1 {fn:FuncId} {args:Array Value} {b:Blk} {R:Value→List (Nat×Blk)→Prop} (h:FunS Tryz.prog G0 fn args (hpL G0 [(100,b)]) (keys [(100,b)]) R) (hb:b.fx) (nk:Nat) (hnk:200≤nk) (hR:∀ v ns,R v ns→∀ k∈keys ns,k=1000) (ha:args.map (ren fun k=>if k=1000 then nk else k)=args) :
  FunS Tryz.prog G0 fn args (hpL G0 [(100,b)]) [100] (RR (fun k=>if k=1000 then nk else k) R):=by
 have h0:=h.rn (fun k=>if k=1000 then nk else k) G0F (oneL_ok hb).low (hp':=hpL G0 [(100,b)]) (rn_ofL (oneL_ok hb) _ (fun k hk=>if_neg (by omega)) (oneL_ok hb).low (by
  simp only [List.mem_singleton,forall_eq]
  refine ⟨by simp,?_⟩
  rw [Blk.fx_rn hb];simp) (by simp [keys])) (fun v ns hr k hk=>by
  rw [hR v ns hr k hk,if_pos rfl]
  refine ⟨by omega,fun hd=>hd ?_⟩
  simp [rst,keys,show ¬nk=100 by omega,show ¬nk<100 by omega]) (fun v ns hr k hk l hl _=>by rw [hR v ns hr k hk,hR v ns hr l hl])
 rw [ha] at h0
 simpa [keys] using h0
theorem ownR_rr (nk n:Nat) (f:Nat→Int):RR (fun k=>if k=1000 then nk else k) (OwnR 1000 n f)=OwnR nk n f:=by
 funext v ns
 apply propext
 constructor
 ·rintro ⟨v0,ns0,⟨c,M,g,h1,h2,h3,rfl,rfl⟩,rfl,rfl⟩
  exact ⟨c,M,g,h1,h2,h3,by simp [ren,renA,renF,ren0],by simp [rnL,fa_rn]⟩
 ·rintro ⟨c,M,g,h1,h2,h3,rfl,rfl⟩
  exact ⟨_,_,⟨c,M,g,h1,h2,h3,rfl,rfl⟩,by simp [ren,renA,renF,ren0],by simp [rnL,fa_rn]⟩
theorem clone_at (nk:Nat) (hnk:200≤nk) (b:Blk) (off n cap:Nat) (f:Nat→Int) (h:SB b off n f) (hcap:n≤cap) :
  FunS Tryz.prog G0 51 #[.slice (some ⟨100,off,none⟩) n cap] (hpL G0 [(100,b)]) [100] (OwnR nk n f):=by
 have:=(clone_fun b off n cap f h hcap).own1 h.fx nk hnk (fun v ns hR k hk=>by
  obtain ⟨c,M,g,h1,h2,h3,rfl,rfl⟩:=hR;simpa [keys] using hk) (by simp [ren,renA,renF,ren0])
 rwa [ownR_rr] at this
theorem own_fun (b:Blk) (off n cap:Nat) (f:Nat→Int) (h:SB b off n f) (hcap:n≤cap) (st:Int) :
  FunS Tryz.prog G0 31 #[.agg #[.int .i64 st,.slice (some ⟨100,off,none⟩) n cap]] (hpL G0 [(100,b)]) (keys [(100,b)]) (OwnS 1000 st n f):=by
 refine newS_ofL (B:=200) G0F Tryz.func31 rfl Tryz.call31 (oneL_ok h.fx) ?_ owns_fit (by simp [Tryz.ntmps31]) (by omega) ?_
 ·simp [idsV,idsA,idsF,ids0,keys]
 intro C hC hC0 hY
 repeat' (first|refine gwA ?_|(refine gwX ?_;intro Q hQ hP;simp [hC,hY];refine hQ _ _ _ _ (by kernel_rfl) ?_;clear hQ hP Q)|(refine gwC ?_ ?_<;>(intro hb;try (cases hb;done))))
 refine GW_list ?_
 simp only [Array.toList]
 refine GL_walk 2 [] rfl (by simp) (by kernel_rfl) ?_;intro q hq;simp [hC,hY];refine hq _ _ _ _ ?_;clear hq q
 simp only [wT,List.length_cons,List.length_nil,Nat.reduceAdd]
 refine GL_callS (f:=.func 51) (args:=#[.slice (some ⟨100,off,none⟩) n cap]) (cap:=#[]) rfl (by simp) rfl rfl (by simp [okT]) (by simp [gev]) (by simp) (by simp [okX,junk]) (by simp [gev]) (hC.symm▸clone_at 232 (by omega) b off n cap f h hcap) (by simp) (by rw [←hC];(intro k hk;first|rfl|(simp (disch:=omega) only [addB,List.mem_cons,List.not_mem_nil,or_false,upd_other,hpL_cons,hpL_nil,if_neg,updL]<;>done))) ?_ ?_
 ·rintro v ns ⟨c,M,g,h1,h2,h3,rfl,rfl⟩
  simp [keys]
 ·rintro v ns ⟨c,M,g,h1,h2,h3,rfl,rfl⟩
  refine GL_walk 2 [] rfl (by simp) (by kernel_rfl) ?_;intro q hq;simp [hC,hY,putT,updL];refine hq _ _ _ _ ?_;clear hq q
  simp only [wT,List.length_cons,List.length_nil,Nat.reduceAdd]
  refine GL_nil ?_
  repeat' (first|refine gwA ?_|(refine gwX ?_;intro Q hQ hP;simp [hC,hY];refine hQ _ _ _ _ (by kernel_rfl) ?_;clear hQ hP Q)|(refine gwC ?_ ?_<;>(intro hb;try (cases hb;done))))
  refine ⟨.inr trivial,kpS G0F,_,_,fun k=>if k=1000 then 232 else k,⟨c,M,g,h1,h2,h3,rfl,rfl⟩,fun k hk=>if_neg (by omega),by simp,by simp,by simp [Tryz.results31,ren,renA,renF,ren0],?_⟩
  simp [fa_rn]
theorem own10_fun (b:Blk) (off n cap:Nat) (f:Nat→Int) (h:SB b off n f) (hcap:n≤cap) (st:Int) :
  FunS Tryz.prog G0 22 #[.agg #[.int .i64 st,.slice (some ⟨100,off,none⟩) n cap]] (hpL G0 [(100,b)]) (keys [(100,b)]) (OwnS 1000 st n f):=by
 refine newS_ofL (B:=200) G0F Tryz.func22 rfl Tryz.call22 (oneL_ok h.fx) ?_ owns_fit (by simp [Tryz.ntmps22]) (by omega) ?_
 ·simp [idsV,idsA,idsF,ids0,keys]
 intro C hC hC0 hY
 have hnn:=h.nn
 have hbrd:=Blk.fx_rd h.fx
 repeat' (first|refine gwA ?_|(refine gwX ?_;intro Q hQ hP;simp [hC,hY];refine hQ _ _ _ _ (by kernel_rfl) ?_;clear hQ hP Q)|(refine gwC ?_ ?_<;>(intro hb;try (cases hb;done))))
 refine GW_list ?_
 simp only [Array.toList]
 refine GL_bs0 rfl (by simp) rfl Tryz.underlying25 (tySize_of Tryz.sizeOf45) ?_
 refine GL_walk 2 [] rfl (by simp) (by kernel_rfl) ?_;intro q hq;simp [hC,hY];refine hq _ _ _ _ ?_;clear hq q
 simp only [wT,List.length_cons,List.length_nil,Nat.reduceAdd]
 by_cases hn0:n=0
 ·subst hn0
  refine GL_appZ (p:=some (216,0)) (q:=some (100,off)) rfl (by simp) rfl Tryz.underlying25 (tySize_of Tryz.sizeOf45) (by simp;rfl) (by simp;rfl) (Nat.le_refl _) ?_
  refine GL_walk 2 [] rfl (by simp) (by kernel_rfl) ?_;intro q hq;simp [hC,hY,putT];refine hq _ _ _ _ ?_;clear hq q
  simp only [wT,List.length_cons,List.length_nil,Nat.reduceAdd]
  refine GL_nil ?_
  repeat' (first|refine gwA ?_|(refine gwX ?_;intro Q hQ hP;simp [hC,hY];refine hQ _ _ _ _ (by kernel_rfl) ?_;clear hQ hP Q)|(refine gwC ?_ ?_<;>(intro hb;try (cases hb;done))))
  refine ⟨.inr trivial,kpS G0F,_,_,fun k=>if k=1000 then 216 else k,⟨0,0,f,Nat.le_refl _,by omega,fun _ _=>rfl,rfl,rfl⟩,fun k hk=>if_neg (by omega),by simp,by simp,by simp [Tryz.results22,ren,renA,renF,ren0],?_⟩
  simp [fa,Blk.rn]
 ·refine GL_app0 (p:=some ⟨216,0,none⟩) (j:=100) (b2:=b) (off2:=off) (m:=n) (m':=cap) (nw:=(fa (6*n) .i64 f).toList) (sz:=6) (by':=48) (z:=.agg #[.int .i64 0,.int .i64 0,.int .i64 0,.int .i64 0,.int .i64 0,.int .i64 0]) rfl (by simp) rfl Tryz.underlying25 (tySize_of Tryz.sizeOf45) ?_ ?_ ?_ ?_ ?_ (rdI_nw h.rd) fa_list_flat (fun q x hx=>?_) (by omega) (by simp;omega) (by unfold maxLen;omega) (by omega) (fun cap' hc'=>?_)
  ·kernel_rfl
  ·kernel_rfl
  ·simp
  ·simp
  ·simp
  ·have:=zc_mem hx
   simp [Value.cells] at this
   subst this
   rfl
  ·rw [zeros_fa (k:=.i64) (by simp),app_new]
   refine GL_walk 2 [] rfl (by simp) (by kernel_rfl) ?_;intro q hq;simp [hC,hY,putT];refine hq _ _ _ _ ?_;clear hq q
   simp only [wT,List.length_cons,List.length_nil,Nat.reduceAdd]
   refine GL_nil ?_
   repeat' (first|refine gwA ?_|(refine gwX ?_;intro Q hQ hP;simp [hC,hY];refine hQ _ _ _ _ (by kernel_rfl) ?_;clear hQ hP Q)|(refine gwC ?_ ?_<;>(intro hb;try (cases hb;done))))
   refine ⟨.inr trivial,kpS G0F,_,_,fun k=>if k=1000 then 216+24 else k,⟨cap',6*n+(cap' - n)*6,catN f (6*n) 0 f,hc',?_,?_,rfl,rfl⟩,fun k hk=>if_neg (by omega),by simp,by simp,by simp [Tryz.results22,ren,renA,renF,ren0],?_⟩
   ·omega
   ·intro j hj
    unfold catN
    rw [if_pos (by omega)]
   ·simp only [List.mem_singleton,forall_eq]
    rw [fa_rn]
    simp
theorem nilL_ok:LOk [] 200:=⟨by simp,by simp [keys],by simp⟩
def dwE (f:Nat→Int) (p q:Int) (i:Nat):Int:=wyE (f (6*i+3)) (f (6*i+4)) (f (6*i+5)) p q
def dwV (f:Nat→Int) (p q:Int) (i j:Nat):Int:=eaV (dwE f p q i) (d1V (f (6*i+3+j)) p q)
def stB' (st:Int) (k off n cap:Nat):Blk:=⟨#[.int .i64 st,.slice (some ⟨k,off,none⟩) n cap],.ty 27⟩
end Go.Gy
namespace Go.Gy
set_option linter.unusedSimpArgs false
set_option linter.unusedVariables false
open Go Go.RowKit Go.Proofs
end Go.Gy
namespace Go.Gy
open Go Go.RowKit Go.Proofs
theorem inV_iff {m x y z:Int}:inV m x y z=true↔inW m x∧inW m y∧inW m z:=by unfold inV;exact decide_eq_true_iff
theorem right_n {st:Int} {f:Nat→Int} {n:Nat} (h:rightB st f n=true):(-1073741824≤st∧st≤1073741824)∧(1≤n∧n≤4)∧∀ i,i<n→inB 1048576 65536 f i=true:=by
 unfold rightB stB at h
 simp only [Bool.and_eq_true,decide_eq_true_eq] at h
 exact ⟨h.1.1,h.1.2,allB_iff.1 h.2⟩
theorem right_b {st:Int} {f:Nat→Int} {n:Nat} (h:rightB st f n=true) {i:Nat} (hi:i<n):(inW 1048576 (f (6*i))∧inW 1048576 (f (6*i+1))∧inW 1048576 (f (6*i+2)))∧(inW 65536 (f (6*i+3))∧inW 65536 (f (6*i+4))∧inW 65536 (f (6*i+5))):=by
 have:=(right_n h).2.2 i hi
 unfold inB at this
 rw [Bool.and_eq_true,inV_iff,inV_iff] at this
 exact this
def mvG (g f:Nat→Int) (p q:Int) (i j:Nat):Int:=if j<6*i∧j%6<3 then f j+dwV f p q (j / 6) (j%6) else g j
end Go.Gy
namespace Go.Gy
set_option linter.unusedSimpArgs false
set_option linter.unusedVariables false
open Go Go.RowKit Go.Proofs
end Go.Gy
namespace Go.Gy
set_option linter.unusedSimpArgs false
set_option linter.unusedVariables false
open Go Go.RowKit Go.Proofs
@[simp] theorem smap:strMap Tryz.prog 102=true:=by kernel_rfl
def wiB (n lo hi:Int):Bool:=decide (lo≤n∧n≤hi)
theorem cwi_ret (n lo hi:Int):Ret Tryz.prog G0 98 #[.int .i64 n,.int .i64 lo,.int .i64 hi] (.bool (wiB n lo hi)):=by
 refine ret_of G0F Tryz.func98 rfl Tryz.call98 rfl (by simp) (by simp [Tryz.ntmps98]) ?_
 intro C hC hC0 hY
 unfold wiB
 by_cases c0:lo≤n
 ·by_cases c1:n≤hi
  ·rw [decide_eq_true ⟨c0,c1⟩]
   (repeat' (first|refine gwA ?_|(refine gwX ?_;intro Q hQ hP;simp [hC,hY,c0,c1];refine hQ _ _ _ _ (by kernel_rfl) ?_;clear hQ hP Q)|(refine gwC ?_ ?_<;>(intro hb;try (cases hb;done)))))
   refine ⟨.inr trivial,?_⟩
   simp [Tryz.results98]
  ·rw [decide_eq_false (by omega)]
   (repeat' (first|refine gwA ?_|(refine gwX ?_;intro Q hQ hP;simp [hC,hY,c0,c1];refine hQ _ _ _ _ (by kernel_rfl) ?_;clear hQ hP Q)|(refine gwC ?_ ?_<;>(intro hb;try (cases hb;done)))))
   refine ⟨.inr trivial,?_⟩
   simp [Tryz.results98]
 ·rw [decide_eq_false (by omega)]
  (repeat' (first|refine gwA ?_|(refine gwX ?_;intro Q hQ hP;simp [hC,hY,c0];refine hQ _ _ _ _ (by kernel_rfl) ?_;clear hQ hP Q)|(refine gwC ?_ ?_<;>(intro hb;try (cases hb;done)))))
  refine ⟨.inr trivial,?_⟩
  simp [Tryz.results98]
@[simp] theorem cwi (n lo hi:Int) (K:Value→Prop):callK Tryz.prog G0 98 #[.int .i64 n,.int .i64 lo,.int .i64 hi] K↔K (.bool (wiB n lo hi)):=callK_iff G0W (by kernel_rfl) (cwi_ret n lo hi)
def NumR (nk:Nat) (a m:Int) (v:Value) (ns:List (Nat×Blk)):Prop:=v=.func (.func 97) #[] #[.pointer (some ⟨nk,0,none⟩),.pointer (some ⟨nk+1,0,none⟩)]∧ns=[(nk,jb a),(nk+1,jb m)]
theorem num_fun (a m:Int):FunS Tryz.prog G0 96 #[.int .i64 a,.int .i64 m] (hpL G0 []) (keys []) (NumR 1000 a m):=by
 refine newS_ofL (B:=200) G0F Tryz.func96 rfl Tryz.call96 ⟨by simp,by simp [keys],by simp⟩ ?_ ?_ (by simp [Tryz.ntmps96]) (by omega) ?_
 ·simp [idsV,idsA,idsF,ids0,keys]
 ·rintro v ns ⟨rfl,rfl⟩
  refine ⟨by simp [idsV,idsA,idsF,ids0,extD,keys],by simp [jb,ids_lit,idsF,ids0],?_⟩
  intro k b c h1 h2
  simp at h1 h2
  rcases h1 with ⟨e1,rfl⟩|⟨e1,rfl⟩<;>rcases h2 with ⟨e2,rfl⟩|⟨e2,rfl⟩<;>first|rfl|omega
 intro C hC hC0 hY
 repeat' (first|refine gwA ?_|(refine gwX ?_;intro Q hQ hP;simp [hC,hY];refine hQ _ _ _ _ (by kernel_rfl) ?_;clear hQ hP Q)|(refine gwC ?_ ?_<;>(intro hb;try (cases hb;done))))
 refine ⟨.inr trivial,kpS G0F,_,_,fun k=>if k=1000 then 200 else if k=1001 then 208 else k,⟨rfl,rfl⟩,fun k hk=>?_,by simp,by simp,by simp [Tryz.results96,ren,renA,renF,ren0],?_⟩
 ·dsimp only
  rw [if_neg (by omega),if_neg (by omega)]
 ·simp [jb_rn]
  simp [jb]
theorem numR_rr {nk nk':Nat} {a m:Int} {ρ:Nat→Nat} (h0:ρ nk=nk') (h1:ρ (nk+1)=nk'+1):RR ρ (NumR nk a m)=NumR nk' a m:=by
 funext v ns
 apply propext
 constructor
 ·rintro ⟨v0,ns0,⟨rfl,rfl⟩,rfl,rfl⟩
  exact ⟨by simp [ren,renA,renF,ren0,h0,h1],by simp [rnL,jb_rn,h0,h1]⟩
 ·rintro ⟨rfl,rfl⟩
  exact ⟨_,_,⟨rfl,rfl⟩,by simp [ren,renA,renF,ren0,h0,h1],by simp [rnL,jb_rn,h0,h1]⟩
def up2 (nk k:Nat):Nat:=if 1000≤k then (if k<1002 then k - 1000+nk else k) else k
theorem num_at (nk:Nat) (hnk:200≤nk) (a m:Int):FunS Tryz.prog G0 96 #[.int .i64 a,.int .i64 m] (hpL G0 []) [] (NumR nk a m):=by
 have e2:∀ j,j<2→up2 nk (1000+j)=nk+j:=fun j hj=>by unfold up2;rw [if_pos (by omega),if_pos (by omega)];omega
 have hk2:∀ v ns,NumR 1000 a m v ns→∀ k∈keys ns,∃ j,j<2∧k=1000+j:=by
  rintro v ns ⟨rfl,rfl⟩ k hk
  simp [keys] at hk
  rcases hk with rfl|rfl
  ·exact ⟨0,by omega,rfl⟩
  ·exact ⟨1,by omega,rfl⟩
 have h0:=(num_fun a m).rn (up2 nk) G0F nilL_ok.low (hp':=hpL G0 []) (rn_ofL nilL_ok _ (fun k hk=>by unfold up2;rw [if_neg (by omega)]) nilL_ok.low (by simp) (by simp [keys])) (fun v ns hR k hk=>by
  obtain ⟨j,hj,rfl⟩:=hk2 v ns hR k hk
  rw [e2 j hj]
  refine ⟨by omega,fun hd=>hd ?_⟩
  simp [rst,keys]
  intro h4
  omega) (fun v ns hR k hk l hl e=>by
  obtain ⟨j,hj,rfl⟩:=hk2 v ns hR k hk
  obtain ⟨i,hi,rfl⟩:=hk2 v ns hR l hl
  rw [e2 j hj,e2 i hi] at e
  omega)
 rw [numR_rr (e2 0 (by omega)) (e2 1 (by omega))] at h0
 simpa [keys,ren,renA,renF,ren0] using h0
theorem numR_key {nk:Nat} {a m:Int} {v:Value} {ns:List (Nat×Blk)} (h:NumR nk a m v ns):∀ k∈keys ns,nk≤k∧k<nk+2:=by
 obtain ⟨rfl,rfl⟩:=h
 intro k hk
 simp [keys] at hk
 omega
theorem cn1_fun (a m:Int):Fun Tryz.prog G0 97 #[.pointer (some ⟨100,0,none⟩),.pointer (some ⟨108,0,none⟩)] (hpL G0 [(100,jb a),(108,jb m)]) (keys [(100,jb a),(108,jb m)]) (.ret (.bool (wiB a 1 m)) []):=by
 refine fun_ofL (B:=200) G0F Tryz.func97 rfl Tryz.call97 ⟨by simp,by simp [keys],by simp [jb,ids_lit,idsF,ids0]⟩ ?_ (by simp) (by simp) (by simp) (by simp [Tryz.ntmps97]) (by omega) ?_
 ·simp [idsV,idsA,idsF,ids0,keys]
 intro C hC hC0 hY
 repeat' (first|refine gwA ?_|(refine gwX ?_;intro Q hQ hP;simp [hC,hY,jb];refine hQ _ _ _ _ (by kernel_rfl) ?_;clear hQ hP Q)|(refine gwC ?_ ?_<;>(intro hb;try (cases hb;done))))
 refine ⟨.inr rfl,by simp [Tryz.results97],keep_of G0F (by simp [jb]) (by (intro k hk;first|rfl|(simp (disch:=omega) only [addB,List.mem_cons,List.not_mem_nil,or_false,upd_other,hpL_cons,hpL_nil,if_neg,updL]<;>done)))⟩
def cfB (sl:Value) (g bx tp nr md:Int):Blk:=⟨#[sl,.int .i64 g,.int .i64 bx,.int .i64 tp,.int .i64 nr,.int .i64 md],.ty 24⟩
def cfV (sl:Value) (g bx tp nr md:Int):Value:=.agg #[sl,.int .i64 g,.int .i64 bx,.int .i64 tp,.int .i64 nr,.int .i64 md]
theorem cm_ret (m:Int):Ret Tryz.prog G0 101 #[.int .i64 m] (.bool !(wiB m 1 1024)):=by
 refine ret_of G0F Tryz.func101 rfl Tryz.call101 rfl (by simp) (by simp [Tryz.ntmps101]) ?_
 intro C hC hC0 hY
 repeat' (first|refine gwA ?_|(refine gwX ?_;intro Q hQ hP;simp [hC,hY];refine hQ _ _ _ _ (by kernel_rfl) ?_;clear hQ hP Q)|(refine gwC ?_ ?_<;>(intro hb;try (cases hb;done))))
 refine ⟨.inr trivial,?_⟩
 simp [Tryz.results101]
@[simp] theorem cm1 (m:Int) (K:Value→Prop):callK Tryz.prog G0 101 #[.int .i64 m] K↔K (.bool !(wiB m 1 1024)):=callK_iff G0W (by kernel_rfl) (cm_ret m)
structure MB (b:Blk) (off n:Nat) (f:Nat→Int):Prop where
 rd:rdI b off n f
 fx:b.fx
 i6:∀ j,j<n→i64 (f j)
 nn:n≤17592186044416
theorem MB.at {b:Blk} {off n:Nat} {f:Nat→Int} (h:MB b off n f) {i:Nat} (hi:i<n):loadK Tryz.prog 3 b (off+i)=some (.int .i64 (f i)):=by
 have hbrd:=Blk.fx_rd h.fx
 exact loadK_rd1 (P:=Tryz.prog) (T:=3) (j:=i) (tyAgg_of Tryz.isAgg3) h.rd hi
def cixSt (b:Blk) (off n cap:Nat) (i:Nat):GS :=
 ⟨tsL [(0,.slice (some ⟨100,off,none⟩) n cap),(1,.func (.func 101) #[] #[]),(7,.int .i64 n),(8,.int .i64 i)],hpL G0 [(100,b)],300,0⟩
def allM (f:Nat→Int) (n:Nat):Bool:=(List.range n).all fun i=>wiB (f i) 1 1024
theorem cix_fun (b:Blk) (off n cap:Nat) (f:Nat→Int) (h:MB b off n f) (N:Nat) (hN:N≤n) (hlt:∀ i,i<N→wiB (f i) 1 1024=true) (hend:N=n∨wiB (f N) 1 1024=false) :
  Fun Tryz.prog G0 125 #[.slice (some ⟨100,off,none⟩) n cap,.func (.func 101) #[] #[]] (hpL G0 [(100,b)]) (keys [(100,b)]) (.ret (.int .i64 (if N=n then -1 else N)) []):=by
 refine fun_ofL (B:=200) G0F Tryz.func125 rfl Tryz.call125 (oneL_ok h.fx) ?_ (by simp) (by simp) (by simp) (by simp [Tryz.ntmps125]) (by omega) ?_
 ·simp [idsV,idsA,idsF,ids0,keys]
 intro C hC hC0 hY
 have hnn:=h.nn
 have hid:=fun D=>Blk.fx_ids h.fx D
 repeat' (first|refine gwA ?_|(refine gwX ?_;intro Q hQ hP;simp [hC,hY];refine hQ _ _ _ _ (by kernel_rfl) ?_;clear hQ hP Q)|(refine gwC ?_ ?_<;>(intro hb;try (cases hb;done))))
 refine GW_for N (cixSt b off n cap) ?_ ?_ ?_
 ·refine weakL _ 300 hC G0F (m0:=[(100,b)]) hC0 (by omega) ?_ ?_ ?_
  ·simp [idsV,idsA,idsF,ids0,dom]
  ·simp [hid]
  ·simp
 ·intro i hi
  have hin:i<n:=by omega
  have hi':(i:Int)<n:=by omega
  have hz:(0:Int)≤i:=by omega
  have hs:Int.bmod ((i:Int)+1) 18446744073709551616=((i+1:Nat):Int):=by rw [bm (by omega) (by omega)];rfl
  have hld:=h.at hin
  have hq:=hlt i hi
  unfold cixSt
  repeat' (first|refine gwA ?_|(refine gwX ?_;intro Q hQ hP;simp [hC,hY,hi,hin,hi',hz,hs,hld,hq];refine hQ _ _ _ _ (by kernel_rfl) ?_;clear hQ hP Q)|(refine gwC ?_ ?_<;>(intro hb;try (cases hb;done))))
  refine weakL _ 300 hC G0F (m0:=[(100,b)]) hC0 (by omega) ?_ ?_ ?_
  ·simp [idsV,idsA,idsF,ids0,dom,hs]
  ·simp [hid]
  ·simp
 ·by_cases hNn:N=n
  ·subst hNn
   simp only [if_true]
   unfold cixSt
   repeat' (first|refine gwA ?_|(refine gwX ?_;intro Q hQ hP;simp [hC,hY];refine hQ _ _ _ _ (by kernel_rfl) ?_;clear hQ hP Q)|(refine gwC ?_ ?_<;>(intro hb;try (cases hb;done))))
   refine ⟨.inr rfl,by simp [Tryz.results125],kpS G0F⟩
  ·have hin:N<n:=by omega
   have hi':(N:Int)<n:=by omega
   have hz:(0:Int)≤N:=by omega
   have hld:=h.at hin
   have hq:=hend.resolve_left hNn
   rw [if_neg hNn]
   unfold cixSt
   repeat' (first|refine gwA ?_|(refine gwX ?_;intro Q hQ hP;simp [hC,hY,hin,hi',hz,hld,hq];refine hQ _ _ _ _ (by kernel_rfl) ?_;clear hQ hP Q)|(refine gwC ?_ ?_<;>(intro hb;try (cases hb;done))))
   refine ⟨.inr rfl,by simp [Tryz.results125],kpS G0F⟩
theorem ccf_fun (b:Blk) (off n cap:Nat) (f:Nat→Int) (h:MB b off n f) :
  Fun Tryz.prog G0 100 #[.slice (some ⟨100,off,none⟩) n cap,.func (.func 101) #[] #[]] (hpL G0 [(100,b)]) (keys [(100,b)]) (.ret (.bool !(allM f n)) []):=by
 refine fun_ofL (B:=200) G0F Tryz.func100 rfl Tryz.call100 (oneL_ok h.fx) ?_ (by simp) (by simp) (by simp) (by simp [Tryz.ntmps100]) (by omega) ?_
 ·simp [idsV,idsA,idsF,ids0,keys]
 intro C hC hC0 hY
 have hr:=fun ρ=>Blk.fx_rn h.fx ρ
 obtain ⟨N,hN,hlt,hend⟩:=leadB (fun i=>wiB (f i) 1 1024) n
 by_cases hNn:N=n
 ·have e:allM f n=true:=by unfold allM;rw [←hNn];simpa using hlt
  rw [e]
  repeat' (first|refine gwA ?_|((first|refine gwR [125] ?_|refine gwD [125] ?_);intro Q hQ hP;simp [hC,hY,hNn];(repeat ((first|(refine heapK_mv (cix_fun b off n cap f h N hN hlt hend) G0F (B:=200) (oneL_ok h.fx) (fun k=>k) (fun k hk=>rfl) (by simp [ren,renA,renF,ren0]) (by simp) (by simp [hr]) (by simp [keys]) (by simp [keys];rfl) ?_));try simp [hC,hY,hNn]));refine hQ _ _ _ _ (by kernel_rfl) ?_;clear hQ hP Q)|(refine gwC ?_ ?_<;>(intro hb;try (cases hb;done))))
  refine ⟨.inr rfl,by simp [Tryz.results100],kpS G0F⟩
 ·have e:allM f n=false:=by
   unfold allM
   rw [List.all_eq_false]
   exact ⟨N,by simp;omega,by simpa using hend.resolve_left hNn⟩
  have hz:(0:Int)≤N:=by omega
  rw [e]
  repeat' (first|refine gwA ?_|((first|refine gwR [125] ?_|refine gwD [125] ?_);intro Q hQ hP;simp [hC,hY,hNn,hz];(repeat ((first|(refine heapK_mv (cix_fun b off n cap f h N hN hlt hend) G0F (B:=200) (oneL_ok h.fx) (fun k=>k) (fun k hk=>rfl) (by simp [ren,renA,renF,ren0]) (by simp) (by simp [hr]) (by simp [keys]) (by simp [keys];rfl) ?_));try simp [hC,hY,hNn,hz]));refine hQ _ _ _ _ (by kernel_rfl) ?_;clear hQ hP Q)|(refine gwC ?_ ?_<;>(intro hb;try (cases hb;done))))
  refine ⟨.inr rfl,by simp [Tryz.results100],kpS G0F⟩
def cmL (b:Blk) (off n cap:Nat) (g bx tp nr md:Int):List (Nat×Blk):=[(100,b),(108,cfB (.slice (some ⟨100,off,none⟩) n cap) g bx tp nr md)]
theorem cmL_ok {b:Blk} (hb:b.fx) (off n cap:Nat) (g bx tp nr md:Int):LOk (cmL b off n cap g bx tp nr md) 200:=⟨by simp [cmL],by simp [cmL,keys],by
 simp only [cmL,List.mem_cons,List.not_mem_nil,or_false,forall_eq_or_imp,forall_eq]
 exact ⟨Blk.fx_ids hb _,by simp [cfB,ids_lit,idsF,ids0,keys]⟩⟩
theorem cm2_fun (b:Blk) (off n cap:Nat) (f:Nat→Int) (h:MB b off n f) (g bx tp nr md:Int) :
  Fun Tryz.prog G0 99 #[.pointer (some ⟨108,0,none⟩)] (hpL G0 (cmL b off n cap g bx tp nr md)) (keys (cmL b off n cap g bx tp nr md)) (.ret (.bool (allM f n)) []):=by
 refine fun_ofL (B:=200) G0F Tryz.func99 rfl Tryz.call99 (cmL_ok h.fx off n cap g bx tp nr md) ?_ (by simp) (by simp) (by simp) (by simp [Tryz.ntmps99]) (by omega) ?_
 ·simp [idsV,idsA,idsF,ids0,keys,cmL]
 intro C hC hC0 hY
 have hr:=fun ρ=>Blk.fx_rn h.fx ρ
 unfold cmL cfB
 repeat' (first|refine gwA ?_|((first|refine gwR [100] ?_|refine gwD [100] ?_);intro Q hQ hP;simp [hC,hY];(repeat ((first|(refine heapK_mv (ccf_fun b off n cap f h) G0F (B:=200) (oneL_ok h.fx) (fun k=>k) (fun k hk=>rfl) (by simp [ren,renA,renF,ren0]) (by simp) (by simp [hr]) (by simp [keys]) (by simp [keys];rfl) ?_));try simp [hC,hY]));refine hQ _ _ _ _ (by kernel_rfl) ?_;clear hQ hP Q)|(refine gwC ?_ ?_<;>(intro hb;try (cases hb;done))))
 refine ⟨.inr rfl,by simp [Tryz.results99],kpS G0F⟩
theorem cm3_fun (b:Blk) (off n cap:Nat) (hb:b.fx) (g bx tp nr md:Int) :
  Fun Tryz.prog G0 102 #[.pointer (some ⟨108,0,none⟩)] (hpL G0 (cmL b off n cap g bx tp nr md)) (keys (cmL b off n cap g bx tp nr md)) (.ret (.bool (wiB md 0 4)) []):=by
 refine fun_ofL (B:=200) G0F Tryz.func102 rfl Tryz.call102 (cmL_ok hb off n cap g bx tp nr md) ?_ (by simp) (by simp) (by simp) (by simp [Tryz.ntmps102]) (by omega) ?_
 ·simp [idsV,idsA,idsF,ids0,keys,cmL]
 intro C hC hC0 hY
 unfold cmL cfB
 repeat' (first|refine gwA ?_|(refine gwX ?_;intro Q hQ hP;simp [hC,hY];refine hQ _ _ _ _ (by kernel_rfl) ?_;clear hQ hP Q)|(refine gwC ?_ ?_<;>(intro hb;try (cases hb;done))))
 refine ⟨.inr rfl,by simp [Tryz.results102],kpS G0F⟩
def mT (sl:Value) (n:Nat) (g bx tp nr:Int):List (Nat×Nat×Value):=[(0,4,.map (some 224)),
  (1,5,.func (.func 96) #[] #[]),
  (2,6,.pointer (some ⟨200,0,none⟩)),
  (3,7,sl),
  (4,8,.int .i64 n),
  (5,9,.func (.func 97) #[] #[.pointer (some ⟨264,0,none⟩),.pointer (some ⟨265,0,none⟩)]),
  (7,10,.func (.func 99) #[] #[.pointer (some ⟨200,0,none⟩)]),
  (9,11,.func (.func 96) #[] #[]),
  (10,12,.pointer (some ⟨200,1,none⟩)),
  (11,13,.int .i64 g),
  (12,14,.func (.func 97) #[] #[.pointer (some ⟨320,0,none⟩),.pointer (some ⟨321,0,none⟩)]),
  (14,15,.func (.func 96) #[] #[]),
  (15,16,.pointer (some ⟨200,2,none⟩)),
  (16,17,.int .i64 bx),
  (17,18,.func (.func 97) #[] #[.pointer (some ⟨360,0,none⟩),.pointer (some ⟨361,0,none⟩)]),
  (19,19,.func (.func 96) #[] #[]),
  (20,20,.pointer (some ⟨200,3,none⟩)),
  (21,21,.int .i64 tp),
  (22,22,.func (.func 97) #[] #[.pointer (some ⟨400,0,none⟩),.pointer (some ⟨401,0,none⟩)]),
  (24,23,.func (.func 96) #[] #[]),
  (25,24,.pointer (some ⟨200,4,none⟩)),
  (26,25,.int .i64 nr),
  (27,26,.pointer (some ⟨200,2,none⟩)),
  (28,27,.int .i64 bx),
  (29,28,.int .i64 (Int.bmod (2*bx) 18446744073709551616)),
  (30,29,.func (.func 97) #[] #[.pointer (some ⟨464,0,none⟩),.pointer (some ⟨465,0,none⟩)]),
  (32,30,.func (.func 102) #[] #[.pointer (some ⟨200,0,none⟩)]),
  (34,31,.map (some 224)),
  (35,2,.map (some 224))]
def mI:List (Nat×ByteArray×Value):=[(6,⟨#[98,111,100,105,101,115]⟩,.func (.func 97) #[] #[.pointer (some ⟨264,0,none⟩),.pointer (some ⟨265,0,none⟩)]),
  (8,⟨#[109,97,115,115]⟩,.func (.func 99) #[] #[.pointer (some ⟨200,0,none⟩)]),
  (13,⟨#[99,111,110,115,116,97,110,116]⟩,.func (.func 97) #[] #[.pointer (some ⟨320,0,none⟩),.pointer (some ⟨321,0,none⟩)]),
  (18,⟨#[98,111,120]⟩,.func (.func 97) #[] #[.pointer (some ⟨360,0,none⟩),.pointer (some ⟨361,0,none⟩)]),
  (23,⟨#[116,111,112]⟩,.func (.func 97) #[] #[.pointer (some ⟨400,0,none⟩),.pointer (some ⟨401,0,none⟩)]),
  (31,⟨#[110,101,97,114]⟩,.func (.func 97) #[] #[.pointer (some ⟨464,0,none⟩),.pointer (some ⟨465,0,none⟩)]),
  (33,⟨#[109,101,116,104,111,100]⟩,.func (.func 102) #[] #[.pointer (some ⟨200,0,none⟩)])]
def mX (n:Nat) (g bx tp nr:Int):List (Nat×Nat×Blk):=[(5,264,jb (n:Int)),(5,265,jb 4),
  (12,320,jb g),(12,321,jb 1048576),
  (17,360,jb bx),(17,361,jb 1048576),
  (22,400,jb tp),(22,401,jb 65536),
  (30,464,jb nr),(30,465,jb (Int.bmod (2*bx) 18446744073709551616))]
structure MI (b:Blk) (sl:Value) (n:Nat) (g bx tp nr md:Int) (listed:Array Bool) (ts:Nat→Value) (hp:Hp):Prop where
 t1:ts 1=.pointer (some ⟨200,0,none⟩)
 t3:ts 3=.func (.func 96) #[] #[]
 tm:∀ p∈mT sl n g bx tp nr,listed[p.1]? = some true→ts p.2.1=p.2.2
 low:∀ k,k<100→hp k=G0 k
 b:hp 100=some b
 c:hp 200=some (cfB sl g bx tp nr md)
 bx:∀ q∈mX n g bx tp nr,listed[q.1]? = some true→hp q.2.1=some q.2.2
 mp:listed[0]? = some true→∃ l,hp 224=some (mpB l)∧(∀ p∈l,∃ q∈mI,p=q.2∧listed[q.1]? = some true)∧∀ q∈mI,listed[q.1]? = some true→findL q.2.1 l=some q.2.2
 i0:∀ q∈mI,listed[q.1]? = some true→listed[0]? = some true
theorem set_keep {listed:Array Bool} {i j:Nat} (h:listed[j]? = some true):(listed.setIfInBounds i true)[j]? = some true:=by
 rw [Array.getElem?_setIfInBounds]
 split
 ·split
  ·rfl
  ·rename_i e hlt
   subst e
   exact absurd (Array.getElem?_eq_some_iff.1 h).1 hlt
 ·exact h
theorem set_get {listed:Array Bool} {i j:Nat} (h:(listed.setIfInBounds i true)[j]? = some true):j=i∨listed[j]? = some true:=by
 rw [Array.getElem?_setIfInBounds] at h
 by_cases e:i=j
 ·exact .inl e.symm
 ·rw [if_neg e] at h;exact .inr h
theorem mT_tmp (sl:Value) (n:Nat) (g bx tp nr:Int):∀ p∈mT sl n g bx tp nr,∀ q∈mT sl n g bx tp nr,p.1=q.1∨p.2.1=q.2.1→p=q:=by
 intro p hp q hq
 simp only [mT,List.mem_cons,List.not_mem_nil,or_false] at hp hq
 rcases hp with rfl|rfl|rfl|rfl|rfl|rfl|rfl|rfl|rfl|rfl|rfl|rfl|rfl|rfl|rfl|rfl|rfl|rfl|rfl|rfl|rfl|rfl|rfl|rfl|rfl|rfl|rfl|rfl|rfl<;>rcases hq with rfl|rfl|rfl|rfl|rfl|rfl|rfl|rfl|rfl|rfl|rfl|rfl|rfl|rfl|rfl|rfl|rfl|rfl|rfl|rfl|rfl|rfl|rfl|rfl|rfl|rfl|rfl|rfl|rfl<;>simp
theorem mT_13 (sl:Value) (n:Nat) (g bx tp nr:Int):∀ p∈mT sl n g bx tp nr,p.2.1≠1∧p.2.1≠3:=by simp [mT]
theorem mT_mI (sl:Value) (n:Nat) (g bx tp nr:Int):∀ p∈mT sl n g bx tp nr,∀ q∈mI,p.1≠q.1:=by simp [mT,mI]
theorem mI_key:∀ p∈mI,∀ q∈mI,p.1=q.1∨(p.2.1==q.2.1)=false:=by
 intro p hp q hq
 simp only [mI,List.mem_cons,List.not_mem_nil,or_false] at hp hq
 rcases hp with rfl|rfl|rfl|rfl|rfl|rfl|rfl<;>rcases hq with rfl|rfl|rfl|rfl|rfl|rfl|rfl<;>first|exact .inl rfl|(right;decide +kernel)
theorem mI_one:∀ p∈mI,∀ q∈mI,p.1=q.1→p=q:=by
 intro p hp q hq
 simp only [mI,List.mem_cons,List.not_mem_nil,or_false] at hp hq
 rcases hp with rfl|rfl|rfl|rfl|rfl|rfl|rfl<;>rcases hq with rfl|rfl|rfl|rfl|rfl|rfl|rfl<;>simp
theorem mI_self:∀ p∈mI,(p.2.1==p.2.1)=true:=by
 intro p hp
 simp only [mI,List.mem_cons,List.not_mem_nil,or_false] at hp
 rcases hp with rfl|rfl|rfl|rfl|rfl|rfl|rfl<;>decide +kernel
section
variable {b:Blk} {sl:Value} {n:Nat} {g bx tp nr md:Int} {listed:Array Bool} {ts:Nat→Value} {hp:Hp}
theorem MI.tmp (h:MI b sl n g bx tp nr md listed ts hp) {i t:Nat} {v:Value} (hm:(i,t,v)∈mT sl n g bx tp nr) (hx:∀ q∈mX n g bx tp nr,q.1≠i) (hi:i≠0):MI b sl n g bx tp nr md (listed.setIfInBounds i true) (upd ts t v) hp:=by
 have h13:=mT_13 sl n g bx tp nr _ hm
 refine ⟨by rw [upd_other _ _ (fun e=>h13.1 e.symm)];exact h.t1,by rw [upd_other _ _ (fun e=>h13.2 e.symm)];exact h.t3,fun p hp hl=>?_,h.low,h.b,h.c,fun q hq hl=>?_,fun hl=>?_,fun q hq hl=>(set_get hl).elim (fun e1=>absurd e1.symm (mT_mI sl n g bx tp nr _ hm q hq)) fun h1=>set_keep (h.i0 q hq h1)⟩
 ·by_cases e:p.2.1=t
  ·have:=mT_tmp sl n g bx tp nr p hp _ hm (.inr e)
   subst this
   exact upd_same _ _ _
  ·rw [upd_other _ _ e]
   rcases set_get hl with e1|h1
   ·exact absurd (congrArg (fun x=>x.2.1) (mT_tmp sl n g bx tp nr p hp _ hm (.inl e1))) e
   ·exact h.tm p hp h1
 ·rcases set_get hl with e1|h1
  ·exact absurd e1 (hx q hq)
  ·exact h.bx q hq h1
 ·rcases set_get hl with e1|h1
  ·exact absurd e1.symm hi
  ·obtain ⟨l,l1,l2,l3⟩:=h.mp h1
   refine ⟨l,l1,fun p hp=>?_,fun q hq hl2=>?_⟩
   ·obtain ⟨q,hq,e,h2⟩:=l2 p hp
    refine ⟨q,hq,e,?_⟩
    rw [Array.getElem?_setIfInBounds,if_neg (fun e=>mT_mI sl n g bx tp nr _ hm q hq e)]
    exact h2
   ·rcases set_get hl2 with e1|h2
    ·exact absurd e1.symm (mT_mI sl n g bx tp nr _ hm q hq)
    ·exact l3 q hq h2
theorem MI.mkm (h:MI b sl n g bx tp nr md listed ts hp) (h0:listed[0]? = some false):MI b sl n g bx tp nr md (listed.setIfInBounds 0 true) (upd ts 4 (.map (some 224))) (upd hp 224 (some (mpB []))):=by
 have hm:(0,4,Value.map (some 224))∈mT sl n g bx tp nr:=by simp [mT]
 refine ⟨by rw [upd_other _ _ (by omega)];exact h.t1,by rw [upd_other _ _ (by omega)];exact h.t3,fun p hp hl=>?_,fun k hk=>by rw [upd_other _ _ (by omega)];exact h.low k hk,by rw [upd_other _ _ (by omega)];exact h.b,by rw [upd_other _ _ (by omega)];exact h.c,fun q hq hl=>?_,fun _=>⟨[],upd_same _ _ _,by simp,fun q hq hl=>?_⟩,fun q hq hl=>by simp [Array.getElem?_setIfInBounds,(Array.getElem?_eq_some_iff.1 h0).1]⟩
 ·by_cases e:p.2.1=4
  ·have:=mT_tmp sl n g bx tp nr p hp _ hm (.inr e)
   subst this
   exact upd_same _ _ _
  ·rw [upd_other _ _ e]
   rcases set_get hl with e1|h1
   ·exact absurd (congrArg (fun x=>x.2.1) (mT_tmp sl n g bx tp nr p hp _ hm (.inl e1))) e
   ·exact h.tm p hp h1
 ·have hq2:q.1≠0∧q.2.1≠224:=(show ∀ q∈mX n g bx tp nr,q.1≠0∧q.2.1≠224 by simp [mX]) q hq
  rw [upd_other _ _ hq2.2]
  rcases set_get hl with e1|h1
  ·exact absurd e1 hq2.1
  ·exact h.bx q hq h1
 ·have hq2:q.1≠0:=(show ∀ q∈mI,q.1≠0 by simp [mI]) q hq
  rcases set_get hl with e1|h1
  ·exact absurd e1 hq2
  ·rw [h.i0 q hq h1] at h0;cases h0
theorem MI.call (h:MI b sl n g bx tp nr md listed ts hp) {i t nk:Nat} {v:Value} {a m:Int} (hm:(i,t,v)∈mT sl n g bx tp nr) (hnk:225≤nk) (hi:i≠0) (hx:∀ q∈mX n g bx tp nr,(q.1=i→(q.2.1=nk∧q.2.2=jb a)∨(q.2.1=nk+1∧q.2.2=jb m))∧(q.1≠i→q.2.1≠nk∧q.2.1≠nk+1)) :
  MI b sl n g bx tp nr md (listed.setIfInBounds i true) (upd ts t v) (upd (upd hp nk (some (jb a))) (nk+1) (some (jb m))):=by
 have h13:=mT_13 sl n g bx tp nr _ hm
 refine ⟨by rw [upd_other _ _ (fun e=>h13.1 e.symm)];exact h.t1,by rw [upd_other _ _ (fun e=>h13.2 e.symm)];exact h.t3,fun p hp hl=>?_,fun k hk=>by rw [upd_other _ _ (by omega),upd_other _ _ (by omega)];exact h.low k hk,by rw [upd_other _ _ (by omega),upd_other _ _ (by omega)];exact h.b,by rw [upd_other _ _ (by omega),upd_other _ _ (by omega)];exact h.c,fun q hq hl=>?_,fun hl=>?_,fun q hq hl=>(set_get hl).elim (fun e1=>absurd e1.symm (mT_mI sl n g bx tp nr _ hm q hq)) fun h1=>set_keep (h.i0 q hq h1)⟩
 ·by_cases e:p.2.1=t
  ·have:=mT_tmp sl n g bx tp nr p hp _ hm (.inr e)
   subst this
   exact upd_same _ _ _
  ·rw [upd_other _ _ e]
   rcases set_get hl with e1|h1
   ·exact absurd (congrArg (fun x=>x.2.1) (mT_tmp sl n g bx tp nr p hp _ hm (.inl e1))) e
   ·exact h.tm p hp h1
 ·by_cases e:q.1=i
  ·rcases (hx q hq).1 e with ⟨e1,e2⟩|⟨e1,e2⟩
   ·rw [e1,e2,upd_other _ _ (by omega),upd_same]
   ·rw [e1,e2,upd_same]
  ·obtain ⟨e1,e2⟩:=(hx q hq).2 e
   rw [upd_other _ _ e2,upd_other _ _ e1]
   rcases set_get hl with e3|h1
   ·exact absurd e3 e
   ·exact h.bx q hq h1
 ·rcases set_get hl with e1|h1
  ·exact absurd e1.symm hi
  ·obtain ⟨l,l1,l2,l3⟩:=h.mp h1
   refine ⟨l,by rw [upd_other _ _ (by omega),upd_other _ _ (by omega)];exact l1,fun p hp=>?_,fun q hq hl2=>?_⟩
   ·obtain ⟨q,hq,e,h2⟩:=l2 p hp
    refine ⟨q,hq,e,?_⟩
    rw [Array.getElem?_setIfInBounds,if_neg (fun e=>mT_mI sl n g bx tp nr _ hm q hq e)]
    exact h2
   ·rcases set_get hl2 with e1|h2
    ·exact absurd e1.symm (mT_mI sl n g bx tp nr _ hm q hq)
    ·exact l3 q hq h2
theorem findL_app {s:ByteArray} {v:Value} {k:ByteArray}:∀ (l:List (ByteArray×Value)),findL k (l++[(s,v)])=match findL k l with|some u=>some u|none=>if (k==s)=true then some v else none
 | []=>rfl
 | p::l=>by
  simp only [List.cons_append,findL]
  split
  ·rfl
  ·exact findL_app l
theorem MI.fresh (h:MI b sl n g bx tp nr md listed ts hp) {i:Nat} {s:ByteArray} {v:Value} (hm:(i,s,v)∈mI) (hi:listed[i]? = some false) {l:List (ByteArray×Value)} (hl:∀ p∈l,∃ q∈mI,p=q.2∧listed[q.1]? = some true):findL s l=none:=by
 induction l with
 | nil=>rfl
 | cons p l ih =>
  simp only [findL]
  obtain ⟨q,hq,e,h2⟩:=hl p (by simp)
  have:(s==p.1)=false:=by
   rw [e]
   rcases mI_key _ hm q hq with e1|e1
   ·have e1:i=q.1:=e1
    rw [←e1,hi] at h2
    cases h2
   ·exact e1
  rw [this]
  exact ih fun p hp=>hl p (List.mem_cons_of_mem _ hp)
theorem MI.ins (h:MI b sl n g bx tp nr md listed ts hp) {i:Nat} {s:ByteArray} {v:Value} (hm:(i,s,v)∈mI) (hlt:i<listed.size) {l:List (ByteArray×Value)} (hl:∀ p∈l,∃ q∈mI,p=q.2∧listed[q.1]? = some true) (hf:∀ q∈mI,listed[q.1]? = some true→findL q.2.1 l=some q.2.2) (hn:findL s l=none) (h00:listed[0]? = some true) :
  MI b sl n g bx tp nr md (listed.setIfInBounds i true) ts (upd hp 224 (some (mpB (l++[(s,v)])))):=by
 refine ⟨h.t1,h.t3,fun p hp hl=>?_,fun k hk=>by rw [upd_other _ _ (by omega)];exact h.low k hk,by rw [upd_other _ _ (by omega)];exact h.b,by rw [upd_other _ _ (by omega)];exact h.c,fun q hq hl=>?_,fun _=>⟨_,upd_same _ _ _,fun p hp=>?_,fun q hq hl2=>?_⟩,fun q hq hl=>set_keep h00⟩
 ·rcases set_get hl with e1|h1
  ·exact absurd e1 (mT_mI sl n g bx tp nr p hp _ hm)
  ·exact h.tm p hp h1
 ·have hq2:q.2.1≠224:=(show ∀ q∈mX n g bx tp nr,q.2.1≠224 by simp [mX]) q hq
  have hq3:∀ p∈mI,q.1≠p.1:=(show ∀ q∈mX n g bx tp nr,∀ p∈mI,q.1≠p.1 by simp [mX,mI]) q hq
  rw [upd_other _ _ hq2]
  rcases set_get hl with e1|h1
  ·exact absurd e1 (hq3 _ hm)
  ·exact h.bx q hq h1
 ·rcases List.mem_append.1 hp with hp|hp
  ·obtain ⟨q,hq,e,h2⟩:=hl p hp
   refine ⟨q,hq,e,?_⟩
   exact set_keep h2
  ·simp only [List.mem_singleton] at hp
   subst hp
   refine ⟨_,hm,rfl,?_⟩
   simp [Array.getElem?_setIfInBounds,hlt]
 ·rw [findL_app]
  rcases set_get hl2 with e1|h2
  ·have:=mI_one q hq _ hm e1
   subst this
   simp only [hn]
   rw [mI_self _ hm]
   rfl
  ·rw [hf q hq h2]
end
def mV (nk:Nat):List (ByteArray×Value):=[(⟨#[98,111,100,105,101,115]⟩,.func (.func 97) #[] #[.pointer (some ⟨nk+2,0,none⟩),.pointer (some ⟨nk+3,0,none⟩)]),
  (⟨#[109,97,115,115]⟩,.func (.func 99) #[] #[.pointer (some ⟨nk+1,0,none⟩)]),
  (⟨#[99,111,110,115,116,97,110,116]⟩,.func (.func 97) #[] #[.pointer (some ⟨nk+4,0,none⟩),.pointer (some ⟨nk+5,0,none⟩)]),
  (⟨#[98,111,120]⟩,.func (.func 97) #[] #[.pointer (some ⟨nk+6,0,none⟩),.pointer (some ⟨nk+7,0,none⟩)]),
  (⟨#[116,111,112]⟩,.func (.func 97) #[] #[.pointer (some ⟨nk+8,0,none⟩),.pointer (some ⟨nk+9,0,none⟩)]),
  (⟨#[110,101,97,114]⟩,.func (.func 97) #[] #[.pointer (some ⟨nk+10,0,none⟩),.pointer (some ⟨nk+11,0,none⟩)]),
  (⟨#[109,101,116,104,111,100]⟩,.func (.func 102) #[] #[.pointer (some ⟨nk+1,0,none⟩)])]
def mNs (nk:Nat) (l:List (ByteArray×Value)) (sl:Value) (n:Nat) (g bx tp nr md:Int):List (Nat×Blk):=[(nk,mpB l),(nk+1,cfB sl g bx tp nr md),(nk+2,jb (n:Int)),(nk+3,jb 4),(nk+4,jb g),(nk+5,jb 1048576),(nk+6,jb bx),(nk+7,jb 1048576),(nk+8,jb tp),(nk+9,jb 65536),(nk+10,jb nr),(nk+11,jb (Int.bmod (2*bx) 18446744073709551616))]
def MustsR (nk:Nat) (sl:Value) (n:Nat) (g bx tp nr md:Int) (v:Value) (ns:List (Nat×Blk)):Prop:=∃ l,v=.map (some nk)∧ns=mNs nk l sl n g bx tp nr md∧(∀ p∈l,p∈mV nk)∧∀ q∈mV nk,findL q.1 l=some q.2
theorem findL_map {s:ByteArray} {h:Value→Value}:∀ l:List (ByteArray×Value),findL s (l.map fun p=>(p.1,h p.2))=(findL s l).map h
 | []=>rfl
 | p::l=>by
  simp only [List.map_cons,findL]
  split
  ·rfl
  ·exact findL_map l
theorem mpB_rn (ρ:Nat→Nat) (l:List (ByteArray×Value)):(mpB l).rn ρ=mpB (l.map fun p=>(p.1,renF ρ p.2)):=by
 unfold mpB Blk.rn mpC
 simp only [List.map_toArray,List.map_flatMap,List.flatMap_map,List.map_cons,List.map_nil]
 rfl
def mR (k:Nat):Nat:=if k=1000 then 224 else if k=1001 then 200 else if k=1002 then 264 else if k=1003 then 265 else if k=1004 then 320 else if k=1005 then 321 else if k=1006 then 360 else if k=1007 then 361 else if k=1008 then 400 else if k=1009 then 401 else if k=1010 then 464 else if k=1011 then 465 else k
def mS (k:Nat):Nat:=if k=224 then 1000 else if k=200 then 1001 else if k=264 then 1002 else if k=265 then 1003 else if k=320 then 1004 else if k=321 then 1005 else if k=360 then 1006 else if k=361 then 1007 else if k=400 then 1008 else if k=401 then 1009 else if k=464 then 1010 else if k=465 then 1011 else k
set_option maxRecDepth 8000 in
set_option maxHeartbeats 8000000 in
theorem musts_fun (b:Blk) (hb:b.fx) (off n cap:Nat) (g bx tp nr md:Int) :
  FunS Tryz.prog G0 78 #[cfV (.slice (some ⟨100,off,none⟩) n cap) g bx tp nr md] (hpL G0 [(100,b)]) (keys [(100,b)]) (MustsR 1000 (.slice (some ⟨100,off,none⟩) n cap) n g bx tp nr md):=by
 refine newS_ofL (B:=200) G0F Tryz.func78 rfl Tryz.call78 (oneL_ok hb) ?_ ?_ (by simp [Tryz.ntmps78]) (by omega) ?_
 ·simp [idsV,idsA,idsF,ids0,keys,cfV]
 ·rintro v ns ⟨l,rfl,rfl,hl,_⟩
  have hl2:∀ D:Nat→Prop,(∀ k,1000≤k→k<1012→D k)→(mpB l).ids D:=fun D hD=>mpB_ids.2 fun p hp=>by
   have:=hl p hp
   simp only [mV,List.mem_cons,List.not_mem_nil,or_false] at this
   rcases this with rfl|rfl|rfl|rfl|rfl|rfl|rfl<;>simp [idsF,ids0,hD]
  refine ⟨by simp [idsV,idsA,idsF,ids0,extD,keys,mNs],?_,?_⟩
  ·intro p hp
   simp only [mNs,List.mem_cons,List.not_mem_nil,or_false] at hp
   have hD:∀ k,1000≤k→k<1012→extD (fun k=>k∈keys [(100,b)]) (mNs 1000 l (.slice (some ⟨100,off,none⟩) n cap) n g bx tp nr md) k:=fun k hk1 hk2=>.inr (by
    simp only [mNs,keys,List.map_cons,List.map_nil,List.mem_cons,List.not_mem_nil,or_false]
    omega)
   rcases hp with rfl|rfl|rfl|rfl|rfl|rfl|rfl|rfl|rfl|rfl|rfl|rfl
   ·exact ⟨by omega,hl2 _ hD⟩
   ·exact ⟨by omega,by simp [cfB,ids_lit,idsF,ids0,extD,keys]⟩
   all_goals exact ⟨by omega,by simp [jb,ids_lit,idsF,ids0]⟩
  ·intro k b c h1 h2
   simp only [mNs,List.mem_cons,List.not_mem_nil,or_false,Prod.mk.injEq] at h1 h2
   rcases h1 with ⟨e1,rfl⟩|⟨e1,rfl⟩|⟨e1,rfl⟩|⟨e1,rfl⟩|⟨e1,rfl⟩|⟨e1,rfl⟩|⟨e1,rfl⟩|⟨e1,rfl⟩|⟨e1,rfl⟩|⟨e1,rfl⟩|⟨e1,rfl⟩|⟨e1,rfl⟩<;>rcases h2 with ⟨e2,rfl⟩|⟨e2,rfl⟩|⟨e2,rfl⟩|⟨e2,rfl⟩|⟨e2,rfl⟩|⟨e2,rfl⟩|⟨e2,rfl⟩|⟨e2,rfl⟩|⟨e2,rfl⟩|⟨e2,rfl⟩|⟨e2,rfl⟩|⟨e2,rfl⟩<;>first|rfl|omega
 intro C hC hC0 hY
 unfold cfV
 repeat' (first|refine gwA ?_|(refine gwX ?_;intro Q hQ hP;simp [hC,hY];refine hQ _ _ _ _ (by kernel_rfl) ?_;clear hQ hP Q)|(refine gwC ?_ ?_<;>(intro hb;try (cases hb;done))))
 refine GW_any follows ?_
 simp only [Array.toList,List.length_cons,List.length_nil,Nat.reduceAdd]
 obtain ⟨sl,hsl⟩:∃ sl,Value.slice (some ⟨100,off,none⟩) n cap=sl:=⟨_,rfl⟩
 refine GA_ind (MI b sl n g bx tp nr md) (fun listed ts hp hs hr hI=>?_) (fun fuel listed ts hp i hs hi hdep h hk=>?_) _ _ _ _ (by simp) (by decide +kernel) ?_
 ·have hall:=ready_nil hs (by kernel_rfl) hr
  have hall:∀ i,i<36→listed[i]? = some true:=fun i hi=>hall i (by simpa using hi)
  obtain ⟨l,l1,l2,l3⟩:=hI.mp (hall 0 (by omega))
  have h2:=hI.tm (35,2,.map (some 224)) (by simp [mT]) (hall 35 (by omega))
  have hinv:∀ q∈mI,renF mR (renF mS q.2.2)=q.2.2:=by simp [mI,renF,ren0,mR,mS]
  have hcan:∀ q∈mI,(q.2.1,renF mS q.2.2)∈mV 1000:=by simp [mI,mV,renF,ren0,mS]
  have hfind:∀ q∈mV 1000,∃ p∈mI,p.2.1=q.1∧renF mS p.2.2=q.2∧p.1<36:=by
   intro q hq
   simp only [mV,List.mem_cons,List.not_mem_nil,or_false] at hq
   rcases hq with rfl|rfl|rfl|rfl|rfl|rfl|rfl
   ·exact ⟨(6,⟨#[98,111,100,105,101,115]⟩,.func (.func 97) #[] #[.pointer (some ⟨264,0,none⟩),.pointer (some ⟨265,0,none⟩)]),by simp [mI],rfl,by simp [renF,ren0,mS],by omega⟩
   ·exact ⟨(8,⟨#[109,97,115,115]⟩,.func (.func 99) #[] #[.pointer (some ⟨200,0,none⟩)]),by simp [mI],rfl,by simp [renF,ren0,mS],by omega⟩
   ·exact ⟨(13,⟨#[99,111,110,115,116,97,110,116]⟩,.func (.func 97) #[] #[.pointer (some ⟨320,0,none⟩),.pointer (some ⟨321,0,none⟩)]),by simp [mI],rfl,by simp [renF,ren0,mS],by omega⟩
   ·exact ⟨(18,⟨#[98,111,120]⟩,.func (.func 97) #[] #[.pointer (some ⟨360,0,none⟩),.pointer (some ⟨361,0,none⟩)]),by simp [mI],rfl,by simp [renF,ren0,mS],by omega⟩
   ·exact ⟨(23,⟨#[116,111,112]⟩,.func (.func 97) #[] #[.pointer (some ⟨400,0,none⟩),.pointer (some ⟨401,0,none⟩)]),by simp [mI],rfl,by simp [renF,ren0,mS],by omega⟩
   ·exact ⟨(31,⟨#[110,101,97,114]⟩,.func (.func 97) #[] #[.pointer (some ⟨464,0,none⟩),.pointer (some ⟨465,0,none⟩)]),by simp [mI],rfl,by simp [renF,ren0,mS],by omega⟩
   ·exact ⟨(33,⟨#[109,101,116,104,111,100]⟩,.func (.func 102) #[] #[.pointer (some ⟨200,0,none⟩)]),by simp [mI],rfl,by simp [renF,ren0,mS],by omega⟩
  simp only [thenG_normal]
  refine GW_ret ?_
  refine ⟨.inr rfl,keep_of G0F (by simp [hI.b]) (fun k hk=>(hI.low k hk).trans (hpL_low (by simp) hk).symm),_,_,mR,⟨l.map fun p=>(p.1,renF mS p.2),rfl,rfl,fun p hp=>?_,fun q hq=>?_⟩,fun k hk=>?_,?_,?_,?_,?_⟩
  ·obtain ⟨p0,hp0,rfl⟩:=List.mem_map.1 hp
   obtain ⟨q,hq,rfl,_⟩:=l2 p0 hp0
   exact hcan q hq
  ·obtain ⟨p,hp,e1,e2,hlt⟩:=hfind q hq
   rw [findL_map,←e1,l3 p hp (hall _ hlt),←e2]
   rfl
  ·unfold mR
   iterate 12 rw [if_neg (by omega)]
  ·simp [mNs,mR]
  ·simp [mNs,mR]
  ·simp [Tryz.results78,h2,ren,renA,renF,ren0,mR]
   rfl
  ·subst hsl
   have hbx:=hI.bx
   have hm:(mpB (l.map fun p=>(p.1,renF mS p.2))).rn mR=mpB l:=by
    rw [mpB_rn,List.map_map]
    congr 1
    conv=>rhs;rw [←List.map_id l]
    refine List.map_congr_left fun p hp=>?_
    obtain ⟨q,hq,rfl,_⟩:=l2 p hp
    simp only [Function.comp_def,id]
    rw [hinv q hq]
   intro p hp
   simp only [mNs,List.mem_cons,List.not_mem_nil,or_false] at hp
   rcases hp with rfl|rfl|rfl|rfl|rfl|rfl|rfl|rfl|rfl|rfl|rfl|rfl
   ·show hp (mR 1000)=some ((mpB _).rn mR)
    rw [hm]
    exact l1
   ·show hp 200=some ((cfB _ g bx tp nr md).rn mR)
    rw [hI.c]
    simp [cfB,Blk.rn,renF,ren0,mR]
   ·show hp 264=some ((jb (n:Int)).rn mR)
    rw [jb_rn]
    exact hbx (5,264,jb (n:Int)) (by simp [mX]) (hall 5 (by omega))
   ·show hp 265=some ((jb 4).rn mR)
    rw [jb_rn]
    exact hbx (5,265,jb 4) (by simp [mX]) (hall 5 (by omega))
   ·show hp 320=some ((jb g).rn mR)
    rw [jb_rn]
    exact hbx (12,320,jb g) (by simp [mX]) (hall 12 (by omega))
   ·show hp 321=some ((jb 1048576).rn mR)
    rw [jb_rn]
    exact hbx (12,321,jb 1048576) (by simp [mX]) (hall 12 (by omega))
   ·show hp 360=some ((jb bx).rn mR)
    rw [jb_rn]
    exact hbx (17,360,jb bx) (by simp [mX]) (hall 17 (by omega))
   ·show hp 361=some ((jb 1048576).rn mR)
    rw [jb_rn]
    exact hbx (17,361,jb 1048576) (by simp [mX]) (hall 17 (by omega))
   ·show hp 400=some ((jb tp).rn mR)
    rw [jb_rn]
    exact hbx (22,400,jb tp) (by simp [mX]) (hall 22 (by omega))
   ·show hp 401=some ((jb 65536).rn mR)
    rw [jb_rn]
    exact hbx (22,401,jb 65536) (by simp [mX]) (hall 22 (by omega))
   ·show hp 464=some ((jb nr).rn mR)
    rw [jb_rn]
    exact hbx (30,464,jb nr) (by simp [mX]) (hall 30 (by omega))
   ·show hp 465=some ((jb (Int.bmod (2*bx) 18446744073709551616)).rn mR)
    rw [jb_rn]
    exact hbx (30,465,jb (Int.bmod (2*bx) 18446744073709551616)) (by simp [mX]) (hall 30 (by omega))
 ·have hlt:i<36:=by
   have:=(Array.getElem?_eq_some_iff.1 hi).1
   rw [hs] at this
   simpa using this
  subst hsl
  obtain rfl|rfl|rfl|rfl|rfl|rfl|rfl|rfl|rfl|rfl|rfl|rfl|rfl|rfl|rfl|rfl|rfl|rfl|rfl|rfl|rfl|rfl|rfl|rfl|rfl|rfl|rfl|rfl|rfl|rfl|rfl|rfl|rfl|rfl|rfl|rfl:i=0∨i=1∨i=2∨i=3∨i=4∨i=5∨i=6∨i=7∨i=8∨i=9∨i=10∨i=11∨i=12∨i=13∨i=14∨i=15∨i=16∨i=17∨i=18∨i=19∨i=20∨i=21∨i=22∨i=23∨i=24∨i=25∨i=26∨i=27∨i=28∨i=29∨i=30∨i=31∨i=32∨i=33∨i=34∨i=35:=by omega
  ·-- 0 map
   have f0:=h.t1
   have f1:=h.t3
   refine GO_walk [] rfl (by kernel_rfl) (by first|assumption|simp) ?_;intro q hq;simp [hC,hY,f0,f1];refine hq _ _ _ _ ?_;clear hq q
   exact hk _ _ (h.mkm hi)
  ·-- 1 mv
   have f0:=h.t1
   have f1:=h.t3
   refine GO_walk [] rfl (by kernel_rfl) (by first|assumption|simp) ?_;intro q hq;simp [hC,hY,f0,f1];refine hq _ _ _ _ ?_;clear hq q
   exact hk _ _ (h.tmp (i:=1) (t:=5) (by simp [mT]) (by simp [mX]) (by omega))
  ·-- 2 fa
   have f0:=h.t1
   have f1:=h.t3
   refine GO_walk [] rfl (by kernel_rfl) (by first|assumption|simp) ?_;intro q hq;simp [hC,hY,f0,f1];refine hq _ _ _ _ ?_;clear hq q
   exact hk _ _ (h.tmp (i:=2) (t:=6) (by simp [mT]) (by simp [mX]) (by omega))
  ·-- 3 ld
   have hd:∀ j∈[2],listed[j]? = some true:=by
    have hd0:=hdep _ rfl
    simp [Region.binds] at hd0
    simp [hd0]
   have f0:=h.t1
   have f1:=h.t3
   have f2:=h.tm (2,6,.pointer (some ⟨200,0,none⟩)) (by simp [mT]) (hd 2 (by simp))
   have fc:=h.c
   unfold cfB at fc
   refine GO_walk [] rfl (by kernel_rfl) (by first|assumption|simp) ?_;intro q hq;simp [hC,hY,f0,f1,f2,fc];refine hq _ _ _ _ ?_;clear hq q
   exact hk _ _ (h.tmp (i:=3) (t:=7) (by simp [mT]) (by simp [mX]) (by omega))
  ·-- 4 len
   have hd:∀ j∈[3],listed[j]? = some true:=by
    have hd0:=hdep _ rfl
    simp [Region.binds] at hd0
    simp [hd0]
   have f0:=h.t1
   have f1:=h.t3
   have f2:=h.tm (3,7,.slice (some ⟨100,off,none⟩) n cap) (by simp [mT]) (hd 3 (by simp))
   refine GO_walk [] rfl (by kernel_rfl) (by first|assumption|simp) ?_;intro q hq;simp [hC,hY,f0,f1,f2];refine hq _ _ _ _ ?_;clear hq q
   exact hk _ _ (h.tmp (i:=4) (t:=8) (by simp [mT]) (by simp [mX]) (by omega))
  ·-- 5 call
   have hd:∀ j∈[1,4],listed[j]? = some true:=by
    have hd0:=hdep _ rfl
    simp [Region.binds] at hd0
    simp [hd0]
   have f0:=h.t1
   have f1:=h.t3
   have f2:=h.tm (1,5,.func (.func 96) #[] #[]) (by simp [mT]) (hd 1 (by simp))
   have f3:=h.tm (4,8,.int .i64 n) (by simp [mT]) (hd 4 (by simp))
   refine GO_callL (f:=.tmp 5) (cap:=#[]) hC (num_at 264 (by omega) (n:Int) 4) rfl hi rfl (by simp [Tryz.ntmps78]) rfl rfl (by simp [okT,f0,f1,f2,f3]) (by simp [gev,f0,f1,f2,f3]) (by simp) (by simp [okX,junk,f0,f1,f2,f3]) (by simp [gev,f0,f1,f2,f3]) (by simp) (fun q hq=>(h.low q hq).symm▸(by simp)) ?_ ?_
   ·intro v ns hV k hk
    have:=numR_key hV k hk
    omega
   rintro v ns ⟨rfl,rfl⟩
   exact hk _ _ (h.call (i:=5) (t:=9) (by simp [mT]) (by omega) (by omega) (by simp [mX]))
  ·-- 6 ins
   have hd:∀ j∈[0,5],listed[j]? = some true:=by
    have hd0:=hdep _ rfl
    simp [Region.binds] at hd0
    simp [hd0]
   have f0:=h.t1
   have f1:=h.t3
   have f2:=h.tm (0,4,.map (some 224)) (by simp [mT]) (hd 0 (by simp))
   have f3:=h.tm (5,9,.func (.func 97) #[] #[.pointer (some ⟨264,0,none⟩),.pointer (some ⟨265,0,none⟩)]) (by simp [mT]) (hd 5 (by simp))
   obtain ⟨l,l1,l2,l3⟩:=h.mp (hd 0 (by simp))
   have hm:(6,⟨#[98,111,100,105,101,115]⟩,.func (.func 97) #[] #[.pointer (some ⟨264,0,none⟩),.pointer (some ⟨265,0,none⟩)])∈mI:=by simp [mI]
   have hn:=h.fresh hm hi l2
   refine GO_walk [] rfl (by kernel_rfl) (by first|assumption|simp) ?_;intro q hq;simp [hC,hY,f0,f1,f2,f3,l1,hn];refine hq _ _ _ _ ?_;clear hq q
   exact hk _ _ (h.ins hm (Array.getElem?_eq_some_iff.1 hi).1 l2 l3 hn (hd 0 (by simp)))
  ·-- 7 mk
   have f0:=h.t1
   have f1:=h.t3
   refine GO_walk [] rfl (by kernel_rfl) (by first|assumption|simp) ?_;intro q hq;simp [hC,hY,f0,f1];refine hq _ _ _ _ ?_;clear hq q
   exact hk _ _ (h.tmp (i:=7) (t:=10) (by simp [mT]) (by simp [mX]) (by omega))
  ·-- 8 ins
   have hd:∀ j∈[0,7],listed[j]? = some true:=by
    have hd0:=hdep _ rfl
    simp [Region.binds] at hd0
    simp [hd0]
   have f0:=h.t1
   have f1:=h.t3
   have f2:=h.tm (0,4,.map (some 224)) (by simp [mT]) (hd 0 (by simp))
   have f3:=h.tm (7,10,.func (.func 99) #[] #[.pointer (some ⟨200,0,none⟩)]) (by simp [mT]) (hd 7 (by simp))
   obtain ⟨l,l1,l2,l3⟩:=h.mp (hd 0 (by simp))
   have hm:(8,⟨#[109,97,115,115]⟩,.func (.func 99) #[] #[.pointer (some ⟨200,0,none⟩)])∈mI:=by simp [mI]
   have hn:=h.fresh hm hi l2
   refine GO_walk [] rfl (by kernel_rfl) (by first|assumption|simp) ?_;intro q hq;simp [hC,hY,f0,f1,f2,f3,l1,hn];refine hq _ _ _ _ ?_;clear hq q
   exact hk _ _ (h.ins hm (Array.getElem?_eq_some_iff.1 hi).1 l2 l3 hn (hd 0 (by simp)))
  ·-- 9 mv
   have f0:=h.t1
   have f1:=h.t3
   refine GO_walk [] rfl (by kernel_rfl) (by first|assumption|simp) ?_;intro q hq;simp [hC,hY,f0,f1];refine hq _ _ _ _ ?_;clear hq q
   exact hk _ _ (h.tmp (i:=9) (t:=11) (by simp [mT]) (by simp [mX]) (by omega))
  ·-- 10 fa
   have f0:=h.t1
   have f1:=h.t3
   refine GO_walk [] rfl (by kernel_rfl) (by first|assumption|simp) ?_;intro q hq;simp [hC,hY,f0,f1];refine hq _ _ _ _ ?_;clear hq q
   exact hk _ _ (h.tmp (i:=10) (t:=12) (by simp [mT]) (by simp [mX]) (by omega))
  ·-- 11 ld
   have hd:∀ j∈[10],listed[j]? = some true:=by
    have hd0:=hdep _ rfl
    simp [Region.binds] at hd0
    simp [hd0]
   have f0:=h.t1
   have f1:=h.t3
   have f2:=h.tm (10,12,.pointer (some ⟨200,1,none⟩)) (by simp [mT]) (hd 10 (by simp))
   have fc:=h.c
   unfold cfB at fc
   refine GO_walk [] rfl (by kernel_rfl) (by first|assumption|simp) ?_;intro q hq;simp [hC,hY,f0,f1,f2,fc];refine hq _ _ _ _ ?_;clear hq q
   exact hk _ _ (h.tmp (i:=11) (t:=13) (by simp [mT]) (by simp [mX]) (by omega))
  ·-- 12 call
   have hd:∀ j∈[9,11],listed[j]? = some true:=by
    have hd0:=hdep _ rfl
    simp [Region.binds] at hd0
    simp [hd0]
   have f0:=h.t1
   have f1:=h.t3
   have f2:=h.tm (9,11,.func (.func 96) #[] #[]) (by simp [mT]) (hd 9 (by simp))
   have f3:=h.tm (11,13,.int .i64 g) (by simp [mT]) (hd 11 (by simp))
   refine GO_callL (f:=.tmp 11) (cap:=#[]) hC (num_at 320 (by omega) g 1048576) rfl hi rfl (by simp [Tryz.ntmps78]) rfl rfl (by simp [okT,f0,f1,f2,f3]) (by simp [gev,f0,f1,f2,f3]) (by simp) (by simp [okX,junk,f0,f1,f2,f3]) (by simp [gev,f0,f1,f2,f3]) (by simp) (fun q hq=>(h.low q hq).symm▸(by simp)) ?_ ?_
   ·intro v ns hV k hk
    have:=numR_key hV k hk
    omega
   rintro v ns ⟨rfl,rfl⟩
   exact hk _ _ (h.call (i:=12) (t:=14) (by simp [mT]) (by omega) (by omega) (by simp [mX]))
  ·-- 13 ins
   have hd:∀ j∈[0,12],listed[j]? = some true:=by
    have hd0:=hdep _ rfl
    simp [Region.binds] at hd0
    simp [hd0]
   have f0:=h.t1
   have f1:=h.t3
   have f2:=h.tm (0,4,.map (some 224)) (by simp [mT]) (hd 0 (by simp))
   have f3:=h.tm (12,14,.func (.func 97) #[] #[.pointer (some ⟨320,0,none⟩),.pointer (some ⟨321,0,none⟩)]) (by simp [mT]) (hd 12 (by simp))
   obtain ⟨l,l1,l2,l3⟩:=h.mp (hd 0 (by simp))
   have hm:(13,⟨#[99,111,110,115,116,97,110,116]⟩,.func (.func 97) #[] #[.pointer (some ⟨320,0,none⟩),.pointer (some ⟨321,0,none⟩)])∈mI:=by simp [mI]
   have hn:=h.fresh hm hi l2
   refine GO_walk [] rfl (by kernel_rfl) (by first|assumption|simp) ?_;intro q hq;simp [hC,hY,f0,f1,f2,f3,l1,hn];refine hq _ _ _ _ ?_;clear hq q
   exact hk _ _ (h.ins hm (Array.getElem?_eq_some_iff.1 hi).1 l2 l3 hn (hd 0 (by simp)))
  ·-- 14 mv
   have f0:=h.t1
   have f1:=h.t3
   refine GO_walk [] rfl (by kernel_rfl) (by first|assumption|simp) ?_;intro q hq;simp [hC,hY,f0,f1];refine hq _ _ _ _ ?_;clear hq q
   exact hk _ _ (h.tmp (i:=14) (t:=15) (by simp [mT]) (by simp [mX]) (by omega))
  ·-- 15 fa
   have f0:=h.t1
   have f1:=h.t3
   refine GO_walk [] rfl (by kernel_rfl) (by first|assumption|simp) ?_;intro q hq;simp [hC,hY,f0,f1];refine hq _ _ _ _ ?_;clear hq q
   exact hk _ _ (h.tmp (i:=15) (t:=16) (by simp [mT]) (by simp [mX]) (by omega))
  ·-- 16 ld
   have hd:∀ j∈[15],listed[j]? = some true:=by
    have hd0:=hdep _ rfl
    simp [Region.binds] at hd0
    simp [hd0]
   have f0:=h.t1
   have f1:=h.t3
   have f2:=h.tm (15,16,.pointer (some ⟨200,2,none⟩)) (by simp [mT]) (hd 15 (by simp))
   have fc:=h.c
   unfold cfB at fc
   refine GO_walk [] rfl (by kernel_rfl) (by first|assumption|simp) ?_;intro q hq;simp [hC,hY,f0,f1,f2,fc];refine hq _ _ _ _ ?_;clear hq q
   exact hk _ _ (h.tmp (i:=16) (t:=17) (by simp [mT]) (by simp [mX]) (by omega))
  ·-- 17 call
   have hd:∀ j∈[14,16],listed[j]? = some true:=by
    have hd0:=hdep _ rfl
    simp [Region.binds] at hd0
    simp [hd0]
   have f0:=h.t1
   have f1:=h.t3
   have f2:=h.tm (14,15,.func (.func 96) #[] #[]) (by simp [mT]) (hd 14 (by simp))
   have f3:=h.tm (16,17,.int .i64 bx) (by simp [mT]) (hd 16 (by simp))
   refine GO_callL (f:=.tmp 15) (cap:=#[]) hC (num_at 360 (by omega) bx 1048576) rfl hi rfl (by simp [Tryz.ntmps78]) rfl rfl (by simp [okT,f0,f1,f2,f3]) (by simp [gev,f0,f1,f2,f3]) (by simp) (by simp [okX,junk,f0,f1,f2,f3]) (by simp [gev,f0,f1,f2,f3]) (by simp) (fun q hq=>(h.low q hq).symm▸(by simp)) ?_ ?_
   ·intro v ns hV k hk
    have:=numR_key hV k hk
    omega
   rintro v ns ⟨rfl,rfl⟩
   exact hk _ _ (h.call (i:=17) (t:=18) (by simp [mT]) (by omega) (by omega) (by simp [mX]))
  ·-- 18 ins
   have hd:∀ j∈[0,17],listed[j]? = some true:=by
    have hd0:=hdep _ rfl
    simp [Region.binds] at hd0
    simp [hd0]
   have f0:=h.t1
   have f1:=h.t3
   have f2:=h.tm (0,4,.map (some 224)) (by simp [mT]) (hd 0 (by simp))
   have f3:=h.tm (17,18,.func (.func 97) #[] #[.pointer (some ⟨360,0,none⟩),.pointer (some ⟨361,0,none⟩)]) (by simp [mT]) (hd 17 (by simp))
   obtain ⟨l,l1,l2,l3⟩:=h.mp (hd 0 (by simp))
   have hm:(18,⟨#[98,111,120]⟩,.func (.func 97) #[] #[.pointer (some ⟨360,0,none⟩),.pointer (some ⟨361,0,none⟩)])∈mI:=by simp [mI]
   have hn:=h.fresh hm hi l2
   refine GO_walk [] rfl (by kernel_rfl) (by first|assumption|simp) ?_;intro q hq;simp [hC,hY,f0,f1,f2,f3,l1,hn];refine hq _ _ _ _ ?_;clear hq q
   exact hk _ _ (h.ins hm (Array.getElem?_eq_some_iff.1 hi).1 l2 l3 hn (hd 0 (by simp)))
  ·-- 19 mv
   have f0:=h.t1
   have f1:=h.t3
   refine GO_walk [] rfl (by kernel_rfl) (by first|assumption|simp) ?_;intro q hq;simp [hC,hY,f0,f1];refine hq _ _ _ _ ?_;clear hq q
   exact hk _ _ (h.tmp (i:=19) (t:=19) (by simp [mT]) (by simp [mX]) (by omega))
  ·-- 20 fa
   have f0:=h.t1
   have f1:=h.t3
   refine GO_walk [] rfl (by kernel_rfl) (by first|assumption|simp) ?_;intro q hq;simp [hC,hY,f0,f1];refine hq _ _ _ _ ?_;clear hq q
   exact hk _ _ (h.tmp (i:=20) (t:=20) (by simp [mT]) (by simp [mX]) (by omega))
  ·-- 21 ld
   have hd:∀ j∈[20],listed[j]? = some true:=by
    have hd0:=hdep _ rfl
    simp [Region.binds] at hd0
    simp [hd0]
   have f0:=h.t1
   have f1:=h.t3
   have f2:=h.tm (20,20,.pointer (some ⟨200,3,none⟩)) (by simp [mT]) (hd 20 (by simp))
   have fc:=h.c
   unfold cfB at fc
   refine GO_walk [] rfl (by kernel_rfl) (by first|assumption|simp) ?_;intro q hq;simp [hC,hY,f0,f1,f2,fc];refine hq _ _ _ _ ?_;clear hq q
   exact hk _ _ (h.tmp (i:=21) (t:=21) (by simp [mT]) (by simp [mX]) (by omega))
  ·-- 22 call
   have hd:∀ j∈[19,21],listed[j]? = some true:=by
    have hd0:=hdep _ rfl
    simp [Region.binds] at hd0
    simp [hd0]
   have f0:=h.t1
   have f1:=h.t3
   have f2:=h.tm (19,19,.func (.func 96) #[] #[]) (by simp [mT]) (hd 19 (by simp))
   have f3:=h.tm (21,21,.int .i64 tp) (by simp [mT]) (hd 21 (by simp))
   refine GO_callL (f:=.tmp 19) (cap:=#[]) hC (num_at 400 (by omega) tp 65536) rfl hi rfl (by simp [Tryz.ntmps78]) rfl rfl (by simp [okT,f0,f1,f2,f3]) (by simp [gev,f0,f1,f2,f3]) (by simp) (by simp [okX,junk,f0,f1,f2,f3]) (by simp [gev,f0,f1,f2,f3]) (by simp) (fun q hq=>(h.low q hq).symm▸(by simp)) ?_ ?_
   ·intro v ns hV k hk
    have:=numR_key hV k hk
    omega
   rintro v ns ⟨rfl,rfl⟩
   exact hk _ _ (h.call (i:=22) (t:=22) (by simp [mT]) (by omega) (by omega) (by simp [mX]))
  ·-- 23 ins
   have hd:∀ j∈[0,22],listed[j]? = some true:=by
    have hd0:=hdep _ rfl
    simp [Region.binds] at hd0
    simp [hd0]
   have f0:=h.t1
   have f1:=h.t3
   have f2:=h.tm (0,4,.map (some 224)) (by simp [mT]) (hd 0 (by simp))
   have f3:=h.tm (22,22,.func (.func 97) #[] #[.pointer (some ⟨400,0,none⟩),.pointer (some ⟨401,0,none⟩)]) (by simp [mT]) (hd 22 (by simp))
   obtain ⟨l,l1,l2,l3⟩:=h.mp (hd 0 (by simp))
   have hm:(23,⟨#[116,111,112]⟩,.func (.func 97) #[] #[.pointer (some ⟨400,0,none⟩),.pointer (some ⟨401,0,none⟩)])∈mI:=by simp [mI]
   have hn:=h.fresh hm hi l2
   refine GO_walk [] rfl (by kernel_rfl) (by first|assumption|simp) ?_;intro q hq;simp [hC,hY,f0,f1,f2,f3,l1,hn];refine hq _ _ _ _ ?_;clear hq q
   exact hk _ _ (h.ins hm (Array.getElem?_eq_some_iff.1 hi).1 l2 l3 hn (hd 0 (by simp)))
  ·-- 24 mv
   have f0:=h.t1
   have f1:=h.t3
   refine GO_walk [] rfl (by kernel_rfl) (by first|assumption|simp) ?_;intro q hq;simp [hC,hY,f0,f1];refine hq _ _ _ _ ?_;clear hq q
   exact hk _ _ (h.tmp (i:=24) (t:=23) (by simp [mT]) (by simp [mX]) (by omega))
  ·-- 25 fa
   have f0:=h.t1
   have f1:=h.t3
   refine GO_walk [] rfl (by kernel_rfl) (by first|assumption|simp) ?_;intro q hq;simp [hC,hY,f0,f1];refine hq _ _ _ _ ?_;clear hq q
   exact hk _ _ (h.tmp (i:=25) (t:=24) (by simp [mT]) (by simp [mX]) (by omega))
  ·-- 26 ld
   have hd:∀ j∈[25],listed[j]? = some true:=by
    have hd0:=hdep _ rfl
    simp [Region.binds] at hd0
    simp [hd0]
   have f0:=h.t1
   have f1:=h.t3
   have f2:=h.tm (25,24,.pointer (some ⟨200,4,none⟩)) (by simp [mT]) (hd 25 (by simp))
   have fc:=h.c
   unfold cfB at fc
   refine GO_walk [] rfl (by kernel_rfl) (by first|assumption|simp) ?_;intro q hq;simp [hC,hY,f0,f1,f2,fc];refine hq _ _ _ _ ?_;clear hq q
   exact hk _ _ (h.tmp (i:=26) (t:=25) (by simp [mT]) (by simp [mX]) (by omega))
  ·-- 27 fa
   have f0:=h.t1
   have f1:=h.t3
   refine GO_walk [] rfl (by kernel_rfl) (by first|assumption|simp) ?_;intro q hq;simp [hC,hY,f0,f1];refine hq _ _ _ _ ?_;clear hq q
   exact hk _ _ (h.tmp (i:=27) (t:=26) (by simp [mT]) (by simp [mX]) (by omega))
  ·-- 28 ld
   have hd:∀ j∈[27],listed[j]? = some true:=by
    have hd0:=hdep _ rfl
    simp [Region.binds] at hd0
    simp [hd0]
   have f0:=h.t1
   have f1:=h.t3
   have f2:=h.tm (27,26,.pointer (some ⟨200,2,none⟩)) (by simp [mT]) (hd 27 (by simp))
   have fc:=h.c
   unfold cfB at fc
   refine GO_walk [] rfl (by kernel_rfl) (by first|assumption|simp) ?_;intro q hq;simp [hC,hY,f0,f1,f2,fc];refine hq _ _ _ _ ?_;clear hq q
   exact hk _ _ (h.tmp (i:=28) (t:=27) (by simp [mT]) (by simp [mX]) (by omega))
  ·-- 29 mul
   have hd:∀ j∈[28],listed[j]? = some true:=by
    have hd0:=hdep _ rfl
    simp [Region.binds] at hd0
    simp [hd0]
   have f0:=h.t1
   have f1:=h.t3
   have f2:=h.tm (28,27,.int .i64 bx) (by simp [mT]) (hd 28 (by simp))
   refine GO_walk [] rfl (by kernel_rfl) (by first|assumption|simp) ?_;intro q hq;simp [hC,hY,f0,f1,f2];refine hq _ _ _ _ ?_;clear hq q
   exact hk _ _ (h.tmp (i:=29) (t:=28) (by simp [mT]) (by simp [mX]) (by omega))
  ·-- 30 call
   have hd:∀ j∈[24,26,29],listed[j]? = some true:=by
    have hd0:=hdep _ rfl
    simp [Region.binds] at hd0
    simp [hd0]
   have f0:=h.t1
   have f1:=h.t3
   have f2:=h.tm (24,23,.func (.func 96) #[] #[]) (by simp [mT]) (hd 24 (by simp))
   have f3:=h.tm (26,25,.int .i64 nr) (by simp [mT]) (hd 26 (by simp))
   have f4:=h.tm (29,28,.int .i64 (Int.bmod (2*bx) 18446744073709551616)) (by simp [mT]) (hd 29 (by simp))
   refine GO_callL (f:=.tmp 23) (cap:=#[]) hC (num_at 464 (by omega) nr (Int.bmod (2*bx) 18446744073709551616)) rfl hi rfl (by simp [Tryz.ntmps78]) rfl rfl (by simp [okT,f0,f1,f2,f3,f4]) (by simp [gev,f0,f1,f2,f3,f4]) (by simp) (by simp [okX,junk,f0,f1,f2,f3,f4]) (by simp [gev,f0,f1,f2,f3,f4]) (by simp) (fun q hq=>(h.low q hq).symm▸(by simp)) ?_ ?_
   ·intro v ns hV k hk
    have:=numR_key hV k hk
    omega
   rintro v ns ⟨rfl,rfl⟩
   exact hk _ _ (h.call (i:=30) (t:=29) (by simp [mT]) (by omega) (by omega) (by simp [mX]))
  ·-- 31 ins
   have hd:∀ j∈[0,30],listed[j]? = some true:=by
    have hd0:=hdep _ rfl
    simp [Region.binds] at hd0
    simp [hd0]
   have f0:=h.t1
   have f1:=h.t3
   have f2:=h.tm (0,4,.map (some 224)) (by simp [mT]) (hd 0 (by simp))
   have f3:=h.tm (30,29,.func (.func 97) #[] #[.pointer (some ⟨464,0,none⟩),.pointer (some ⟨465,0,none⟩)]) (by simp [mT]) (hd 30 (by simp))
   obtain ⟨l,l1,l2,l3⟩:=h.mp (hd 0 (by simp))
   have hm:(31,⟨#[110,101,97,114]⟩,.func (.func 97) #[] #[.pointer (some ⟨464,0,none⟩),.pointer (some ⟨465,0,none⟩)])∈mI:=by simp [mI]
   have hn:=h.fresh hm hi l2
   refine GO_walk [] rfl (by kernel_rfl) (by first|assumption|simp) ?_;intro q hq;simp [hC,hY,f0,f1,f2,f3,l1,hn];refine hq _ _ _ _ ?_;clear hq q
   exact hk _ _ (h.ins hm (Array.getElem?_eq_some_iff.1 hi).1 l2 l3 hn (hd 0 (by simp)))
  ·-- 32 mk
   have f0:=h.t1
   have f1:=h.t3
   refine GO_walk [] rfl (by kernel_rfl) (by first|assumption|simp) ?_;intro q hq;simp [hC,hY,f0,f1];refine hq _ _ _ _ ?_;clear hq q
   exact hk _ _ (h.tmp (i:=32) (t:=30) (by simp [mT]) (by simp [mX]) (by omega))
  ·-- 33 ins
   have hd:∀ j∈[0,32],listed[j]? = some true:=by
    have hd0:=hdep _ rfl
    simp [Region.binds] at hd0
    simp [hd0]
   have f0:=h.t1
   have f1:=h.t3
   have f2:=h.tm (0,4,.map (some 224)) (by simp [mT]) (hd 0 (by simp))
   have f3:=h.tm (32,30,.func (.func 102) #[] #[.pointer (some ⟨200,0,none⟩)]) (by simp [mT]) (hd 32 (by simp))
   obtain ⟨l,l1,l2,l3⟩:=h.mp (hd 0 (by simp))
   have hm:(33,⟨#[109,101,116,104,111,100]⟩,.func (.func 102) #[] #[.pointer (some ⟨200,0,none⟩)])∈mI:=by simp [mI]
   have hn:=h.fresh hm hi l2
   refine GO_walk [] rfl (by kernel_rfl) (by first|assumption|simp) ?_;intro q hq;simp [hC,hY,f0,f1,f2,f3,l1,hn];refine hq _ _ _ _ ?_;clear hq q
   exact hk _ _ (h.ins hm (Array.getElem?_eq_some_iff.1 hi).1 l2 l3 hn (hd 0 (by simp)))
  ·-- 34 mv
   have hd:∀ j∈[0],listed[j]? = some true:=by
    have hd0:=hdep _ rfl
    simp [Region.binds] at hd0
    simp [hd0]
   have f0:=h.t1
   have f1:=h.t3
   have f2:=h.tm (0,4,.map (some 224)) (by simp [mT]) (hd 0 (by simp))
   refine GO_walk [] rfl (by kernel_rfl) (by first|assumption|simp) ?_;intro q hq;simp [hC,hY,f0,f1,f2];refine hq _ _ _ _ ?_;clear hq q
   exact hk _ _ (h.tmp (i:=34) (t:=31) (by simp [mT]) (by simp [mX]) (by omega))
  ·-- 35 asg
   have hd:∀ j∈[34],listed[j]? = some true:=by
    have hd0:=hdep _ rfl
    simp [Region.binds] at hd0
    simp [hd0]
   have f0:=h.t1
   have f1:=h.t3
   have f2:=h.tm (34,31,.map (some 224)) (by simp [mT]) (hd 34 (by simp))
   refine GO_walk [] rfl (by kernel_rfl) (by first|assumption|simp) ?_;intro q hq;simp [hC,hY,f0,f1,f2];refine hq _ _ _ _ ?_;clear hq q
   exact hk _ _ (h.tmp (i:=35) (t:=2) (by simp [mT]) (by simp [mX]) (by omega))
 ·have hno:∀ j,(Array.replicate 36 false)[j]?≠some true:=fun j=>by
   rw [Array.getElem?_replicate]
   split<;>simp
  exact ⟨by simp,by simp,fun p hp hl=>absurd hl (hno _),fun k hk=>by rw [upd_other _ _ (by omega)];exact hpL_low (by simp) hk,by simp,by simp [cfB,hsl],fun q hq hl=>absurd hl (hno _),fun hl=>absurd hl (hno _),fun q hq hl=>absurd hl (hno _)⟩
def whyS (n:Nat) (f:Nat→Int) (g bx tp nr md:Int):ByteArray :=
 if wiB n 1 4=false then ⟨#[98,111,100,105,101,115]⟩ else if allM f n=false then ⟨#[109,97,115,115]⟩ else if wiB g 1 1048576=false then ⟨#[99,111,110,115,116,97,110,116]⟩ else if wiB bx 1 1048576=false then ⟨#[98,111,120]⟩ else
  if wiB tp 1 65536=false then ⟨#[116,111,112]⟩ else if wiB nr 1 (Int.bmod (2*bx) 18446744073709551616)=false then ⟨#[110,101,97,114]⟩ else if wiB md 0 4=false then ⟨#[109,101,116,104,111,100]⟩ else ⟨#[]⟩
def mQ (nk k:Nat):Nat:=if 1000≤k then (if k<1012 then k - 1000+nk else k) else k
theorem mustsR_key {nk n:Nat} {sl:Value} {g bx tp nr md:Int} {v:Value} {ns:List (Nat×Blk)} (h:MustsR nk sl n g bx tp nr md v ns):∀ k∈keys ns,nk≤k∧k<nk+12:=by
 obtain ⟨l,rfl,rfl,_⟩:=h
 intro k hk
 simp [keys,mNs] at hk
 omega
theorem mQ_at (nk j:Nat) (hj:j<12):mQ nk (1000+j)=nk+j:=by
 unfold mQ
 rw [if_pos (by omega),if_pos (by omega)]
 omega
theorem mQ_low (nk k:Nat) (hk:k<1000):mQ nk k=k:=by
 unfold mQ
 rw [if_neg (by omega)]
theorem musts_rr {nk n off cap:Nat} {g bx tp nr md:Int} {v:Value} {ns:List (Nat×Blk)} (h:RR (mQ nk) (MustsR 1000 (.slice (some ⟨100,off,none⟩) n cap) n g bx tp nr md) v ns):MustsR nk (.slice (some ⟨100,off,none⟩) n cap) n g bx tp nr md v ns:=by
 obtain ⟨v0,ns0,⟨l,rfl,rfl,hl,hf⟩,rfl,rfl⟩:=h
 have e:=mQ_at nk
 have e0:=e 0 (by omega)
 have e1:=e 1 (by omega)
 have e2:=e 2 (by omega)
 have e3:=e 3 (by omega)
 have e4:=e 4 (by omega)
 have e5:=e 5 (by omega)
 have e6:=e 6 (by omega)
 have e7:=e 7 (by omega)
 have e8:=e 8 (by omega)
 have e9:=e 9 (by omega)
 have e10:=e 10 (by omega)
 have e11:=e 11 (by omega)
 simp only [Nat.reduceAdd,Nat.add_zero] at e0 e1 e2 e3 e4 e5 e6 e7 e8 e9 e10 e11
 have h100:=mQ_low nk 100 (by omega)
 have hmv:∀ q∈mV 1000,(q.1,renF (mQ nk) q.2)∈mV nk:=by
  simp [mV,renF,ren0,e1,e2,e3,e4,e5,e6,e7,e8,e9,e10,e11]
 have hvm:∀ q∈mV nk,∃ p∈mV 1000,p.1=q.1∧renF (mQ nk) p.2=q.2:=by
  simp [mV,renF,ren0,e1,e2,e3,e4,e5,e6,e7,e8,e9,e10,e11]
 refine ⟨l.map fun p=>(p.1,renF (mQ nk) p.2),by simp [ren,renA,renF,ren0,e0],?_,fun p hp=>?_,fun q hq=>?_⟩
 ·have hc:(cfB (.slice (some ⟨100,off,none⟩) n cap) g bx tp nr md).rn (mQ nk)=cfB (.slice (some ⟨100,off,none⟩) n cap) g bx tp nr md:=by simp [cfB,Blk.rn,renF,ren0,h100]
  simp only [rnL,mNs,List.map_cons,List.map_nil,mpB_rn,jb_rn,hc,Nat.reduceAdd,e0,e1,e2,e3,e4,e5,e6,e7,e8,e9,e10,e11]
 ·obtain ⟨p0,hp0,rfl⟩:=List.mem_map.1 hp
  exact hmv _ (hl _ hp0)
 ·obtain ⟨p,hp,h1,h2⟩:=hvm q hq
  rw [findL_map,←h1,hf p hp,←h2]
  rfl
theorem musts_at (nk:Nat) (hnk:200≤nk) (b:Blk) (hb:b.fx) (off n cap:Nat) (g bx tp nr md:Int) :
  FunS Tryz.prog G0 78 #[cfV (.slice (some ⟨100,off,none⟩) n cap) g bx tp nr md] (hpL G0 [(100,b)]) [100] (RR (mQ nk) (MustsR 1000 (.slice (some ⟨100,off,none⟩) n cap) n g bx tp nr md)):=by
 have hr:=fun ρ=>Blk.fx_rn hb ρ
 have h100:=mQ_low nk 100 (by omega)
 refine (musts_fun b hb off n cap g bx tp nr md).mvL G0F (oneL_ok hb) (mQ nk) (fun k hk=>mQ_low nk k (by omega)) (by simp [cfV,ren,renA,renF,ren0,h100]) (by simp [keys,h100]) rfl (oneL_ok hb).low (by simp [h100,hr]) (by simp [keys]) (fun v ns hV k hk=>?_) (fun v ns hV k hk l hl e=>?_)
 ·have h1:=mustsR_key hV k hk
  obtain ⟨j,hj,rfl⟩:∃ j,j<12∧k=1000+j:=⟨k - 1000,by omega,by omega⟩
  rw [mQ_at nk j hj]
  simp
  omega
 ·have h1:=mustsR_key hV k hk
  have h2:=mustsR_key hV l hl
  obtain ⟨j,hj,rfl⟩:∃ j,j<12∧k=1000+j:=⟨k - 1000,by omega,by omega⟩
  obtain ⟨i,hi,rfl⟩:∃ j,j<12∧l=1000+j:=⟨l - 1000,by omega,by omega⟩
  rw [mQ_at nk j hj,mQ_at nk i hi] at e
  omega
end Go.Gy
