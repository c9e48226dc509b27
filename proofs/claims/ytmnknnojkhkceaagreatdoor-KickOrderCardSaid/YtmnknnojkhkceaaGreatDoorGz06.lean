/-
  Lemmas of this claim, in their order (GyGC, GyGA, GyGD, GyU8, GyLI, GyGE, GyPB, GyGF, GyGG, GyGH, GyGI, GyGJ).
  Conditions: those of each theorem.
-/
import Derived.Test.YtmnknnojkhkceaaGreatDoorGz05
set_option linter.unusedSimpArgs false
set_option linter.unusedVariables false
namespace Go.Gy
set_option linter.unusedSimpArgs false
set_option linter.unusedVariables false
open Go Go.RowKit Go.Proofs
theorem kp_mag0 (n d g m r:Int):pmag n d g m 0 r=0:=by
 unfold pmag
 simp only [Int.mul_zero,Int.zero_mul,Int.zero_ediv]
 rw [isq_unique (r:=0) (by decide) (by decide) (by decide)]
 decide
theorem kp_magn (n d g m x r:Int):pmag (-n) d g m x r=pmag n d g m x r:=by
 unfold pmag
 have e:2*-n*g*m*x=-(2*n*g*m*x):=by simp only [Int.mul_neg,Int.neg_mul]
 rw [e,Int.neg_mul_neg]
theorem kp_magn0 (d g m x r:Int):pmag 0 d g m x r=0:=by
 unfold pmag
 simp only [Int.mul_zero,Int.zero_mul,Int.zero_ediv]
 rw [isq_unique (r:=0) (by decide) (by decide) (by decide)]
 decide
theorem kp_negn (n d g m x r:Int):pullV (-n) d g m x r=-pullV n d g m x r:=by
 unfold pullV
 rw [kp_magn]
 have h0:n=0→pmag n d g m x r=0:=fun h=>by subst h;exact kp_magn0 _ _ _ _ _
 generalize pmag n d g m x r=M at *
 (repeat' split)<;>omega
theorem kp_val {n d g m x r:Int} (h:PIn n d g m x r):-4503599627370496≤pullV n d g m x r∧pullV n d g m x r≤4503599627370496:=by
 have:=h.mag
 unfold pullV
 (repeat' split)<;>omega
def kpF (n d g:Int) (fm fs:Nat→Int) (i u k:Nat):Int:=pullV n d g (fm k) (fs (6*k+u) - fs (6*i+u)) (d2F fs k i)
def oS (F:Nat→Int):List Nat→Int
 | []=>0
 | k::l=>F k+oS F l
theorem oS_app (F:Nat→Int):∀ l m,oS F (l++m)=oS F l+oS F m
 | [],m=>by simp [oS]
 | p::l,m=>by
  simp only [List.cons_append,oS,oS_app F l m]
  omega
theorem oS_take (F:Nat→Int) {l:List Nat} {j:Nat} (hj:j<l.length):oS F (l.take (j+1))=oS F (l.take j)+F l[j]:=by
 rw [show l.take (j+1)=l.take j++[l[j]] by simp,oS_app]
 simp [oS]
theorem oS_bd {F:Nat→Int} {B:Int}:∀ {l:List Nat},(∀ k∈l,-B≤F k∧F k≤B)→-(l.length*B)≤oS F l∧oS F l≤l.length*B
 | [],_=>by simp [oS]
 | p::l,h=>by
  have h1:=oS_bd (l:=l) fun q hq=>h q (List.mem_cons_of_mem _ hq)
  have h2:=h p (by simp)
  simp only [oS,List.length_cons,Int.natCast_succ,Int.add_mul]
  omega
theorem oS_congr {F H:Nat→Int}:∀ {l:List Nat},(∀ k∈l,F k=H k)→oS F l=oS H l
 | [],_=>rfl
 | p::l,h=>by
  simp only [oS]
  rw [h p (by simp),oS_congr fun q hq=>h q (List.mem_cons_of_mem _ hq)]
theorem oS_neg {F H:Nat→Int}:∀ {l:List Nat},(∀ k∈l,F k=-(H k))→oS F l=-(oS H l)
 | [],_=>rfl
 | p::l,h=>by
  simp only [oS]
  rw [h p (by simp),oS_neg fun q hq=>h q (List.mem_cons_of_mem _ hq)]
  omega
theorem ot_mem {n i k:Nat}:k∈otIx n i↔k<n∧k≠i:=by
 unfold otIx
 rw [List.mem_filter,List.mem_range]
 simp
theorem ot_len {n i:Nat} (hn:n≤4):(otIx n i).length≤4:=by
 unfold otIx
 exact Nat.le_trans (List.length_filter_le _ _) (by rw [List.length_range];exact hn)
theorem oS_sum (F:Nat→Int) (i:Nat):∀ n:Nat,oS F (otIx n i)=sumN (fun k=>if k=i then 0 else F k) n
 | 0=>rfl
 | n+1=>by
  unfold sumN
  rw [←oS_sum F i n]
  unfold otIx
  rw [List.range_succ,List.filter_append,oS_app]
  by_cases c:n=i
  ·simp [c,oS]
  ·simp [c,oS]
def kS (n d g:Int) (fm fs:Nat→Int) (N i u:Nat):Int:=oS (kpF n d g fm fs i u) (otIx N i)
def kZ (fs:Nat→Int) (N i:Nat):Bool:=(otIx N i).any fun k=>decide (d2F fs k i=0)
theorem kZ_f {fs:Nat→Int} {N i:Nat}:kZ fs N i=false↔∀ k,k<N→k≠i→¬d2F fs k i=0:=by
 unfold kZ
 rw [List.any_eq_false]
 exact ⟨fun h k h1 h2=>by simpa using h k (ot_mem.2 ⟨h1,h2⟩),fun h k hk=>by have:=ot_mem.1 hk;simpa using h k this.1 this.2⟩
theorem kZ_t {fs:Nat→Int} {N i:Nat}:kZ fs N i=true↔∃ k,k<N∧k≠i∧d2F fs k i=0:=by
 unfold kZ
 rw [List.any_eq_true]
 exact ⟨fun ⟨k,h1,h2⟩=>⟨k,(ot_mem.1 h1).1,(ot_mem.1 h1).2,by simpa using h2⟩,fun ⟨k,h1,h2,h3⟩=>⟨k,ot_mem.2 ⟨h1,h2⟩,by simpa using h3⟩⟩
def kprtB (n d:Int):Bool:=decide (-2097152≤n∧n≤2097152∧1≤d∧d≤2097152)
theorem kprtB_iff {n d:Int}:kprtB n d=true ↔ -2097152≤n∧n≤2097152∧1≤d∧d≤2097152:=by
 unfold kprtB
 exact decide_eq_true_iff
def kAny (fs:Nat→Int) (N:Nat):Bool:=(List.range N).any fun i=>kZ fs N i
theorem kAny_f {fs:Nat→Int} {N:Nat}:kAny fs N=false↔∀ i,i<N→kZ fs N i=false:=by
 unfold kAny
 rw [List.any_eq_false]
 exact ⟨fun h i hi=>by simpa using h i (by simpa using hi),fun h i hi=>by simpa using h i (by simpa using hi)⟩
def kkE (fit:Bool) (n d:Int) (fs:Nat→Int) (N:Nat):Int:=if fit=true∧kprtB n d=true then (if kAny fs N=true then 30 else 0) else 2
def kkF (n d g:Int) (fm fs:Nat→Int) (N:Nat) (j:Nat):Int:=kS n d g fm fs N (j / 3) (j%3)
def kcF (n d g:Int) (fm fs:Nat→Int) (N:Nat) (j:Nat):Int:=if j%6<3 then fs j else fs j+kS n d g fm fs N (j / 6) (j%6 - 3)
theorem kd2_in {st:Int} {fs:Nat→Int} {n:Nat} (hr:rightB st fs n=true) {i k:Nat} (hi:i<n) (hk:k<n):0≤d2F fs k i∧d2F fs k i≤13194139533312∧∀ u,u<3→-2097152≤fs (6*k+u) - fs (6*i+u)∧fs (6*k+u) - fs (6*i+u)≤2097152∧(fs (6*k+u) - fs (6*i+u))*(fs (6*k+u) - fs (6*i+u))≤d2F fs k i:=by
 obtain ⟨⟨_,a0,a0'⟩,⟨_,a1,a1'⟩,⟨_,a2,a2'⟩⟩:=(right_b hr hi).1
 obtain ⟨⟨_,b0,b0'⟩,⟨_,b1,b1'⟩,⟨_,b2,b2'⟩⟩:=(right_b hr hk).1
 have s0:=sq_in (a:=fs (6*k) - fs (6*i)) (m:=2097152) ⟨by omega,by omega,by omega⟩
 have s1:=sq_in (a:=fs (6*k+1) - fs (6*i+1)) (m:=2097152) ⟨by omega,by omega,by omega⟩
 have s2:=sq_in (a:=fs (6*k+2) - fs (6*i+2)) (m:=2097152) ⟨by omega,by omega,by omega⟩
 unfold d2F
 refine ⟨by omega,by omega,fun u hu=>?_⟩
 have:u=0∨u=1∨u=2:=by omega
 rcases this with rfl|rfl|rfl
 ·simp only [Nat.add_zero]
  exact ⟨by omega,by omega,by omega⟩
 ·exact ⟨by omega,by omega,by omega⟩
 ·exact ⟨by omega,by omega,by omega⟩
theorem kp_in {n d g bx tp nr md st:Int} {fm fs:Nat→Int} {N i k u:Nat} (hok:cfOk N fm g bx tp nr md=true) (hr:rightB st fs N=true) (hp:kprtB n d=true) (hi:i<N) (hk:k<N) (hu:u<3) (hz:¬d2F fs k i=0):PIn n d g (fm k) (fs (6*k+u) - fs (6*i+u)) (d2F fs k i):=by
 obtain ⟨h1,h2,h3⟩:=kd2_in hr hi hk
 obtain ⟨p1,p2,p3,p4⟩:=kprtB_iff.1 hp
 have hg:=cfOk_g hok
 have hm:=cfOk_mass hok hk
 have h4:=h3 u hu
 exact ⟨p1,p2,p3,p4,hg.1,hg.2,hm.1,hm.2,h4.1,h4.2.1,by omega,h2,h4.2.2⟩
theorem kp_bd {n d g bx tp nr md st:Int} {fm fs:Nat→Int} {N i u:Nat} (hok:cfOk N fm g bx tp nr md=true) (hr:rightB st fs N=true) (hp:kprtB n d=true) (hi:i<N) (hu:u<3) {l:List Nat} (hl:∀ k∈l,k<N∧¬d2F fs k i=0) (hl4:l.length≤4):-18014398509481984≤oS (kpF n d g fm fs i u) l∧oS (kpF n d g fm fs i u) l≤18014398509481984:=by
 have h:=oS_bd (F:=kpF n d g fm fs i u) (B:=4503599627370496) (l:=l) fun k hk=>kp_val (kp_in hok hr hp hi (hl k hk).1 hu (hl k hk).2)
 omega
theorem kS_bd {n d g bx tp nr md st:Int} {fm fs:Nat→Int} {N i u:Nat} (hok:cfOk N fm g bx tp nr md=true) (hr:rightB st fs N=true) (hp:kprtB n d=true) (hi:i<N) (hu:u<3) (hz:kZ fs N i=false):-18014398509481984≤kS n d g fm fs N i u∧kS n d g fm fs N i u≤18014398509481984 :=
 kp_bd hok hr hp hi hu (fun k hk=>⟨(ot_mem.1 hk).1,kZ_f.1 hz k (ot_mem.1 hk).1 (ot_mem.1 hk).2⟩) (ot_len (right_n hr).2.1.2)
theorem kS_neg (n d g:Int) (fm fs:Nat→Int) (N i u:Nat):kS (-n) d g fm fs N i u=-(kS n d g fm fs N i u):=oS_neg fun k _=>kp_negn _ _ _ _ _ _
theorem kS_0 (d g:Int) (fm fs:Nat→Int) (N i u:Nat):kS 0 d g fm fs N i u=0:=by
 have:=kS_neg 0 d g fm fs N i u
 rw [show (-0:Int)=0 from rfl] at this
 omega
theorem kS_congr {n d g:Int} {fm fs fs':Nat→Int} {N i u:Nat} (hi:i<N) (h:∀ k,k<N→∀ v,v<3→fs' (6*k+v)=fs (6*k+v)) (hu:u<3):kS n d g fm fs' N i u=kS n d g fm fs N i u:=by
 refine oS_congr fun k hk=>?_
 have hk:=(ot_mem.1 hk).1
 have h0:=h k hk 0 (by omega)
 have g0:=h i hi 0 (by omega)
 unfold kpF d2F
 rw [h k hk u hu,h i hi u hu,h k hk 1 (by omega),h k hk 2 (by omega),h i hi 1 (by omega),h i hi 2 (by omega)]
 rw [Nat.add_zero] at h0 g0
 rw [h0,g0]
theorem kZ_congr {fs fs':Nat→Int} {N i:Nat} (hi:i<N) (h:∀ k,k<N→∀ v,v<3→fs' (6*k+v)=fs (6*k+v)):kZ fs' N i=kZ fs N i:=by
 have e:∀ k,k<N→d2F fs' k i=d2F fs k i:=fun k hk=>by
  have h0:=h k hk 0 (by omega)
  have g0:=h i hi 0 (by omega)
  unfold d2F
  rw [Nat.add_zero] at h0 g0
  rw [h0,g0,h k hk 1 (by omega),h k hk 2 (by omega),h i hi 1 (by omega),h i hi 2 (by omega)]
 cases c:kZ fs N i with
 | true =>
  obtain ⟨k,h1,h2,h3⟩:=kZ_t.1 c
  exact kZ_t.2 ⟨k,h1,h2,by rw [e k h1];exact h3⟩
 | false=>exact kZ_f.2 fun k h1 h2=>by rw [e k h1];exact kZ_f.1 c k h1 h2
theorem kAny_congr {fs fs':Nat→Int} {N:Nat} (h:∀ k,k<N→∀ v,v<3→fs' (6*k+v)=fs (6*k+v)):kAny fs' N=kAny fs N:=by
 cases c:kAny fs N with
 | false=>exact kAny_f.2 fun i hi=>by rw [kZ_congr hi h];exact kAny_f.1 c i hi
 | true =>
  cases c':kAny fs' N with
  | true=>rfl
  | false =>
   have:kAny fs N=false:=kAny_f.2 fun i hi=>by rw [←kZ_congr hi h];exact kAny_f.1 c' i hi
   rw [this] at c
   exact absurd c (by simp)
theorem kcF_lo (n d g:Int) (fm fs:Nat→Int) (N:Nat) (k v:Nat) (hv:v<3):kcF n d g fm fs N (6*k+v)=fs (6*k+v):=by
 unfold kcF
 rw [if_pos (by omega)]
theorem kcF_hi (n d g:Int) (fm fs:Nat→Int) (N:Nat) (k v:Nat) (hv:v<3):kcF n d g fm fs N (6*k+3+v)=fs (6*k+3+v)+kS n d g fm fs N k v:=by
 unfold kcF
 rw [if_neg (by omega),show (6*k+3+v) / 6=k by omega,show (6*k+3+v)%6 - 3=v by omega]
theorem fa_intT {T:TypeId} {M:Nat} {g:Nat→Int} {q:Nat} (h:q<M):loadK Tryz.prog 3 ⟨fa M .i64 g,.ty T⟩ q=some (.int .i64 (g q)):=by
 have:=loadK_rd1 (P:=Tryz.prog) (T:=3) (b:=⟨fa M .i64 g,.ty T⟩) (off:=0) (j:=q) (tyAgg_of Tryz.isAgg3) (rdI_fa M g _) h
 rwa [Nat.zero_add] at this
theorem put3_upd (f:Nat→Int) (o:Nat) (a b c:Int):upd (upd (upd f o a) (o+1) b) (o+2) c=put3 f o a b c:=by
 funext j
 unfold upd put3
 by_cases h0:j=o
 ·rw [if_neg (by omega),if_neg (by omega),if_pos h0,if_pos h0]
 ·by_cases h1:j=o+1
  ·rw [if_neg (by omega),if_pos h1,if_neg h0,if_pos h1]
  ·by_cases h2:j=o+2
   ·rw [if_pos h2,if_neg h0,if_neg h1,if_pos h2]
   ·rw [if_neg h2,if_neg h1,if_neg h0,if_neg h0,if_neg h1,if_neg h2]
def add3 (f:Nat→Int) (o:Nat) (a b c:Int):Nat→Int:=put3 f o (f o+a) (f (o+1)+b) (f (o+2)+c)
set_option maxRecDepth 8000 in
set_option maxHeartbeats 4000000 in
theorem kplus_fun (T:TypeId) (M o:Nat) (f:Nat→Int) (a b c:Int) (ho:o+3≤M) (q0:Int.bmod (f o+a) 18446744073709551616=f o+a) (q1:Int.bmod (f (o+1)+b) 18446744073709551616=f (o+1)+b) (q2:Int.bmod (f (o+2)+c) 18446744073709551616=f (o+2)+c) :
  Fun Tryz.prog G1 28 #[.pointer (some ⟨100,o,none⟩),.agg #[.int .i64 a,.int .i64 b,.int .i64 c]] (hpL G1 [(100,⟨fa M .i64 f,.ty T⟩)]) (keys [(100,(⟨fa M .i64 f,.ty T⟩:Blk))]) (.ret (.tuple #[]) [(100,⟨fa M .i64 (add3 f o a b c),.ty T⟩)]):=by
 refine fun_ofL (B:=200) G1F Tryz.func28 rfl Tryz.call28 (oneL_ok (fa_fx _ _ _)) ?_ (flatV_ids (by simp)) ?_ (fun k b c h1 h2=>by simp at h1 h2;rw [h1.2,h2.2]) (by simp [Tryz.ntmps28]) (by omega) ?_
 ·simp [idsV,idsA,idsF,ids0,keys]
 ·intro p hp
  simp at hp
  subst hp
  exact ⟨by simp [keys],Blk.fx_ids (fa_fx _ _ _) _⟩
 intro C hC hC0 hY
 have l0:=fa_intT (T:=T) (M:=M) (g:=f) (q:=o) (by omega)
 have l1:=fa_intT (T:=T) (M:=M) (g:=upd f o (f o+a)) (q:=o+1) (by omega)
 have l2:=fa_intT (T:=T) (M:=M) (g:=upd (upd f o (f o+a)) (o+1) (f (o+1)+b)) (q:=o+2) (by omega)
 rw [upd_other _ _ (by omega)] at l1
 rw [upd_other _ _ (by omega),upd_other _ _ (by omega)] at l2
 have m0:o+1≤M:=by omega
 have m1:o+1+1≤M:=by omega
 have m2:o+2+1≤M:=by omega
 have s0:=fun x=>fa_set M .i64 f o x
 have s1:=fun x=>fa_set M .i64 (upd f o (f o+a)) (o+1) x
 have s2:=fun x=>fa_set M .i64 (upd (upd f o (f o+a)) (o+1) (f (o+1)+b)) (o+2) x
 repeat' (first|refine GWL_start ?_|refine GWL_step ?_|refine gwA ?_|(refine gwX ?_;intro Q hQ hP;simp [hC,hY,l0,l1,l2,m0,m1,m2,q0,q1,q2,s0,s1,s2];refine hQ _ _ _ _ (by kernel_rfl) ?_;clear hQ hP Q)|(refine gwC ?_ ?_<;>(intro hb;try (cases hb;done))))
 refine ⟨.inl rfl,by simp [Tryz.results28],fun k hk=>?_⟩
 have hp3:=put3_upd f o (f o+a) (f (o+1)+b) (f (o+2)+c)
 unfold add3
 rw [←hp3]
 by_cases e6:k=100
 ·subst e6;simp [updL]
 ·have h2:¬k=200:=fun e=>hk (by subst e;simp)
  simp [updL,e6,h2]
theorem kplus_K {w:Nat} {v0 v1 v2 a b c:Int} {hp:Hp} {nk:Nat} {K:Eff→Prop} (hw:100≤w) (hb:hp w=some (vb v0 v1 v2)) (q0:Int.bmod (v0+a) 18446744073709551616=v0+a) (q1:Int.bmod (v1+b) 18446744073709551616=v1+b) (q2:Int.bmod (v2+c) 18446744073709551616=v2+c)
  (hK:K ((Res.ret (.tuple #[]) [(w,vb (v0+a) (v1+b) (v2+c))]).eff [w])):heapK Tryz.prog G1 28 #[.pointer (some ⟨w,0,none⟩),.agg #[.int .i64 a,.int .i64 b,.int .i64 c]] hp nk K:=by
 have e:∀ f:Nat→Int,(⟨fa 3 .i64 f,.ty 31⟩:Blk)=vb (f 0) (f 1) (f 2):=fun f=>rfl
 have h:=kplus_fun 31 3 0 (fun j=>if j=0 then v0 else if j=1 then v1 else v2) a b c (by omega) q0 q1 q2
 rw [e,e] at h
 refine heapK_mvG h G1F (B:=200) (oneL_ok (fun x hx=>by simp [vb] at hx;rcases hx with rfl|rfl|rfl<;>rfl)) (fun k=>if k=100 then w else k) (fun k hk=>if_neg (by omega)) (by simp [ren,renA,renF,ren0]) ?_ (by simp [keys]) ?_
 ·simp [vb,Blk.rn,renF,ren0,hw]
  exact hb
 ·simpa [ren,renA,renF,ren0,rnL,keys,add3,put3,vb,Blk.rn] using hK
theorem kplus_R {w M o:Nat} {f:Nat→Int} {T:TypeId} {a b c:Int} {hp:Hp} {nk:Nat} {K:Eff→Prop} (hw:100≤w) (hb:hp w=some ⟨fa M .i64 f,.ty T⟩) (ho:o+3≤M) (q0:Int.bmod (f o+a) 18446744073709551616=f o+a) (q1:Int.bmod (f (o+1)+b) 18446744073709551616=f (o+1)+b) (q2:Int.bmod (f (o+2)+c) 18446744073709551616=f (o+2)+c)
  (hK:K ((Res.ret (.tuple #[]) [(w,⟨fa M .i64 (add3 f o a b c),.ty T⟩)]).eff [w])):heapK Tryz.prog G1 28 #[.pointer (some ⟨w,o,none⟩),.agg #[.int .i64 a,.int .i64 b,.int .i64 c]] hp nk K:=by
 have h:=kplus_fun T M o f a b c ho q0 q1 q2
 refine heapK_mvG h G1F (B:=200) (oneL_ok (fa_fx _ _ _)) (fun k=>if k=100 then w else k) (fun k hk=>if_neg (by omega)) (by simp [ren,renA,renF,ren0]) ?_ (by simp [keys]) ?_
 ·simp [fa_rn,hw]
  exact hb
 ·simpa [ren,renA,renF,ren0,rnL,keys,fa_rn] using hK
def OthersR (nk ka ks off n cap off2 n2 cap2:Nat) (g bx tp nr md st i:Int) (v:Value) (ns:List (Nat×Blk)):Prop :=
 v=.func (.func 42) #[] #[.pointer (some ⟨nk+1,0,none⟩),.pointer (some ⟨nk+2,0,none⟩),.pointer (some ⟨nk,0,none⟩)]∧ns=[(nk,cfB (.slice (some ⟨ka,off,none⟩) n cap) g bx tp nr md),(nk+1,stB' st ks off2 n2 cap2),(nk+2,ib i)]
theorem othersR_key {nk ka ks off n cap off2 n2 cap2:Nat} {g bx tp nr md st i:Int} {v:Value} {ns:List (Nat×Blk)} (h:OthersR nk ka ks off n cap off2 n2 cap2 g bx tp nr md st i v ns):∀ k∈keys ns,nk≤k∧k<nk+3:=by
 obtain ⟨rfl,rfl⟩:=h
 intro k hk
 simp [keys] at hk
 omega
theorem others_L (L:List (Nat×Blk)) (ka ks:Nat) (bm bs:Blk) (hT:LKa L ka ks bm bs) (off n cap off2 n2 cap2:Nat) (g bx tp nr md st i:Int) :
  FunS Tryz.prog G1 26 #[cfV (.slice (some ⟨ka,off,none⟩) n cap) g bx tp nr md,.agg #[.int .i64 st,.slice (some ⟨ks,off2,none⟩) n2 cap2],.int .i64 i] (hpL G1 L) (keys L) (OthersR 1000 ka ks off n cap off2 n2 cap2 g bx tp nr md st i):=by
 refine newS_ofD (B:=200) G1F Tryz.func26 rfl Tryz.call26 hT.ok ?_ ?_ (by simp [Tryz.ntmps26]) (by omega) ?_
 ·simp [idsV,idsA,idsF,ids0,hT.ia,hT.ib,cfV]
 ·rintro v ns ⟨rfl,rfl⟩
  have ha:extD (dom (hpL G1 L)) [(1000,cfB (.slice (some ⟨ka,off,none⟩) n cap) g bx tp nr md),(1000+1,stB' st ks off2 n2 cap2),(1000+2,ib i)] ka:=.inl hT.ia
  have hb:extD (dom (hpL G1 L)) [(1000,cfB (.slice (some ⟨ka,off,none⟩) n cap) g bx tp nr md),(1000+1,stB' st ks off2 n2 cap2),(1000+2,ib i)] ks:=.inl hT.ib
  refine ⟨by simp [idsV,idsA,idsF,ids0,extD,keys],?_,?_⟩
  ·intro p hp
   simp only [List.mem_cons,List.not_mem_nil,or_false] at hp
   rcases hp with rfl|rfl|rfl
   ·exact ⟨by omega,by simp [cfB,ids_lit,idsF,ids0];exact ha⟩
   ·exact ⟨by omega,by simp [stB',ids_lit,idsF,ids0];exact hb⟩
   ·exact ⟨by omega,by simp [ib,ids_lit,idsF,ids0]⟩
  ·intro k b c h1 h2
   simp at h1 h2
   rcases h1 with ⟨e1,rfl⟩|⟨e1,rfl⟩|⟨e1,rfl⟩<;>rcases h2 with ⟨e2,rfl⟩|⟨e2,rfl⟩|⟨e2,rfl⟩<;>first|rfl|omega
 intro C hC hC0 hY
 have hA:=hT.a
 have hS:=hT.s
 have hne:=hT.ne
 have hna:=hT.na
 have hLow:=hT.low
 have hks:=hT.k1
 have hks2:=hT.k2
 unfold cfV
 repeat' (first|refine gwA ?_|(refine gwX ?_;intro Q hQ hP;simp [hC,hY,hA,hS,hne,hna];refine hQ _ _ _ _ (by kernel_rfl) ?_;clear hQ hP Q)|(refine gwC ?_ ?_<;>(intro hb;try (cases hb;done))))
 refine ⟨.inr trivial,kpT G1F,_,_,fun k=>if k=1000 then 200 else if k=1001 then 208 else if k=1002 then 216 else k,⟨rfl,rfl⟩,fun k hk=>?_,by simp,by simp,by simp [Tryz.results26,ren,renA,renF,ren0],?_⟩
 ·dsimp only
  rw [if_neg (by omega),if_neg (by omega),if_neg (by omega)]
 ·have h1:¬ks=1000:=by omega
  have h2:¬ks=1001:=by omega
  have h3:¬ks=1002:=by omega
  have ha2:=hT.a2
  have g1:¬ka=1000:=by omega
  have g2:¬ka=1001:=by omega
  have g3:¬ka=1002:=by omega
  simp [cfB,stB',ib,Blk.rn,renF,ren0,h1,h2,h3,g1,g2,g3]
def up3 (nk k:Nat):Nat:=if 1000≤k then (if k<1003 then k - 1000+nk else k) else k
theorem othersR_rr {nk nk' ka ks off n cap off2 n2 cap2:Nat} {g bx tp nr md st i:Int} {ρ:Nat→Nat} (h100:ρ ka=ka) (hk:ρ ks=ks) (h0:ρ nk=nk') (h1:ρ (nk+1)=nk'+1) (h2:ρ (nk+2)=nk'+2) :
  RR ρ (OthersR nk ka ks off n cap off2 n2 cap2 g bx tp nr md st i)=OthersR nk' ka ks off n cap off2 n2 cap2 g bx tp nr md st i:=by
 funext v ns
 apply propext
 constructor
 ·rintro ⟨v0,ns0,⟨rfl,rfl⟩,rfl,rfl⟩
  exact ⟨by simp [ren,renA,renF,ren0,h0,h1,h2],by simp [rnL,cfB,stB',ib,Blk.rn,renF,ren0,h100,hk,h0,h1,h2]⟩
 ·rintro ⟨rfl,rfl⟩
  exact ⟨_,_,⟨rfl,rfl⟩,by simp [ren,renA,renF,ren0,h0,h1,h2],by simp [rnL,cfB,stB',ib,Blk.rn,renF,ren0,h100,hk,h0,h1,h2]⟩
theorem others_at (nk:Nat) (hnk:200≤nk) (L:List (Nat×Blk)) (ka ks:Nat) (bm bs:Blk) (hT:LKa L ka ks bm bs) (off n cap off2 n2 cap2:Nat) (g bx tp nr md st i:Int) :
  FunS Tryz.prog G1 26 #[cfV (.slice (some ⟨ka,off,none⟩) n cap) g bx tp nr md,.agg #[.int .i64 st,.slice (some ⟨ks,off2,none⟩) n2 cap2],.int .i64 i] (hpL G1 L) (keys L) (OthersR nk ka ks off n cap off2 n2 cap2 g bx tp nr md st i):=by
 have e2:∀ j,j<3→up3 nk (1000+j)=nk+j:=fun j hj=>by unfold up3;rw [if_pos (by omega),if_pos (by omega)];omega
 have hlow:∀ k,k<1000→up3 nk k=k:=fun k hk=>by unfold up3;rw [if_neg (by omega)]
 have hk2:=hT.k2
 have ha2:=hT.a2
 have hid:∀ k∈keys L,up3 nk k=k:=fun k hk=>by
  obtain ⟨p,hp,rfl⟩:=mem_keys.1 hk
  have:=hT.ok.big p hp
  exact hlow _ (by omega)
 have hkk:∀ v ns,OthersR 1000 ka ks off n cap off2 n2 cap2 g bx tp nr md st i v ns→∀ k∈keys ns,∃ j,j<3∧k=1000+j:=by
  intro v ns hV k hk
  have:=othersR_key hV k hk
  exact ⟨k - 1000,by omega,by omega⟩
 refine (others_L L ka ks bm bs hT off n cap off2 n2 cap2 g bx tp nr md st i).mvL (hp':=hpL G1 L) (rs':=keys L) G1F hT.ok (up3 nk) (fun k hk=>hlow k (by omega)) ?_ ?_ (othersR_rr (hlow _ (by omega)) (hlow _ (by omega)) (e2 0 (by omega)) (e2 1 (by omega)) (e2 2 (by omega))) hT.ok.low ?_ ?_ (fun v ns hV k hk=>?_) (fun v ns hV k hk l hl e=>?_)
 ·simp [cfV,ren,renA,renF,ren0,hlow ka (by omega),hlow ks (by omega)]
 ·rw [List.map_congr_left hid];simp
 ·intro p hp
  have hb:=hT.ok.big p hp
  rw [hlow p.1 (by omega),Blk.fx_rn (hT.fx p hp)]
  exact ⟨hb.1,hT.mem p hp⟩
 ·intro k hk l hl e
  rw [hid k hk,hid l hl] at e
  exact e
 ·obtain ⟨j,hj,rfl⟩:=hkk v ns hV k hk
  rw [e2 j hj]
  refine ⟨by omega,fun h=>?_⟩
  obtain ⟨p,hp,e⟩:=mem_keys.1 h
  have:=hT.ok.big p hp
  omega
 ·obtain ⟨j,hj,rfl⟩:=hkk v ns hV k hk
  obtain ⟨i,hi,rfl⟩:=hkk v ns hV l hl
  rw [e2 j hj,e2 i hi] at e
  omega
theorem others_it (L:List (Nat×Blk)) (ka ks:Nat) (bm bs:Blk) (hT:LKa L ka ks bm bs) (off n cap off2 cap2:Nat) (fm fs:Nat→Int) (hm:MB bm off n fm) (hSb:SB bs off2 n fs) (g bx tp nr md st:Int) (hrt:rightB st fs n=true) (i:Nat) (hi:i<n) :
  IterK Tryz.prog G1 42 #[.pointer (some ⟨208,0,none⟩),.pointer (some ⟨216,0,none⟩),.pointer (some ⟨200,0,none⟩)] (hpL G1 (otM L ka ks off n cap off2 n cap2 g bx tp nr md st i)) (keys (otM L ka ks off n cap off2 n cap2 g bx tp nr md st i)) ((otIx n i).map (otV fm fs i)):=by
 have hn:=(right_n hrt).2.1
 have:(n=1∧i=0)∨(n=2∧i=0)∨(n=2∧i=1)∨(n=3∧i=0)∨(n=3∧i=1)∨(n=3∧i=2)∨(n=4∧i=0)∨(n=4∧i=1)∨(n=4∧i=2)∨(n=4∧i=3):=by omega
 rcases this with ⟨rfl,rfl⟩|⟨rfl,rfl⟩|⟨rfl,rfl⟩|⟨rfl,rfl⟩|⟨rfl,rfl⟩|⟨rfl,rfl⟩|⟨rfl,rfl⟩|⟨rfl,rfl⟩|⟨rfl,rfl⟩|⟨rfl,rfl⟩
 ·exact others_it10 L ka ks bm bs hT off cap off2 cap2 fm fs hm hSb g bx tp nr md st hrt
 ·exact others_it20 L ka ks bm bs hT off cap off2 cap2 fm fs hm hSb g bx tp nr md st hrt
 ·exact others_it21 L ka ks bm bs hT off cap off2 cap2 fm fs hm hSb g bx tp nr md st hrt
 ·exact others_it30 L ka ks bm bs hT off cap off2 cap2 fm fs hm hSb g bx tp nr md st hrt
 ·exact others_it31 L ka ks bm bs hT off cap off2 cap2 fm fs hm hSb g bx tp nr md st hrt
 ·exact others_it32 L ka ks bm bs hT off cap off2 cap2 fm fs hm hSb g bx tp nr md st hrt
 ·exact others_it40 L ka ks bm bs hT off cap off2 cap2 fm fs hm hSb g bx tp nr md st hrt
 ·exact others_it41 L ka ks bm bs hT off cap off2 cap2 fm fs hm hSb g bx tp nr md st hrt
 ·exact others_it42 L ka ks bm bs hT off cap off2 cap2 fm fs hm hSb g bx tp nr md st hrt
 ·exact others_it43 L ka ks bm bs hT off cap off2 cap2 fm fs hm hSb g bx tp nr md st hrt
def puL (n d g m x0 x1 x2:Int) (v:Blk):List (Nat×Blk):=[(200,ib n),(208,ib d),(216,ib g),(224,ib m),(232,vb x0 x1 x2),(256,v)]
def puHp (n d g m x0 x1 x2:Int):Hp:=hpL G1 (puL n d g m x0 x1 x2 (vb 0 0 0))
theorem puHp_rst (n d g m x0 x1 x2:Int):rst (puHp n d g m x0 x1 x2) [200,208,216,224,232,256]=puHp n d g m x0 x1 x2:=hpL_rst G1F (by simp [puL])
theorem puHp_closed (n d g m x0 x1 x2:Int) (D:Nat→Prop) (k:Nat) (c:Blk) (h:puHp n d g m x0 x1 x2 k=some c):c.ids D:=by
 rcases hpL_mem h with h|h
 ·simp [puL] at h
  rcases h with ⟨_,rfl⟩|⟨_,rfl⟩|⟨_,rfl⟩|⟨_,rfl⟩|⟨_,rfl⟩|⟨_,rfl⟩<;>simp [ib,vb]
 ·exact G1_closed _ _ _ h
theorem puHp_free (n d g m x0 x1 x2:Int) (x:Nat) (hx:300≤x):puHp n d g m x0 x1 x2 x=none:=by
 simp [puHp,puL,show ¬x=200 by omega,show ¬x=208 by omega,show ¬x=216 by omega,show ¬x=224 by omega,show ¬x=232 by omega,show ¬x=256 by omega,show 100≤x by omega]
def puX (n d g m x0 x1 x2 r v0 v1 v2:Int) (i:Nat):Hp:=hpL G1 [(200,ib n),(208,ib d),(216,ib g),(224,ib m),(232,vb x0 x1 x2),(256,vb (if 0<i then v0 else 0) (if 1<i then v1 else 0) (if 2<i then v2 else 0)),(316,ib r)]
def puT:Nat→Value:=tsL [(0,.pointer (some ⟨232,0,none⟩)),(1,.pointer (some ⟨200,0,none⟩)),(2,.pointer (some ⟨208,0,none⟩)),(3,.pointer (some ⟨216,0,none⟩)),(4,.pointer (some ⟨224,0,none⟩)),(5,.pointer (some ⟨256,0,none⟩)),(6,.pointer (some ⟨316,0,none⟩))]
set_option maxHeartbeats 1000000 in
theorem pu1_ok (n d g m x0 x1 x2:Int) (h0:inX x0) (h1:inX x1) (h2:inX x2) (k0:PIn n d g m x0 (x0*x0+x1*x1+x2*x2)) (k1:PIn n d g m x1 (x0*x0+x1*x1+x2*x2)) (k2:PIn n d g m x2 (x0*x0+x1*x1+x2*x2)) :
  Fun Tryz.prog G1 45 [.pointer (some ⟨232,0,none⟩),.pointer (some ⟨200,0,none⟩),.pointer (some ⟨208,0,none⟩),.pointer (some ⟨216,0,none⟩),.pointer (some ⟨224,0,none⟩),.pointer (some ⟨256,0,none⟩)].toArray (puHp n d g m x0 x1 x2) [200,208,216,224,232,256]
   (.ret (.tuple #[]) [(256,vb (pullV n d g m x0 (x0*x0+x1*x1+x2*x2)) (pullV n d g m x1 (x0*x0+x1*x1+x2*x2)) (pullV n d g m x2 (x0*x0+x1*x1+x2*x2)))]):=by
 refine fun_of (B:=300) G1F (fun k hk=>hpL_low (by simp [puL]) hk) Tryz.func45 rfl Tryz.call45 ?_ ?_ ?_ (by simp [Tryz.ntmps45]) (by omega) ?_ ?_
 ·rw [puHp_rst];simp [puHp,puL,dom]
 ·rw [puHp_rst];exact puHp_closed n d g m x0 x1 x2 _
 ·refine ⟨flatV_ids (by simp),by simp [keys,puHp,puL,dom],fun k b c e1 e2=>?_,by simp [vb]⟩
  simp at e1 e2
  rw [e1.2,e2.2]
 ·rw [puHp_rst];exact puHp_free n d g m x0 x1 x2
 ·intro C hC hC0 hY
  rw [puHp_rst] at hC0 ⊢
  generalize hr:x0*x0+x1*x1+x2*x2=r at *
  have hsum:=psum_ok x0 x1 x2 h0 h1 h2
  rw [hr] at hsum
  repeat' (first|refine gwA ?_|((first|refine gwR [1000046] ?_|refine gwD [1000046] ?_);intro Q hQ hP;simp [hC,hY,puHp,puL,vb,ib];(repeat ((first|(refine callP_of hsum ?_));try simp [hC,hY,puHp,puL,vb,ib]));(first|refine hQ _ _ _ _ (by kernel_rfl) ?_|refine hP _ _ (by kernel_rfl) fun _=>?_);clear hQ hP Q)|(refine gwC ?_ ?_<;>(intro hb;try (cases hb;done))))
  refine GW_region' [47] (by kernel_rfl) ?_;intro Q hQ hP;simp [hC,hY]
  refine heapK_of (parts_new x0 x1 x2 340 (by omega)) (by simp) (fun _ _=>rfl) (by simp [Res.at]) ?_
  simp
  refine hQ _ _ _ _ ?_;clear hQ hP Q
  repeat' (first|refine gwA ?_|(refine gwX ?_;intro Q hQ hP;simp [hC,hY];(first|refine hQ _ _ _ _ (by kernel_rfl) ?_|refine hP _ _ (by kernel_rfl) fun _=>?_);clear hQ hP Q)|(refine gwC ?_ ?_<;>(intro hb;try (cases hb;done))))
  refine GW_range (f:=68) (rs:=[340]) (xs:=partsXs x0 x1 x2) (caps:=#[.pointer (some ⟨340,0,none⟩)]) (by simp) ?_ (by simp [partsXs]) (by simp [Tryz.ntmps45]) puT (puX n d g m x0 x1 x2 r (pullV n d g m x0 r) (pullV n d g m x1 r) (pullV n d g m x2 r)) 400 3 (by simp [partsXs]) ?_ ?_ ?_ ?_ ?_
  ·rw [hC]
   refine IterX.cast (IterX.rn (fun k=>if k=100 then 340 else k) G1F (fun k hk=>hpL_low (by simp) hk) (rs:=[100]) ?_ (parts_it x0 x1 x2)) (by simp [ren0]) (by simp)
   refine ⟨fun k hk=>?_,?_,?_,?_⟩
   ·have e1:¬k=100:=by omega
    have e2:¬k=200:=by omega
    have e3:¬k=208:=by omega
    have e4:¬k=216:=by omega
    have e5:¬k=224:=by omega
    have e6:¬k=232:=by omega
    have e7:¬k=256:=by omega
    have e8:¬k=316:=by omega
    have e9:¬k=340:=by omega
    simp [e1,e2,e3,e4,e5,e6,e7,e8,e9,pHp]
   ·simp
   ·simp [pHp,vb,Blk.rn,renF,ren0]
   ·simp
  ·refine weakL _ 400 hC G1F (m0:=puL n d g m x0 x1 x2 (vb 0 0 0)) hC0 (by omega) ?_ ?_ ?_
   ·simp [idsV,idsA,idsF,ids0,dom]
   ·simp [ids_lit,idsF,ids0,vb,ib]
   ·simp [vb,ib,puL]
  ·simp [puX,dom]
  ·intro i hi t
   refine tsL_ids ?_ t
   simp [idsV,idsA,idsF,ids0,dom,puX]
  ·intro i x hi hx C1 l hC1 hh1 hY1
   have hCC:=hC
   have hC1':C1.G=G1:=hC1.trans hC
   replace hC:=hC1'
   replace hY:=hY1
   have:i=0∨i=1∨i=2:=by omega
   rcases this with rfl|rfl|rfl
   all_goals
    simp [partsXs] at hx
    subst hx
    unfold puX
   all_goals
    repeat' (first|refine gwA ?_|(refine gwX ?_;intro Q hQ hP;simp [hC,hY,roundTs,puT];(first|refine hQ _ _ _ _ (by kernel_rfl) ?_|refine hP _ _ (by kernel_rfl) fun _=>?_);clear hQ hP Q)|(refine gwC ?_ ?_<;>(intro hb;try (cases hb;done))))
   all_goals
    intro C2 hC2 hh2 hY2
    replace hC:C2.G=G1:=hC2.trans hCC
    replace hY:=hY2
    repeat' (first|refine gwA ?_|((first|refine gwR [1000048] ?_|refine gwD [1000048] ?_);intro Q hQ hP;simp [hC,hY,roundTs,puT,vb,ib];(repeat ((first|(refine callP_of (one_ok _ _ _ _ _ _ k0) ?_)|(refine callP_of (one_ok _ _ _ _ _ _ k1) ?_)|(refine callP_of (one_ok _ _ _ _ _ _ k2) ?_));try simp [hC,hY,roundTs,puT,vb,ib]));(first|refine hQ _ _ _ _ (by kernel_rfl) ?_|refine hP _ _ (by kernel_rfl) fun _=>?_);clear hQ hP Q)|(refine gwC ?_ ?_<;>(intro hb;try (cases hb;done))))
   all_goals
    refine weakL [] 400 hC1' G1F hh1 (by omega) ?_ ?_ ?_
    ·simp
    ·simp [ids_lit,idsF,ids0,vb,ib]
    ·simp [vb,ib]
  ·left
   refine ⟨rfl,?_⟩
   unfold puX puT
   repeat' (first|refine gwA ?_|(refine gwX ?_;intro Q hQ hP;simp [hC,hY];(first|refine hQ _ _ _ _ (by kernel_rfl) ?_|refine hP _ _ (by kernel_rfl) fun _=>?_);clear hQ hP Q)|(refine gwC ?_ ?_<;>(intro hb;try (cases hb;done))))
   refine ⟨.inl rfl,by simp [Tryz.results45],fun k hk=>?_⟩
   have hk3:¬k=316:=fun e=>hk (e▸puHp_free n d g m x0 x1 x2 316 (by omega))
   by_cases e6:k=256
   ·subst e6;simp [updL,puHp,puL]
   ·simp [updL,puHp,puL,hk3,e6]
theorem pu1_bad1 (n d g m x0 x1 x2:Int) (h0:inX x0) (h1:inX x1) (h2:inX x2) (he:chkE n d g m x0 (x0*x0+x1*x1+x2*x2)≠0) :
  Fun Tryz.prog G1 45 [.pointer (some ⟨232,0,none⟩),.pointer (some ⟨200,0,none⟩),.pointer (some ⟨208,0,none⟩),.pointer (some ⟨216,0,none⟩),.pointer (some ⟨224,0,none⟩),.pointer (some ⟨256,0,none⟩)].toArray (puHp n d g m x0 x1 x2) [200,208,216,224,232,256]
   (.pan (erV (chkE n d g m x0 (x0*x0+x1*x1+x2*x2)))):=by
 refine fun_of (B:=300) G1F (fun k hk=>hpL_low (by simp [puL]) hk) Tryz.func45 rfl Tryz.call45 ?_ ?_ trivial (by simp [Tryz.ntmps45]) (by omega) ?_ ?_
 ·rw [puHp_rst];simp [puHp,puL,dom]
 ·rw [puHp_rst];exact puHp_closed n d g m x0 x1 x2 _
 ·rw [puHp_rst];exact puHp_free n d g m x0 x1 x2
 ·intro C hC hC0 hY
  rw [puHp_rst] at hC0 ⊢
  generalize hr:x0*x0+x1*x1+x2*x2=r at *
  have hsum:=psum_ok x0 x1 x2 h0 h1 h2
  rw [hr] at hsum
  repeat' (first|refine gwA ?_|((first|refine gwR [1000046] ?_|refine gwD [1000046] ?_);intro Q hQ hP;simp [hC,hY,puHp,puL,vb,ib];(repeat ((first|(refine callP_of hsum ?_));try simp [hC,hY,puHp,puL,vb,ib]));(first|refine hQ _ _ _ _ (by kernel_rfl) ?_|refine hP _ _ (by kernel_rfl) fun _=>?_);clear hQ hP Q)|(refine gwC ?_ ?_<;>(intro hb;try (cases hb;done))))
  refine GW_region' [47] (by kernel_rfl) ?_;intro Q hQ hP;simp [hC,hY]
  refine heapK_of (parts_new x0 x1 x2 340 (by omega)) (by simp) (fun _ _=>rfl) (by simp [Res.at]) ?_
  simp
  refine hQ _ _ _ _ ?_;clear hQ hP Q
  repeat' (first|refine gwA ?_|(refine gwX ?_;intro Q hQ hP;simp [hC,hY];(first|refine hQ _ _ _ _ (by kernel_rfl) ?_|refine hP _ _ (by kernel_rfl) fun _=>?_);clear hQ hP Q)|(refine gwC ?_ ?_<;>(intro hb;try (cases hb;done))))
  refine GW_rangeP (erV (chkE n d g m x0 r)) (f:=68) (rs:=[340]) (xs:=partsXs x0 x1 x2) (caps:=#[.pointer (some ⟨340,0,none⟩)]) (by simp) ?_ (by simp [partsXs]) (by simp [Tryz.ntmps45]) puT (puX n d g m x0 x1 x2 r 0 0 0) 400 0 (by simp [partsXs]) ?_ ?_ ?_ ?_ ?_ ?_
  ·rw [hC]
   intro pv
   refine IterX.cast (IterX.rn (fun k=>if k=100 then 340 else k) G1F (fun k hk=>hpL_low (by simp) hk) (rs:=[100]) ?_ (parts_itP x0 x1 x2 pv)) (by simp [ren0]) (by simp)
   refine ⟨fun k hk=>?_,?_,?_,?_⟩
   ·have e1:¬k=100:=by omega
    have e2:¬k=200:=by omega
    have e3:¬k=208:=by omega
    have e4:¬k=216:=by omega
    have e5:¬k=224:=by omega
    have e6:¬k=232:=by omega
    have e7:¬k=256:=by omega
    have e8:¬k=316:=by omega
    have e9:¬k=340:=by omega
    simp [e1,e2,e3,e4,e5,e6,e7,e8,e9,pHp]
   ·simp
   ·simp [pHp,vb,Blk.rn,renF,ren0]
   ·simp
  ·refine weakL _ 400 hC G1F (m0:=puL n d g m x0 x1 x2 (vb 0 0 0)) hC0 (by omega) ?_ ?_ ?_
   ·simp [idsV,idsA,idsF,ids0,dom]
   ·simp [ids_lit,idsF,ids0,vb,ib]
   ·simp [vb,ib,puL]
  ·simp [puX,dom]
  ·intro i hi t
   refine tsL_ids ?_ t
   simp [idsV,idsA,idsF,ids0,dom,puX]
  ·intro i x hi hx C1 l hC1 hh1 hY1
   omega
  ·intro c hc
   obtain rfl:c=0:=by omega
   refine ⟨rfl,fun k hk=>?_⟩
   have hk3:¬k=316:=fun e=>hk (e▸puHp_free n d g m x0 x1 x2 316 (by omega))
   simp [puX,puHp,puL,hk3]
  ·refine ⟨#[.int .i64 0,.int .i64 x0],by simp [partsXs],?_⟩
   intro C1 l hC1 hh1 hY1
   have hCC:=hC
   have hC1':C1.G=G1:=hC1.trans hC
   replace hC:=hC1'
   replace hY:=hY1
   unfold puX
   repeat' (first|refine gwA ?_|(refine gwX ?_;intro Q hQ hP;simp [hC,hY,roundTs,puT];(first|refine hQ _ _ _ _ (by kernel_rfl) ?_|refine hP _ _ (by kernel_rfl) fun _=>?_);clear hQ hP Q)|(refine gwC ?_ ?_<;>(intro hb;try (cases hb;done))))
   intro C2 hC2 hh2 hY2
   replace hC:C2.G=G1:=hC2.trans hCC
   replace hY:=hY2
   repeat' (first|refine gwA ?_|((first|refine gwR [1000048] ?_|refine gwD [1000048] ?_);intro Q hQ hP;simp [hC,hY,roundTs,puT,vb,ib];(repeat ((first|(refine callP_of (one_bad _ _ _ _ _ _ he) ?_));try simp [hC,hY,roundTs,puT,vb,ib]));(first|refine hQ _ _ _ _ (by kernel_rfl) ?_|refine hP _ _ (by kernel_rfl) fun _=>?_);clear hQ hP Q)|(refine gwC ?_ ?_<;>(intro hb;try (cases hb;done))))
   refine ⟨rfl,fun t=>?_,rfl,fun k hk=>?_⟩
   ·refine tsL_ids ?_ t
    simp [idsV,idsA,idsF,ids0,dom]
   ·have hk3:¬k=316:=fun e=>hk (e▸puHp_free n d g m x0 x1 x2 316 (by omega))
    simp [puHp,puL,hk3]
theorem ppull_ok (n d g m x0 x1 x2:Int) (h0:inX x0) (h1:inX x1) (h2:inX x2) (k0:PIn n d g m x0 (x0*x0+x1*x1+x2*x2)) (k1:PIn n d g m x1 (x0*x0+x1*x1+x2*x2)) (k2:PIn n d g m x2 (x0*x0+x1*x1+x2*x2)):Ret Tryz.prog G1 27 #[.int .i64 n,.int .i64 d,.int .i64 g,.int .i64 m,vv x0 x1 x2] (.tuple #[vv (pullV n d g m x0 (x0*x0+x1*x1+x2*x2)) (pullV n d g m x1 (x0*x0+x1*x1+x2*x2)) (pullV n d g m x2 (x0*x0+x1*x1+x2*x2)),.int .i64 0]):=by
 refine ret_of G1F Tryz.func27 rfl Tryz.call27 (by simp [vv]) (by simp [vv]) (by simp [Tryz.ntmps27]) ?_
 intro C hC hC0 hY
 repeat' (first|refine gwA ?_|((first|refine gwR [44] ?_|refine gwD [44] ?_);intro Q hQ hP;simp [hC,hY,vv,vb,ib];(repeat ((first|(refine heapK_of (hp':=puHp n d g m x0 x1 x2) (ptold_ret (fun k hk=>hpL_low (by simp [puL]) hk) (by simp) rfl (by simp) (pu1_ok n d g m x0 x1 x2 h0 h1 h2 k0 k1 k2)) (by simp [puHp,puL,vb,ib]) (fun k hk=>hpL_low (by simp [puL]) hk) trivial ?_));try simp [hC,hY,vv,vb,ib]));(first|refine hQ _ _ _ _ (by kernel_rfl) ?_|refine hP _ _ (by kernel_rfl) fun _=>?_);clear hQ hP Q)|(refine gwC ?_ ?_<;>(intro hb;try (cases hb;done))))
 refine ⟨.inr trivial,?_⟩
 simp [Tryz.results27,vv]
theorem ppull_bad1 (n d g m x0 x1 x2:Int) (h0:inX x0) (h1:inX x1) (h2:inX x2) (he:chkE n d g m x0 (x0*x0+x1*x1+x2*x2)≠0):Ret Tryz.prog G1 27 #[.int .i64 n,.int .i64 d,.int .i64 g,.int .i64 m,vv x0 x1 x2] (.tuple #[vv 0 0 0,.int .i64 (chkE n d g m x0 (x0*x0+x1*x1+x2*x2))]):=by
 refine ret_of G1F Tryz.func27 rfl Tryz.call27 (by simp [vv]) (by simp [vv]) (by simp [Tryz.ntmps27]) ?_
 intro C hC hC0 hY
 have hcb:(chkE n d g m x0 (x0*x0+x1*x1+x2*x2) != 0)=true:=by simpa using he
 repeat' (first|refine gwA ?_|((first|refine gwR [44] ?_|refine gwD [44] ?_);intro Q hQ hP;simp [hC,hY,vv,vb,ib,hcb];(repeat ((first|(refine heapK_of (hp':=puHp n d g m x0 x1 x2) (ptold_pan (fun k hk=>hpL_low (by simp [puL]) hk) (by simp) rfl (by simp) (pu1_bad1 n d g m x0 x1 x2 h0 h1 h2 he)) (by simp [puHp,puL,vb,ib]) (fun k hk=>hpL_low (by simp [puL]) hk) trivial ?_));try simp [hC,hY,vv,vb,ib,hcb]));(first|refine hQ _ _ _ _ (by kernel_rfl) ?_|refine hP _ _ (by kernel_rfl) fun _=>?_);clear hQ hP Q)|(refine gwC ?_ ?_<;>(intro hb;try (cases hb;done))))
 refine ⟨.inr trivial,?_⟩
 simp [Tryz.results27,vv]
end Go.Gy
namespace Go.Gy
set_option linter.unusedSimpArgs false
set_option linter.unusedVariables false
open Go Go.RowKit
section
variable {P:Program} {C:Ctx} {n:Nat} {d:List Deferred} {ro:Option Nat} {s:GS} {K:Exit→GS→Prop}
theorem GI.freeze {r:Nat→Nat} {a:Act} {W:World} {k t:Nat} {cs:Array Value} (hk:s.hp k=some ⟨cs,.ty t⟩) (h100:100≤k) (h:GI P C n d r s a W):GI P C n d r ⟨s.ts,upd s.hp k (some ⟨cs.map (renF r),.raw t (0,0)⟩),s.B,s.yc⟩ a W:=by
 have hD:dom (upd s.hp k (some ⟨cs.map (renF r),.raw t (0,0)⟩))=dom s.hp:=by
  funext q
  unfold dom
  by_cases e:q=k
  ·subst e
   rw [upd_same,hk]
   simp
  ·rw [upd_other _ _ e]
 have hkB:¬s.B≤k:=fun hb=>by have:=h.free k hb;rw [hk] at this;cases this
 refine ⟨⟨h.ri.size,?_,fun q b hq=>?_,?_,?_,fun i hi=>?_,fun q hq=>?_,fun q hq hd=>?_⟩,fun x hx=>?_,h.low,h.flat,h.rounds⟩
 ·show Rel r (dom (upd s.hp k _)) s.ts a
  rw [hD]
  exact h.ri.rel
 ·show W.heap[r q]? = some (b.obj r)∧b.ids (dom (upd s.hp k _))
  rw [hD]
  by_cases e:q=k
  ·subst e
   have hq':some (Blk.mk (cs.map (renF r)) (.raw t (0,0)))=some b:=(upd_same _ _ _).symm.trans hq
   cases hq'
   exact ⟨(h.ri.sat q _ hk).1,trivial⟩
  ·have hq':s.hp q=some b:=(upd_other _ _ e).symm.trans hq
   exact h.ri.sat q b hq'
 ·show Inj r (dom (upd s.hp k _))
  rw [hD]
  exact h.ri.inj
 ·obtain ⟨S,ms,h1,h2,h3,h4⟩:=h.ri.ext
  refine ⟨S,ms,h1,h2,fun i hi=>?_,h4⟩
  have hi':dom (upd s.hp k (some ⟨cs.map (renF r),.raw t (0,0)⟩)) i:=hi
  rw [hD] at hi'
  exact h3 i hi'
 ·show dom (upd s.hp k _) i∧_
  rw [hD]
  exact h.ri.keep i hi
 ·show upd s.hp k _ q=_
  rw [upd_other _ _ (by omega)]
  exact h.ri.glob q hq
 ·have hd':dom (upd s.hp k (some ⟨cs.map (renF r),.raw t (0,0)⟩)) q:=hd
  rw [hD] at hd'
  exact h.ri.low q hq hd'
 ·show upd s.hp k _ x=none
  have hx':s.B≤x:=hx
  rw [upd_other _ _ (by omega)]
  exact h.free x hx'
theorem GW_freeze {c:Code} (k:Nat) {t:Nat} {cs:Array Value} (hk:s.hp k=some ⟨cs,.ty t⟩) (h100:100≤k) (h:∀ cs':Array Value,cs'.size=cs.size→(∀ (j:Nat) (v:Value),cs[j]? = some v→flatF v=true→cs'[j]? = some v)→GW P C n d ro c ⟨s.ts,upd s.hp k (some ⟨cs',.raw t (0,0)⟩),s.B,s.yc⟩ K):GW P C n d ro c s K:=fun r a W hi =>
 h (cs.map (renF r)) (by simp) (fun j v hj hf=>by simp [hj,flatF_ren hf]) r a W (hi.freeze hk h100)
end
end Go.Gy
namespace Go.Gy
set_option linter.unusedSimpArgs false
set_option linter.unusedVariables false
open Go Go.RowKit Go.Proofs
def eb (z:Int):Blk:=⟨#[.int .i64 z],.ty 32⟩
def oneG (L:List (Nat×Blk)) (v0 v1 v2 z:Int):GS:=⟨tsL [(10,.pointer (some ⟨232,0,none⟩)),(11,.pointer (some ⟨240,0,none⟩))],hpL G1 ([(232,vb v0 v1 v2),(240,eb z)]++L),1000,0⟩
def oneTs:List (Nat×Value):=[(5,.pointer (some ⟨200,0,none⟩)),(7,.pointer (some ⟨216,0,none⟩)),(8,.pointer (some ⟨224,0,none⟩)),(10,.pointer (some ⟨232,0,none⟩)),(11,.pointer (some ⟨240,0,none⟩))]
def oneM (cq:Array Value) (p q v0 v1 v2:Int):List (Nat×Blk):=[(200,ezB cq),(216,ib p),(224,ib q),(232,vb v0 v1 v2),(240,eb 0)]
def oneI (cq:Array Value) (p q:Int) (F:Nat→Nat→Int) (l:List Nat) (j:Nat) (h:Hp):Prop:=h=hpL G1 (oneM cq p q (oS (F 0) (l.take j)) (oS (F 1) (l.take j)) (oS (F 2) (l.take j)))
def oner (k:Nat):Nat:=if k=200 then 520 else if k=208 then 521 else if k=216 then 522 else k
theorem oner_id {k:Nat} (h:k<200):oner k=k:=by unfold oner;rw [if_neg (by omega),if_neg (by omega),if_neg (by omega)]
theorem cf_ids {D:Nat→Prop} {ka off n cap:Nat} {g bx tp nr md:Int} (h:D ka):(cfB (.slice (some ⟨ka,off,none⟩) n cap) g bx tp nr md).ids D:=by simp [cfB,ids_lit,idsF,ids0,h]
theorem st_ids {D:Nat→Prop} {ks off n cap:Nat} {st:Int} (h:D ks):(stB' st ks off n cap).ids D:=by simp [stB',ids_lit,idsF,ids0,h]
theorem oneAsd {L:List (Nat×Blk)} (hL:LOk L 200):(fun k=>if k∈520::521::522::keys L then none else hpL G1 L k)=hpL G1 []:=by
 funext k
 simp only [hpL_nil]
 split
 ·rename_i hm
  rcases List.mem_cons.1 hm with rfl|hm
  ·exact (G1_big _ (by omega)).symm
  ·rcases List.mem_cons.1 hm with rfl|hm
   ·exact (G1_big _ (by omega)).symm
   ·rcases List.mem_cons.1 hm with rfl|hm
    ·exact (G1_big _ (by omega)).symm
    ·obtain ⟨p,hp,rfl⟩:=mem_keys.1 hm
     exact (G1_big _ (hL.big p hp).1).symm
 ·rename_i hm
  exact eOut fun h=>hm (List.mem_cons_of_mem _ (List.mem_cons_of_mem _ (List.mem_cons_of_mem _ h)))
theorem kpull_ok {n d g m x0 x1 x2 r:Int} (hr:x0*x0+x1*x1+x2*x2=r) (k0:PIn n d g m x0 r) (k1:PIn n d g m x1 r) (k2:PIn n d g m x2 r) (K:Value→Prop):callK Tryz.prog G1 27 #[.int .i64 n,.int .i64 d,.int .i64 g,.int .i64 m,.agg #[.int .i64 x0,.int .i64 x1,.int .i64 x2]] K ↔
  K (.tuple #[.agg #[.int .i64 (pullV n d g m x0 r),.int .i64 (pullV n d g m x1 r),.int .i64 (pullV n d g m x2 r)],.int .i64 0]):=by
 subst hr
 exact callK_iff G1W (by kernel_rfl) (ppull_ok n d g m x0 x1 x2 ⟨k0.x0,k0.x1⟩ ⟨k1.x0,k1.x1⟩ ⟨k2.x0,k2.x1⟩ k0 k1 k2)
theorem kpull_z {n d g m x0 x1 x2:Int} (hr:x0*x0+x1*x1+x2*x2=0) (h0:inX x0) (h1:inX x1) (h2:inX x2) (hp:kprtB n d=true) (hg:1≤g∧g≤1048576) (hm:1≤m∧m≤1024) (K:Value→Prop):callK Tryz.prog G1 27 #[.int .i64 n,.int .i64 d,.int .i64 g,.int .i64 m,.agg #[.int .i64 x0,.int .i64 x1,.int .i64 x2]] K ↔
  K (.tuple #[.agg #[.int .i64 0,.int .i64 0,.int .i64 0],.int .i64 30]):=by
 obtain ⟨p1,p2,p3,p4⟩:=kprtB_iff.1 hp
 obtain ⟨h01,h02⟩:=h0
 have e:chkE n d g m x0 (x0*x0+x1*x1+x2*x2)=30:=by
  unfold chkE
  rw [hr,if_pos (by omega)]
  rfl
 have:=ppull_bad1 n d g m x0 x1 x2 ⟨h01,h02⟩ h1 h2 (by rw [e];decide)
 rw [e] at this
 exact callK_iff G1W (by kernel_rfl) this
theorem kp_way {fs:Nat→Int} (i k:Nat):(fs (6*k) - fs (6*i))*(fs (6*k) - fs (6*i))+(fs (6*k+1) - fs (6*i+1))*(fs (6*k+1) - fs (6*i+1))+(fs (6*k+2) - fs (6*i+2))*(fs (6*k+2) - fs (6*i+2))=d2F fs k i:=rfl
set_option maxRecDepth 8000 in
set_option maxHeartbeats 4000000 in
theorem kone_b0 (L:List (Nat×Blk)) (ka ks:Nat) (bm bs:Blk) (hT:LKa L ka ks bm bs) (off n cap off2 N2 cap2:Nat) (fm fs:Nat→Int) (hm:MB bm off n fm) (hSb:SB bs off2 N2 fs) (g bx tp nr md st:Int) (hs:i64 st) (p q z:Int) (hf:fitB n N2 (cfOk n fm g bx tp nr md) (rightB st fs N2)=false) :
  Fun Tryz.prog G1 9 #[cfV (.slice (some ⟨ka,off,none⟩) n cap) g bx tp nr md,.agg #[.int .i64 st,.slice (some ⟨ks,off2,none⟩) N2 cap2],.int .i64 p,.int .i64 q,.int .i64 z] (hpL G1 L) (keys L) (.ret (.tuple #[.agg #[.int .i64 0,.int .i64 0,.int .i64 0],.int .i64 2]) []):=by
 refine fun_ofD (B:=200) G1F Tryz.func9 rfl Tryz.call9 hT.ok ?_ (flatV_ids (by simp)) (by simp) (by simp) (by simp [Tryz.ntmps9]) (by omega) ?_
 ·simp [idsV,idsA,idsF,ids0,hT.ia,hT.ib,cfV]
 intro C hC hC0 hY
 have hA:=hT.a
 have hS:=hT.s
 have hne:=hT.ne
 have hna:=hT.na
 have hLow:=hT.low
 have hks:=hT.k1
 have hks2:=hT.k2
 have hfit:=kFits_ka L ka ks bm bs hT off n cap off2 N2 cap2 fm fs hm hSb g bx tp nr md st hs
 rw [hf] at hfit
 unfold cfV at hfit ⊢
 repeat' (first|refine gwA ?_|((first|refine gwR [19] ?_|refine gwD [19] ?_);intro Q hQ hP;simp [hC,hY,hA,hS,hne,hna];(repeat ((first|(refine heapK_L hfit hT.ok aMem ?_));try simp [hC,hY,hA,hS,hne,hna]));refine hQ _ _ _ _ (by kernel_rfl) ?_;clear hQ hP Q)|(refine gwC ?_ ?_<;>(intro hb;try (cases hb;done))))
 refine GW_scope' 0 (fun m s=>s=oneG L 0 0 0 2) rfl ?_ ?_
 ·rintro m _ rfl
  unfold oneG vb eb
  repeat' (first|refine gwA ?_|(refine gwX ?_;intro Q hQ hP;simp [hC,hY,hA,hS,hne,hna];refine hQ _ _ _ _ (by kernel_rfl) ?_;clear hQ hP Q)|(refine gwC ?_ ?_<;>(intro hb;try (cases hb;done))))
  refine ⟨.inr rfl,by simp [Tryz.results9],kpT G1F⟩
 ·intro _
  repeat' (first|refine gwA ?_|((first|refine gwR [19] ?_|refine gwD [19] ?_);intro Q hQ hP;simp [hC,hY,hA,hS,hne,hna];(repeat ((first|(refine heapK_L hfit hT.ok aMem ?_));try simp [hC,hY,hA,hS,hne,hna]));refine hQ _ _ _ _ (by kernel_rfl) ?_;clear hQ hP Q)|(refine gwC ?_ ?_<;>(intro hb;try (cases hb;done))))
  refine ⟨rfl,_,0,weakLL _ 1000 hC G1F hT.ok hT.fx hC0 (by omega) ?_ ?_ aMem,rfl⟩
  ·simp [idsV,idsA,idsF,ids0,dom,hA,hS,hne,hna]
  ·simp [vb,eb,ids_lit,idsF,ids0,dom,hA,hS,hne,hna]
set_option maxRecDepth 8000 in
set_option maxHeartbeats 8000000 in
theorem kone_b1 (L:List (Nat×Blk)) (ka ks:Nat) (bm bs:Blk) (hT:LKa L ka ks bm bs) (off n cap off2 N2 cap2:Nat) (fm fs:Nat→Int) (hm:MB bm off n fm) (hSb:SB bs off2 N2 fs) (g bx tp nr md st:Int) (hs:i64 st) (p q z:Int) (hf:fitB n N2 (cfOk n fm g bx tp nr md) (rightB st fs N2)=true) (hb0:¬((0≤z∧z<N2)∧kprtB p q=true)) :
  Fun Tryz.prog G1 9 #[cfV (.slice (some ⟨ka,off,none⟩) n cap) g bx tp nr md,.agg #[.int .i64 st,.slice (some ⟨ks,off2,none⟩) N2 cap2],.int .i64 p,.int .i64 q,.int .i64 z] (hpL G1 L) (keys L) (.ret (.tuple #[.agg #[.int .i64 0,.int .i64 0,.int .i64 0],.int .i64 2]) []):=by
 refine fun_ofD (B:=200) G1F Tryz.func9 rfl Tryz.call9 hT.ok ?_ (flatV_ids (by simp)) (by simp) (by simp) (by simp [Tryz.ntmps9]) (by omega) ?_
 ·simp [idsV,idsA,idsF,ids0,hT.ia,hT.ib,cfV]
 intro C hC hC0 hY
 have hA:=hT.a
 have hS:=hT.s
 have hne:=hT.ne
 have hna:=hT.na
 have hLow:=hT.low
 have hks:=hT.k1
 have hks2:=hT.k2
 have hfit:=kFits_ka L ka ks bm bs hT off n cap off2 N2 cap2 fm fs hm hSb g bx tp nr md st hs
 rw [hf] at hfit
 unfold cfV at hfit ⊢
 repeat' (first|refine gwA ?_|((first|refine gwR [19] ?_|refine gwD [19] ?_);intro Q hQ hP;simp [hC,hY,hA,hS,hne,hna];(repeat ((first|(refine heapK_L hfit hT.ok aMem ?_));try simp [hC,hY,hA,hS,hne,hna]));refine hQ _ _ _ _ (by kernel_rfl) ?_;clear hQ hP Q)|(refine gwC ?_ ?_<;>(intro hb;try (cases hb;done))))
 refine GW_scope' 0 (fun m s=>s=oneG L 0 0 0 2) rfl ?_ ?_
 ·rintro m _ rfl
  unfold oneG vb eb
  repeat' (first|refine gwA ?_|(refine gwX ?_;intro Q hQ hP;simp [hC,hY,hA,hS,hne,hna];refine hQ _ _ _ _ (by kernel_rfl) ?_;clear hQ hP Q)|(refine gwC ?_ ?_<;>(intro hb;try (cases hb;done))))
  refine ⟨.inr rfl,by simp [Tryz.results9],kpT G1F⟩
 ·intro _
  rw [kprtB_iff] at hb0
  have cs:z<0∨(¬z<0∧(N2:Int)≤z)∨(¬z<0∧¬(N2:Int)≤z∧p < -2097152)∨(¬z<0∧¬(N2:Int)≤z∧¬p < -2097152∧2097152<p)∨(¬z<0∧¬(N2:Int)≤z∧¬p < -2097152∧¬2097152<p∧q<1)∨(¬z<0∧¬(N2:Int)≤z∧¬p < -2097152∧¬2097152<p∧¬q<1∧2097152<q):=by omega
  rcases cs with c1|⟨c1,c2⟩|⟨c1,c2,c3⟩|⟨c1,c2,c3,c4⟩|⟨c1,c2,c3,c4,c5⟩|⟨c1,c2,c3,c4,c5,c6⟩
  ·
   repeat' (first|refine gwA ?_|((first|refine gwR [19] ?_|refine gwD [19] ?_);intro Q hQ hP;simp [hC,hY,hA,hS,hne,hna,c1];(repeat ((first|(refine heapK_L hfit hT.ok aMem ?_));try simp [hC,hY,hA,hS,hne,hna,c1]));refine hQ _ _ _ _ (by kernel_rfl) ?_;clear hQ hP Q)|(refine gwC ?_ ?_<;>(intro hb;try (cases hb;done))))
   refine ⟨rfl,_,0,weakLL _ 1000 hC G1F hT.ok hT.fx hC0 (by omega) ?_ ?_ aMem,rfl⟩
   ·simp [idsV,idsA,idsF,ids0,dom,hA,hS,hne,hna]
   ·simp [vb,eb,ids_lit,idsF,ids0,dom,hA,hS,hne,hna]
  ·
   repeat' (first|refine gwA ?_|((first|refine gwR [19] ?_|refine gwD [19] ?_);intro Q hQ hP;simp [hC,hY,hA,hS,hne,hna,c1,c2];(repeat ((first|(refine heapK_L hfit hT.ok aMem ?_));try simp [hC,hY,hA,hS,hne,hna,c1,c2]));refine hQ _ _ _ _ (by kernel_rfl) ?_;clear hQ hP Q)|(refine gwC ?_ ?_<;>(intro hb;try (cases hb;done))))
   refine ⟨rfl,_,0,weakLL _ 1000 hC G1F hT.ok hT.fx hC0 (by omega) ?_ ?_ aMem,rfl⟩
   ·simp [idsV,idsA,idsF,ids0,dom,hA,hS,hne,hna]
   ·simp [vb,eb,ids_lit,idsF,ids0,dom,hA,hS,hne,hna]
  ·
   repeat' (first|refine gwA ?_|((first|refine gwR [19] ?_|refine gwD [19] ?_);intro Q hQ hP;simp [hC,hY,hA,hS,hne,hna,c1,c2,c3];(repeat ((first|(refine heapK_L hfit hT.ok aMem ?_));try simp [hC,hY,hA,hS,hne,hna,c1,c2,c3]));refine hQ _ _ _ _ (by kernel_rfl) ?_;clear hQ hP Q)|(refine gwC ?_ ?_<;>(intro hb;try (cases hb;done))))
   refine ⟨rfl,_,0,weakLL _ 1000 hC G1F hT.ok hT.fx hC0 (by omega) ?_ ?_ aMem,rfl⟩
   ·simp [idsV,idsA,idsF,ids0,dom,hA,hS,hne,hna]
   ·simp [vb,eb,ids_lit,idsF,ids0,dom,hA,hS,hne,hna]
  ·
   repeat' (first|refine gwA ?_|((first|refine gwR [19] ?_|refine gwD [19] ?_);intro Q hQ hP;simp [hC,hY,hA,hS,hne,hna,c1,c2,c3,c4];(repeat ((first|(refine heapK_L hfit hT.ok aMem ?_));try simp [hC,hY,hA,hS,hne,hna,c1,c2,c3,c4]));refine hQ _ _ _ _ (by kernel_rfl) ?_;clear hQ hP Q)|(refine gwC ?_ ?_<;>(intro hb;try (cases hb;done))))
   refine ⟨rfl,_,0,weakLL _ 1000 hC G1F hT.ok hT.fx hC0 (by omega) ?_ ?_ aMem,rfl⟩
   ·simp [idsV,idsA,idsF,ids0,dom,hA,hS,hne,hna]
   ·simp [vb,eb,ids_lit,idsF,ids0,dom,hA,hS,hne,hna]
  ·
   repeat' (first|refine gwA ?_|((first|refine gwR [19] ?_|refine gwD [19] ?_);intro Q hQ hP;simp [hC,hY,hA,hS,hne,hna,c1,c2,c3,c4,c5];(repeat ((first|(refine heapK_L hfit hT.ok aMem ?_));try simp [hC,hY,hA,hS,hne,hna,c1,c2,c3,c4,c5]));refine hQ _ _ _ _ (by kernel_rfl) ?_;clear hQ hP Q)|(refine gwC ?_ ?_<;>(intro hb;try (cases hb;done))))
   refine ⟨rfl,_,0,weakLL _ 1000 hC G1F hT.ok hT.fx hC0 (by omega) ?_ ?_ aMem,rfl⟩
   ·simp [idsV,idsA,idsF,ids0,dom,hA,hS,hne,hna]
   ·simp [vb,eb,ids_lit,idsF,ids0,dom,hA,hS,hne,hna]
  ·
   repeat' (first|refine gwA ?_|((first|refine gwR [19] ?_|refine gwD [19] ?_);intro Q hQ hP;simp [hC,hY,hA,hS,hne,hna,c1,c2,c3,c4,c5,c6];(repeat ((first|(refine heapK_L hfit hT.ok aMem ?_));try simp [hC,hY,hA,hS,hne,hna,c1,c2,c3,c4,c5,c6]));refine hQ _ _ _ _ (by kernel_rfl) ?_;clear hQ hP Q)|(refine gwC ?_ ?_<;>(intro hb;try (cases hb;done))))
   refine ⟨rfl,_,0,weakLL _ 1000 hC G1F hT.ok hT.fx hC0 (by omega) ?_ ?_ aMem,rfl⟩
   ·simp [idsV,idsA,idsF,ids0,dom,hA,hS,hne,hna]
   ·simp [vb,eb,ids_lit,idsF,ids0,dom,hA,hS,hne,hna]
set_option maxRecDepth 8000 in
set_option maxHeartbeats 8000000 in
theorem kone_ok (L:List (Nat×Blk)) (ka ks:Nat) (bm bs:Blk) (hT:LKa L ka ks bm bs) (off n cap off2 cap2:Nat) (fm fs:Nat→Int) (hm:MB bm off n fm) (hSb:SB bs off2 n fs) (g bx tp nr md st:Int) (hs:i64 st) (p q z:Int) (hok:cfOk n fm g bx tp nr md=true) (hrt:rightB st fs n=true) (hp:kprtB p q=true) (i:Nat) (hi:i<n) (hiz:(i:Int)=z) (hz:kZ fs n i=false) :
  Fun Tryz.prog G1 9 #[cfV (.slice (some ⟨ka,off,none⟩) n cap) g bx tp nr md,.agg #[.int .i64 st,.slice (some ⟨ks,off2,none⟩) n cap2],.int .i64 p,.int .i64 q,.int .i64 z] (hpL G1 L) (keys L) (.ret (.tuple #[.agg #[.int .i64 (kS p q g fm fs n i 0),.int .i64 (kS p q g fm fs n i 1),.int .i64 (kS p q g fm fs n i 2)],.int .i64 0]) []):=by
 refine fun_ofD (B:=200) G1F Tryz.func9 rfl Tryz.call9 hT.ok ?_ (flatV_ids (by simp)) (by simp) (by simp) (by simp [Tryz.ntmps9]) (by omega) ?_
 ·simp [idsV,idsA,idsF,ids0,hT.ia,hT.ib,cfV]
 intro C hC hC0 hY
 have hA:=hT.a
 have hS:=hT.s
 have hne:=hT.ne
 have hna:=hT.na
 have hLow:=hT.low
 have hks:=hT.k1
 have hks2:=hT.k2
 have hfit:=kFits_ka L ka ks bm bs hT off n cap off2 n cap2 fm fs hm hSb g bx tp nr md st hs
 rw [fitB_iff.2 ⟨rfl,hok,hrt⟩] at hfit
 have hn4:=(right_n hrt).2.1
 have hpr:=others_at 520 (by omega) L ka ks bm bs hT off n cap off2 n cap2 g bx tp nr md st z
 have hit:=others_it L ka ks bm bs hT off n cap off2 cap2 fm fs hm hSb g bx tp nr md st hrt i hi
 rw [hiz] at hit
 obtain ⟨p1,p2,p3,p4⟩:=kprtB_iff.1 hp
 have c1:¬z<0:=by omega
 have c2:¬(n:Int)≤z:=by omega
 have c3:¬p < -2097152:=by omega
 have c4:¬2097152<p:=by omega
 have c5:¬q<1:=by omega
 have c6:¬2097152<q:=by omega
 unfold cfV at hfit hpr ⊢
 repeat' (first|refine gwA ?_|((first|refine gwR [19] ?_|refine gwD [19] ?_);intro Q hQ hP;simp [hC,hY,hA,hS,hne,hna];(repeat ((first|(refine heapK_L hfit hT.ok aMem ?_));try simp [hC,hY,hA,hS,hne,hna]));refine hQ _ _ _ _ (by kernel_rfl) ?_;clear hQ hP Q)|(refine gwC ?_ ?_<;>(intro hb;try (cases hb;done))))
 refine GW_scope' 0 (fun _ _=>False) rfl (fun _ _ h=>h.elim) ?_
 intro _
 repeat' (first|refine gwA ?_|((first|refine gwR [19] ?_|refine gwD [19] ?_);intro Q hQ hP;simp [hC,hY,hA,hS,hne,hna,c1,c2,c3,c4,c5,c6];(repeat ((first|(refine heapK_L hfit hT.ok aMem ?_));try simp [hC,hY,hA,hS,hne,hna,c1,c2,c3,c4,c5,c6]));refine hQ _ _ _ _ (by kernel_rfl) ?_;clear hQ hP Q)|(refine gwC ?_ ?_<;>(intro hb;try (cases hb;done))))
 refine GW_list ?_
 simp only [Array.toList]
 refine GL_walk 3 [] rfl (by simp) (by kernel_rfl) ?_;intro q hq;simp [hC,hY,hA,hS,hne,hna];refine hq _ _ _ _ ?_;clear hq q
 simp only [wT,List.length_cons,List.length_nil,Nat.reduceAdd]
 refine GL_callL (f:=.func 26) (cap:=#[]) hC hpr rfl (by simp) rfl rfl (by simp [okT]) (by simp [gev]) (by simp) (by simp [okX,junk]) (by simp [gev]) (by intro q hq;obtain ⟨p,hp,rfl⟩:=mem_keys.1 hq;have hpb:=hT.ok.big p hp;(try dsimp only);simp (disch:=omega) only [upd_other]) (by (intro k hk;first|exact hLow k hk|(simp (disch:=omega) only [hLow,addB,List.mem_cons,List.not_mem_nil,or_false,upd_other,hpL_cons,hpL_nil,if_neg,updL,List.cons_append,List.nil_append]<;>done))) (fun v ns hV k hk=>by have:=othersR_key hV k hk;simp;omega) ?_
 rintro v ns ⟨rfl,rfl⟩
 refine GL_nil ?_
 repeat' (first|refine gwA ?_|(refine gwX ?_;intro Q hQ hP;simp [hC,hY,putT,updL,hA,hS,hne,hna];refine hQ _ _ _ _ (by kernel_rfl) ?_;clear hQ hP Q)|(refine gwC ?_ ?_<;>(intro hb;try (cases hb;done))))
 simp only [putT,updL]
 refine GW_freeze 200 (t:=24) (cs:=#[.slice (some ⟨ka,off,none⟩) n cap,.int .i64 g,.int .i64 bx,.int .i64 tp,.int .i64 nr,.int .i64 md]) (by simp [cfB]) (by omega) ?_
 intro cq hq1 hq2
 have hq4:cq[1]? = some (.int .i64 g):=hq2 1 _ rfl rfl
 have hq6:cq.size=6:=hq1
 have hidL:∀ k∈keys L,oner k=k:=fun k hk=>by
  obtain ⟨p,hp,rfl⟩:=mem_keys.1 hk
  exact oner_id (hT.ok.big p hp).2
 have hout:∀ k,200≤k→k≠520→k≠521→k≠522→(k∈520::521::522::keys L)=False:=fun k h1 h2 h3 h4=>eq_false fun hm=>by
  rcases List.mem_cons.1 hm with e|hm
  ·exact h2 e
  ·rcases List.mem_cons.1 hm with e|hm
   ·exact h3 e
   ·rcases List.mem_cons.1 hm with e|hm
    ·exact h4 e
    ·obtain ⟨p,hp,rfl⟩:=mem_keys.1 hm
     have:=(hT.ok.big p hp).2
     omega
 have hall:∀ k,k∈520::521::522::keys L→k=520∨k=521∨k=522∨(100≤k∧k<200):=fun k hk=>by
  rcases List.mem_cons.1 hk with rfl|hk
  ·exact .inl rfl
  ·rcases List.mem_cons.1 hk with rfl|hk
   ·exact .inr (.inl rfl)
   ·rcases List.mem_cons.1 hk with rfl|hk
    ·exact .inr (.inr (.inl rfl))
    ·obtain ⟨p,hp,rfl⟩:=mem_keys.1 hk
     exact .inr (.inr (.inr (hT.ok.big p hp)))
 have hasd:∀ C0:Ctx,(C0.hp0=fun k=>if k∈520::521::522::keys L then none else C.hp0 k)→C0.hp0=hpL G1 []:=fun C0 h0=>by
  rw [h0,hC0]
  exact oneAsd hT.ok
 have hQa:ka∈520::521::522::keys L∨(ka<100∧dom C.G ka):=by
  rw [hC]
  exact hT.aQ.imp (fun h=>List.mem_cons_of_mem _ (List.mem_cons_of_mem _ (List.mem_cons_of_mem _ h))) id
 have hQs:ks∈520::521::522::keys L∨(ks<100∧dom C.G ks):=.inl (List.mem_cons_of_mem _ (List.mem_cons_of_mem _ (List.mem_cons_of_mem _ hT.kbk)))
 refine GW_rangeKg (f:=42) (rs:=520::521::522::keys L) (xs:=(otIx n i).map (otV fm fs i)) (caps:=#[.pointer (some ⟨521,0,none⟩),.pointer (some ⟨522,0,none⟩),.pointer (some ⟨520,0,none⟩)]) (520::521::522::keys L) hY (by simp) ?_ ?_ (by simp [Tryz.ntmps9]) (tsL oneTs) (tsL oneTs) (oneI cq p q (kpF p q g fm fs i) (otIx n i)) (hpS:=hpL G1 (oneM cq p q 0 0 0)) 1000 (otIx n i).length (by simp) (fun k hk=>hk) ?_ ?_ ?_ ?_ ?_ (fun _=>.inl rfl) ?_ ?_
 ·rw [hC]
  refine iterk_mvD hit (otM_ok hT off n cap off2 n cap2 g bx tp nr md st z) oner (fun k hk=>oner_id (by omega)) (by simp [ren0,oner]) ?_ (by (intro k hk;first|exact hLow k hk|(simp (disch:=omega) only [hLow,addB,List.mem_cons,List.not_mem_nil,or_false,upd_other,hpL_cons,hpL_nil,if_neg,updL,List.cons_append,List.nil_append]<;>done))) ?_ ?_
  ·show oner 200::oner 208::oner 216::(keys L).map oner=_
   rw [List.map_congr_left hidL]
   simp [oner]
  ·intro p hp
   rcases List.mem_cons.1 hp with rfl|hp
   ·have h3:oner ka=ka:=oner_id hT.a2
    simp [cfB,Blk.rn,renF,ren0,upd,h3]
    simp [oner,upd]
   ·rcases List.mem_cons.1 hp with rfl|hp
    ·have h3:oner ks=ks:=oner_id hks2
     simp [stB',Blk.rn,renF,ren0,upd,h3]
     simp [oner,upd]
    ·rcases List.mem_cons.1 hp with rfl|hp
     ·simp [ib,oner,Blk.rn,renF,ren0,upd]
     ·have hpb:=hT.ok.big p hp
      rw [oner_id hpb.2,Blk.fx_rn (hT.fx p hp)]
      refine ⟨hpb.1,?_⟩
      (try dsimp only)
      simp (disch:=omega) only [addB,upd_other,hpL_cons,hpL_nil,if_neg,updL]
      exact hT.mem p hp
  ·have key:∀ k∈keys (otM L ka ks off n cap off2 n cap2 g bx tp nr md st z),(k=200∧oner k=520)∨(k=208∧oner k=521)∨(k=216∧oner k=522)∨(k<200∧oner k=k):=fun k hk=>by
    rcases List.mem_cons.1 hk with rfl|hk
    ·exact .inl ⟨rfl,rfl⟩
    ·rcases List.mem_cons.1 hk with rfl|hk
     ·exact .inr (.inl ⟨rfl,rfl⟩)
     ·rcases List.mem_cons.1 hk with rfl|hk
      ·exact .inr (.inr (.inl ⟨rfl,rfl⟩))
      ·obtain ⟨p,hp,rfl⟩:=mem_keys.1 hk
       have:=(hT.ok.big p hp).2
       exact .inr (.inr (.inr ⟨this,oner_id this⟩))
   intro k hk l hl e
   have:=key k hk
   have:=key l hl
   omega
 ·intro x hx
  simp only [List.mem_map] at hx
  obtain ⟨p,_,rfl⟩:=hx
  simp [otV]
 ·intro k hk
  rcases List.mem_cons.1 hk with rfl|hk
  ·simp [dom,upd]
  ·rcases List.mem_cons.1 hk with rfl|hk
   ·simp [dom,upd]
   ·rcases List.mem_cons.1 hk with rfl|hk
    ·simp [dom,upd]
    ·obtain ⟨p,hp,rfl⟩:=mem_keys.1 hk
     have hpb:=hT.ok.big p hp
     refine ⟨hpb.1,?_⟩
     unfold dom
     dsimp only
     simp (disch:=omega) only [addB,upd_other,hpL_cons,hpL_nil,if_neg,updL]
     rw [hT.mem p hp]
     simp
 ·intro k hk b hb1
  rcases List.mem_cons.1 hk with rfl|hk
  ·simp [upd] at hb1;subst hb1;exact cf_ids hQa
  ·rcases List.mem_cons.1 hk with rfl|hk
   ·simp [upd] at hb1;subst hb1;exact st_ids hQs
   ·rcases List.mem_cons.1 hk with rfl|hk
    ·simp [upd] at hb1;subst hb1;simp [ib,ids_lit,idsF,ids0]
    ·obtain ⟨p,hp,rfl⟩:=mem_keys.1 hk
     have hpb:=hT.ok.big p hp
     dsimp only at hb1
     simp (disch:=omega) only [addB,upd_other,hpL_cons,hpL_nil,if_neg,updL] at hb1
     rw [hT.mem p hp] at hb1
     simp only [Option.some.injEq] at hb1
     subst hb1
     exact Blk.fx_ids (hT.fx p hp) _
 ·intro C0 h1 h2
  refine weakL _ 1000 (h1.trans hC) G1F (m0:=[]) (hasd C0 h2) (by omega) ?_ ?_ ?_
  ·simp [oneTs,oneM,idsV,idsA,idsF,ids0,dom]
  ·simp [oneM,ezB_ids,vb,ib,eb,ids_lit,idsF,ids0,dom,upd]
   rfl
  ·simp
 ·simp [oneI,oS]
 ·intro k hk
  have h3:=hall k hk
  rw [eOut (fun hm=>?_)]
  ·exact G1_big k (by omega)
  ·simp [oneM,keys] at hm
   omega
 ·intro j x hq0 hj0 hx hI C1 lb hC1 hh1 hY1
  have hj:j<(otIx n i).length:=by omega
  unfold oneI at hI
  subst hI
  rw [List.getElem?_map,List.getElem?_eq_getElem hj] at hx
  simp only [Option.map_some,Option.some.injEq] at hx
  subst hx
  have t0:=oS_take (kpF p q g fm fs i 0) hj
  have t1:=oS_take (kpF p q g fm fs i 1) hj
  have t2:=oS_take (kpF p q g fm fs i 2) hj
  have hmem:=List.getElem_mem hj
  have hk2:=(ot_mem.1 hmem).1
  have hz1:¬d2F fs (otIx n i)[j] i=0:=kZ_f.1 hz _ hk2 (ot_mem.1 hmem).2
  have hpre:∀ k∈(otIx n i).take j,k<n∧¬d2F fs k i=0:=fun k hk=>by have:=ot_mem.1 (List.mem_of_mem_take hk);exact ⟨this.1,kZ_f.1 hz k this.1 this.2⟩
  have hl4:((otIx n i).take j).length≤4:=by rw [List.length_take];have:=ot_len (i:=i) hn4.2;omega
  have u0:=kp_bd (u:=0) hok hrt hp hi (by omega) hpre hl4
  have u1:=kp_bd (u:=1) hok hrt hp hi (by omega) hpre hl4
  have u2:=kp_bd (u:=2) hok hrt hp hi (by omega) hpre hl4
  unfold oneI
  rw [t0,t1,t2]
  clear t0 t1 t2 hpre hl4 hj0
  generalize (otIx n i)[j]=k at *
  have P0:=kp_in (u:=0) hok hrt hp hi hk2 (by omega) hz1
  have P1:=kp_in (u:=1) hok hrt hp hi hk2 (by omega) hz1
  have P2:=kp_in (u:=2) hok hrt hp hi hk2 (by omega) hz1
  have y0:=kp_val P0
  have y1:=kp_val P1
  have y2:=kp_val P2
  have P:=fun K=>kpull_ok (kp_way i k) P0 P1 P2 K
  have f0:kpF p q g fm fs i 0 k=pullV p q g (fm k) (fs (6*k) - fs (6*i)) (d2F fs k i):=rfl
  have f1:kpF p q g fm fs i 1 k=pullV p q g (fm k) (fs (6*k+1) - fs (6*i+1)) (d2F fs k i):=rfl
  have f2:kpF p q g fm fs i 2 k=pullV p q g (fm k) (fs (6*k+2) - fs (6*i+2)) (d2F fs k i):=rfl
  simp only [Nat.add_zero] at y0 P
  rw [f0,f1,f2]
  clear P0 P1 P2 f0 f1 f2
  have hld:=ez_ld hq4
  generalize oS (kpF p q g fm fs i 0) ((otIx n i).take j)=A0 at *
  generalize oS (kpF p q g fm fs i 1) ((otIx n i).take j)=A1 at *
  generalize oS (kpF p q g fm fs i 2) ((otIx n i).take j)=A2 at *
  generalize pullV p q g (fm k) (fs (6*k) - fs (6*i)) (d2F fs k i)=a0 at *
  generalize pullV p q g (fm k) (fs (6*k+1) - fs (6*i+1)) (d2F fs k i)=a1 at *
  generalize pullV p q g (fm k) (fs (6*k+2) - fs (6*i+2)) (d2F fs k i)=a2 at *
  have q0:Int.bmod (A0+a0) 18446744073709551616=A0+a0:=Go.Gy.bm (by omega) (by omega)
  have q1:Int.bmod (A1+a1) 18446744073709551616=A1+a1:=Go.Gy.bm (by omega) (by omega)
  have q2:Int.bmod (A2+a2) 18446744073709551616=A2+a2:=Go.Gy.bm (by omega) (by omega)
  have hCC:=hC
  have hC1':C1.G=G1:=hC1.trans hC
  unfold otV
  clear hC hY
  have hC:=hC1'
  have hY:=hY1
  unfold oneM vb ib eb ezB
  repeat' (first|refine gwA ?_|(refine gwX ?_;intro Q hQ hP;simp [hC,hY,roundTs,oneTs];refine hQ _ _ _ _ (by kernel_rfl) ?_;clear hQ hP Q)|(refine gwC ?_ ?_<;>(intro hb;try (cases hb;done))))
  intro C2 hC2 hh2 hY2
  clear hC hY
  have hC:C2.G=G1:=hC2.trans hCC
  have hY:=hY2
  repeat' (first|refine gwA ?_|((first|refine gwR [28] ?_|refine gwD [28] ?_);intro Q hQ hP;simp [hC,hY,P,hld];(repeat ((first|(refine kplus_K (by omega) (by simp [vb]) q0 q1 q2 ?_));try simp [hC,hY,P,hld]));refine hQ _ _ _ _ (by kernel_rfl) ?_;clear hQ hP Q)|(refine gwC ?_ ?_<;>(intro hb;try (cases hb;done))))
  refine ⟨fun k=>k,hpL G1 (oneM cq p q (A0+a0) (A1+a1) (A2+a2)),fun C0 h1 h2=>weakRL _ _ 1000 (h1.trans hCC) G1F (m0:=[]) (hasd C0 h2) (by omega) ?_ ?_ ?_ ?_ ?_,rfl⟩
  ·simp [oneTs,oneM,dom,junk,ren,renA,renF,ren0,idsV,idsA,idsF,ids0]
  ·simp [oneM,ezB_rn,ezB_ids,vb,ib,eb,Blk.rn,renF,ren0,ids_lit,idsF,ids0,dom]
   rfl
  ·simp [oneM]
  ·intro k hk;rfl
  ·simp
 ·refine .inl ⟨by simp,?_⟩
  rintro hq hI
  have hI':hq=hpL G1 (oneM cq p q (kS p q g fm fs n i 0) (kS p q g fm fs n i 1) (kS p q g fm fs n i 2)):=by
   rw [hI,List.take_length]
   rfl
  subst hI'
  refine ⟨fun k hk=>?_,?_⟩
  ·have h3:=hall k hk
   refine ⟨?_,by omega⟩
   rw [eOut (fun hm=>?_)]
   ·exact G1_big k (by omega)
   ·simp [oneM,keys] at hm
    omega
  have hm16:=hout 232 (by omega) (by omega) (by omega) (by omega)
  have hm24:=hout 240 (by omega) (by omega) (by omega) (by omega)
  unfold oneTs oneM vb eb
  repeat' (first|refine gwA ?_|(refine gwX ?_;intro Q hQ hP;simp [hC,hY,addB,hm16,hm24];refine hQ _ _ _ _ (by kernel_rfl) ?_;clear hQ hP Q)|(refine gwC ?_ ?_<;>(intro hb;try (cases hb;done))))
  refine ⟨.inr rfl,by simp [Tryz.results9,addB,hm16,hm24],keep_of G1F (fun p hp=>by
    have hpb:=hT.ok.big p hp
    have hm9:p.1∈520::521::522::keys L:=List.mem_cons_of_mem _ (List.mem_cons_of_mem _ (List.mem_cons_of_mem _ (mem_keys.2 ⟨p,hp,rfl⟩)))
    simp (disch:=omega) only [eIn hm9,upd_other,hpL_cons,hpL_nil,if_neg,updL]) (fun k hk=>by
    have hm9:k∉520::521::522::keys L:=fun hm9=>by have:=hall k hm9;omega
    simp (disch:=omega) only [eNi hm9,upd_other,hpL_cons,hpL_nil,if_neg,updL,hLow])⟩
theorem first1 {P:Nat→Prop}:∀ {l:List Nat},(∃ p∈l,P p)→∃ N,∃ h:N<l.length,P l[N]∧∀ j,j<N→∀ h:j<l.length,¬P l[j]
 | [],h=>by obtain ⟨p,hp,_⟩:=h;cases hp
 | a::l,h=>by
  by_cases ha:P a
  ·exact ⟨0,by simp,ha,fun j hj=>by omega⟩
  ·obtain ⟨p,hp,hP⟩:=h
   rcases List.mem_cons.1 hp with rfl|hp
   ·exact absurd hP ha
   ·obtain ⟨N,h1,h2,h3⟩:=first1 ⟨p,hp,hP⟩
    refine ⟨N+1,by simpa using h1,by simpa using h2,fun j hj hl=>?_⟩
    cases j with
    | zero=>exact ha
    | succ j=>simpa using h3 j (by omega) (by simpa using hl)
set_option maxRecDepth 8000 in
set_option maxHeartbeats 8000000 in
theorem kone_z (L:List (Nat×Blk)) (ka ks:Nat) (bm bs:Blk) (hT:LKa L ka ks bm bs) (off n cap off2 cap2:Nat) (fm fs:Nat→Int) (hm:MB bm off n fm) (hSb:SB bs off2 n fs) (g bx tp nr md st:Int) (hs:i64 st) (p q z:Int) (hok:cfOk n fm g bx tp nr md=true) (hrt:rightB st fs n=true) (hp:kprtB p q=true) (i:Nat) (hi:i<n) (hiz:(i:Int)=z) (hz:kZ fs n i=true) :
  Fun Tryz.prog G1 9 #[cfV (.slice (some ⟨ka,off,none⟩) n cap) g bx tp nr md,.agg #[.int .i64 st,.slice (some ⟨ks,off2,none⟩) n cap2],.int .i64 p,.int .i64 q,.int .i64 z] (hpL G1 L) (keys L) (.ret (.tuple #[.agg #[.int .i64 0,.int .i64 0,.int .i64 0],.int .i64 30]) []):=by
 refine fun_ofD (B:=200) G1F Tryz.func9 rfl Tryz.call9 hT.ok ?_ (flatV_ids (by simp)) (by simp) (by simp) (by simp [Tryz.ntmps9]) (by omega) ?_
 ·simp [idsV,idsA,idsF,ids0,hT.ia,hT.ib,cfV]
 intro C hC hC0 hY
 have hA:=hT.a
 have hS:=hT.s
 have hne:=hT.ne
 have hna:=hT.na
 have hLow:=hT.low
 have hks:=hT.k1
 have hks2:=hT.k2
 have hfit:=kFits_ka L ka ks bm bs hT off n cap off2 n cap2 fm fs hm hSb g bx tp nr md st hs
 rw [fitB_iff.2 ⟨rfl,hok,hrt⟩] at hfit
 have hn4:=(right_n hrt).2.1
 have hpr:=others_at 520 (by omega) L ka ks bm bs hT off n cap off2 n cap2 g bx tp nr md st z
 have hit:=others_it L ka ks bm bs hT off n cap off2 cap2 fm fs hm hSb g bx tp nr md st hrt i hi
 rw [hiz] at hit
 obtain ⟨p1,p2,p3,p4⟩:=kprtB_iff.1 hp
 have c1:¬z<0:=by omega
 have c2:¬(n:Int)≤z:=by omega
 have c3:¬p < -2097152:=by omega
 have c4:¬2097152<p:=by omega
 have c5:¬q<1:=by omega
 have c6:¬2097152<q:=by omega
 obtain ⟨N,hN,hzN,hbef⟩:=first1 (P:=fun k=>d2F fs k i=0) (l:=otIx n i) (by obtain ⟨k,h1,h2,h3⟩:=kZ_t.1 hz;exact ⟨k,ot_mem.2 ⟨h1,h2⟩,h3⟩)
 replace hzN:d2F fs (otIx n i)[N] i=0:=hzN
 unfold cfV at hfit hpr ⊢
 repeat' (first|refine gwA ?_|((first|refine gwR [19] ?_|refine gwD [19] ?_);intro Q hQ hP;simp [hC,hY,hA,hS,hne,hna];(repeat ((first|(refine heapK_L hfit hT.ok aMem ?_));try simp [hC,hY,hA,hS,hne,hna]));refine hQ _ _ _ _ (by kernel_rfl) ?_;clear hQ hP Q)|(refine gwC ?_ ?_<;>(intro hb;try (cases hb;done))))
 refine GW_scope' 0 (fun m s=>∃ v0 v1 v2,s=⟨tsL [(10,.pointer (some ⟨232,0,none⟩)),(11,.pointer (some ⟨240,0,none⟩))],hpL G1 ([(232,vb v0 v1 v2),(240,eb 30)]++L),2000,0⟩) rfl ?_ ?_
 ·rintro m _ ⟨v0,v1,v2,rfl⟩
  unfold vb eb
  repeat' (first|refine gwA ?_|(refine gwX ?_;intro Q hQ hP;simp [hC,hY,hA,hS,hne,hna];refine hQ _ _ _ _ (by kernel_rfl) ?_;clear hQ hP Q)|(refine gwC ?_ ?_<;>(intro hb;try (cases hb;done))))
  refine ⟨.inr rfl,by simp [Tryz.results9],kpT G1F⟩
 intro _
 repeat' (first|refine gwA ?_|((first|refine gwR [19] ?_|refine gwD [19] ?_);intro Q hQ hP;simp [hC,hY,hA,hS,hne,hna,c1,c2,c3,c4,c5,c6];(repeat ((first|(refine heapK_L hfit hT.ok aMem ?_));try simp [hC,hY,hA,hS,hne,hna,c1,c2,c3,c4,c5,c6]));refine hQ _ _ _ _ (by kernel_rfl) ?_;clear hQ hP Q)|(refine gwC ?_ ?_<;>(intro hb;try (cases hb;done))))
 refine GW_list ?_
 simp only [Array.toList]
 refine GL_walk 3 [] rfl (by simp) (by kernel_rfl) ?_;intro q hq;simp [hC,hY,hA,hS,hne,hna];refine hq _ _ _ _ ?_;clear hq q
 simp only [wT,List.length_cons,List.length_nil,Nat.reduceAdd]
 refine GL_callL (f:=.func 26) (cap:=#[]) hC hpr rfl (by simp) rfl rfl (by simp [okT]) (by simp [gev]) (by simp) (by simp [okX,junk]) (by simp [gev]) (by intro q hq;obtain ⟨p,hp,rfl⟩:=mem_keys.1 hq;have hpb:=hT.ok.big p hp;(try dsimp only);simp (disch:=omega) only [upd_other]) (by (intro k hk;first|exact hLow k hk|(simp (disch:=omega) only [hLow,addB,List.mem_cons,List.not_mem_nil,or_false,upd_other,hpL_cons,hpL_nil,if_neg,updL,List.cons_append,List.nil_append]<;>done))) (fun v ns hV k hk=>by have:=othersR_key hV k hk;simp;omega) ?_
 rintro v ns ⟨rfl,rfl⟩
 refine GL_nil ?_
 repeat' (first|refine gwA ?_|(refine gwX ?_;intro Q hQ hP;simp [hC,hY,putT,updL,hA,hS,hne,hna];refine hQ _ _ _ _ (by kernel_rfl) ?_;clear hQ hP Q)|(refine gwC ?_ ?_<;>(intro hb;try (cases hb;done))))
 simp only [putT,updL]
 refine GW_freeze 200 (t:=24) (cs:=#[.slice (some ⟨ka,off,none⟩) n cap,.int .i64 g,.int .i64 bx,.int .i64 tp,.int .i64 nr,.int .i64 md]) (by simp [cfB]) (by omega) ?_
 intro cq hq1 hq2
 have hq4:cq[1]? = some (.int .i64 g):=hq2 1 _ rfl rfl
 have hq6:cq.size=6:=hq1
 have hidL:∀ k∈keys L,oner k=k:=fun k hk=>by
  obtain ⟨p,hp,rfl⟩:=mem_keys.1 hk
  exact oner_id (hT.ok.big p hp).2
 have hout:∀ k,200≤k→k≠520→k≠521→k≠522→(k∈520::521::522::keys L)=False:=fun k h1 h2 h3 h4=>eq_false fun hm=>by
  rcases List.mem_cons.1 hm with e|hm
  ·exact h2 e
  ·rcases List.mem_cons.1 hm with e|hm
   ·exact h3 e
   ·rcases List.mem_cons.1 hm with e|hm
    ·exact h4 e
    ·obtain ⟨p,hp,rfl⟩:=mem_keys.1 hm
     have:=(hT.ok.big p hp).2
     omega
 have hall:∀ k,k∈520::521::522::keys L→k=520∨k=521∨k=522∨(100≤k∧k<200):=fun k hk=>by
  rcases List.mem_cons.1 hk with rfl|hk
  ·exact .inl rfl
  ·rcases List.mem_cons.1 hk with rfl|hk
   ·exact .inr (.inl rfl)
   ·rcases List.mem_cons.1 hk with rfl|hk
    ·exact .inr (.inr (.inl rfl))
    ·obtain ⟨p,hp,rfl⟩:=mem_keys.1 hk
     exact .inr (.inr (.inr (hT.ok.big p hp)))
 have hasd:∀ C0:Ctx,(C0.hp0=fun k=>if k∈520::521::522::keys L then none else C.hp0 k)→C0.hp0=hpL G1 []:=fun C0 h0=>by
  rw [h0,hC0]
  exact oneAsd hT.ok
 have hQa:ka∈520::521::522::keys L∨(ka<100∧dom C.G ka):=by
  rw [hC]
  exact hT.aQ.imp (fun h=>List.mem_cons_of_mem _ (List.mem_cons_of_mem _ (List.mem_cons_of_mem _ h))) id
 have hQs:ks∈520::521::522::keys L∨(ks<100∧dom C.G ks):=.inl (List.mem_cons_of_mem _ (List.mem_cons_of_mem _ (List.mem_cons_of_mem _ hT.kbk)))
 refine GW_rangeKg (f:=42) (rs:=520::521::522::keys L) (xs:=(otIx n i).map (otV fm fs i)) (caps:=#[.pointer (some ⟨521,0,none⟩),.pointer (some ⟨522,0,none⟩),.pointer (some ⟨520,0,none⟩)]) (520::521::522::keys L) hY (by simp) ?_ ?_ (by simp [Tryz.ntmps9]) (tsL oneTs) (tsL oneTs) (oneI cq p q (kpF p q g fm fs i) (otIx n i)) (hpS:=hpL G1 (oneM cq p q 0 0 0)) 1000 N (by simp;omega) (fun k hk=>hk) ?_ ?_ ?_ ?_ ?_ (fun _=>.inl rfl) ?_ ?_
 ·rw [hC]
  refine iterk_mvD hit (otM_ok hT off n cap off2 n cap2 g bx tp nr md st z) oner (fun k hk=>oner_id (by omega)) (by simp [ren0,oner]) ?_ (by (intro k hk;first|exact hLow k hk|(simp (disch:=omega) only [hLow,addB,List.mem_cons,List.not_mem_nil,or_false,upd_other,hpL_cons,hpL_nil,if_neg,updL,List.cons_append,List.nil_append]<;>done))) ?_ ?_
  ·show oner 200::oner 208::oner 216::(keys L).map oner=_
   rw [List.map_congr_left hidL]
   simp [oner]
  ·intro p hp
   rcases List.mem_cons.1 hp with rfl|hp
   ·have h3:oner ka=ka:=oner_id hT.a2
    simp [cfB,Blk.rn,renF,ren0,upd,h3]
    simp [oner,upd]
   ·rcases List.mem_cons.1 hp with rfl|hp
    ·have h3:oner ks=ks:=oner_id hks2
     simp [stB',Blk.rn,renF,ren0,upd,h3]
     simp [oner,upd]
    ·rcases List.mem_cons.1 hp with rfl|hp
     ·simp [ib,oner,Blk.rn,renF,ren0,upd]
     ·have hpb:=hT.ok.big p hp
      rw [oner_id hpb.2,Blk.fx_rn (hT.fx p hp)]
      refine ⟨hpb.1,?_⟩
      (try dsimp only)
      simp (disch:=omega) only [addB,upd_other,hpL_cons,hpL_nil,if_neg,updL]
      exact hT.mem p hp
  ·have key:∀ k∈keys (otM L ka ks off n cap off2 n cap2 g bx tp nr md st z),(k=200∧oner k=520)∨(k=208∧oner k=521)∨(k=216∧oner k=522)∨(k<200∧oner k=k):=fun k hk=>by
    rcases List.mem_cons.1 hk with rfl|hk
    ·exact .inl ⟨rfl,rfl⟩
    ·rcases List.mem_cons.1 hk with rfl|hk
     ·exact .inr (.inl ⟨rfl,rfl⟩)
     ·rcases List.mem_cons.1 hk with rfl|hk
      ·exact .inr (.inr (.inl ⟨rfl,rfl⟩))
      ·obtain ⟨p,hp,rfl⟩:=mem_keys.1 hk
       have:=(hT.ok.big p hp).2
       exact .inr (.inr (.inr ⟨this,oner_id this⟩))
   intro k hk l hl e
   have:=key k hk
   have:=key l hl
   omega
 ·intro x hx
  simp only [List.mem_map] at hx
  obtain ⟨p,_,rfl⟩:=hx
  simp [otV]
 ·intro k hk
  rcases List.mem_cons.1 hk with rfl|hk
  ·simp [dom,upd]
  ·rcases List.mem_cons.1 hk with rfl|hk
   ·simp [dom,upd]
   ·rcases List.mem_cons.1 hk with rfl|hk
    ·simp [dom,upd]
    ·obtain ⟨p,hp,rfl⟩:=mem_keys.1 hk
     have hpb:=hT.ok.big p hp
     refine ⟨hpb.1,?_⟩
     unfold dom
     dsimp only
     simp (disch:=omega) only [addB,upd_other,hpL_cons,hpL_nil,if_neg,updL]
     rw [hT.mem p hp]
     simp
 ·intro k hk b hb1
  rcases List.mem_cons.1 hk with rfl|hk
  ·simp [upd] at hb1;subst hb1;exact cf_ids hQa
  ·rcases List.mem_cons.1 hk with rfl|hk
   ·simp [upd] at hb1;subst hb1;exact st_ids hQs
   ·rcases List.mem_cons.1 hk with rfl|hk
    ·simp [upd] at hb1;subst hb1;simp [ib,ids_lit,idsF,ids0]
    ·obtain ⟨p,hp,rfl⟩:=mem_keys.1 hk
     have hpb:=hT.ok.big p hp
     dsimp only at hb1
     simp (disch:=omega) only [addB,upd_other,hpL_cons,hpL_nil,if_neg,updL] at hb1
     rw [hT.mem p hp] at hb1
     simp only [Option.some.injEq] at hb1
     subst hb1
     exact Blk.fx_ids (hT.fx p hp) _
 ·intro C0 h1 h2
  refine weakL _ 1000 (h1.trans hC) G1F (m0:=[]) (hasd C0 h2) (by omega) ?_ ?_ ?_
  ·simp [oneTs,oneM,idsV,idsA,idsF,ids0,dom]
  ·simp [oneM,ezB_ids,vb,ib,eb,ids_lit,idsF,ids0,dom,upd]
   rfl
  ·simp
 ·simp [oneI,oS]
 ·intro k hk
  have h3:=hall k hk
  rw [eOut (fun hm=>?_)]
  ·exact G1_big k (by omega)
  ·simp [oneM,keys] at hm
   omega
 ·intro j x hq0 hj0 hx hI C1 lb hC1 hh1 hY1
  have hj:j<(otIx n i).length:=by omega
  unfold oneI at hI
  subst hI
  rw [List.getElem?_map,List.getElem?_eq_getElem hj] at hx
  simp only [Option.map_some,Option.some.injEq] at hx
  subst hx
  have t0:=oS_take (kpF p q g fm fs i 0) hj
  have t1:=oS_take (kpF p q g fm fs i 1) hj
  have t2:=oS_take (kpF p q g fm fs i 2) hj
  have hmem:=List.getElem_mem hj
  have hk2:=(ot_mem.1 hmem).1
  have hz1:¬d2F fs (otIx n i)[j] i=0:=hbef j hj0 hj
  have hpre:∀ k∈(otIx n i).take j,k<n∧¬d2F fs k i=0:=fun k hk=>by
   obtain ⟨m,hm1,e⟩:=List.getElem_of_mem hk
   have hm2:m<j:=by rw [List.length_take] at hm1;omega
   have hm3:m<(otIx n i).length:=by omega
   rw [List.getElem_take] at e
   exact ⟨(ot_mem.1 (List.mem_of_mem_take hk)).1,by rw [←e];exact hbef m (by omega) hm3⟩
  have hl4:((otIx n i).take j).length≤4:=by rw [List.length_take];have:=ot_len (i:=i) hn4.2;omega
  have u0:=kp_bd (u:=0) hok hrt hp hi (by omega) hpre hl4
  have u1:=kp_bd (u:=1) hok hrt hp hi (by omega) hpre hl4
  have u2:=kp_bd (u:=2) hok hrt hp hi (by omega) hpre hl4
  unfold oneI
  rw [t0,t1,t2]
  clear t0 t1 t2 hpre hl4 hj0
  generalize (otIx n i)[j]=k at *
  have P0:=kp_in (u:=0) hok hrt hp hi hk2 (by omega) hz1
  have P1:=kp_in (u:=1) hok hrt hp hi hk2 (by omega) hz1
  have P2:=kp_in (u:=2) hok hrt hp hi hk2 (by omega) hz1
  have y0:=kp_val P0
  have y1:=kp_val P1
  have y2:=kp_val P2
  have P:=fun K=>kpull_ok (kp_way i k) P0 P1 P2 K
  have f0:kpF p q g fm fs i 0 k=pullV p q g (fm k) (fs (6*k) - fs (6*i)) (d2F fs k i):=rfl
  have f1:kpF p q g fm fs i 1 k=pullV p q g (fm k) (fs (6*k+1) - fs (6*i+1)) (d2F fs k i):=rfl
  have f2:kpF p q g fm fs i 2 k=pullV p q g (fm k) (fs (6*k+2) - fs (6*i+2)) (d2F fs k i):=rfl
  simp only [Nat.add_zero] at y0 P
  rw [f0,f1,f2]
  clear P0 P1 P2 f0 f1 f2
  have hld:=ez_ld hq4
  generalize oS (kpF p q g fm fs i 0) ((otIx n i).take j)=A0 at *
  generalize oS (kpF p q g fm fs i 1) ((otIx n i).take j)=A1 at *
  generalize oS (kpF p q g fm fs i 2) ((otIx n i).take j)=A2 at *
  generalize pullV p q g (fm k) (fs (6*k) - fs (6*i)) (d2F fs k i)=a0 at *
  generalize pullV p q g (fm k) (fs (6*k+1) - fs (6*i+1)) (d2F fs k i)=a1 at *
  generalize pullV p q g (fm k) (fs (6*k+2) - fs (6*i+2)) (d2F fs k i)=a2 at *
  have q0:Int.bmod (A0+a0) 18446744073709551616=A0+a0:=Go.Gy.bm (by omega) (by omega)
  have q1:Int.bmod (A1+a1) 18446744073709551616=A1+a1:=Go.Gy.bm (by omega) (by omega)
  have q2:Int.bmod (A2+a2) 18446744073709551616=A2+a2:=Go.Gy.bm (by omega) (by omega)
  have hCC:=hC
  have hC1':C1.G=G1:=hC1.trans hC
  unfold otV
  clear hC hY
  have hC:=hC1'
  have hY:=hY1
  unfold oneM vb ib eb ezB
  repeat' (first|refine gwA ?_|(refine gwX ?_;intro Q hQ hP;simp [hC,hY,roundTs,oneTs];refine hQ _ _ _ _ (by kernel_rfl) ?_;clear hQ hP Q)|(refine gwC ?_ ?_<;>(intro hb;try (cases hb;done))))
  intro C2 hC2 hh2 hY2
  clear hC hY
  have hC:C2.G=G1:=hC2.trans hCC
  have hY:=hY2
  repeat' (first|refine gwA ?_|((first|refine gwR [28] ?_|refine gwD [28] ?_);intro Q hQ hP;simp [hC,hY,P,hld];(repeat ((first|(refine kplus_K (by omega) (by simp [vb]) q0 q1 q2 ?_));try simp [hC,hY,P,hld]));refine hQ _ _ _ _ (by kernel_rfl) ?_;clear hQ hP Q)|(refine gwC ?_ ?_<;>(intro hb;try (cases hb;done))))
  refine ⟨fun k=>k,hpL G1 (oneM cq p q (A0+a0) (A1+a1) (A2+a2)),fun C0 h1 h2=>weakRL _ _ 1000 (h1.trans hCC) G1F (m0:=[]) (hasd C0 h2) (by omega) ?_ ?_ ?_ ?_ ?_,rfl⟩
  ·simp [oneTs,oneM,dom,junk,ren,renA,renF,ren0,idsV,idsA,idsF,ids0]
  ·simp [oneM,ezB_rn,ezB_ids,vb,ib,eb,Blk.rn,renF,ren0,ids_lit,idsF,ids0,dom]
   rfl
  ·simp [oneM]
  ·intro k hk;rfl
  ·simp
 ·refine .inr ⟨otV fm fs i (otIx n i)[N],by rw [List.getElem?_map,List.getElem?_eq_getElem hN];rfl,?_⟩
  intro hq0 hI C1 lb hC1 hh1 hY1
  unfold oneI at hI
  subst hI
  have hmem:=List.getElem_mem hN
  have hk2:=(ot_mem.1 hmem).1
  clear hbef
  generalize (otIx n i)[N]=k at *
  obtain ⟨_,_,hx3⟩:=kd2_in hrt hi hk2
  have P:=fun K=>kpull_z (n:=p) (d:=q) ((kp_way i k).trans hzN) ⟨(hx3 0 (by omega)).1,(hx3 0 (by omega)).2.1⟩ ⟨(hx3 1 (by omega)).1,(hx3 1 (by omega)).2.1⟩ ⟨(hx3 2 (by omega)).1,(hx3 2 (by omega)).2.1⟩ hp (cfOk_g hok) (cfOk_mass hok hk2) K
  have hld:=ez_ld hq4
  generalize oS (kpF p q g fm fs i 0) ((otIx n i).take N)=A0 at *
  generalize oS (kpF p q g fm fs i 1) ((otIx n i).take N)=A1 at *
  generalize oS (kpF p q g fm fs i 2) ((otIx n i).take N)=A2 at *
  have hCC:=hC
  have hC1':C1.G=G1:=hC1.trans hC
  unfold otV
  clear hC hY
  have hC:=hC1'
  have hY:=hY1
  unfold oneM vb ib eb ezB
  repeat' (first|refine gwA ?_|(refine gwX ?_;intro Q hQ hP;simp [hC,hY,roundTs,oneTs];refine hQ _ _ _ _ (by kernel_rfl) ?_;clear hQ hP Q)|(refine gwC ?_ ?_<;>(intro hb;try (cases hb;done))))
  intro C2 hC2 hh2 hY2
  clear hC hY
  have hC:C2.G=G1:=hC2.trans hCC
  have hY:=hY2
  repeat' (first|refine gwA ?_|(refine gwX ?_;intro Q hQ hP;simp [hC,hY,P,hld];refine hQ _ _ _ _ (by kernel_rfl) ?_;clear hQ hP Q)|(refine gwC ?_ ?_<;>(intro hb;try (cases hb;done))))
  have hm16:=hout 232 (by omega) (by omega) (by omega) (by omega)
  have hm24:=hout 240 (by omega) (by omega) (by omega) (by omega)
  refine ⟨rfl,fun t=>?_,fun k hk=>?_,?_⟩
  ·rcases tsL_mem (l:=oneTs) (t:=t) with h|h
   ·rw [h];simp [junk,idsV,idsA,idsF,ids0]
   ·simp only [oneTs,List.mem_cons,List.not_mem_nil,or_false,Prod.mk.injEq] at h
    rcases h with ⟨_,h⟩|⟨_,h⟩|⟨_,h⟩|⟨_,h⟩|⟨_,h⟩<;>(unfold oneTs;rw [h];simp [idsV,idsA,idsF,ids0,dom])
  ·have h3:=hall k hk
   refine ⟨?_,by omega⟩
   simp (disch:=omega) only [upd_other,hpL_cons,hpL_nil,if_neg,updL]
   exact G1_big k (by omega)
  ·refine ⟨rfl,_,0,weakLL _ 2000 hCC G1F hT.ok hT.fx hC0 (by omega) (?_:∀ p∈[(10,Value.pointer (some ⟨232,0,none⟩)),(11,Value.pointer (some ⟨240,0,none⟩))],_) (?_:∀ p∈[(232,vb A0 A1 A2),(240,eb 30)],_) ?_,?_⟩
   ·simp [oneTs,idsV,idsA,idsF,ids0,dom]
   ·have h32:(232∈keys L)=False:=eq_false fun h=>by obtain ⟨p,hp,e⟩:=mem_keys.1 h;have:=(hT.ok.big p hp).2;omega
    have h40:(240∈keys L)=False:=eq_false fun h=>by obtain ⟨p,hp,e⟩:=mem_keys.1 h;have:=(hT.ok.big p hp).2;omega
    simp [vb,eb,addB,hm16,hm24,h32,h40,ids_lit,idsF,ids0,dom]
   ·intro p hp
    have hpb:=hT.ok.big p hp
    have hm9:p.1∈520::521::522::keys L:=List.mem_cons_of_mem _ (List.mem_cons_of_mem _ (List.mem_cons_of_mem _ (mem_keys.2 ⟨p,hp,rfl⟩)))
    simp (disch:=omega) only [eIn hm9,upd_other,hpL_cons,hpL_nil,if_neg,updL]
    exact hT.mem p hp
   ·exact ⟨_,_,_,rfl⟩
end Go.Gy
namespace Go.Gy
open Go Go.RowKit Go.Proofs
theorem nat_succ {i n:Nat} (hi:i<n) (hn:n≤4):Int.bmod ((i:Int)+1) 18446744073709551616=((i+1:Nat):Int):=by
 rw [bm (by omega) (by omega)]
 rfl
end Go.Gy
namespace Go.Gy
set_option linter.unusedSimpArgs false
set_option linter.unusedVariables false
open Go Go.RowKit Go.Proofs
def KkV (i:Nat) (F:Nat→Int) (sl:Value) (nl:List (Nat×Blk)):Prop:=(i=0∧sl=.slice none 0 0∧nl=[])∨∃ (c:Nat) (g:Nat→Int),0<i∧i≤c∧(∀ j,j<3*i→g j=F j)∧sl=.slice (some ⟨224,0,none⟩) i c∧nl=[(224,⟨fa (3*c) .i64 g,.ty 31⟩)]
def kkOwn (ka ks off n cap off2 cap2:Nat) (g bx tp nr md st:Int):List (Nat×Blk):=[(200,cfB (.slice (some ⟨ka,off,none⟩) n cap) g bx tp nr md),(208,stB' st ks off2 n cap2)]
def KicksR (nk n:Nat) (F:Nat→Int) (v:Value) (ns:List (Nat×Blk)):Prop:=∃ (c:Nat) (g:Nat→Int),n≤c∧(∀ j,j<3*n→g j=F j)∧v=.tuple #[.slice (some ⟨nk,0,none⟩) n c,.int .i64 0]∧ns=[(nk,⟨fa (3*c) .i64 g,.ty 31⟩)]
theorem kkR_key {nk n:Nat} {F:Nat→Int} {v:Value} {ns:List (Nat×Blk)} (h:KicksR nk n F v ns):∀ k∈keys ns,k=nk:=fun k hk=>by
 obtain ⟨c,g,h1,h2,rfl,rfl⟩:=h
 simpa [keys] using hk
theorem kkR_fit {D:Nat→Prop} {n:Nat} {F:Nat→Int} (v:Value) (ns:List (Nat×Blk)) (h:KicksR 1000 n F v ns):idsV (extD D ns) v∧(∀ p∈ns,200≤p.1∧p.2.ids (extD D ns))∧(∀ k b c,(k,b)∈ns→(k,c)∈ns→b=c):=by
 obtain ⟨c,g,h1,h2,rfl,rfl⟩:=h
 refine ⟨by simp [idsV,idsA,idsF,ids0,extD,keys],?_,?_⟩
 ·simp only [List.mem_singleton,forall_eq]
  exact ⟨by omega,Blk.fx_ids (fa_fx _ _ _) _⟩
 ·intro k b c h1 h2
  simp at h1 h2
  rw [h1.2,h2.2]
theorem kkR_rr {nk:Nat} {ρ:Nat→Nat} (h:ρ 1000=nk) (n:Nat) (F:Nat→Int):RR ρ (KicksR 1000 n F)=KicksR nk n F:=by
 funext v ns
 apply propext
 constructor
 ·rintro ⟨v0,ns0,⟨c,g,h1,h2,rfl,rfl⟩,rfl,rfl⟩
  exact ⟨c,g,h1,h2,by simp [ren,renA,renF,ren0,h],by simp [rnL,fa_rn,h]⟩
 ·rintro ⟨c,g,h1,h2,rfl,rfl⟩
  exact ⟨_,_,⟨c,g,h1,h2,rfl,rfl⟩,by simp [ren,renA,renF,ren0,h],by simp [rnL,fa_rn,h]⟩
theorem kkF_at (p q g:Int) (fm fs:Nat→Int) (n i:Nat) {u:Nat} (hu:u<3):kkF p q g fm fs n (3*i+u)=kS p q g fm fs n i u:=by
 unfold kkF
 rw [show (3*i+u) / 3=i by omega,show (3*i+u)%3=u by omega]
set_option maxRecDepth 8000 in
set_option maxHeartbeats 4000000 in
theorem kkicks_b0 (L:List (Nat×Blk)) (ka ks:Nat) (bm bs:Blk) (hT:LKa L ka ks bm bs) (off n cap off2 N2 cap2:Nat) (fm fs:Nat→Int) (hm:MB bm off n fm) (hSb:SB bs off2 N2 fs) (g bx tp nr md st:Int) (hs:i64 st) (p q:Int) (hf:fitB n N2 (cfOk n fm g bx tp nr md) (rightB st fs N2)=false) :
  Fun Tryz.prog G1 11 #[cfV (.slice (some ⟨ka,off,none⟩) n cap) g bx tp nr md,.agg #[.int .i64 st,.slice (some ⟨ks,off2,none⟩) N2 cap2],.int .i64 p,.int .i64 q] (hpL G1 L) (keys L) (.ret (.tuple #[.slice none 0 0,.int .i64 2]) []):=by
 refine fun_ofD (B:=200) G1F Tryz.func11 rfl Tryz.call11 hT.ok ?_ (flatV_ids (by simp)) (by simp) (by simp) (by simp [Tryz.ntmps11]) (by omega) ?_
 ·simp [idsV,idsA,idsF,ids0,hT.ia,hT.ib,cfV]
 intro C hC hC0 hY
 have hA:=hT.a
 have hS:=hT.s
 have hne:=hT.ne
 have hna:=hT.na
 have hLow:=hT.low
 have hks:=hT.k1
 have hks2:=hT.k2
 have hfit:=kFits_ka L ka ks bm bs hT off n cap off2 N2 cap2 fm fs hm hSb g bx tp nr md st hs
 rw [hf] at hfit
 unfold cfV at hfit ⊢
 repeat' (first|refine gwA ?_|((first|refine gwR [19] ?_|refine gwD [19] ?_);intro Q hQ hP;simp [hC,hY,hA,hS,hne,hna];(repeat ((first|(refine heapK_L hfit hT.ok aMem ?_));try simp [hC,hY,hA,hS,hne,hna]));refine hQ _ _ _ _ (by kernel_rfl) ?_;clear hQ hP Q)|(refine gwC ?_ ?_<;>(intro hb;try (cases hb;done))))
 refine ⟨.inr rfl,by simp [Tryz.results11],kpT G1F⟩
set_option maxRecDepth 8000 in
set_option maxHeartbeats 4000000 in
theorem kkicks_b1 (L:List (Nat×Blk)) (ka ks:Nat) (bm bs:Blk) (hT:LKa L ka ks bm bs) (off n cap off2 cap2:Nat) (fm fs:Nat→Int) (hm:MB bm off n fm) (hSb:SB bs off2 n fs) (g bx tp nr md st:Int) (hs:i64 st) (p q:Int) (hok:cfOk n fm g bx tp nr md=true) (hrt:rightB st fs n=true) (hpt:kprtB p q=false) :
  Fun Tryz.prog G1 11 #[cfV (.slice (some ⟨ka,off,none⟩) n cap) g bx tp nr md,.agg #[.int .i64 st,.slice (some ⟨ks,off2,none⟩) n cap2],.int .i64 p,.int .i64 q] (hpL G1 L) (keys L) (.ret (.tuple #[.slice none 0 0,.int .i64 2]) []):=by
 refine fun_ofD (B:=200) G1F Tryz.func11 rfl Tryz.call11 hT.ok ?_ (flatV_ids (by simp)) (by simp) (by simp) (by simp [Tryz.ntmps11]) (by omega) ?_
 ·simp [idsV,idsA,idsF,ids0,hT.ia,hT.ib,cfV]
 intro C hC hC0 hY
 have hA:=hT.a
 have hS:=hT.s
 have hne:=hT.ne
 have hna:=hT.na
 have hLow:=hT.low
 have hks:=hT.k1
 have hks2:=hT.k2
 have hfit:=kFits_ka L ka ks bm bs hT off n cap off2 n cap2 fm fs hm hSb g bx tp nr md st hs
 have hf:fitB n n (cfOk n fm g bx tp nr md) (rightB st fs n)=true:=fitB_iff.2 ⟨rfl,hok,hrt⟩
 have hone:=kone_b1 L ka ks bm bs hT off n cap off2 n cap2 fm fs hm hSb g bx tp nr md st hs p q 0 hf (fun h=>by rw [hpt] at h;exact absurd h.2 (by simp))
 rw [hf] at hfit
 have hn4:=(right_n hrt).2.1
 have n1:0<n:=hn4.1
 have n2:(0:Int)<n:=by omega
 unfold cfV at hfit hone ⊢
 repeat' (first|refine GWL_start ?_|refine GWL_step ?_|refine gwA ?_|((first|refine gwR [19,9] ?_|refine gwD [19,9] ?_);intro Q hQ hP;simp [hC,hY,hA,hS,hne,hna,n1,n2];(repeat ((first|(refine heapK_L hfit hT.ok aMem ?_)|(refine heapK_L hone hT.ok aMem ?_));try simp [hC,hY,hA,hS,hne,hna,n1,n2]));refine hQ _ _ _ _ (by kernel_rfl) ?_;clear hQ hP Q)|(refine gwC ?_ ?_<;>(intro hb;try (cases hb;done))))
 refine ⟨.inr rfl,by simp [Tryz.results11],kpT G1F⟩
def kkO (L:List (Nat×Blk)) (ka ks off n cap off2 cap2:Nat) (g bx tp nr md st p q:Int) (i:Nat) (sl:Value) (nl:List (Nat×Blk)):GS :=
 ⟨tsL [(2,.int .i64 p),(3,.int .i64 q),(4,.pointer (some ⟨200,0,none⟩)),(5,.pointer (some ⟨208,0,none⟩)),(8,sl),(19,.int .i64 n),(20,.int .i64 i)],hpL G1 ((kkOwn ka ks off n cap off2 cap2 g bx tp nr md st++nl)++L),400,0⟩
def kkI (L:List (Nat×Blk)) (ka ks off n cap off2 cap2:Nat) (g bx tp nr md st p q:Int) (fm fs:Nat→Int) (m:Nat) (s:GS):Prop:=∃ i sl nl,i+m=n∧KkV i (kkF p q g fm fs n) sl nl∧(∀ b,b<i→kZ fs n b=false)∧s=kkO L ka ks off n cap off2 cap2 g bx tp nr md st p q i sl nl
set_option maxRecDepth 8000 in
set_option maxHeartbeats 16000000 in
theorem kkicks_b2 (L:List (Nat×Blk)) (ka ks:Nat) (bm bs:Blk) (hT:LKa L ka ks bm bs) (off n cap off2 cap2:Nat) (fm fs:Nat→Int) (hm:MB bm off n fm) (hSb:SB bs off2 n fs) (g bx tp nr md st:Int) (hs:i64 st) (p q:Int) (hok:cfOk n fm g bx tp nr md=true) (hrt:rightB st fs n=true) (hpt:kprtB p q=true) (hany:kAny fs n=true) :
  Fun Tryz.prog G1 11 #[cfV (.slice (some ⟨ka,off,none⟩) n cap) g bx tp nr md,.agg #[.int .i64 st,.slice (some ⟨ks,off2,none⟩) n cap2],.int .i64 p,.int .i64 q] (hpL G1 L) (keys L) (.ret (.tuple #[.slice none 0 0,.int .i64 30]) []):=by
 refine fun_ofD (B:=200) G1F Tryz.func11 rfl Tryz.call11 hT.ok ?_ (flatV_ids (by simp)) (by simp) (by simp) (by simp [Tryz.ntmps11]) (by omega) ?_
 ·simp [idsV,idsA,idsF,ids0,hT.ia,hT.ib,cfV]
 intro C hC hC0 hY
 have hA:=hT.a
 have hS:=hT.s
 have hne:=hT.ne
 have hna:=hT.na
 have hLow:=hT.low
 have hks:=hT.k1
 have hks2:=hT.k2
 have hfit:=kFits_ka L ka ks bm bs hT off n cap off2 n cap2 fm fs hm hSb g bx tp nr md st hs
 have hf:fitB n n (cfOk n fm g bx tp nr md) (rightB st fs n)=true:=fitB_iff.2 ⟨rfl,hok,hrt⟩
 rw [hf] at hfit
 have hn4:=(right_n hrt).2.1
 unfold cfV at hfit ⊢
 repeat' (first|refine gwA ?_|((first|refine gwR [19] ?_|refine gwD [19] ?_);intro Q hQ hP;simp [hC,hY,hA,hS,hne,hna];(repeat ((first|(refine heapK_L hfit hT.ok aMem ?_));try simp [hC,hY,hA,hS,hne,hna]));refine hQ _ _ _ _ (by kernel_rfl) ?_;clear hQ hP Q)|(refine gwC ?_ ?_<;>(intro hb;try (cases hb;done))))
 refine GW_loopR (kkI L ka ks off n cap off2 cap2 g bx tp nr md st p q fm fs) (m0:=n) (s0:=kkO L ka ks off n cap off2 cap2 g bx tp nr md st p q 0 (.slice none 0 0) []) ?_ ⟨0,_,_,by omega,.inl ⟨rfl,rfl,rfl⟩,fun b hb9=>by omega,rfl⟩ ?_
 ·refine weakLL _ 400 hC G1F hT.ok hT.fx hC0 (by omega) ?_ ?_ aMem
  ·simp [kkOwn,idsV,idsA,idsF,ids0,dom,hA,hS,hne,hna]
  ·simp [kkOwn,cfB,stB',ids_lit,idsF,ids0,dom,hA,hS,hne,hna]
 rintro m _ ⟨i,sl,nl,him,hV,hnz,rfl⟩
 by_cases hm0:m=0
 ·obtain rfl:i=n:=by omega
  exact absurd (kAny_f.2 hnz) (by rw [hany];simp)
 ·have hi:i<n:=by omega
  have hi4:i<4:=by omega
  have hi':(i:Int)<n:=by omega
  have hz9:(0:Int)≤i:=Int.natCast_nonneg i
  have hs':=nat_succ hi hn4.2
  by_cases hzi:kZ fs n i=true
  ·have hone:=kone_z L ka ks bm bs hT off n cap off2  cap2 fm fs hm hSb g bx tp nr md st hs p q i hok hrt hpt i hi rfl hzi
   unfold cfV at hone
   rcases hV with ⟨h0,rfl,rfl⟩|⟨c,g0,h0,hc,hg0,rfl,rfl⟩<;>unfold kkO kkOwn cfB stB'
   all_goals
    repeat' (first|refine gwA ?_|((first|refine gwR [9] ?_|refine gwD [9] ?_);intro Q hQ hP;simp [hC,hY,hA,hS,hne,hna,hi,hi',hz9];(repeat ((first|(refine heapK_L hone hT.ok aMem ?_));try simp [hC,hY,hA,hS,hne,hna,hi,hi',hz9]));refine hQ _ _ _ _ (by kernel_rfl) ?_;clear hQ hP Q)|(refine gwC ?_ ?_<;>(intro hb;try (cases hb;done))))
   all_goals
    refine ⟨.inr rfl,by simp [Tryz.results11],kpT G1F⟩
  replace hzi:kZ fs n i=false:=by simpa using hzi
  have hone:=kone_ok L ka ks bm bs hT off n cap off2  cap2 fm fs hm hSb g bx tp nr md st hs p q i hok hrt hpt i hi rfl hzi
  unfold cfV at hone
  have hend:i+1+(m - 1)=n:=by omega
  have hdec:m - 1<m:=by omega
  have hpos:0<i+1:=Nat.succ_pos _
  have hb20:(i+1)*(8*3)≤140737488355328:=by omega
  have hnz':∀ b,b<i+1→kZ fs n b=false:=fun b hb9=>by
   by_cases e:b=i
   ·rw [e];exact hzi
   ·exact hnz b (by omega)
  rcases hV with ⟨h0,rfl,rfl⟩|⟨c,g0,h0,hc,hg0,rfl,rfl⟩
  ·subst h0
   unfold kkO kkOwn cfB stB'
   repeat' (first|refine gwA ?_|((first|refine gwR [9] ?_|refine gwD [9] ?_);intro Q hQ hP;simp [hC,hY,hA,hS,hne,hna,hi,hi',hz9];(repeat ((first|(refine heapK_L hone hT.ok aMem ?_));try simp [hC,hY,hA,hS,hne,hna,hi,hi',hz9]));refine hQ _ _ _ _ (by kernel_rfl) ?_;clear hQ hP Q)|(refine gwC ?_ ?_<;>(intro hb;try (cases hb;done))))
   refine GW_list ?_
   simp only [Array.toList]
   refine GL_walk 3 [] rfl (by simp) (by kernel_rfl) ?_;intro q hq;simp [hC,hY,hA,hS,hne,hna];refine hq _ _ _ _ ?_;clear hq q
   simp only [wT,List.length_cons,List.length_nil,Nat.reduceAdd]
   refine GL_pushK .i64 (m:=3) (i:=0) (j:=552) (by':=24) (z:=.agg #[.int .i64 0,.int .i64 0,.int .i64 0]) (T2:=.ty 31) (G:=kkF p q g fm fs n) (ev:=fun u=>kkF p q g fm fs n (3*0+u)) rfl (by simp) rfl Tryz.underlying35 (tySize_of Tryz.sizeOf31) (by kernel_rfl) (by kernel_rfl) (by omega) (by simp [Value.cells]) (by simp [Value.cells]) (by omega) (by omega) (.inl ⟨rfl,by simp⟩) (by simp) (by simp [fa_3,kkF]) (fun u hu=>rfl) hb20 ?_
   rintro k1 c1 g1 hk1 hk11 hc1 hg1
   obtain rfl:k1=560:=by
    rcases hk1 with h9|⟨c,h9⟩
    ·exact h9
    ·simp at h9
   refine GL_walk 1 [] rfl (by simp) (by kernel_rfl) ?_;intro q hq;simp [hC,hY,putT];refine hq _ _ _ _ ?_;clear hq q
   simp only [wT,List.length_cons,List.length_nil,Nat.reduceAdd]
   refine GL_nil ?_
   repeat' (first|refine gwA ?_|(refine gwX ?_;intro Q hQ hP;simp [hC,hY,hs'];refine hQ _ _ _ _ (by kernel_rfl) ?_;clear hQ hP Q)|(refine gwC ?_ ?_<;>(intro hb;try (cases hb;done))))
   refine ⟨fun x=>if x=224 then 560 else x,kkO L ka ks off n cap off2 cap2 g bx tp nr md st p q (0+1) (.slice (some ⟨224,0,none⟩) (0+1) c1) [(224,⟨fa (3*c1) .i64 g1,.ty 31⟩)],m - 1,?_,⟨0+1,_,_,hend,.inr ⟨c1,g1,hpos,hc1,hg1,rfl,rfl⟩,hnz',rfl⟩,hdec⟩
   have hf1:=fun D=>Blk.fx_ids (fa_fx (3*c1) g1 31) D
   have hm1:=fun ρ=>fx_map (fa_fx (3*c1) g1 31) ρ
   refine weakRLL (s:=GS.mk _ _ _ 0) _ _ 400 hC G1F hT.ok hT.fx hC0 (by decide) ?_ ?_ ?_ ?_ aMem
   ·simp [kkOwn,dom,junk,ren,renA,renF,ren0,idsV,idsA,idsF,ids0,hs',hA,hS,hne,hna]
   ·simp [kkOwn,cfB,stB',Blk.rn,renF,ren0,ids_lit,idsF,ids0,dom,hf1,hm1,hA,hS,hne,hna]
   ·simp [kkOwn]
   ·intro x hx;(try dsimp only);rw [if_neg (Nat.ne_of_lt (Nat.lt_trans hx (by decide)))]
  ·unfold kkO kkOwn cfB stB'
   repeat' (first|refine gwA ?_|((first|refine gwR [9] ?_|refine gwD [9] ?_);intro Q hQ hP;simp [hC,hY,hA,hS,hne,hna,hi,hi',hz9];(repeat ((first|(refine heapK_L hone hT.ok aMem ?_));try simp [hC,hY,hA,hS,hne,hna,hi,hi',hz9]));refine hQ _ _ _ _ (by kernel_rfl) ?_;clear hQ hP Q)|(refine gwC ?_ ?_<;>(intro hb;try (cases hb;done))))
   refine GW_list ?_
   simp only [Array.toList]
   refine GL_walk 3 [] rfl (by simp) (by kernel_rfl) ?_;intro q hq;simp [hC,hY,hA,hS,hne,hna];refine hq _ _ _ _ ?_;clear hq q
   simp only [wT,List.length_cons,List.length_nil,Nat.reduceAdd]
   refine GL_pushK .i64 (m:=3) (i:=i) (j:=552) (by':=24) (z:=.agg #[.int .i64 0,.int .i64 0,.int .i64 0]) (T2:=.ty 31) (G:=kkF p q g fm fs n) (ev:=fun u=>kS p q g fm fs n i u) rfl (by simp) rfl Tryz.underlying35 (tySize_of Tryz.sizeOf31) (by kernel_rfl) (by kernel_rfl) (by omega) (by simp [Value.cells]) (by simp [Value.cells]) (by omega) (by omega) (.inr ⟨224,c,g0,by decide,by simp,by simp,hc,hg0⟩) (by simp) (by simp [fa_3]) (fun u hu=>(kkF_at p q g fm fs n i hu).symm) hb20 ?_
   rintro k1 c1 g1 hk1 hk11 hc1 hg1
   have hk1':k1=560∨k1=224:=by
    rcases hk1 with h9|⟨c,h9⟩
    ·exact .inl h9
    ·simp at h9;exact .inr h9.1.symm
   rcases hk1' with rfl|rfl
   ·
    refine GL_walk 1 [] rfl (by simp) (by kernel_rfl) ?_;intro q hq;simp [hC,hY,putT];refine hq _ _ _ _ ?_;clear hq q
    simp only [wT,List.length_cons,List.length_nil,Nat.reduceAdd]
    refine GL_nil ?_
    repeat' (first|refine gwA ?_|(refine gwX ?_;intro Q hQ hP;simp [hC,hY,hs'];refine hQ _ _ _ _ (by kernel_rfl) ?_;clear hQ hP Q)|(refine gwC ?_ ?_<;>(intro hb;try (cases hb;done))))
    refine ⟨fun x=>if x=224 then 560 else x,kkO L ka ks off n cap off2 cap2 g bx tp nr md st p q (i+1) (.slice (some ⟨224,0,none⟩) (i+1) c1) [(224,⟨fa (3*c1) .i64 g1,.ty 31⟩)],m - 1,?_,⟨i+1,_,_,hend,.inr ⟨c1,g1,hpos,hc1,hg1,rfl,rfl⟩,hnz',rfl⟩,hdec⟩
    have hf1:=fun D=>Blk.fx_ids (fa_fx (3*c1) g1 31) D
    have hm1:=fun ρ=>fx_map (fa_fx (3*c1) g1 31) ρ
    refine weakRLL (s:=GS.mk _ _ _ 0) _ _ 400 hC G1F hT.ok hT.fx hC0 (by decide) ?_ ?_ ?_ ?_ aMem
    ·simp [kkOwn,dom,junk,ren,renA,renF,ren0,idsV,idsA,idsF,ids0,hs',hA,hS,hne,hna]
    ·simp [kkOwn,cfB,stB',Blk.rn,renF,ren0,ids_lit,idsF,ids0,dom,hf1,hm1,hA,hS,hne,hna]
    ·simp [kkOwn]
    ·intro x hx;(try dsimp only);rw [if_neg (Nat.ne_of_lt (Nat.lt_trans hx (by decide)))]
   ·
    refine GL_walk 1 [] rfl (by simp) (by kernel_rfl) ?_;intro q hq;simp [hC,hY,putT];refine hq _ _ _ _ ?_;clear hq q
    simp only [wT,List.length_cons,List.length_nil,Nat.reduceAdd]
    refine GL_nil ?_
    repeat' (first|refine gwA ?_|(refine gwX ?_;intro Q hQ hP;simp [hC,hY,hs'];refine hQ _ _ _ _ (by kernel_rfl) ?_;clear hQ hP Q)|(refine gwC ?_ ?_<;>(intro hb;try (cases hb;done))))
    refine ⟨fun x=>if x=224 then 224 else x,kkO L ka ks off n cap off2 cap2 g bx tp nr md st p q (i+1) (.slice (some ⟨224,0,none⟩) (i+1) c1) [(224,⟨fa (3*c1) .i64 g1,.ty 31⟩)],m - 1,?_,⟨i+1,_,_,hend,.inr ⟨c1,g1,hpos,hc1,hg1,rfl,rfl⟩,hnz',rfl⟩,hdec⟩
    have hf1:=fun D=>Blk.fx_ids (fa_fx (3*c1) g1 31) D
    have hm1:=fun ρ=>fx_map (fa_fx (3*c1) g1 31) ρ
    refine weakRLL (s:=GS.mk _ _ _ 0) _ _ 400 hC G1F hT.ok hT.fx hC0 (by decide) ?_ ?_ ?_ ?_ aMem
    ·simp [kkOwn,dom,junk,ren,renA,renF,ren0,idsV,idsA,idsF,ids0,hs',hA,hS,hne,hna]
    ·simp [kkOwn,cfB,stB',Blk.rn,renF,ren0,ids_lit,idsF,ids0,dom,hf1,hm1,hA,hS,hne,hna]
    ·simp [kkOwn]
    ·intro x hx;(try dsimp only);rw [if_neg (Nat.ne_of_lt (Nat.lt_trans hx (by decide)))]
set_option maxRecDepth 8000 in
set_option maxHeartbeats 16000000 in
theorem kkicks_ok (L:List (Nat×Blk)) (ka ks:Nat) (bm bs:Blk) (hT:LKa L ka ks bm bs) (off n cap off2 cap2:Nat) (fm fs:Nat→Int) (hm:MB bm off n fm) (hSb:SB bs off2 n fs) (g bx tp nr md st:Int) (hs:i64 st) (p q:Int) (hok:cfOk n fm g bx tp nr md=true) (hrt:rightB st fs n=true) (hpt:kprtB p q=true) (hany:kAny fs n=false) :
  FunS Tryz.prog G1 11 #[cfV (.slice (some ⟨ka,off,none⟩) n cap) g bx tp nr md,.agg #[.int .i64 st,.slice (some ⟨ks,off2,none⟩) n cap2],.int .i64 p,.int .i64 q] (hpL G1 L) (keys L) (KicksR 1000 n (kkF p q g fm fs n)):=by
 refine newS_ofD (B:=200) G1F Tryz.func11 rfl Tryz.call11 hT.ok ?_ kkR_fit (by simp [Tryz.ntmps11]) (by omega) ?_
 ·simp [idsV,idsA,idsF,ids0,hT.ia,hT.ib,cfV]
 intro C hC hC0 hY
 have hA:=hT.a
 have hS:=hT.s
 have hne:=hT.ne
 have hna:=hT.na
 have hLow:=hT.low
 have hks:=hT.k1
 have hks2:=hT.k2
 have hfit:=kFits_ka L ka ks bm bs hT off n cap off2 n cap2 fm fs hm hSb g bx tp nr md st hs
 have hf:fitB n n (cfOk n fm g bx tp nr md) (rightB st fs n)=true:=fitB_iff.2 ⟨rfl,hok,hrt⟩
 rw [hf] at hfit
 have hn4:=(right_n hrt).2.1
 unfold cfV at hfit ⊢
 repeat' (first|refine gwA ?_|((first|refine gwR [19] ?_|refine gwD [19] ?_);intro Q hQ hP;simp [hC,hY,hA,hS,hne,hna];(repeat ((first|(refine heapK_L hfit hT.ok aMem ?_));try simp [hC,hY,hA,hS,hne,hna]));refine hQ _ _ _ _ (by kernel_rfl) ?_;clear hQ hP Q)|(refine gwC ?_ ?_<;>(intro hb;try (cases hb;done))))
 refine GW_loopR (kkI L ka ks off n cap off2 cap2 g bx tp nr md st p q fm fs) (m0:=n) (s0:=kkO L ka ks off n cap off2 cap2 g bx tp nr md st p q 0 (.slice none 0 0) []) ?_ ⟨0,_,_,by omega,.inl ⟨rfl,rfl,rfl⟩,fun b hb9=>by omega,rfl⟩ ?_
 ·refine weakLL _ 400 hC G1F hT.ok hT.fx hC0 (by omega) ?_ ?_ aMem
  ·simp [kkOwn,idsV,idsA,idsF,ids0,dom,hA,hS,hne,hna]
  ·simp [kkOwn,cfB,stB',ids_lit,idsF,ids0,dom,hA,hS,hne,hna]
 rintro m _ ⟨i,sl,nl,him,hV,hnz,rfl⟩
 by_cases hm0:m=0
 ·obtain rfl:i=n:=by omega
  rcases hV with ⟨h0,rfl,rfl⟩|⟨c,g0,h0,hc,hg0,rfl,rfl⟩
  ·omega
  ·unfold kkO kkOwn cfB stB'
   repeat' (first|refine gwA ?_|(refine gwX ?_;intro Q hQ hP;simp [hC,hY,hA,hS,hne,hna];refine hQ _ _ _ _ (by kernel_rfl) ?_;clear hQ hP Q)|(refine gwC ?_ ?_<;>(intro hb;try (cases hb;done))))
   refine ⟨.inr trivial,kpT G1F,_,_,fun k=>if k=1000 then 224 else k,⟨c,g0,hc,hg0,rfl,rfl⟩,fun k hk=>if_neg (by omega),by simp,by simp,by simp [Tryz.results11,ren,renA,renF,ren0],?_⟩
   simp [fa_rn]
 ·have hi:i<n:=by omega
  have hi4:i<4:=by omega
  have hi':(i:Int)<n:=by omega
  have hz9:(0:Int)≤i:=Int.natCast_nonneg i
  have hs':=nat_succ hi hn4.2
  have hzi:=kAny_f.1 hany i hi
  have hone:=kone_ok L ka ks bm bs hT off n cap off2  cap2 fm fs hm hSb g bx tp nr md st hs p q i hok hrt hpt i hi rfl hzi
  unfold cfV at hone
  have hend:i+1+(m - 1)=n:=by omega
  have hdec:m - 1<m:=by omega
  have hpos:0<i+1:=Nat.succ_pos _
  have hb20:(i+1)*(8*3)≤140737488355328:=by omega
  have hnz':∀ b,b<i+1→kZ fs n b=false:=fun b hb9=>by
   by_cases e:b=i
   ·rw [e];exact hzi
   ·exact hnz b (by omega)
  rcases hV with ⟨h0,rfl,rfl⟩|⟨c,g0,h0,hc,hg0,rfl,rfl⟩
  ·subst h0
   unfold kkO kkOwn cfB stB'
   repeat' (first|refine gwA ?_|((first|refine gwR [9] ?_|refine gwD [9] ?_);intro Q hQ hP;simp [hC,hY,hA,hS,hne,hna,hi,hi',hz9];(repeat ((first|(refine heapK_L hone hT.ok aMem ?_));try simp [hC,hY,hA,hS,hne,hna,hi,hi',hz9]));refine hQ _ _ _ _ (by kernel_rfl) ?_;clear hQ hP Q)|(refine gwC ?_ ?_<;>(intro hb;try (cases hb;done))))
   refine GW_list ?_
   simp only [Array.toList]
   refine GL_walk 3 [] rfl (by simp) (by kernel_rfl) ?_;intro q hq;simp [hC,hY,hA,hS,hne,hna];refine hq _ _ _ _ ?_;clear hq q
   simp only [wT,List.length_cons,List.length_nil,Nat.reduceAdd]
   refine GL_pushK .i64 (m:=3) (i:=0) (j:=552) (by':=24) (z:=.agg #[.int .i64 0,.int .i64 0,.int .i64 0]) (T2:=.ty 31) (G:=kkF p q g fm fs n) (ev:=fun u=>kkF p q g fm fs n (3*0+u)) rfl (by simp) rfl Tryz.underlying35 (tySize_of Tryz.sizeOf31) (by kernel_rfl) (by kernel_rfl) (by omega) (by simp [Value.cells]) (by simp [Value.cells]) (by omega) (by omega) (.inl ⟨rfl,by simp⟩) (by simp) (by simp [fa_3,kkF]) (fun u hu=>rfl) hb20 ?_
   rintro k1 c1 g1 hk1 hk11 hc1 hg1
   obtain rfl:k1=560:=by
    rcases hk1 with h9|⟨c,h9⟩
    ·exact h9
    ·simp at h9
   refine GL_walk 1 [] rfl (by simp) (by kernel_rfl) ?_;intro q hq;simp [hC,hY,putT];refine hq _ _ _ _ ?_;clear hq q
   simp only [wT,List.length_cons,List.length_nil,Nat.reduceAdd]
   refine GL_nil ?_
   repeat' (first|refine gwA ?_|(refine gwX ?_;intro Q hQ hP;simp [hC,hY,hs'];refine hQ _ _ _ _ (by kernel_rfl) ?_;clear hQ hP Q)|(refine gwC ?_ ?_<;>(intro hb;try (cases hb;done))))
   refine ⟨fun x=>if x=224 then 560 else x,kkO L ka ks off n cap off2 cap2 g bx tp nr md st p q (0+1) (.slice (some ⟨224,0,none⟩) (0+1) c1) [(224,⟨fa (3*c1) .i64 g1,.ty 31⟩)],m - 1,?_,⟨0+1,_,_,hend,.inr ⟨c1,g1,hpos,hc1,hg1,rfl,rfl⟩,hnz',rfl⟩,hdec⟩
   have hf1:=fun D=>Blk.fx_ids (fa_fx (3*c1) g1 31) D
   have hm1:=fun ρ=>fx_map (fa_fx (3*c1) g1 31) ρ
   refine weakRLL (s:=GS.mk _ _ _ 0) _ _ 400 hC G1F hT.ok hT.fx hC0 (by decide) ?_ ?_ ?_ ?_ aMem
   ·simp [kkOwn,dom,junk,ren,renA,renF,ren0,idsV,idsA,idsF,ids0,hs',hA,hS,hne,hna]
   ·simp [kkOwn,cfB,stB',Blk.rn,renF,ren0,ids_lit,idsF,ids0,dom,hf1,hm1,hA,hS,hne,hna]
   ·simp [kkOwn]
   ·intro x hx;(try dsimp only);rw [if_neg (Nat.ne_of_lt (Nat.lt_trans hx (by decide)))]
  ·unfold kkO kkOwn cfB stB'
   repeat' (first|refine gwA ?_|((first|refine gwR [9] ?_|refine gwD [9] ?_);intro Q hQ hP;simp [hC,hY,hA,hS,hne,hna,hi,hi',hz9];(repeat ((first|(refine heapK_L hone hT.ok aMem ?_));try simp [hC,hY,hA,hS,hne,hna,hi,hi',hz9]));refine hQ _ _ _ _ (by kernel_rfl) ?_;clear hQ hP Q)|(refine gwC ?_ ?_<;>(intro hb;try (cases hb;done))))
   refine GW_list ?_
   simp only [Array.toList]
   refine GL_walk 3 [] rfl (by simp) (by kernel_rfl) ?_;intro q hq;simp [hC,hY,hA,hS,hne,hna];refine hq _ _ _ _ ?_;clear hq q
   simp only [wT,List.length_cons,List.length_nil,Nat.reduceAdd]
   refine GL_pushK .i64 (m:=3) (i:=i) (j:=552) (by':=24) (z:=.agg #[.int .i64 0,.int .i64 0,.int .i64 0]) (T2:=.ty 31) (G:=kkF p q g fm fs n) (ev:=fun u=>kS p q g fm fs n i u) rfl (by simp) rfl Tryz.underlying35 (tySize_of Tryz.sizeOf31) (by kernel_rfl) (by kernel_rfl) (by omega) (by simp [Value.cells]) (by simp [Value.cells]) (by omega) (by omega) (.inr ⟨224,c,g0,by decide,by simp,by simp,hc,hg0⟩) (by simp) (by simp [fa_3]) (fun u hu=>(kkF_at p q g fm fs n i hu).symm) hb20 ?_
   rintro k1 c1 g1 hk1 hk11 hc1 hg1
   have hk1':k1=560∨k1=224:=by
    rcases hk1 with h9|⟨c,h9⟩
    ·exact .inl h9
    ·simp at h9;exact .inr h9.1.symm
   rcases hk1' with rfl|rfl
   ·
    refine GL_walk 1 [] rfl (by simp) (by kernel_rfl) ?_;intro q hq;simp [hC,hY,putT];refine hq _ _ _ _ ?_;clear hq q
    simp only [wT,List.length_cons,List.length_nil,Nat.reduceAdd]
    refine GL_nil ?_
    repeat' (first|refine gwA ?_|(refine gwX ?_;intro Q hQ hP;simp [hC,hY,hs'];refine hQ _ _ _ _ (by kernel_rfl) ?_;clear hQ hP Q)|(refine gwC ?_ ?_<;>(intro hb;try (cases hb;done))))
    refine ⟨fun x=>if x=224 then 560 else x,kkO L ka ks off n cap off2 cap2 g bx tp nr md st p q (i+1) (.slice (some ⟨224,0,none⟩) (i+1) c1) [(224,⟨fa (3*c1) .i64 g1,.ty 31⟩)],m - 1,?_,⟨i+1,_,_,hend,.inr ⟨c1,g1,hpos,hc1,hg1,rfl,rfl⟩,hnz',rfl⟩,hdec⟩
    have hf1:=fun D=>Blk.fx_ids (fa_fx (3*c1) g1 31) D
    have hm1:=fun ρ=>fx_map (fa_fx (3*c1) g1 31) ρ
    refine weakRLL (s:=GS.mk _ _ _ 0) _ _ 400 hC G1F hT.ok hT.fx hC0 (by decide) ?_ ?_ ?_ ?_ aMem
    ·simp [kkOwn,dom,junk,ren,renA,renF,ren0,idsV,idsA,idsF,ids0,hs',hA,hS,hne,hna]
    ·simp [kkOwn,cfB,stB',Blk.rn,renF,ren0,ids_lit,idsF,ids0,dom,hf1,hm1,hA,hS,hne,hna]
    ·simp [kkOwn]
    ·intro x hx;(try dsimp only);rw [if_neg (Nat.ne_of_lt (Nat.lt_trans hx (by decide)))]
   ·
    refine GL_walk 1 [] rfl (by simp) (by kernel_rfl) ?_;intro q hq;simp [hC,hY,putT];refine hq _ _ _ _ ?_;clear hq q
    simp only [wT,List.length_cons,List.length_nil,Nat.reduceAdd]
    refine GL_nil ?_
    repeat' (first|refine gwA ?_|(refine gwX ?_;intro Q hQ hP;simp [hC,hY,hs'];refine hQ _ _ _ _ (by kernel_rfl) ?_;clear hQ hP Q)|(refine gwC ?_ ?_<;>(intro hb;try (cases hb;done))))
    refine ⟨fun x=>if x=224 then 224 else x,kkO L ka ks off n cap off2 cap2 g bx tp nr md st p q (i+1) (.slice (some ⟨224,0,none⟩) (i+1) c1) [(224,⟨fa (3*c1) .i64 g1,.ty 31⟩)],m - 1,?_,⟨i+1,_,_,hend,.inr ⟨c1,g1,hpos,hc1,hg1,rfl,rfl⟩,hnz',rfl⟩,hdec⟩
    have hf1:=fun D=>Blk.fx_ids (fa_fx (3*c1) g1 31) D
    have hm1:=fun ρ=>fx_map (fa_fx (3*c1) g1 31) ρ
    refine weakRLL (s:=GS.mk _ _ _ 0) _ _ 400 hC G1F hT.ok hT.fx hC0 (by decide) ?_ ?_ ?_ ?_ aMem
    ·simp [kkOwn,dom,junk,ren,renA,renF,ren0,idsV,idsA,idsF,ids0,hs',hA,hS,hne,hna]
    ·simp [kkOwn,cfB,stB',Blk.rn,renF,ren0,ids_lit,idsF,ids0,dom,hf1,hm1,hA,hS,hne,hna]
    ·simp [kkOwn]
    ·intro x hx;(try dsimp only);rw [if_neg (Nat.ne_of_lt (Nat.lt_trans hx (by decide)))]
theorem kown_sb {n M:Nat} {g F:Nat→Int} (hM:6*n≤M) (hg:∀ j,j<6*n→g j=F j) (hF:∀ j,j<6*n→i64 (F j)) (hn:n≤2932031007402):SB ⟨fa M .i64 g,.ty 45⟩ 0 n F :=
 ⟨fun j hj=>by rw [←hg j hj];exact rdI_fa M g _ j (by omega),fa_fx _ _ _,hF,hn⟩
def addK (f G:Nat→Int) (i:Nat) (j:Nat):Int:=if j<6*i∧3≤j%6 then f j+G (3*(j / 6)+(j%6 - 3)) else f j
theorem addK_0 (f G:Nat→Int):addK f G 0=f:=by
 funext j
 unfold addK
 rw [if_neg (by omega)]
theorem addK_at (f G:Nat→Int) (i:Nat) {u:Nat} (hu:u<3):addK f G i (6*i+3+u)=f (6*i+3+u):=by
 unfold addK
 rw [if_neg (by omega)]
theorem addK_s (f G:Nat→Int) (i:Nat):add3 (addK f G i) (6*i+3) (G (3*i)) (G (3*i+1)) (G (3*i+2))=addK f G (i+1):=by
 funext j
 have a0:addK f G i (6*i+3)=f (6*i+3):=addK_at f G i (u:=0) (by omega)
 have a1:addK f G i (6*i+3+1)=f (6*i+3+1):=addK_at f G i (by omega)
 have a2:addK f G i (6*i+3+2)=f (6*i+3+2):=addK_at f G i (by omega)
 unfold add3 put3
 rw [a0,a1,a2]
 by_cases h0:j=6*i+3
 ·subst h0
  unfold addK
  rw [if_pos rfl,if_pos (by omega),show 3*((6*i+3) / 6)+((6*i+3)%6 - 3)=3*i by omega]
 ·rw [if_neg h0]
  by_cases h1:j=6*i+3+1
  ·subst h1
   unfold addK
   rw [if_pos rfl,if_pos (by omega),show 3*((6*i+3+1) / 6)+((6*i+3+1)%6 - 3)=3*i+1 by omega]
  ·rw [if_neg h1]
   by_cases h2:j=6*i+3+2
   ·subst h2
    unfold addK
    rw [if_pos rfl,if_pos (by omega),show 3*((6*i+3+2) / 6)+((6*i+3+2)%6 - 3)=3*i+2 by omega]
   ·rw [if_neg h2]
    unfold addK
    by_cases c:j<6*i∧3≤j%6
    ·rw [if_pos c,if_pos (by omega)]
    ·rw [if_neg c,if_neg (by omega)]
theorem kvec_ld {c n:Nat} {g:Nat→Int} (hc:n≤c) {i:Nat} (hi:i<n):loadK Tryz.prog 31 ⟨fa (3*c) .i64 g,.ty 31⟩ (i*3)=some (.agg #[.int .i64 (g (3*i)),.int .i64 (g (3*i+1)),.int .i64 (g (3*i+2))]):=by
 have:=loadK_rd (P:=Tryz.prog) (T:=31) (m:=3) (j:=3*i) (tyAgg_of Tryz.isAgg31) (tySize_of Tryz.sizeOf31) (by omega) (rdI_fa (3*c) g (.ty 31)) (by omega)
 rw [show i*3=0+3*i by omega,this,fa_3]
 rfl
def kpM (n c c2 M:Nat) (st:Int) (g f:Nat→Int):List (Nat×Blk):=[(100,⟨#[.slice (some ⟨102,0,none⟩) n c],.ty 35⟩),(101,stB' st 103 0 n c2),(102,⟨fa (3*c) .i64 g,.ty 31⟩),(103,⟨fa M .i64 f,.ty 45⟩)]
theorem kpM_ok (n c c2 M:Nat) (st:Int) (g f:Nat→Int):LOk (kpM n c c2 M st g f) 200:=⟨by simp [kpM],by simp [kpM,keys],by
 simp only [kpM,List.mem_cons,List.not_mem_nil,or_false,forall_eq_or_imp,forall_eq]
 exact ⟨by simp [ids_lit,idsF,ids0,keys],by simp [stB',ids_lit,idsF,ids0,keys],Blk.fx_ids (fa_fx _ _ _) _,Blk.fx_ids (fa_fx _ _ _) _⟩⟩
def kpSt (n c c2 M:Nat) (st:Int) (g f:Nat→Int) (i:Nat):GS :=
 ⟨tsL [(0,.pointer (some ⟨100,0,none⟩)),(1,.pointer (some ⟨101,0,none⟩)),(5,.slice (some ⟨102,0,none⟩) n c),(6,.int .i64 n),(7,.int .i64 i)],hpL G1 (kpM n c c2 M st g (addK f g i)),400,0⟩
set_option maxRecDepth 8000 in
set_option maxHeartbeats 4000000 in
theorem kput_fun (n c c2 M:Nat) (st:Int) (hs:i64 st) (g f F:Nat→Int) (hn:1≤n∧n≤4) (hc:n≤c) (hc2:n≤c2) (hM:6*n≤M) (hb1:∀ j,j<6*n→-1048576≤f j∧f j≤1048576) (hb2:∀ j,j<3*n→-18014398509481984≤g j∧g j≤18014398509481984) (hF:∀ j,j<6*n→addK f g n j=F j) :
  Fun Tryz.prog G1 32 #[.pointer (some ⟨100,0,none⟩),.pointer (some ⟨101,0,none⟩)] (hpL G1 (kpM n c c2 M st g f)) (keys (kpM n c c2 M st g f)) (.ret (.bool (rightB st F n)) [(103,⟨fa M .i64 (addK f g n),.ty 45⟩)]):=by
 refine fun_ofL (B:=200) G1F Tryz.func32 rfl Tryz.call32 (kpM_ok n c c2 M st g f) ?_ (flatV_ids (by simp)) ?_ (fun k b c h1 h2=>by simp at h1 h2;rw [h1.2,h2.2]) (by simp [Tryz.ntmps32]) (by omega) ?_
 ·simp [idsV,idsA,idsF,ids0,keys,kpM]
 ·intro p hp
  simp at hp
  subst hp
  exact ⟨by simp [keys,kpM],Blk.fx_ids (fa_fx _ _ _) _⟩
 intro C hC hC0 hY
 have hid:=fun c g D=>Blk.fx_ids (fa_fx (3*c) g 31) D
 have hid2:=fun f D=>Blk.fx_ids (fa_fx M f 45) D
 have hrn2:=fun f ρ=>Blk.fx_rn (fa_fx M f 45) ρ
 unfold kpM stB' at hC0 ⊢
 repeat' (first|refine gwA ?_|(refine gwX ?_;intro Q hQ hP;simp [hC,hY];refine hQ _ _ _ _ (by kernel_rfl) ?_;clear hQ hP Q)|(refine gwC ?_ ?_<;>(intro hb;try (cases hb;done))))
 refine GW_for n (kpSt n c c2 M st g f) ?_ ?_ ?_
 ·refine weakL _ 400 hC G1F (m0:=[(100,_),(101,_),(102,_),(103,_)]) hC0 (by omega) ?_ ?_ ?_
  ·simp [idsV,idsA,idsF,ids0,dom,kpM]
  ·simp [ids_lit,idsF,ids0,hid,hid2,kpM,stB',addK_0,dom]
  ·simp [kpM,stB',addK_0]
 ·intro i hi
  have hi':(i:Int)<n:=by omega
  have hi2:i<c2:=by omega
  have hi3:(i:Int)<c2:=by omega
  have hz:(0:Int)≤i:=by omega
  have hs:=nat_succ hi hn.2
  have hld:=kvec_ld (g:=g) hc hi
  have e0:=addK_at f g i (u:=0) (by omega)
  have e1:=addK_at f g i (u:=1) (by omega)
  have e2:=addK_at f g i (u:=2) (by omega)
  simp only [Nat.add_zero] at e0
  have b0:=hb1 (6*i+3) (by omega)
  have b1:=hb1 (6*i+3+1) (by omega)
  have b2:=hb1 (6*i+3+2) (by omega)
  have d0:=hb2 (3*i) (by omega)
  have d1:=hb2 (3*i+1) (by omega)
  have d2:=hb2 (3*i+2) (by omega)
  have q0:Int.bmod (addK f g i (6*i+3)+g (3*i)) 18446744073709551616=addK f g i (6*i+3)+g (3*i):=by rw [e0];exact Go.Gy.bm (by omega) (by omega)
  have q1:Int.bmod (addK f g i (6*i+3+1)+g (3*i+1)) 18446744073709551616=addK f g i (6*i+3+1)+g (3*i+1):=by rw [e1];exact Go.Gy.bm (by omega) (by omega)
  have q2:Int.bmod (addK f g i (6*i+3+2)+g (3*i+2)) 18446744073709551616=addK f g i (6*i+3+2)+g (3*i+2):=by rw [e2];exact Go.Gy.bm (by omega) (by omega)
  have hs3:=addK_s f g i
  have ho:i*6+3=6*i+3:=by omega
  have hM3:6*i+3+3≤M:=by omega
  unfold kpSt kpM stB'
  repeat' (first|refine gwA ?_|((first|refine gwR [28] ?_|refine gwD [28] ?_);intro Q hQ hP;simp [hC,hY,hi,hi',hi2,hi3,hz,hs,hld];(repeat ((first|(rw [ho];refine kplus_R (M:=M) (f:=addK f g i) (T:=45) (by omega) (by simp) hM3 q0 q1 q2 ?_));try simp [hC,hY,hi,hi',hi2,hi3,hz,hs,hld]));refine hQ _ _ _ _ (by kernel_rfl) ?_;clear hQ hP Q)|(refine gwC ?_ ?_<;>(intro hb;try (cases hb;done))))
  refine weakL _ 400 hC G1F (m0:=[(100,_),(101,_),(102,_),(103,_)]) hC0 (by omega) ?_ ?_ ?_
  ·simp [idsV,idsA,idsF,ids0,dom,hs]
  ·simp [ids_lit,idsF,ids0,hid,hid2,dom,hs3]
  ·simp [hs3]
 ·have hri:=(rig_fun ⟨fa M .i64 (addK f g n),.ty 45⟩ 0 n c2 F (kown_sb hM hF (fun j hj=>by
   rw [←hF j hj]
   have b0:=hb1 j hj
   unfold addK
   split
   ·have d0:=hb2 (3*(j / 6)+(j%6 - 3)) (by omega)
    exact ⟨by omega,by omega⟩
   ·exact ⟨by omega,by omega⟩) (by omega)) st hs).up1 (oneL_ok (fa_fx _ _ _))
  unfold kpSt kpM stB'
  repeat' (first|refine gwA ?_|((first|refine gwR [33] ?_|refine gwD [33] ?_);intro Q hQ hP;simp [hC,hY];(repeat ((first|(refine heapK_mv hri G1F (B:=200) (oneL_ok (fa_fx _ _ _)) (fun k=>if k=100 then 103 else k) (fun k hk=>if_neg (by omega)) (by simp [ren,renA,renF,ren0]) (by simp) (by simp [hrn2]) (by simp [keys]) (by simp [keys];rfl) ?_));try simp [hC,hY]));refine hQ _ _ _ _ (by kernel_rfl) ?_;clear hQ hP Q)|(refine gwC ?_ ?_<;>(intro hb;try (cases hb;done))))
  refine ⟨.inr rfl,by simp [Tryz.results32],fun k hk=>?_⟩
  by_cases e6:k=103
  ·subst e6;simp [updL]
  ·simp [updL,e6]
theorem kput_K {n c c2 M w0 w1 w2 w3:Nat} {st:Int} {g f F:Nat→Int} {hp:Hp} {nk:Nat} {K:Eff→Prop} (hs:i64 st) (hn:1≤n∧n≤4) (hc:n≤c) (hc2:n≤c2) (hM:6*n≤M) (hb1:∀ j,j<6*n→-1048576≤f j∧f j≤1048576) (hb2:∀ j,j<3*n→-18014398509481984≤g j∧g j≤18014398509481984) (hF:∀ j,j<6*n→addK f g n j=F j)
  (hw:104≤w0∧104≤w1∧104≤w2∧104≤w3) (hd:w0≠w1∧w0≠w2∧w0≠w3∧w1≠w2∧w1≠w3∧w2≠w3)
  (h0:hp w0=some ⟨#[.slice (some ⟨w2,0,none⟩) n c],.ty 35⟩) (h1:hp w1=some (stB' st w3 0 n c2)) (h2:hp w2=some ⟨fa (3*c) .i64 g,.ty 31⟩) (h3:hp w3=some ⟨fa M .i64 f,.ty 45⟩)
  (hK:K ((Res.ret (.bool (rightB st F n)) [(w3,⟨fa M .i64 (addK f g n),.ty 45⟩)]).eff [w0,w1,w2,w3])):heapK Tryz.prog G1 32 #[.pointer (some ⟨w0,0,none⟩),.pointer (some ⟨w1,0,none⟩)] hp nk K:=by
 refine heapK_mvG (kput_fun n c c2 M st hs g f F hn hc hc2 hM hb1 hb2 hF) G1F (B:=200) (kpM_ok n c c2 M st g f) (fun k=>if k=100 then w0 else if k=101 then w1 else if k=102 then w2 else if k=103 then w3 else k) (fun k hk=>?_) ?_ ?_ ?_ ?_
 ·rw [if_neg (by omega),if_neg (by omega),if_neg (by omega),if_neg (by omega)]
 ·simp [ren,renA,renF,ren0]
 ·intro p hp1
  simp only [kpM,List.mem_cons,List.not_mem_nil,or_false] at hp1
  rcases hp1 with rfl|rfl|rfl|rfl
  ·refine ⟨by simp;omega,?_⟩
   simp [Blk.rn,renF,ren0]
   exact h0
  ·refine ⟨by simp;omega,?_⟩
   simp [stB',Blk.rn,renF,ren0]
   exact h1
  ·refine ⟨by simp;omega,?_⟩
   rw [fa_rn]
   exact h2
  ·refine ⟨by simp;omega,?_⟩
   rw [fa_rn]
   exact h3
 ·intro k hk l hl
  simp only [kpM,keys,List.map_cons,List.map_nil,List.mem_cons,List.not_mem_nil,or_false] at hk hl
  rcases hk with rfl|rfl|rfl|rfl<;>rcases hl with rfl|rfl|rfl|rfl<;>simp<;>omega
 ·simpa [ren,renA,renF,ren0,rnL,keys,kpM,fa_rn] using hK
def OwnT (nk:Nat) (st:Int) (n:Nat) (f:Nat→Int) (e:Int) (v:Value) (ns:List (Nat×Blk)):Prop:=∃ w,OwnS nk st n f w ns∧v=.tuple #[w,.int .i64 e]
theorem ownT_key {nk:Nat} {st:Int} {n:Nat} {f:Nat→Int} {e:Int} {v:Value} {ns:List (Nat×Blk)} (h:OwnT nk st n f e v ns):∀ k∈keys ns,k=nk:=by
 obtain ⟨w,h,rfl⟩:=h
 exact ownS_key h
theorem ownT_fit {D:Nat→Prop} {st:Int} {n:Nat} {f:Nat→Int} {e:Int} (v:Value) (ns:List (Nat×Blk)) (h:OwnT 1000 st n f e v ns):idsV (extD D ns) v∧(∀ p∈ns,200≤p.1∧p.2.ids (extD D ns))∧(∀ k b c,(k,b)∈ns→(k,c)∈ns→b=c):=by
 obtain ⟨w,⟨c,M,g,h1,h2,h3,rfl,rfl⟩,rfl⟩:=h
 refine ⟨by simp [idsV,idsA,idsF,ids0,extD,keys],?_,?_⟩
 ·simp only [List.mem_singleton,forall_eq]
  exact ⟨by omega,Blk.fx_ids (fa_fx _ _ _) _⟩
 ·intro k b c h1 h2
  simp at h1 h2
  rw [h1.2,h2.2]
theorem ownT_rr {nk:Nat} {ρ:Nat→Nat} (h:ρ 1000=nk) (st:Int) (n:Nat) (f:Nat→Int) (e:Int):RR ρ (OwnT 1000 st n f e)=OwnT nk st n f e:=by
 funext v ns
 apply propext
 constructor
 ·rintro ⟨v0,ns0,⟨w,⟨c,M,g,h1,h2,h3,rfl,rfl⟩,rfl⟩,rfl,rfl⟩
  exact ⟨_,⟨c,M,g,h1,h2,h3,rfl,by simp [rnL,fa_rn,h]⟩,by simp [ren,renA,renF,ren0,h]⟩
 ·rintro ⟨w,⟨c,M,g,h1,h2,h3,rfl,rfl⟩,rfl⟩
  exact ⟨_,_,⟨_,⟨c,M,g,h1,h2,h3,rfl,rfl⟩,rfl⟩,by simp [ren,renA,renF,ren0,h],by simp [rnL,fa_rn,h]⟩
def r1n (nk k:Nat):Nat:=if k=1000 then nk else k
theorem FunS.nmL {fn:FuncId} {args:Array Value} {L:List (Nat×Blk)} {R R':Value→List (Nat×Blk)→Prop} (h:FunS Tryz.prog G1 fn args (hpL G1 L) (keys L) R) (hL:LOk L 200) (hfx:∀ p∈L,p.2.fx) (nk:Nat) (hnk:200≤nk) (hR:∀ v ns,R v ns→∀ k∈keys ns,k=1000) (ea:args.map (ren (r1n nk))=args) (eR:RR (r1n nk) R=R') :
  FunS Tryz.prog G1 fn args (hpL G1 L) (keys L) R':=by
 have hlow:∀ k,k<1000→r1n nk k=k:=fun k hk=>if_neg (by omega)
 have hid:∀ k∈keys L,r1n nk k=k:=fun k hk=>by
  obtain ⟨p,hp,rfl⟩:=mem_keys.1 hk
  have:=hL.big p hp
  exact hlow _ (by omega)
 have h10:r1n nk 1000=nk:=if_pos rfl
 refine h.mvL (hp':=hpL G1 L) (rs':=keys L) G1F hL (r1n nk) (fun k hk=>hlow k (by omega)) ea ?_ eR hL.low ?_ ?_ (fun v ns hV k hk=>?_) (fun v ns hV k hk l hl e=>by rw [hR v ns hV k hk,hR v ns hV l hl])
 ·rw [List.map_congr_left hid];simp
 ·intro p hp
  have hb:=hL.big p hp
  rw [hlow p.1 (by omega),Blk.fx_rn (hfx p hp)]
  exact ⟨hb.1,LOk.at hL.one p hp⟩
 ·intro k hk l hl e
  rw [hid k hk,hid l hl] at e
  exact e
 ·rw [hR v ns hV k hk,h10]
  refine ⟨by omega,fun h=>?_⟩
  obtain ⟨p,hp,e⟩:=mem_keys.1 h
  have:=hL.big p hp
  omega
theorem own_nm (a nk:Nat) (ha:100≤a) (hk:100≤nk) (hne:a≠nk) (b:Blk) (off n cap:Nat) (f:Nat→Int) (h:SB b off n f) (hcap:n≤cap) (st:Int) :
  FunS Tryz.prog G1 31 #[.agg #[.int .i64 st,.slice (some ⟨a,off,none⟩) n cap]] (hpL G1 [(a,b)]) [a] (OwnS nk st n f) :=
 FunS.up1 (m:=[(a,b)]) (B:=a+1) ((own_fun b off n cap f h hcap st).own2 h.fx a nk ha hk hne (fun v ns=>ownS_key) (by simp [ren,renA,renF,ren0,r2n_a]) (ownS_rr2 r2n_k st n f)) ⟨by simp [ha],by simp [keys],by simpa using Blk.fx_ids h.fx _⟩
theorem kown10_nm (a nk:Nat) (ha:100≤a) (hk:100≤nk) (hne:a≠nk) (b:Blk) (off n cap:Nat) (f:Nat→Int) (h:SB b off n f) (hcap:n≤cap) (st:Int) :
  FunS Tryz.prog G1 22 #[.agg #[.int .i64 st,.slice (some ⟨a,off,none⟩) n cap]] (hpL G1 [(a,b)]) [a] (OwnS nk st n f) :=
 FunS.up1 (m:=[(a,b)]) (B:=a+1) (own10_nm a nk ha hk hne b off n cap f h hcap st) ⟨by simp [ha],by simp [keys],by simpa using Blk.fx_ids h.fx _⟩
set_option maxRecDepth 8000 in
set_option maxHeartbeats 8000000 in
theorem kick_bad (L:List (Nat×Blk)) (ka ks:Nat) (bm bs:Blk) (hT:LKa L ka ks bm bs) (off n cap off2 N2 cap2:Nat) (fm fs:Nat→Int) (hm:MB bm off n fm) (hSb:SB bs off2 N2 fs) (hcap2:N2≤cap2) (g bx tp nr md st:Int) (hs:i64 st) (p q e:Int) (he:¬e=0) (hk:Fun Tryz.prog G1 11 #[cfV (.slice (some ⟨ka,off,none⟩) n cap) g bx tp nr md,.agg #[.int .i64 st,.slice (some ⟨ks,off2,none⟩) N2 cap2],.int .i64 p,.int .i64 q] (hpL G1 L) (keys L) (.ret (.tuple #[.slice none 0 0,.int .i64 e]) [])) :
  FunS Tryz.prog G1 14 #[cfV (.slice (some ⟨ka,off,none⟩) n cap) g bx tp nr md,.agg #[.int .i64 st,.slice (some ⟨ks,off2,none⟩) N2 cap2],.int .i64 p,.int .i64 q] (hpL G1 L) (keys L) (OwnT 1000 st N2 fs e):=by
 refine newS_ofD (B:=200) G1F Tryz.func14 rfl Tryz.call14 hT.ok ?_ ownT_fit (by simp [Tryz.ntmps14]) (by omega) ?_
 ·simp [idsV,idsA,idsF,ids0,hT.ia,hT.ib,cfV]
 intro C hC hC0 hY
 have hA:=hT.a
 have hS:=hT.s
 have hne:=hT.ne
 have hna:=hT.na
 have hLow:=hT.low
 have hks:=hT.k1
 have hks2:=hT.k2
 have heb:(e != 0)=true:=by simpa using he
 unfold cfV at hk ⊢
 repeat' (first|refine gwA ?_|((first|refine gwR [11] ?_|refine gwD [11] ?_);intro Q hQ hP;simp [hC,hY,hA,hS,hne,hna];(repeat ((first|(refine heapK_L hk hT.ok aMem ?_));try simp [hC,hY,hA,hS,hne,hna]));refine hQ _ _ _ _ (by kernel_rfl) ?_;clear hQ hP Q)|(refine gwC ?_ ?_<;>(intro hb;try (cases hb;done))))
 have dO328:=own_nm ks 328 (by omega) (by omega) (by omega) bs off2 N2 cap2 fs hSb hcap2 st
 refine GW_list ?_
 simp only [Array.toList]
 refine GL_walk 1 [] rfl (by simp) (by kernel_rfl) ?_;intro q hq;simp [hC,hY,hA,hS,hne,hna];refine hq _ _ _ _ ?_;clear hq q
 simp only [wT,List.length_cons,List.length_nil,Nat.reduceAdd]
 refine GL_callL (f:=.func 31) (cap:=#[]) hC dO328 rfl (by simp) rfl rfl (by simp [okT]) (by simp [gev]) (by simp) (by simp [okX,junk]) (by simp [gev]) (by simp [hS,hne,updL]) (by (intro k hk;first|exact hLow k hk|(simp (disch:=omega) only [hLow,addB,List.mem_cons,List.not_mem_nil,or_false,upd_other,hpL_cons,hpL_nil,if_neg,updL,List.cons_append,List.nil_append]<;>done))) ?_ ?_
 ·intro v ns hV k hk
  rw [ownS_key hV k hk]
  omega
 rintro v ns ⟨c328,M328,g328,x328,y328,z328,rfl,rfl⟩
 refine GL_walk 2 [] rfl (by simp) (by kernel_rfl) ?_;intro q hq;simp [hC,hY,putT,updL];refine hq _ _ _ _ ?_;clear hq q
 simp only [wT,List.length_cons,List.length_nil,Nat.reduceAdd]
 refine GL_nil ?_
 repeat' (first|refine gwA ?_|(refine gwX ?_;intro Q hQ hP;simp [hC,hY,hA,hS,hne,hna,heb];refine hQ _ _ _ _ (by kernel_rfl) ?_;clear hQ hP Q)|(refine gwC ?_ ?_<;>(intro hb;try (cases hb;done))))
 refine ⟨.inr trivial,kpT G1F,_,_,fun k=>if k=1000 then 328 else k,⟨_,⟨c328,M328,g328,x328,y328,z328,rfl,rfl⟩,rfl⟩,fun k hk=>if_neg (by omega),by simp,by simp,by simp [Tryz.results14,ren,renA,renF,ren0,updL],?_⟩
 simp [fa_rn,updL]

theorem k_st {st:Int} {fs:Nat→Int} {n:Nat} (h:rightB st fs n=true) {j:Nat} (hj:j<6*n):-1048576≤fs j∧fs j≤1048576:=by
 obtain ⟨⟨⟨_,a0,a0'⟩,⟨_,a1,a1'⟩,⟨_,a2,a2'⟩⟩,⟨_,b0,b0'⟩,⟨_,b1,b1'⟩,⟨_,b2,b2'⟩⟩:=right_b h (i:=j / 6) (by omega)
 have:j%6=0∨j%6=1∨j%6=2∨j%6=3∨j%6=4∨j%6=5:=by omega
 rcases this with c|c|c|c|c|c
 ·rw [show j=6*(j / 6) by omega];exact ⟨by omega,by omega⟩
 ·rw [show j=6*(j / 6)+1 by omega];exact ⟨by omega,by omega⟩
 ·rw [show j=6*(j / 6)+2 by omega];exact ⟨by omega,by omega⟩
 ·rw [show j=6*(j / 6)+3 by omega];exact ⟨by omega,by omega⟩
 ·rw [show j=6*(j / 6)+4 by omega];exact ⟨by omega,by omega⟩
 ·rw [show j=6*(j / 6)+5 by omega];exact ⟨by omega,by omega⟩
set_option maxRecDepth 8000 in
set_option maxHeartbeats 16000000 in
theorem kick_ok (L:List (Nat×Blk)) (ka ks:Nat) (bm bs:Blk) (hT:LKa L ka ks bm bs) (off n cap off2 cap2:Nat) (fm fs:Nat→Int) (hm:MB bm off n fm) (hSb:SB bs off2 n fs) (hcap2:n≤cap2) (g bx tp nr md st:Int) (hs:i64 st) (p q:Int) (hok:cfOk n fm g bx tp nr md=true) (hrt:rightB st fs n=true) (hpt:kprtB p q=true) (hany:kAny fs n=false) (hF:rightB st (kcF p q g fm fs n) n=true) :
  FunS Tryz.prog G1 14 #[cfV (.slice (some ⟨ka,off,none⟩) n cap) g bx tp nr md,.agg #[.int .i64 st,.slice (some ⟨ks,off2,none⟩) n cap2],.int .i64 p,.int .i64 q] (hpL G1 L) (keys L) (OwnT 1000 st n (kcF p q g fm fs n) 0):=by
 refine newS_ofD (B:=200) G1F Tryz.func14 rfl Tryz.call14 hT.ok ?_ ownT_fit (by simp [Tryz.ntmps14]) (by omega) ?_
 ·simp [idsV,idsA,idsF,ids0,hT.ia,hT.ib,cfV]
 intro C hC hC0 hY
 have hA:=hT.a
 have hS:=hT.s
 have hne:=hT.ne
 have hna:=hT.na
 have hLow:=hT.low
 have hks:=hT.k1
 have hks2:=hT.k2
 have hn4:=(right_n hrt).2.1
 have hk:=(kkicks_ok L ka ks bm bs hT off n cap off2 cap2 fm fs hm hSb g bx tp nr md st hs p q hok hrt hpt hany).nmL hT.ok hT.fx 264 (by omega) (fun v ns=>kkR_key) (by have hl:r1n 264 ka=ka:=if_neg (by have:=hT.a2;omega);have hl2:r1n 264 ks=ks:=if_neg (by omega);simp [cfV,ren,renA,renF,ren0,hl,hl2]) (kkR_rr (ρ:=r1n 264) (nk:=264) rfl n (kkF p q g fm fs n))
 unfold cfV at hk ⊢
 repeat' (first|refine gwA ?_|(refine gwX ?_;intro Q hQ hP;simp [hC,hY,hA,hS,hne,hna];refine hQ _ _ _ _ (by kernel_rfl) ?_;clear hQ hP Q)|(refine gwC ?_ ?_<;>(intro hb;try (cases hb;done))))
 refine GW_list ?_
 simp only [Array.toList]
 refine GL_walk 4 [] rfl (by simp) (by kernel_rfl) ?_;intro q hq;simp [hC,hY,hA,hS,hne,hna];refine hq _ _ _ _ ?_;clear hq q
 simp only [wT,List.length_cons,List.length_nil,Nat.reduceAdd]
 refine GL_callL (f:=.func 11) (cap:=#[]) hC hk rfl (by simp) rfl rfl (by simp [okT]) (by simp [gev]) (by simp) (by simp [okX,junk]) (by simp [gev]) (by intro q hq;obtain ⟨p,hp,rfl⟩:=mem_keys.1 hq;have hpb:=hT.ok.big p hp;(try dsimp only);simp (disch:=omega) only [upd_other]) (by (intro k hk;first|exact hLow k hk|(simp (disch:=omega) only [hLow,addB,List.mem_cons,List.not_mem_nil,or_false,upd_other,hpL_cons,hpL_nil,if_neg,updL,List.cons_append,List.nil_append]<;>done))) ?_ ?_
 ·intro v ns hV k hk
  rw [kkR_key hV k hk]
  omega
 rintro v ns ⟨c,gg,hc,hgg,rfl,rfl⟩
 refine GL_walk 6 [] rfl (by simp) (by kernel_rfl) ?_;intro q hq;simp [hC,hY,putT,updL];refine hq _ _ _ _ ?_;clear hq q
 simp only [wT,List.length_cons,List.length_nil,Nat.reduceAdd]
 refine GL_nil ?_
 repeat' (first|refine gwA ?_|(refine gwX ?_;intro Q hQ hP;simp [hC,hY,putT,updL,hA,hS,hne,hna];refine hQ _ _ _ _ (by kernel_rfl) ?_;clear hQ hP Q)|(refine gwC ?_ ?_<;>(intro hb;try (cases hb;done))))
 have dO328:=own_nm ks 328 (by omega) (by omega) (by omega) bs off2 n cap2 fs hSb hcap2 st
 refine GW_list ?_
 simp only [Array.toList]
 refine GL_walk 1 [] rfl (by simp) (by kernel_rfl) ?_;intro q hq;simp [hC,hY,hA,hS,hne,hna];refine hq _ _ _ _ ?_;clear hq q
 simp only [wT,List.length_cons,List.length_nil,Nat.reduceAdd]
 refine GL_callL (f:=.func 31) (cap:=#[]) hC dO328 rfl (by simp) rfl rfl (by simp [okT]) (by simp [gev]) (by simp) (by simp [okX,junk]) (by simp [gev]) (by simp [hS,hne,updL]) (by (intro k hk;first|exact hLow k hk|(simp (disch:=omega) only [hLow,addB,List.mem_cons,List.not_mem_nil,or_false,upd_other,hpL_cons,hpL_nil,if_neg,updL,List.cons_append,List.nil_append]<;>done))) ?_ ?_
 ·intro v ns hV k hk
  rw [ownS_key hV k hk]
  omega
 rintro v ns ⟨c328,M328,g328,x328,y328,z328,rfl,rfl⟩
 refine GL_walk 2 [] rfl (by simp) (by kernel_rfl) ?_;intro q hq;simp [hC,hY,putT,updL];refine hq _ _ _ _ ?_;clear hq q
 simp only [wT,List.length_cons,List.length_nil,Nat.reduceAdd]
 refine GL_nil ?_
 have hb1:∀ j,j<6*n→-1048576≤g328 j∧g328 j≤1048576:=fun j hj=>by rw [z328 j hj];exact k_st hrt hj
 have hb2:∀ j,j<3*n→-18014398509481984≤gg j∧gg j≤18014398509481984:=fun j hj=>by
  rw [hgg j hj]
  exact kS_bd hok hrt hpt (by omega) (by omega) (kAny_f.1 hany _ (by omega))
 have hFF:∀ j,j<6*n→addK g328 gg n j=kcF p q g fm fs n j:=fun j hj=>by
  unfold addK kcF
  by_cases c3:j%6<3
  ·rw [if_pos c3,if_neg (by omega),z328 j hj]
  ·rw [if_neg c3,if_pos (by omega),z328 j hj,hgg _ (by omega),kkF_at _ _ _ _ _ _ _ (by omega)]
 repeat' (first|refine gwA ?_|((first|refine gwR [32] ?_|refine gwD [32] ?_);intro Q hQ hP;simp [hC,hY,hA,hS,hne,hna,hF];(repeat ((first|(refine kput_K (w0:=296) (w1:=336) (w2:=264) (w3:=328) (n:=n) (c:=c) (c2:=c328) (M:=M328) (st:=st) (g:=gg) (f:=g328) (F:=kcF p q g fm fs n) hs hn4 hc x328 y328 hb1 hb2 hFF (by omega) (by omega) (by simp) (by simp [stB']) (by simp) (by simp) ?_));try simp [hC,hY,hA,hS,hne,hna,hF]));refine hQ _ _ _ _ (by kernel_rfl) ?_;clear hQ hP Q)|(refine gwC ?_ ?_<;>(intro hb;try (cases hb;done))))
 refine ⟨.inr trivial,kpT G1F,_,_,fun k=>if k=1000 then 328 else k,⟨_,⟨c328,M328,_,x328,y328,hFF,rfl,rfl⟩,rfl⟩,fun k hk=>if_neg (by omega),by simp,by simp,by simp [Tryz.results14,ren,renA,renF,ren0,updL],?_⟩
 simp [fa_rn,updL]
set_option maxRecDepth 8000 in
set_option maxHeartbeats 16000000 in
theorem kick_over (L:List (Nat×Blk)) (ka ks:Nat) (bm bs:Blk) (hT:LKa L ka ks bm bs) (off n cap off2 cap2:Nat) (fm fs:Nat→Int) (hm:MB bm off n fm) (hSb:SB bs off2 n fs) (hcap2:n≤cap2) (g bx tp nr md st:Int) (hs:i64 st) (p q:Int) (hok:cfOk n fm g bx tp nr md=true) (hrt:rightB st fs n=true) (hpt:kprtB p q=true) (hany:kAny fs n=false) (hF:rightB st (kcF p q g fm fs n) n=false) :
  FunS Tryz.prog G1 14 #[cfV (.slice (some ⟨ka,off,none⟩) n cap) g bx tp nr md,.agg #[.int .i64 st,.slice (some ⟨ks,off2,none⟩) n cap2],.int .i64 p,.int .i64 q] (hpL G1 L) (keys L) (OwnT 1000 st n (fs) 20):=by
 refine newS_ofD (B:=200) G1F Tryz.func14 rfl Tryz.call14 hT.ok ?_ ownT_fit (by simp [Tryz.ntmps14]) (by omega) ?_
 ·simp [idsV,idsA,idsF,ids0,hT.ia,hT.ib,cfV]
 intro C hC hC0 hY
 have hA:=hT.a
 have hS:=hT.s
 have hne:=hT.ne
 have hna:=hT.na
 have hLow:=hT.low
 have hks:=hT.k1
 have hks2:=hT.k2
 have hn4:=(right_n hrt).2.1
 have hk:=(kkicks_ok L ka ks bm bs hT off n cap off2 cap2 fm fs hm hSb g bx tp nr md st hs p q hok hrt hpt hany).nmL hT.ok hT.fx 264 (by omega) (fun v ns=>kkR_key) (by have hl:r1n 264 ka=ka:=if_neg (by have:=hT.a2;omega);have hl2:r1n 264 ks=ks:=if_neg (by omega);simp [cfV,ren,renA,renF,ren0,hl,hl2]) (kkR_rr (ρ:=r1n 264) (nk:=264) rfl n (kkF p q g fm fs n))
 unfold cfV at hk ⊢
 repeat' (first|refine gwA ?_|(refine gwX ?_;intro Q hQ hP;simp [hC,hY,hA,hS,hne,hna];refine hQ _ _ _ _ (by kernel_rfl) ?_;clear hQ hP Q)|(refine gwC ?_ ?_<;>(intro hb;try (cases hb;done))))
 refine GW_list ?_
 simp only [Array.toList]
 refine GL_walk 4 [] rfl (by simp) (by kernel_rfl) ?_;intro q hq;simp [hC,hY,hA,hS,hne,hna];refine hq _ _ _ _ ?_;clear hq q
 simp only [wT,List.length_cons,List.length_nil,Nat.reduceAdd]
 refine GL_callL (f:=.func 11) (cap:=#[]) hC hk rfl (by simp) rfl rfl (by simp [okT]) (by simp [gev]) (by simp) (by simp [okX,junk]) (by simp [gev]) (by intro q hq;obtain ⟨p,hp,rfl⟩:=mem_keys.1 hq;have hpb:=hT.ok.big p hp;(try dsimp only);simp (disch:=omega) only [upd_other]) (by (intro k hk;first|exact hLow k hk|(simp (disch:=omega) only [hLow,addB,List.mem_cons,List.not_mem_nil,or_false,upd_other,hpL_cons,hpL_nil,if_neg,updL,List.cons_append,List.nil_append]<;>done))) ?_ ?_
 ·intro v ns hV k hk
  rw [kkR_key hV k hk]
  omega
 rintro v ns ⟨c,gg,hc,hgg,rfl,rfl⟩
 refine GL_walk 6 [] rfl (by simp) (by kernel_rfl) ?_;intro q hq;simp [hC,hY,putT,updL];refine hq _ _ _ _ ?_;clear hq q
 simp only [wT,List.length_cons,List.length_nil,Nat.reduceAdd]
 refine GL_nil ?_
 repeat' (first|refine gwA ?_|(refine gwX ?_;intro Q hQ hP;simp [hC,hY,putT,updL,hA,hS,hne,hna];refine hQ _ _ _ _ (by kernel_rfl) ?_;clear hQ hP Q)|(refine gwC ?_ ?_<;>(intro hb;try (cases hb;done))))
 have dO328:=own_nm ks 328 (by omega) (by omega) (by omega) bs off2 n cap2 fs hSb hcap2 st
 refine GW_list ?_
 simp only [Array.toList]
 refine GL_walk 1 [] rfl (by simp) (by kernel_rfl) ?_;intro q hq;simp [hC,hY,hA,hS,hne,hna];refine hq _ _ _ _ ?_;clear hq q
 simp only [wT,List.length_cons,List.length_nil,Nat.reduceAdd]
 refine GL_callL (f:=.func 31) (cap:=#[]) hC dO328 rfl (by simp) rfl rfl (by simp [okT]) (by simp [gev]) (by simp) (by simp [okX,junk]) (by simp [gev]) (by simp [hS,hne,updL]) (by (intro k hk;first|exact hLow k hk|(simp (disch:=omega) only [hLow,addB,List.mem_cons,List.not_mem_nil,or_false,upd_other,hpL_cons,hpL_nil,if_neg,updL,List.cons_append,List.nil_append]<;>done))) ?_ ?_
 ·intro v ns hV k hk
  rw [ownS_key hV k hk]
  omega
 rintro v ns ⟨c328,M328,g328,x328,y328,z328,rfl,rfl⟩
 refine GL_walk 2 [] rfl (by simp) (by kernel_rfl) ?_;intro q hq;simp [hC,hY,putT,updL];refine hq _ _ _ _ ?_;clear hq q
 simp only [wT,List.length_cons,List.length_nil,Nat.reduceAdd]
 refine GL_nil ?_
 have hb1:∀ j,j<6*n→-1048576≤g328 j∧g328 j≤1048576:=fun j hj=>by rw [z328 j hj];exact k_st hrt hj
 have hb2:∀ j,j<3*n→-18014398509481984≤gg j∧gg j≤18014398509481984:=fun j hj=>by
  rw [hgg j hj]
  exact kS_bd hok hrt hpt (by omega) (by omega) (kAny_f.1 hany _ (by omega))
 have hFF:∀ j,j<6*n→addK g328 gg n j=kcF p q g fm fs n j:=fun j hj=>by
  unfold addK kcF
  by_cases c3:j%6<3
  ·rw [if_pos c3,if_neg (by omega),z328 j hj]
  ·rw [if_neg c3,if_pos (by omega),z328 j hj,hgg _ (by omega),kkF_at _ _ _ _ _ _ _ (by omega)]
 repeat' (first|refine gwA ?_|((first|refine gwR [32] ?_|refine gwD [32] ?_);intro Q hQ hP;simp [hC,hY,hA,hS,hne,hna,hF];(repeat ((first|(refine kput_K (w0:=296) (w1:=336) (w2:=264) (w3:=328) (n:=n) (c:=c) (c2:=c328) (M:=M328) (st:=st) (g:=gg) (f:=g328) (F:=kcF p q g fm fs n) hs hn4 hc x328 y328 hb1 hb2 hFF (by omega) (by omega) (by simp) (by simp [stB']) (by simp) (by simp) ?_));try simp [hC,hY,hA,hS,hne,hna,hF]));refine hQ _ _ _ _ (by kernel_rfl) ?_;clear hQ hP Q)|(refine gwC ?_ ?_<;>(intro hb;try (cases hb;done))))
 have dO432:=own_nm ks 432 (by omega) (by omega) (by omega) bs off2 n cap2 fs hSb hcap2 st
 refine GW_list ?_
 simp only [Array.toList]
 refine GL_walk 1 [] rfl (by simp) (by kernel_rfl) ?_;intro q hq;simp [hC,hY,hA,hS,hne,hna];refine hq _ _ _ _ ?_;clear hq q
 simp only [wT,List.length_cons,List.length_nil,Nat.reduceAdd]
 refine GL_callL (f:=.func 31) (cap:=#[]) hC dO432 rfl (by simp) rfl rfl (by simp [okT]) (by simp [gev]) (by simp) (by simp [okX,junk]) (by simp [gev]) (by simp [hS,hne,updL]) (by (intro k hk;first|exact hLow k hk|(simp (disch:=omega) only [hLow,addB,List.mem_cons,List.not_mem_nil,or_false,upd_other,hpL_cons,hpL_nil,if_neg,updL,List.cons_append,List.nil_append]<;>done))) ?_ ?_
 ·intro v ns hV k hk
  rw [ownS_key hV k hk]
  omega
 rintro v ns ⟨c432,M432,g432,x432,y432,z432,rfl,rfl⟩
 refine GL_walk 2 [] rfl (by simp) (by kernel_rfl) ?_;intro q hq;simp [hC,hY,putT,updL];refine hq _ _ _ _ ?_;clear hq q
 simp only [wT,List.length_cons,List.length_nil,Nat.reduceAdd]
 refine GL_nil ?_
 repeat' (first|refine gwA ?_|(refine gwX ?_;intro Q hQ hP;simp [hC,hY,hA,hS,hne,hna];refine hQ _ _ _ _ (by kernel_rfl) ?_;clear hQ hP Q)|(refine gwC ?_ ?_<;>(intro hb;try (cases hb;done))))
 refine ⟨.inr trivial,kpT G1F,_,_,fun k=>if k=1000 then 432 else k,⟨_,⟨c432,M432,g432,x432,y432,z432,rfl,rfl⟩,rfl⟩,fun k hk=>if_neg (by omega),by simp,by simp,by simp [Tryz.results14,ren,renA,renF,ren0,updL],?_⟩
 simp [fa_rn,updL]
def nzB (g:Nat→Int) (i:Nat):Bool:=!(decide (g (3*i)=0)&&(decide (g (3*i+1)=0)&&decide (g (3*i+2)=0)))
theorem st1_ret (a b c:Int):Ret Tryz.prog G1 36 #[.agg #[.int .i64 a,.int .i64 b,.int .i64 c]] (.bool !(decide (a=0)&&(decide (b=0)&&decide (c=0)))):=by
 refine ret_of G1F Tryz.func36 rfl Tryz.call36 (by simp) (by simp) (by simp [Tryz.ntmps36]) ?_
 intro C hC hC0 hY
 repeat' (first|refine gwA ?_|(refine gwX ?_;intro Q hQ hP;simp [hC,hY];refine hQ _ _ _ _ (by kernel_rfl) ?_;clear hQ hP Q)|(refine gwC ?_ ?_<;>(intro hb;try (cases hb;done))))
 refine ⟨.inr trivial,?_⟩
 simp [Tryz.results36]
 try (by_cases h0:a=0<;>by_cases h1:b=0<;>by_cases h2:c=0<;>simp [h0,h1,h2])
@[simp] theorem st1_at (a b c:Int) (K:Value→Prop):callK Tryz.prog G1 36 #[.agg #[.int .i64 a,.int .i64 b,.int .i64 c]] K↔K (.bool !(decide (a=0)&&(decide (b=0)&&decide (c=0)))):=callK_iff G1W (by kernel_rfl) (st1_ret a b c)
def vixSt (n c:Nat) (g:Nat→Int) (i:Nat):GS :=
 ⟨tsL [(0,.slice (some ⟨100,0,none⟩) n c),(1,.func (.func 36) #[] #[]),(7,.int .i64 n),(8,.int .i64 i)],hpL G1 [(100,⟨fa (3*c) .i64 g,.ty 31⟩)],300,0⟩
set_option maxHeartbeats 2000000 in
theorem vix_fun (n c:Nat) (g:Nat→Int) (hc:n≤c) (hn:n≤4) (N:Nat) (hN:N≤n) (hlt:∀ i,i<N→nzB g i=false) (hend:N=n∨nzB g N=true) :
  Fun Tryz.prog G1 54 #[.slice (some ⟨100,0,none⟩) n c,.func (.func 36) #[] #[]] (hpL G1 [(100,⟨fa (3*c) .i64 g,.ty 31⟩)]) (keys [(100,(⟨fa (3*c) .i64 g,.ty 31⟩:Blk))]) (.ret (.int .i64 (if N=n then -1 else N)) []):=by
 refine fun_ofL (B:=200) G1F Tryz.func54 rfl Tryz.call54 (oneL_ok (fa_fx _ _ _)) ?_ (by simp) (by simp) (by simp) (by simp [Tryz.ntmps54]) (by omega) ?_
 ·simp [idsV,idsA,idsF,ids0,keys]
 intro C hC hC0 hY
 have hid:=fun D=>Blk.fx_ids (fa_fx (3*c) g 31) D
 repeat' (first|refine gwA ?_|(refine gwX ?_;intro Q hQ hP;simp [hC,hY];refine hQ _ _ _ _ (by kernel_rfl) ?_;clear hQ hP Q)|(refine gwC ?_ ?_<;>(intro hb;try (cases hb;done))))
 refine GW_for N (vixSt n c g) ?_ ?_ ?_
 ·refine weakL _ 300 hC G1F (m0:=[(100,_)]) hC0 (by omega) ?_ ?_ ?_
  ·simp [idsV,idsA,idsF,ids0,dom]
  ·simp [hid]
  ·simp
 ·intro i hi
  have hin:i<n:=by omega
  have hi':(i:Int)<n:=by omega
  have hz:(0:Int)≤i:=by omega
  have hs:=nat_succ hin hn
  have hld:=kvec_ld (g:=g) hc hin
  have hq:=hlt i hi
  unfold nzB at hq
  unfold vixSt
  repeat' (first|refine gwA ?_|(refine gwX ?_;intro Q hQ hP;simp [hC,hY,hi,hin,hi',hz,hs,hld,hq];refine hQ _ _ _ _ (by kernel_rfl) ?_;clear hQ hP Q)|(refine gwC ?_ ?_<;>(intro hb;try (cases hb;done))))
  refine weakL _ 300 hC G1F (m0:=[(100,_)]) hC0 (by omega) ?_ ?_ ?_
  ·simp [idsV,idsA,idsF,ids0,dom,hs]
  ·simp [hid]
  ·simp
 ·by_cases hNn:N=n
  ·subst hNn
   simp only [if_true]
   unfold vixSt
   repeat' (first|refine gwA ?_|(refine gwX ?_;intro Q hQ hP;simp [hC,hY];refine hQ _ _ _ _ (by kernel_rfl) ?_;clear hQ hP Q)|(refine gwC ?_ ?_<;>(intro hb;try (cases hb;done))))
   refine ⟨.inr rfl,by simp [Tryz.results54],kpS G1F⟩
  ·have hin:N<n:=by omega
   have hi':(N:Int)<n:=by omega
   have hz:(0:Int)≤N:=by omega
   have hld:=kvec_ld (g:=g) hc hin
   have hq:=hend.resolve_left hNn
   unfold nzB at hq
   rw [if_neg hNn]
   unfold vixSt
   repeat' (first|refine gwA ?_|(refine gwX ?_;intro Q hQ hP;simp [hC,hY,hin,hi',hz,hld,hq];refine hQ _ _ _ _ (by kernel_rfl) ?_;clear hQ hP Q)|(refine gwC ?_ ?_<;>(intro hb;try (cases hb;done))))
   refine ⟨.inr rfl,by simp [Tryz.results54],kpS G1F⟩
def nzAny (g:Nat→Int) (n:Nat):Bool:=(List.range n).any fun i=>nzB g i
theorem nz_lead (g:Nat→Int):∀ n,∃ N,N≤n∧(∀ i,i<N→nzB g i=false)∧(N=n∨nzB g N=true)
 | 0=>⟨0,by omega,fun i hi=>by omega,.inl rfl⟩
 | n+1=>by
  obtain ⟨N,h1,h2,h3⟩:=nz_lead g n
  by_cases e:N=n
  ·cases h:nzB g n with
   | true=>exact ⟨n,by omega,fun i hi=>h2 i (by omega),.inr h⟩
   | false=>exact ⟨n+1,by omega,fun i hi=>by
     by_cases e2:i=n
     ·rw [e2];exact h
     ·exact h2 i (by omega),.inl rfl⟩
  ·exact ⟨N,by omega,h2,.inr (h3.resolve_left e)⟩
theorem nzAny_f {g:Nat→Int} {n:Nat}:nzAny g n=false↔∀ i,i<n→nzB g i=false:=by
 unfold nzAny
 rw [List.any_eq_false]
 exact ⟨fun h i hi=>by simpa using h i (by simpa using hi),fun h i hi=>by simpa using h i (by simpa using hi)⟩
theorem nzAny_congr {g h:Nat→Int} {n:Nat} (e:∀ j,j<3*n→g j=h j):nzAny g n=nzAny h n:=by
 have k:∀ i,i<n→nzB g i=nzB h i:=fun i hi=>by
  unfold nzB
  rw [e _ (by omega),e _ (by omega),e _ (by omega)]
 cases c:nzAny h n with
 | false=>exact nzAny_f.2 fun i hi=>by rw [k i hi];exact nzAny_f.1 c i hi
 | true =>
  cases c2:nzAny g n with
  | true=>rfl
  | false =>
   have:nzAny h n=false:=nzAny_f.2 fun i hi=>by rw [←k i hi];exact nzAny_f.1 c2 i hi
   rw [this] at c
   exact absurd c (by simp)
theorem vcf_fun (n c:Nat) (g:Nat→Int) (hc:n≤c) (hn:n≤4) :
  Fun Tryz.prog G1 35 #[.slice (some ⟨100,0,none⟩) n c,.func (.func 36) #[] #[]] (hpL G1 [(100,⟨fa (3*c) .i64 g,.ty 31⟩)]) (keys [(100,(⟨fa (3*c) .i64 g,.ty 31⟩:Blk))]) (.ret (.bool (nzAny g n)) []):=by
 refine fun_ofL (B:=200) G1F Tryz.func35 rfl Tryz.call35 (oneL_ok (fa_fx _ _ _)) ?_ (by simp) (by simp) (by simp) (by simp [Tryz.ntmps35]) (by omega) ?_
 ·simp [idsV,idsA,idsF,ids0,keys]
 intro C hC hC0 hY
 have hr:=fun ρ=>Blk.fx_rn (fa_fx (3*c) g 31) ρ
 obtain ⟨N,hN,hlt,hend⟩:=nz_lead g n
 by_cases hNn:N=n
 ·have e:nzAny g n=false:=nzAny_f.2 fun i hi=>hlt i (by omega)
  rw [e]
  repeat' (first|refine gwA ?_|((first|refine gwR [54] ?_|refine gwD [54] ?_);intro Q hQ hP;simp [hC,hY,hNn];(repeat ((first|(refine heapK_mv (vix_fun n c g hc hn N hN hlt hend) G1F (B:=200) (oneL_ok (fa_fx _ _ _)) (fun k=>k) (fun k hk=>rfl) (by simp [ren,renA,renF,ren0]) (by simp) (by simp [hr]) (by simp [keys]) (by simp [keys];rfl) ?_));try simp [hC,hY,hNn]));refine hQ _ _ _ _ (by kernel_rfl) ?_;clear hQ hP Q)|(refine gwC ?_ ?_<;>(intro hb;try (cases hb;done))))
  refine ⟨.inr rfl,by simp [Tryz.results35],kpS G1F⟩
 ·have e:nzAny g n=true:=by
   cases c:nzAny g n with
   | true=>rfl
   | false =>
    have:=nzAny_f.1 c N (by omega)
    rw [hend.resolve_left hNn] at this
    exact absurd this (by simp)
  have hz:(0:Int)≤N:=by omega
  rw [e]
  repeat' (first|refine gwA ?_|((first|refine gwR [54] ?_|refine gwD [54] ?_);intro Q hQ hP;simp [hC,hY,hNn,hz];(repeat ((first|(refine heapK_mv (vix_fun n c g hc hn N hN hlt hend) G1F (B:=200) (oneL_ok (fa_fx _ _ _)) (fun k=>k) (fun k hk=>rfl) (by simp [ren,renA,renF,ren0]) (by simp) (by simp [hr]) (by simp [keys]) (by simp [keys];rfl) ?_));try simp [hC,hY,hNn,hz]));refine hQ _ _ _ _ (by kernel_rfl) ?_;clear hQ hP Q)|(refine gwC ?_ ?_<;>(intro hb;try (cases hb;done))))
  refine ⟨.inr rfl,by simp [Tryz.results35],kpS G1F⟩
theorem kstill_bad (L:List (Nat×Blk)) (ka ks:Nat) (bm bs:Blk) (hT:LKa L ka ks bm bs) (off n cap off2 N2 cap2:Nat) (g bx tp nr md st:Int) (p q e:Int) (he:¬e=0) (hk:Fun Tryz.prog G1 11 #[cfV (.slice (some ⟨ka,off,none⟩) n cap) g bx tp nr md,.agg #[.int .i64 st,.slice (some ⟨ks,off2,none⟩) N2 cap2],.int .i64 p,.int .i64 q] (hpL G1 L) (keys L) (.ret (.tuple #[.slice none 0 0,.int .i64 e]) [])) :
  Fun Tryz.prog G1 17 #[cfV (.slice (some ⟨ka,off,none⟩) n cap) g bx tp nr md,.agg #[.int .i64 st,.slice (some ⟨ks,off2,none⟩) N2 cap2],.int .i64 p,.int .i64 q] (hpL G1 L) (keys L) (.ret (.bool false) []):=by
 refine fun_ofD (B:=200) G1F Tryz.func17 rfl Tryz.call17 hT.ok ?_ (by simp) (by simp) (by simp) (by simp [Tryz.ntmps17]) (by omega) ?_
 ·simp [idsV,idsA,idsF,ids0,hT.ia,hT.ib,cfV]
 intro C hC hC0 hY
 have hA:=hT.a
 have hS:=hT.s
 have hne:=hT.ne
 have hna:=hT.na
 have hLow:=hT.low
 have hks:=hT.k1
 have hks2:=hT.k2
 have heb:(e==0)=false:=by simpa using he
 unfold cfV at hk ⊢
 repeat' (first|refine gwA ?_|((first|refine gwR [11] ?_|refine gwD [11] ?_);intro Q hQ hP;simp [hC,hY,hA,hS,hne,hna,heb,he];(repeat ((first|(refine heapK_L hk hT.ok aMem ?_));try simp [hC,hY,hA,hS,hne,hna,heb,he]));refine hQ _ _ _ _ (by kernel_rfl) ?_;clear hQ hP Q)|(refine gwC ?_ ?_<;>(intro hb;try (cases hb;done))))
 refine ⟨.inr rfl,by simp [Tryz.results17],kpT G1F⟩
set_option maxRecDepth 8000 in
set_option maxHeartbeats 4000000 in
theorem kstill_ok (L:List (Nat×Blk)) (ka ks:Nat) (bm bs:Blk) (hT:LKa L ka ks bm bs) (off n cap off2 cap2:Nat) (fm fs:Nat→Int) (hm:MB bm off n fm) (hSb:SB bs off2 n fs) (g bx tp nr md st:Int) (hs:i64 st) (p q:Int) (hok:cfOk n fm g bx tp nr md=true) (hrt:rightB st fs n=true) (hpt:kprtB p q=true) (hany:kAny fs n=false) :
  Fun Tryz.prog G1 17 #[cfV (.slice (some ⟨ka,off,none⟩) n cap) g bx tp nr md,.agg #[.int .i64 st,.slice (some ⟨ks,off2,none⟩) n cap2],.int .i64 p,.int .i64 q] (hpL G1 L) (keys L) (.ret (.bool !(nzAny (kkF p q g fm fs n) n)) []):=by
 refine fun_ofD (B:=200) G1F Tryz.func17 rfl Tryz.call17 hT.ok ?_ (by simp) (by simp) (by simp) (by simp [Tryz.ntmps17]) (by omega) ?_
 ·simp [idsV,idsA,idsF,ids0,hT.ia,hT.ib,cfV]
 intro C hC hC0 hY
 have hA:=hT.a
 have hS:=hT.s
 have hne:=hT.ne
 have hna:=hT.na
 have hLow:=hT.low
 have hks:=hT.k1
 have hks2:=hT.k2
 have hn4:=(right_n hrt).2.1
 have hk:=(kkicks_ok L ka ks bm bs hT off n cap off2 cap2 fm fs hm hSb g bx tp nr md st hs p q hok hrt hpt hany).nmL hT.ok hT.fx 256 (by omega) (fun v ns=>kkR_key) (by have hl:r1n 256 ka=ka:=if_neg (by have:=hT.a2;omega);have hl2:r1n 256 ks=ks:=if_neg (by omega);simp [cfV,ren,renA,renF,ren0,hl,hl2]) (kkR_rr (ρ:=r1n 256) (nk:=256) rfl n (kkF p q g fm fs n))
 unfold cfV at hk ⊢
 repeat' (first|refine gwA ?_|(refine gwX ?_;intro Q hQ hP;simp [hC,hY,hA,hS,hne,hna];refine hQ _ _ _ _ (by kernel_rfl) ?_;clear hQ hP Q)|(refine gwC ?_ ?_<;>(intro hb;try (cases hb;done))))
 refine GW_list ?_
 simp only [Array.toList]
 refine GL_walk 4 [] rfl (by simp) (by kernel_rfl) ?_;intro q hq;simp [hC,hY,hA,hS,hne,hna];refine hq _ _ _ _ ?_;clear hq q
 simp only [wT,List.length_cons,List.length_nil,Nat.reduceAdd]
 refine GL_callL (f:=.func 11) (cap:=#[]) hC hk rfl (by simp) rfl rfl (by simp [okT]) (by simp [gev]) (by simp) (by simp [okX,junk]) (by simp [gev]) (by intro q hq;obtain ⟨p,hp,rfl⟩:=mem_keys.1 hq;have hpb:=hT.ok.big p hp;(try dsimp only);simp (disch:=omega) only [upd_other]) (by (intro k hk;first|exact hLow k hk|(simp (disch:=omega) only [hLow,addB,List.mem_cons,List.not_mem_nil,or_false,upd_other,hpL_cons,hpL_nil,if_neg,updL,List.cons_append,List.nil_append]<;>done))) ?_ ?_
 ·intro v ns hV k hk
  rw [kkR_key hV k hk]
  omega
 rintro v ns ⟨c,gg,hc,hgg,rfl,rfl⟩
 refine GL_walk 5 [] rfl (by simp) (by kernel_rfl) ?_;intro q hq;simp [hC,hY,putT,updL];refine hq _ _ _ _ ?_;clear hq q
 simp only [wT,List.length_cons,List.length_nil,Nat.reduceAdd]
 refine GL_nil ?_
 have hr:=fun ρ=>Blk.fx_rn (fa_fx (3*c) gg 31) ρ
 have hcf:=vcf_fun n c gg hc hn4.2
 rw [nzAny_congr hgg] at hcf
 cases hz:nzAny (kkF p q g fm fs n) n
 all_goals rw [hz] at hcf
 all_goals
  repeat' (first|refine gwA ?_|((first|refine gwR [35] ?_|refine gwD [35] ?_);intro Q hQ hP;simp [hC,hY,putT,updL,hA,hS,hne,hna];(repeat ((first|(refine heapK_mv hcf G1F (B:=200) (oneL_ok (fa_fx _ _ _)) (fun k=>if k=100 then 256 else k) (fun k hk=>if_neg (by omega)) (by simp [ren,renA,renF,ren0]) (by simp) (by simp [hr]) (by simp [keys]) (by simp [keys];rfl) ?_));try simp [hC,hY,putT,updL,hA,hS,hne,hna]));refine hQ _ _ _ _ (by kernel_rfl) ?_;clear hQ hP Q)|(refine gwC ?_ ?_<;>(intro hb;try (cases hb;done))))
 all_goals
  refine ⟨.inr rfl,by simp [Tryz.results17],kpT G1F⟩
def r3n (a b nk k:Nat):Nat:=if k=100 then a else if k=108 then b else if k=1000 then nk else k
theorem r3n_a {a b nk:Nat}:r3n a b nk 100=a:=rfl
theorem r3n_b {a b nk:Nat}:r3n a b nk 108=b:=rfl
theorem r3n_k {a b nk:Nat}:r3n a b nk 1000=nk:=rfl
theorem r3n_low {a b nk:Nat} (k:Nat) (h:k<100):r3n a b nk k=k:=by
 unfold r3n
 rw [if_neg (by omega),if_neg (by omega),if_neg (by omega)]
theorem FunS.own3 {fn:FuncId} {args args':Array Value} {x y:Blk} {R R':Value→List (Nat×Blk)→Prop} (h:FunS Tryz.prog G1 fn args (hpL G1 [(100,x),(108,y)]) (keys [(100,x),(108,y)]) R) (hx:x.fx) (hy:y.fx) (a b nk:Nat) (ha:100≤a) (hb:100≤b) (hk:100≤nk) (h1:a≠b) (h2:a≠nk) (h3:b≠nk) (hR:∀ v ns,R v ns→∀ k∈keys ns,k=1000) (ea:args.map (ren (r3n a b nk))=args') (eR:RR (r3n a b nk) R=R') :
  FunS Tryz.prog G1 fn args' (hpL G1 [(a,x),(b,y)]) [a,b] R':=by
 refine h.mvL G1F (LTwo.two (G:=G1) hx hy).ok (r3n a b nk) r3n_low ea (by simp [keys,r3n_a,r3n_b]) eR (fun k hk=>?_) ?_ ?_ (fun v ns hV k hk=>?_) (fun v ns hV k hk l hl _=>by rw [hR v ns hV k hk,hR v ns hV l hl])
 ·rw [hpL_cons,if_neg (by omega),hpL_cons,if_neg (by omega)]
  rfl
 ·simp only [List.mem_cons,List.not_mem_nil,or_false,forall_eq_or_imp,forall_eq]
  rw [Blk.fx_rn hx,Blk.fx_rn hy,r3n_a,r3n_b]
  have h1':¬b=a:=fun e=>h1 e.symm
  exact ⟨⟨ha,by simp⟩,hb,by simp [h1']⟩
 ·intro k hk l hl e
  simp only [keys,List.map_cons,List.map_nil,List.mem_cons,List.not_mem_nil,or_false] at hk hl
  rcases hk with rfl|rfl<;>rcases hl with rfl|rfl<;>simp only [r3n_a,r3n_b] at e<;>first|rfl|exact absurd e h1|exact absurd e.symm h1
 ·rw [hR v ns hV k hk,r3n_k]
  refine ⟨by omega,fun hm=>?_⟩
  simp only [List.mem_cons,List.not_mem_nil,or_false] at hm
  rcases hm with e|e
  ·exact h2 e.symm
  ·exact h3 e.symm
def kwM:Blk:=⟨#[.int .i64 1,.int .i64 2],.ty 3⟩
def kwS:Blk:=⟨#[.int .i64 0,.int .i64 0,.int .i64 0,.int .i64 0,.int .i64 0,.int .i64 0,.int .i64 10,.int .i64 0,.int .i64 0,.int .i64 5,.int .i64 0,.int .i64 0],.ty 45⟩
def kwT:Blk:=⟨#[.int .i64 3],.ty 3⟩
def kwZ:Blk:=⟨#[.int .i64 0,.int .i64 0,.int .i64 0,.int .i64 0,.int .i64 0,.int .i64 0],.ty 45⟩
def kwm (j:Nat):Int:=if j=0 then 1 else 2
def kwb (j:Nat):Int:=if j=6 then 10 else if j=9 then 5 else 0
def kwx (j:Nat):Int:=if j=9 then 5 else 0
def kwo (j:Nat):Int:=if j=3 then -2 else if j=6 then 10 else if j=9 then 6 else 0
theorem kwM_fx:kwM.fx:=fun x hx=>by simp [kwM] at hx;rcases hx with rfl|rfl<;>rfl
theorem kwS_fx:kwS.fx:=fun x hx=>by
 unfold kwS at hx
 simp only [List.mem_toArray,List.mem_cons,List.not_mem_nil,or_false] at hx
 rcases hx with h|h|h|h|h|h|h|h|h|h|h|h<;>(rw [h];rfl)
theorem kwT_fx:kwT.fx:=fun x hx=>by
 unfold kwT at hx
 simp only [List.mem_toArray,List.mem_cons,List.not_mem_nil,or_false,or_self] at hx
 rw [hx]
 rfl
theorem kwZ_fx:kwZ.fx:=fun x hx=>by
 unfold kwZ at hx
 simp only [List.mem_toArray,List.mem_cons,List.not_mem_nil,or_false,or_self] at hx
 rw [hx]
 rfl
theorem kwM_mb:MB kwM 0 2 kwm:=⟨fun j hj=>by
 have:j=0∨j=1:=by omega
 rcases this with rfl|rfl<;>rfl,kwM_fx,fun j hj=>by
 have:j=0∨j=1:=by omega
 rcases this with rfl|rfl<;>decide,by omega⟩
theorem kwS_sb:SB kwS 0 2 kwb:=⟨fun j hj=>by
 have:j=0∨j=1∨j=2∨j=3∨j=4∨j=5∨j=6∨j=7∨j=8∨j=9∨j=10∨j=11:=by omega
 rcases this with rfl|rfl|rfl|rfl|rfl|rfl|rfl|rfl|rfl|rfl|rfl|rfl<;>rfl,kwS_fx,fun j hj=>by
 have:j=0∨j=1∨j=2∨j=3∨j=4∨j=5∨j=6∨j=7∨j=8∨j=9∨j=10∨j=11:=by omega
 rcases this with rfl|rfl|rfl|rfl|rfl|rfl|rfl|rfl|rfl|rfl|rfl|rfl<;>decide,by omega⟩
theorem kwT_mb:MB kwT 0 1 (fun _=>3):=⟨fun j hj=>by
 obtain rfl:j=0:=by omega
 rfl,kwT_fx,fun j hj=>by decide,by omega⟩
theorem kwZ_sb:SB kwZ 0 1 (fun _=>0):=⟨fun j hj=>by
 have:j=0∨j=1∨j=2∨j=3∨j=4∨j=5:=by omega
 rcases this with rfl|rfl|rfl|rfl|rfl|rfl<;>rfl,kwZ_fx,fun j hj=>by decide,by omega⟩
theorem kw_ok:cfOk 2 kwm 100 1000 1000 2 0=true:=by decide
theorem kw_rt:rightB 0 kwb 2=true:=by decide
theorem kw_rx:rightB 0 kwx 2=true:=by decide
theorem kw_ro:rightB 0 kwo 2=true:=by decide
theorem kw_any:kAny kwb 2=false:=by decide
theorem kw_zx:kZ kwx 2 1=true:=by decide
theorem kwT_ok:cfOk 1 (fun _=>3) 1 1 1 1 0=true:=by decide
theorem kwZ_rt:rightB 0 (fun _=>0) 1=true:=by decide
theorem kwZ_any:kAny (fun _=>0) 1=false:=by decide
theorem kw_x0 (n d g m r:Int):pullV n d g m 0 r=0:=by
 unfold pullV
 rw [kp_mag0]
 (repeat' split)<;>rfl
theorem kw_p0:pullV 1 1 100 2 10 100=2:=by
 have e:isq (2*1*100*2*10*(2*1*100*2*10) / (1*1*100*100*100))=4:=isq_unique (by decide) (by decide) (by decide)
 unfold pullV pmag
 rw [e]
 decide
theorem kw_p1:pullV 1 1 100 1 (-10) 100=-1:=by
 have e:isq (2*1*100*1*(-10)*(2*1*100*1*(-10)) / (1*1*100*100*100))=2:=isq_unique (by decide) (by decide) (by decide)
 unfold pullV pmag
 rw [e]
 decide
theorem kw_S00:kS 1 1 100 kwm kwb 2 0 0=2:=by
 have e:kS 1 1 100 kwm kwb 2 0 0=pullV 1 1 100 2 10 100+0:=rfl
 rw [e,kw_p0]
 rfl
theorem kw_S01:kS 1 1 100 kwm kwb 2 0 1=0:=by
 have e:kS 1 1 100 kwm kwb 2 0 1=pullV 1 1 100 2 0 100+0:=rfl
 rw [e,kw_x0]
 rfl
theorem kw_S02:kS 1 1 100 kwm kwb 2 0 2=0:=by
 have e:kS 1 1 100 kwm kwb 2 0 2=pullV 1 1 100 2 0 100+0:=rfl
 rw [e,kw_x0]
 rfl
theorem kw_S10:kS 1 1 100 kwm kwb 2 1 0=-1:=by
 have e:kS 1 1 100 kwm kwb 2 1 0=pullV 1 1 100 1 (-10) 100+0:=rfl
 rw [e,kw_p1]
 rfl
theorem kw_S11:kS 1 1 100 kwm kwb 2 1 1=0:=by
 have e:kS 1 1 100 kwm kwb 2 1 1=pullV 1 1 100 1 0 100+0:=rfl
 rw [e,kw_x0]
 rfl
theorem kw_S12:kS 1 1 100 kwm kwb 2 1 2=0:=by
 have e:kS 1 1 100 kwm kwb 2 1 2=pullV 1 1 100 1 0 100+0:=rfl
 rw [e,kw_x0]
 rfl
theorem kw_F:kkF 1 1 100 kwm kwb 2 0=2∧kkF 1 1 100 kwm kwb 2 1=0∧kkF 1 1 100 kwm kwb 2 2=0∧kkF 1 1 100 kwm kwb 2 3=-1∧kkF 1 1 100 kwm kwb 2 4=0∧kkF 1 1 100 kwm kwb 2 5=0:=⟨kw_S00,kw_S01,kw_S02,kw_S10,kw_S11,kw_S12⟩
theorem kw_nz:nzAny (kkF 1 1 100 kwm kwb 2) 2=true:=by
 cases c:nzAny (kkF 1 1 100 kwm kwb 2) 2 with
 | true=>rfl
 | false =>
  have:=nzAny_f.1 c 0 (by omega)
  unfold nzB at this
  rw [Nat.mul_zero,kw_F.1] at this
  exact absurd this (by decide)
theorem kw_nz1:nzAny (kkF 7 1 1 (fun _=>3) (fun _=>0) 1) 1=false:=by decide
theorem kw_cF (j:Nat) (hj:j<6*2):kcF (-1) 1 100 kwm kwb 2 j=kwo j:=by
 have h0:=kS_neg 1 1 100 kwm kwb 2
 have:j=0∨j=1∨j=2∨j=3∨j=4∨j=5∨j=6∨j=7∨j=8∨j=9∨j=10∨j=11:=by omega
 rcases this with rfl|rfl|rfl|rfl|rfl|rfl|rfl|rfl|rfl|rfl|rfl|rfl
 ·rfl
 ·rfl
 ·rfl
 ·show kwb 3+kS (-1) 1 100 kwm kwb 2 0 0=_
  rw [h0,kw_S00];rfl
 ·show kwb 4+kS (-1) 1 100 kwm kwb 2 0 1=_
  rw [h0,kw_S01];rfl
 ·show kwb 5+kS (-1) 1 100 kwm kwb 2 0 2=_
  rw [h0,kw_S02];rfl
 ·rfl
 ·rfl
 ·rfl
 ·show kwb 9+kS (-1) 1 100 kwm kwb 2 1 0=_
  rw [h0,kw_S10];rfl
 ·show kwb 10+kS (-1) 1 100 kwm kwb 2 1 1=_
  rw [h0,kw_S11];rfl
 ·show kwb 11+kS (-1) 1 100 kwm kwb 2 1 2=_
  rw [h0,kw_S12];rfl
theorem kright_congr {st:Int} {f g:Nat→Int} {n:Nat} (h:∀ j,j<6*n→f j=g j):rightB st f n=rightB st g n:=by
 unfold rightB
 congr 1
 unfold allB
 rw [Bool.eq_iff_iff,List.all_eq_true,List.all_eq_true]
 have e:∀ i,i<n→inB 1048576 65536 f i=inB 1048576 65536 g i:=fun i hi=>by
  unfold inB
  rw [h _ (by omega),h _ (by omega),h _ (by omega),h _ (by omega),h _ (by omega),h _ (by omega)]
 exact ⟨fun k i hi=>by rw [←e i (by simpa using hi)];exact k i hi,fun k i hi=>by rw [e i (by simpa using hi)];exact k i hi⟩
theorem kw_rc:rightB 0 (kcF (-1) 1 100 kwm kwb 2) 2=true:=by rw [kright_congr kw_cF];exact kw_ro
def TwoR (nk:Nat) (v:Value) (ns:List (Nat×Blk)):Prop:=v=.tuple #[cfV (.slice (some ⟨nk,0,none⟩) 2 2) 100 1000 1000 2 0,.agg #[.int .i64 0,.slice (some ⟨nk+1,0,none⟩) 2 2]]∧ns=[(nk,kwM),(nk+1,kwS)]
theorem twoR_key {nk:Nat} {v:Value} {ns:List (Nat×Blk)} (h:TwoR nk v ns):∀ k∈keys ns,nk≤k∧k<nk+2:=by
 obtain ⟨rfl,rfl⟩:=h
 intro k hk
 simp [keys] at hk
 omega
theorem two_S:FunS Tryz.prog G1 25 #[] (hpL G1 []) (keys []) (TwoR 1000):=by
 refine newS_ofL (B:=200) G1F Tryz.func25 rfl Tryz.call25 ⟨by simp,by simp [keys],by simp⟩ (by simp) ?_ (by simp [Tryz.ntmps25]) (by omega) ?_
 ·rintro v ns ⟨rfl,rfl⟩
  refine ⟨by simp [cfV,idsV,idsA,idsF,ids0,extD,keys],?_,?_⟩
  ·intro p hp
   simp only [List.mem_cons,List.not_mem_nil,or_false] at hp
   rcases hp with rfl|rfl
   ·exact ⟨by omega,Blk.fx_ids kwM_fx _⟩
   ·exact ⟨by omega,Blk.fx_ids kwS_fx _⟩
  ·intro k b c h1 h2
   simp at h1 h2
   rcases h1 with ⟨e1,rfl⟩|⟨e1,rfl⟩<;>rcases h2 with ⟨e2,rfl⟩|⟨e2,rfl⟩<;>first|rfl|omega
 intro C hC hC0 hY
 repeat' (first|refine gwA ?_|(refine gwX ?_;intro Q hQ hP;simp [hC,hY];refine hQ _ _ _ _ (by kernel_rfl) ?_;clear hQ hP Q)|(refine gwC ?_ ?_<;>(intro hb;try (cases hb;done))))
 refine ⟨.inr trivial,kpS G1F,_,_,fun k=>if k=1000 then 216 else if k=1001 then 264 else k,⟨rfl,rfl⟩,fun k hk=>?_,by simp,by simp,by simp [Tryz.results25,cfV,ren,renA,renF,ren0],?_⟩
 ·dsimp only
  rw [if_neg (by omega),if_neg (by omega)]
 ·simp only [List.mem_cons,List.not_mem_nil,or_false,forall_eq_or_imp,forall_eq]
  rw [Blk.fx_rn kwM_fx,Blk.fx_rn kwS_fx]
  simp [kwM,kwS]
  kernel_rfl
theorem twoR_rr {nk:Nat} {ρ:Nat→Nat} (h0:ρ 1000=nk) (h1:ρ 1001=nk+1):RR ρ (TwoR 1000)=TwoR nk:=by
 have hm:kwM.rn ρ=kwM:=Blk.fx_rn kwM_fx ρ
 have hs:kwS.rn ρ=kwS:=Blk.fx_rn kwS_fx ρ
 funext v ns
 apply propext
 constructor
 ·rintro ⟨v0,ns0,⟨rfl,rfl⟩,rfl,rfl⟩
  exact ⟨by simp [cfV,ren,renA,renF,ren0,h0,h1],by simp [rnL,hm,hs,h0,h1]⟩
 ·rintro ⟨rfl,rfl⟩
  exact ⟨_,_,⟨rfl,rfl⟩,by simp [cfV,ren,renA,renF,ren0,h0,h1],by simp [rnL,hm,hs,h0,h1]⟩
theorem two_at (nk:Nat) (hnk:200≤nk):FunS Tryz.prog G1 25 #[] (hpL G1 []) [] (TwoR nk):=by
 have hu:∀ j,j<2→up2 nk (1000+j)=nk+j:=fun j hj=>by unfold up2;rw [if_pos (by omega),if_pos (by omega)];omega
 refine two_S.mvL (hp':=hpL G1 []) (rs':=[]) G1F (B:=200) ⟨by simp,by simp [keys],by simp⟩ (up2 nk) (fun k hk=>by unfold up2;rw [if_neg (by omega)]) (by simp) (by simp [keys]) (twoR_rr (hu 0 (by omega)) (hu 1 (by omega))) (fun k hk=>rfl) (by simp) (by simp [keys]) (fun v ns hV k hk=>?_) (fun v ns hV k hk l hl e=>?_)
 ·have h1:=twoR_key hV k hk
  obtain ⟨j,rfl⟩:∃ j,k=1000+j:=⟨k - 1000,by omega⟩
  rw [hu j (by omega)]
  exact ⟨by omega,by simp⟩
 ·have h1:=twoR_key hV k hk
  have h2:=twoR_key hV l hl
  obtain ⟨j,rfl⟩:∃ j,k=1000+j:=⟨k - 1000,by omega⟩
  obtain ⟨i,rfl⟩:∃ i,l=1000+i:=⟨l - 1000,by omega⟩
  rw [hu j (by omega),hu i (by omega)] at e
  omega
end Go.Gy
