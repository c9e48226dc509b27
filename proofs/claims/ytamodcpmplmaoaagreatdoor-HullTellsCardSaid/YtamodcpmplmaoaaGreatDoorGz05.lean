/-
  Lemmas of this claim, in their order (GyWA, GyWB, GyLB, GyWC, GyWD, GyWE, GyWK, GyEP, GyEQ, GyER, GyEE, GyWF, GyWG, GyWH, GyLC, GyWL, GyWM, GyCA, GyLD, GyCB, GyCC, GyCD, GyCE, GyCF, GyLE, GyLG, GyLH, GyEF, GyWI, GyCG, GyLJ).
  Conditions: those of each theorem.
-/
import Derived.Test.YtamodcpmplmaoaaGreatDoorGz04
set_option linter.unusedSimpArgs false
set_option linter.unusedVariables false
set_option maxRecDepth 20000
set_option maxHeartbeats 16000000
namespace Go.Gy
open Go Go.RowKit Go.Proofs Go.Proofs.Tryz
structure SB (b:Blk) (off n:Nat) (f:Nat->Int):Prop where
 rd:rdI b off (6*n) f
 fx:b.fx
 i6:∀ j,j<6*n->i64 (f j)
 nn:n<=2932031007402
def inB (bx tp:Int) (f:Nat->Int) (i:Nat):Bool:=inV bx (f (6*i)) (f (6*i+1)) (f (6*i+2))&&inV tp (f (6*i+3)) (f (6*i+4)) (f (6*i+5))
theorem SB.body {b:Blk} {off n:Nat} {f:Nat->Int} (h:SB b off n f) {i:Nat} (hi:i<n):zc6 prog 72 b (off+i*6)=some (.agg #[.int .i64 (f (6*i)),.int .i64 (f (6*i+1)),.int .i64 (f (6*i+2)),.int .i64 (f (6*i+3)),.int .i64 (f (6*i+4)),.int .i64 (f (6*i+5))]):=by
 have hbrd:=Blk.fx_rd h.fx
 have:=zs4 (P:=prog) (T:=72) (m:=6) (j:=6*i) (za8 isAgg72) (zam sizeOf72) (by omega) h.rd (by omega)
 rw [show off+i*6=off+6*i by omega,this,jrd]
 rfl
theorem SB.i {b:Blk} {off n:Nat} {f:Nat->Int} (h:SB b off n f) {i:Nat} (hi:i<n) (q:Nat) (hq:q<6):i64 (f (6*i+q)):=h.i6 _ (by omega)
theorem zr4 (bx tp x0 x1 x2 v0 v1 v2:Int) (hbx:i64 bx) (htp:i64 tp) (h0:i64 x0) (h1:i64 x1) (h2:i64 x2) (h3:i64 v0) (h4:i64 v1) (h5:i64 v2) :
  Fun prog G0 161 #[.agg #[.int .i64 x0,.int .i64 x1,.int .i64 x2,.int .i64 v0,.int .i64 v1,.int .i64 v2],.pointer (some ⟨100,0,none⟩),.pointer (some ⟨108,0,none⟩)] (hpL G0 [(100,jb bx),(108,jb tp)]) (zaa [(100,jb bx),(108,jb tp)]) (.ret (.bool !(inV bx x0 x1 x2&&inV tp v0 v1 v2)) []):=by
 refine zar (B:=200) G0F func161 rfl call161 ⟨by simp,by simp [zaa],by simp [jb,zad,zah,zaj]⟩ ?_ (by simp) (by simp) (by simp) (by simp [ntmps161]) (by omega) ?_
 ·simp [zap,zax,zah,zaj,zaa]
 intro C hC hC0 hY
 cases c0:inV bx x0 x1 x2 with
 | true =>
  cases c1:inV tp v0 v1 v2 with
  | true =>
   repeat' first|refine gwZ ?_|(refine gwX ?_;intro Q hQ _;simp [hC,hY,jb,hbx,htp,h0,h1,h2,h3,h4,h5,c0,c1];refine gwq hQ ?_)|fail
   refine ⟨.inr rfl,by simp [results161],zb4 G0F (by simp [jb]) (by (intro k hk;first|rfl|(simp (disch:=omega) only [zb3,List.mem_cons,List.not_mem_nil,or_false,zab,zaq,zaw,if_neg,zbi]<;>done)))⟩
  | false =>
   repeat' first|refine gwZ ?_|(refine gwX ?_;intro Q hQ _;simp [hC,hY,jb,hbx,htp,h0,h1,h2,h3,h4,h5,c0,c1];refine gwq hQ ?_)|fail
   refine ⟨.inr rfl,by simp [results161],zb4 G0F (by simp [jb]) (by (intro k hk;first|rfl|(simp (disch:=omega) only [zb3,List.mem_cons,List.not_mem_nil,or_false,zab,zaq,zaw,if_neg,zbi]<;>done)))⟩
 | false =>
  repeat' first|refine gwZ ?_|(refine gwX ?_;intro Q hQ _;simp [hC,hY,jb,hbx,htp,h0,h1,h2,h3,h4,h5,c0];refine gwq hQ ?_)|fail
  refine ⟨.inr rfl,by simp [results161],zb4 G0F (by simp [jb]) (by (intro k hk;first|rfl|(simp (disch:=omega) only [zb3,List.mem_cons,List.not_mem_nil,or_false,zab,zaq,zaw,if_neg,zbi]<;>done)))⟩
theorem zb0 {m:Int} {ρ:Nat->Nat}:(jb m).rn ρ=jb m:=by simp [jb,Blk.rn,zak,zan]
def jkh (b:Blk) (off n cap:Nat) (bx tp:Int) (i:Nat):GS :=
 ⟨tsL [(0,.slice (some ⟨100,off,none⟩) n cap),(1,.func (.func 161) #[] #[.pointer (some ⟨108,0,none⟩),.pointer (some ⟨116,0,none⟩)]),(7,.int .i64 n),(8,.int .i64 i)],
 hpL G0 [(100,b),(108,jb bx),(116,jb tp)],300,0⟩
def ixL (b:Blk) (bx tp:Int):List (Nat×Blk):=[(100,b),(108,jb bx),(116,jb tp)]
theorem zpa {b:Blk} (hb:b.fx) (bx tp:Int):LOk (ixL b bx tp) 200:=⟨by simp [ixL],by simp [ixL,zaa],by
 simp only [ixL,List.mem_cons,List.not_mem_nil,or_false,forall_eq_or_imp,forall_eq]
 exact ⟨Blk.fx_ids hb _,by simp [jb,zad,zah,zaj],by simp [jb,zad,zah,zaj]⟩⟩
theorem z65 (b:Blk) (off n cap:Nat) (f:Nat->Int) (h:SB b off n f) (bx tp:Int) (hbx:i64 bx) (htp:i64 tp) (N:Nat) (hN:N<=n) (hlt:∀ i,i<N->inB bx tp f i=true) (hend:N=n\/inB bx tp f N=false) :
  Fun prog G0 178 #[.slice (some ⟨100,off,none⟩) n cap,.func (.func 161) #[] #[.pointer (some ⟨108,0,none⟩),.pointer (some ⟨116,0,none⟩)]] (hpL G0 (ixL b bx tp)) (zaa (ixL b bx tp)) (.ret (.int .i64 (if N=n then -1 else N)) []):=by
 refine zar (B:=200) G0F func178 rfl call178 (zpa h.fx bx tp) ?_ (by simp) (by simp) (by simp) (by simp [ntmps178]) (by omega) ?_
 ·simp [zap,zax,zah,zaj,zaa,ixL]
 intro C hC hC0 hY
 have hnn:=h.nn
 unfold ixL
 repeat' first|refine gwZ ?_|refine gwW ?_|fail
 refine zbt N (jkh b off n cap bx tp) ?_ ?_ ?_
 ·refine za3 _ 300 hC G0F (m0:=[(100,b),(108,jb bx),(116,jb tp)]) hC0 (by omega) ?_ ?_ ?_
  ·simp [zap,zax,zah,zaj,dom]
  ·have hi:=λD=>Blk.fx_ids h.fx D
   simp [zad,zah,zaj,jb,hi]
  ·simp
 ·intro i hi
  have hin:i<n:=by omega
  have hi':(i:Int)<n:=by omega
  have hz:(0:Int)<=i:=by omega
  have hs:Int.bmod ((i:Int)+1) 18446744073709551616=((i+1:Nat):Int):=by rw [bm (by omega) (by omega)];rfl
  have hld:=h.body hin
  have hq:=hlt i hi
  unfold inB at hq
  rw [Bool.and_eq_true] at hq
  obtain ⟨q1,q2⟩:=hq
  unfold jkh
  repeat' first|refine gwZ ?_|((first|refine gwR [161] ?_|refine gwD [161] ?_);intro Q hQ _;(repeat first|simp [hC,hY,hi,hi',hz,hs,hld,q1,q2,jb]|refine zae (zr4 bx tp _ _ _ _ _ _ hbx htp (h.i hin 0 (by omega)) (h.i hin 1 (by omega)) (h.i hin 2 (by omega)) (h.i hin 3 (by omega)) (h.i hin 4 (by omega)) (h.i hin 5 (by omega))) G0F (B:=200) ⟨by simp,by simp [zaa],by simp [jb,zad,zah,zaj]⟩ (λk=>if k=100 then 108 else if k=108 then 116 else k) (λk hk=>(if_neg (by omega)).trans (if_neg (by omega))) (by simp [ren,zay,zak,zan]) (by simp) (by simp [jb,Blk.rn,zak,zan]) (by simp [zaa]) (by simp [zaa];rfl) ?_);refine gwq hQ ?_)|fail
  refine za3 _ 300 hC G0F (m0:=[(100,b),(108,jb bx),(116,jb tp)]) hC0 (by omega) ?_ ?_ ?_
  ·simp [zap,zax,zah,zaj,dom,hs]
  ·have hi:=λD=>Blk.fx_ids h.fx D
   simp [zad,zah,zaj,jb,hi]
  ·simp [jb]
 ·by_cases hNn:N=n
  ·subst hNn
   simp only [if_true]
   unfold jkh
   repeat' first|refine gwZ ?_|refine gwW ?_|fail
   refine ⟨.inr rfl,by simp [results178],kpS G0F⟩
  ·have hin:N<n:=by omega
   have hi':(N:Int)<n:=by omega
   have hz:(0:Int)<=N:=by omega
   have hld:=h.body hin
   have hq:=hend.resolve_left hNn
   unfold inB at hq
   rw [if_neg hNn]
   unfold jkh
   cases q1:inV bx (f (6*N)) (f (6*N+1)) (f (6*N+2)) with
   | false =>
    repeat' first|refine gwZ ?_|((first|refine gwR [161] ?_|refine gwD [161] ?_);intro Q hQ _;(repeat first|simp [hC,hY,hin,hi',hz,hld,q1,jb]|refine zae (zr4 bx tp _ _ _ _ _ _ hbx htp (h.i hin 0 (by omega)) (h.i hin 1 (by omega)) (h.i hin 2 (by omega)) (h.i hin 3 (by omega)) (h.i hin 4 (by omega)) (h.i hin 5 (by omega))) G0F (B:=200) ⟨by simp,by simp [zaa],by simp [jb,zad,zah,zaj]⟩ (λk=>if k=100 then 108 else if k=108 then 116 else k) (λk hk=>(if_neg (by omega)).trans (if_neg (by omega))) (by simp [ren,zay,zak,zan]) (by simp) (by simp [jb,Blk.rn,zak,zan]) (by simp [zaa]) (by simp [zaa];rfl) ?_);refine gwq hQ ?_)|fail
    refine ⟨.inr rfl,by simp [results178],zb4 G0F (by simp [jb]) (by (intro k hk;first|rfl|(simp (disch:=omega) only [zb3,List.mem_cons,List.not_mem_nil,or_false,zab,zaq,zaw,if_neg,zbi]<;>done)))⟩
   | true =>
    have q2:inV tp (f (6*N+3)) (f (6*N+4)) (f (6*N+5))=false:=by rw [q1] at hq;simpa using hq
    repeat' first|refine gwZ ?_|((first|refine gwR [161] ?_|refine gwD [161] ?_);intro Q hQ _;(repeat first|simp [hC,hY,hin,hi',hz,hld,q1,q2,jb]|refine zae (zr4 bx tp _ _ _ _ _ _ hbx htp (h.i hin 0 (by omega)) (h.i hin 1 (by omega)) (h.i hin 2 (by omega)) (h.i hin 3 (by omega)) (h.i hin 4 (by omega)) (h.i hin 5 (by omega))) G0F (B:=200) ⟨by simp,by simp [zaa],by simp [jb,zad,zah,zaj]⟩ (λk=>if k=100 then 108 else if k=108 then 116 else k) (λk hk=>(if_neg (by omega)).trans (if_neg (by omega))) (by simp [ren,zay,zak,zan]) (by simp) (by simp [jb,Blk.rn,zak,zan]) (by simp [zaa]) (by simp [zaa];rfl) ?_);refine gwq hQ ?_)|fail
    refine ⟨.inr rfl,by simp [results178],zb4 G0F (by simp [jb]) (by (intro k hk;first|rfl|(simp (disch:=omega) only [zb3,List.mem_cons,List.not_mem_nil,or_false,zab,zaq,zaw,if_neg,zbi]<;>done)))⟩
def z6b (bx tp:Int) (f:Nat->Int) (n:Nat):Bool:=(List.range n).all (inB bx tp f)
theorem zmq {bx tp:Int} {f:Nat->Int} {n:Nat}:z6b bx tp f n=true↔∀ i,i<n->inB bx tp f i=true:=by simp [z6b]
theorem zob {bx tp:Int} {f:Nat->Int} {n N:Nat} (hN:N<=n) (hlt:∀ i,i<N->inB bx tp f i=true) (hend:N=n\/inB bx tp f N=false):z6b bx tp f n=decide (N=n):=by
 by_cases h:N=n
 ·subst h;rw [decide_eq_true rfl];exact zmq.2 hlt
 ·rw [decide_eq_false h]
  cases hb:z6b bx tp f n with
  | false=>rfl
  | true=>have:=zmq.1 hb N (by omega);rw [hend.resolve_left h] at this;cases this
theorem z3z (p:Nat->Bool) (m:Nat):∃ N,N<=m/\(∀ i,i<N->p i=true)/\(N=m\/p N=false):=by
 obtain ⟨N,h1,h2,h3⟩:=jm1 (λi=>p i=true) m
 exact ⟨N,h1,h2,h3.imp id (λh=>by simpa using h)⟩
theorem jeu (b:Blk) (off n cap:Nat) (f:Nat->Int) (h:SB b off n f) (bx tp:Int) (hbx:i64 bx) (htp:i64 tp) :
  Fun prog G0 160 #[.slice (some ⟨100,off,none⟩) n cap,.func (.func 161) #[] #[.pointer (some ⟨108,0,none⟩),.pointer (some ⟨116,0,none⟩)]] (hpL G0 (ixL b bx tp)) (zaa (ixL b bx tp)) (.ret (.bool !(z6b bx tp f n)) []):=by
 refine zar (B:=200) G0F func160 rfl call160 (zpa h.fx bx tp) ?_ (by simp) (by simp) (by simp) (by simp [ntmps160]) (by omega) ?_
 ·simp [zap,zax,zah,zaj,zaa,ixL]
 intro C hC hC0 hY
 obtain ⟨N,hN,hlt,hend⟩:=z3z (inB bx tp f) n
 rw [zob hN hlt hend]
 have hr:=λρ=>Blk.fx_rn h.fx ρ
 unfold ixL
 by_cases hNn:N=n
 ·have hNn':(decide (N=n))=true:=decide_eq_true hNn
  rw [hNn']
  repeat' first|refine gwZ ?_|((first|refine gwR [178] ?_|refine gwD [178] ?_);intro Q hQ _;(repeat first|simp [hC,hY,hNn]|refine zae (z65 b off n cap f h bx tp hbx htp N hN hlt hend) G0F (B:=200) (zpa h.fx bx tp) (λk=>k) (λk hk=>rfl) (by simp [ren,zay,zak,zan]) (by simp) (by simp [ixL,jb,Blk.rn_id]) (by simp [zaa]) (by simp [zaa,ixL];rfl) ?_);refine gwq hQ ?_)|fail
  refine ⟨.inr rfl,by simp [results160],zb4 G0F (by simp [jb]) (by (intro k hk;first|rfl|(simp (disch:=omega) only [zb3,List.mem_cons,List.not_mem_nil,or_false,zab,zaq,zaw,if_neg,zbi]<;>done)))⟩
 ·have hNn':(decide (N=n))=false:=decide_eq_false hNn
  have hz:(0:Int)<=N:=by omega
  rw [hNn']
  repeat' first|refine gwZ ?_|((first|refine gwR [178] ?_|refine gwD [178] ?_);intro Q hQ _;(repeat first|simp [hC,hY,hNn,hz]|refine zae (z65 b off n cap f h bx tp hbx htp N hN hlt hend) G0F (B:=200) (zpa h.fx bx tp) (λk=>k) (λk hk=>rfl) (by simp [ren,zay,zak,zan]) (by simp) (by simp [ixL,jb,Blk.rn_id]) (by simp [zaa]) (by simp [zaa,ixL];rfl) ?_);refine gwq hQ ?_)|fail
  refine ⟨.inr rfl,by simp [results160],zb4 G0F (by simp [jb]) (by (intro k hk;first|rfl|(simp (disch:=omega) only [zb3,List.mem_cons,List.not_mem_nil,or_false,zab,zaq,zaw,if_neg,zbi]<;>done)))⟩
theorem zao {b:Blk} (hb:b.fx):LOk [(100,b)] 200:=⟨by simp,by simp [zaa],by
 simp only [List.mem_singleton,forall_eq]
 exact Blk.fx_ids hb _⟩
theorem jb2 (b:Blk) (off n cap:Nat) (f:Nat->Int) (h:SB b off n f) (st bx tp:Int) (hbx:i64 bx) (htp:i64 tp) :
  Fun prog G0 140 #[.agg #[.int .i64 st,.slice (some ⟨100,off,none⟩) n cap],.int .i64 bx,.int .i64 tp] (hpL G0 [(100,b)]) (zaa [(100,b)]) (.ret (.bool (z6b bx tp f n)) []):=by
 refine zar (B:=200) G0F func140 rfl call140 (zao h.fx) ?_ (by simp) (by simp) (by simp) (by simp [ntmps140]) (by omega) ?_
 ·simp [zap,zax,zah,zaj,zaa]
 intro C hC hC0 hY
 have hr:=λρ=>Blk.fx_rn h.fx ρ
 repeat' first|refine gwZ ?_|((first|refine gwR [160] ?_|refine gwD [160] ?_);intro Q hQ _;(repeat first|simp [hC,hY]|refine zae (jeu b off n cap f h bx tp hbx htp) G0F (B:=200) (zpa h.fx bx tp) (λk=>if k=108 then 208 else if k=116 then 216 else k) (λk hk=>(if_neg (by omega)).trans (if_neg (by omega))) (by simp [ren,zay,zak,zan]) (by simp) (by simp [ixL,hr,zb0];simp [jb]) (by simp [zaa,ixL]) (by simp [zaa,ixL];rfl) ?_);refine gwq hQ ?_)|fail
 refine ⟨.inr rfl,by simp [results140],zb4 G0F (by simp [jb]) (by (intro k hk;first|rfl|(simp (disch:=omega) only [zb3,List.mem_cons,List.not_mem_nil,or_false,zab,zaq,zaw,if_neg,zbi]<;>done)))⟩
def stB (st:Int):Bool:=decide (-1073741824<=st/\st<=1073741824)
theorem jb0 (st:Int) (hs:i64 st):stB st=(decide ((if st<Int.bmod (-st) 18446744073709551616 then Int.bmod (-st) 18446744073709551616 else st)<=1073741824)&&decide (-1073741824<=st)):=by
 have h1:=hs.1
 have h2:=hs.2
 unfold stB
 rw [Bool.eq_iff_iff]
 simp only [Bool.and_eq_true,decide_eq_true_eq]
 rw [Int.bmod_def]
 split<;>split<;>omega
def zbl (st:Int) (f:Nat->Int) (n:Nat):Bool:=stB st&&decide (1<=n/\n<=4)&&z6b 1048576 65536 f n
theorem z9x:i64 1048576:=by unfold i64;omega
theorem z9y:i64 65536:=by unfold i64;omega
theorem jbl (b:Blk) (off n cap:Nat) (f:Nat->Int) (h:SB b off n f) (st:Int) (hs:i64 st) :
  Fun prog G0 118 #[.agg #[.int .i64 st,.slice (some ⟨100,off,none⟩) n cap]] (hpL G0 [(100,b)]) (zaa [(100,b)]) (.ret (.bool (zbl st f n)) []):=by
 refine zar (B:=200) G0F func118 rfl call118 (zao h.fx) ?_ (by simp) (by simp) (by simp) (by simp [ntmps118]) (by omega) ?_
 ·simp [zap,zax,zah,zaj,zaa]
 intro C hC hC0 hY
 have hr:=λρ=>Blk.fx_rn h.fx ρ
 obtain ⟨m,hm⟩:∃ m,(if st<Int.bmod (-st) 18446744073709551616 then Int.bmod (-st) 18446744073709551616 else st)=m:=⟨_,rfl⟩
 have key:=jb0 st hs
 rw [hm] at key
 unfold zbl
 rw [key]
 by_cases c0:m<=1073741824
 ·by_cases c1:-1073741824<=st
  ·by_cases c2:0<n
   ·by_cases c3:n<=4
    ·have c4:(n:Int)<=4:=by omega
     have e:decide (1<=n/\n<=4)=true:=decide_eq_true (by omega)
     rw [decide_eq_true c0,decide_eq_true c1,e]
     repeat' first|refine gwZ ?_|((first|refine gwR [140] ?_|refine gwD [140] ?_);intro Q hQ _;(repeat first|simp [hC,hY,hm,c0,c1,c2,c3,c4]|refine zae (jb2 b off n cap f h st 1048576 65536 z9x z9y) G0F (B:=200) (zao h.fx) (λk=>k) (λk hk=>rfl) (by simp [ren,zay,zak,zan]) (by simp) (by simp [hr]) (by simp [zaa]) (by simp [zaa];rfl) ?_);refine gwq hQ ?_)|fail
     refine ⟨.inr rfl,by simp [results118],kpS G0F⟩
    ·have c4:¬(n:Int)<=4:=by omega
     have e:decide (1<=n/\n<=4)=false:=decide_eq_false (by omega)
     rw [decide_eq_true c0,decide_eq_true c1,e]
     repeat' first|refine gwZ ?_|(refine gwX ?_;intro Q hQ _;simp [hC,hY,hm,c0,c1,c2,c3,c4];refine gwq hQ ?_)|fail
     refine ⟨.inr rfl,by simp [results118],kpS G0F⟩
   ·have e:decide (1<=n/\n<=4)=false:=decide_eq_false (by omega)
    rw [decide_eq_true c0,decide_eq_true c1,e]
    repeat' first|refine gwZ ?_|(refine gwX ?_;intro Q hQ _;simp [hC,hY,hm,c0,c1,c2];refine gwq hQ ?_)|fail
    refine ⟨.inr rfl,by simp [results118],kpS G0F⟩
  ·rw [decide_eq_true c0,decide_eq_false c1]
   repeat' first|refine gwZ ?_|(refine gwX ?_;intro Q hQ _;simp [hC,hY,hm,c0,c1];refine gwq hQ ?_)|fail
   refine ⟨.inr rfl,by simp [results118],kpS G0F⟩
 ·rw [decide_eq_false c0]
  repeat' first|refine gwZ ?_|(refine gwX ?_;intro Q hQ _;simp [hC,hY,hm,c0];refine gwq hQ ?_)|fail
  refine ⟨.inr rfl,by simp [results118],kpS G0F⟩
theorem SB.int {b:Blk} {off n:Nat} {f:Nat->Int} (h:SB b off n f) {i:Nat} (hi:i<n) {q:Nat} (hq:q<6):zc6 prog 3 b (off+i*6+q)=some (.int .i64 (f (6*i+q))):=by
 have hbrd:=Blk.fx_rd h.fx
 have:=zkl (P:=prog) (T:=3) (j:=6*i+q) (za8 isAgg3) h.rd (by omega)
 rw [show off+i*6+q=off+(6*i+q) by omega,this]
def z5j (b:Blk) (off n cap:Nat) (st:Int) (i:Nat):GS :=
 ⟨tsL [(1,.int .i64 1048576),(2,.int .i64 65536),(3,.pointer (some ⟨200,0,none⟩)),(7,.int .i64 i)],
 hpL G0 [(200,⟨#[.int .i64 st,.slice (some ⟨100,off,none⟩) n cap],.ty 27⟩),(100,b)],400,0⟩
theorem zo9 {f:Nat->Int} {i:Nat}:inB 1048576 65536 f i=true↔((-1048576<=f (6*i)/\f (6*i)<=1048576)/\(-1048576<=f (6*i+1)/\f (6*i+1)<=1048576)/\(-1048576<=f (6*i+2)/\f (6*i+2)<=1048576))/\(-65536<=f (6*i+3)/\f (6*i+3)<=65536)/\(-65536<=f (6*i+4)/\f (6*i+4)<=65536)/\(-65536<=f (6*i+5)/\f (6*i+5)<=65536):=by
 unfold inB inV inW
 simp only [Bool.and_eq_true,decide_eq_true_eq]
 omega
theorem jb7 (b:Blk) (off n cap:Nat) (f:Nat->Int) (h:SB b off n f) (st:Int) :
  Fun prog G0 85 #[.agg #[.int .i64 st,.slice (some ⟨100,off,none⟩) n cap],.int .i64 1048576,.int .i64 65536] (hpL G0 [(100,b)]) (zaa [(100,b)]) (.ret (.bool (z6b 1048576 65536 f n)) []):=by
 refine zar (B:=200) G0F func85 rfl call85 (zao h.fx) ?_ (by simp) (by simp) (by simp) (by simp [ntmps85]) (by omega) ?_
 ·simp [zap,zax,zah,zaj,zaa]
 intro C hC hC0 hY
 obtain ⟨N,hN,hlt,hend⟩:=z3z (inB 1048576 65536 f) n
 have hnn:=h.nn
 rw [zob hN hlt hend]
 repeat' first|refine gwZ ?_|refine gwW ?_|fail
 refine zbt N (z5j b off n cap st) ?_ ?_ ?_
 ·refine za3 _ 400 hC G0F (m0:=[(100,b)]) hC0 (by omega) ?_ ?_ ?_
  ·simp [zap,zax,zah,zaj,dom]
  ·have hi:=λD=>Blk.fx_ids h.fx D
   simp [zad,zah,zaj,hi,dom]
  ·simp
 ·intro i hi
  have hin:i<n:=by omega
  have hi':(i:Int)<n:=by omega
  have hz:(0:Int)<=i:=by omega
  have hs:Int.bmod ((i:Int)+1) 18446744073709551616=((i+1:Nat):Int):=by rw [bm (by omega) (by omega)];rfl
  have l0:=h.int hin (q:=0) (by omega)
  have l1:=h.int hin (q:=1) (by omega)
  have l2:=h.int hin (q:=2) (by omega)
  have l3:=h.int hin (q:=3) (by omega)
  have l4:=h.int hin (q:=4) (by omega)
  have l5:=h.int hin (q:=5) (by omega)
  simp only [Nat.add_zero] at l0
  obtain ⟨⟨⟨a0,b0⟩,⟨a1,b1⟩,⟨a2,b2⟩⟩,⟨a3,b3⟩,⟨a4,b4⟩,⟨a5,b5⟩⟩:=zo9.1 (hlt i hi)
  replace a0:=Int.not_lt.2 a0
  replace a1:=Int.not_lt.2 a1
  replace a2:=Int.not_lt.2 a2
  replace a3:=Int.not_lt.2 a3
  replace a4:=Int.not_lt.2 a4
  replace a5:=Int.not_lt.2 a5
  replace b0:=Int.not_lt.2 b0
  replace b1:=Int.not_lt.2 b1
  replace b2:=Int.not_lt.2 b2
  replace b3:=Int.not_lt.2 b3
  replace b4:=Int.not_lt.2 b4
  replace b5:=Int.not_lt.2 b5
  unfold z5j
  repeat' first|refine zal ?_|refine zat ?_|refine gwZ ?_|(refine gwX ?_;intro Q hQ _;simp [hC,hY,hi,hin,hi',hz,hs,l0,l1,l2,l3,l4,l5,a0,a1,a2,a3,a4,a5,b0,b1,b2,b3,b4,b5];refine gwq hQ ?_)|fail
  refine za3 _ 400 hC G0F (m0:=[(100,b)]) hC0 (by omega) ?_ ?_ ?_
  ·simp [zap,zax,zah,zaj,dom,hs]
  ·have hi:=λD=>Blk.fx_ids h.fx D
   simp [zad,zah,zaj,hi,dom]
  ·simp
 ·by_cases hNn:N=n
  ·rw [decide_eq_true hNn]
   subst hNn
   unfold z5j
   repeat' first|refine gwZ ?_|refine gwW ?_|fail
   refine ⟨.inr rfl,by simp [results85],kpS G0F⟩
  ·rw [decide_eq_false hNn]
   have hin:N<n:=by omega
   have hi':(N:Int)<n:=by omega
   have hz:(0:Int)<=N:=by omega
   have l0:=h.int hin (q:=0) (by omega)
   have l1:=h.int hin (q:=1) (by omega)
   have l2:=h.int hin (q:=2) (by omega)
   have l3:=h.int hin (q:=3) (by omega)
   have l4:=h.int hin (q:=4) (by omega)
   have l5:=h.int hin (q:=5) (by omega)
   simp only [Nat.add_zero] at l0
   have hbad:¬inB 1048576 65536 f N=true:=by rw [hend.resolve_left hNn];simp
   rw [zo9] at hbad
   unfold z5j
   by_cases a0:f (6*N) < -1048576
   ·
    repeat' first|refine zal ?_|refine zat ?_|refine gwZ ?_|(refine gwX ?_;intro Q hQ _;simp [hC,hY,hin,hi',hz,l0,l1,l2,l3,l4,l5,a0];refine gwq hQ ?_)|fail
    refine ⟨.inr rfl,by simp [results85],kpS G0F⟩
   by_cases b0:1048576<f (6*N)
   ·
    repeat' first|refine zal ?_|refine zat ?_|refine gwZ ?_|(refine gwX ?_;intro Q hQ _;simp [hC,hY,hin,hi',hz,l0,l1,l2,l3,l4,l5,a0,b0];refine gwq hQ ?_)|fail
    refine ⟨.inr rfl,by simp [results85],kpS G0F⟩
   by_cases a3:f (6*N+3) < -65536
   ·
    repeat' first|refine zal ?_|refine zat ?_|refine gwZ ?_|(refine gwX ?_;intro Q hQ _;simp [hC,hY,hin,hi',hz,l0,l1,l2,l3,l4,l5,a0,b0,a3];refine gwq hQ ?_)|fail
    refine ⟨.inr rfl,by simp [results85],kpS G0F⟩
   by_cases b3:65536<f (6*N+3)
   ·
    repeat' first|refine zal ?_|refine zat ?_|refine gwZ ?_|(refine gwX ?_;intro Q hQ _;simp [hC,hY,hin,hi',hz,l0,l1,l2,l3,l4,l5,a0,b0,a3,b3];refine gwq hQ ?_)|fail
    refine ⟨.inr rfl,by simp [results85],kpS G0F⟩
   by_cases a1:f (6*N+1) < -1048576
   ·
    repeat' first|refine zal ?_|refine zat ?_|refine gwZ ?_|(refine gwX ?_;intro Q hQ _;simp [hC,hY,hin,hi',hz,l0,l1,l2,l3,l4,l5,a0,b0,a3,b3,a1];refine gwq hQ ?_)|fail
    refine ⟨.inr rfl,by simp [results85],kpS G0F⟩
   by_cases b1:1048576<f (6*N+1)
   ·
    repeat' first|refine zal ?_|refine zat ?_|refine gwZ ?_|(refine gwX ?_;intro Q hQ _;simp [hC,hY,hin,hi',hz,l0,l1,l2,l3,l4,l5,a0,b0,a3,b3,a1,b1];refine gwq hQ ?_)|fail
    refine ⟨.inr rfl,by simp [results85],kpS G0F⟩
   by_cases a4:f (6*N+4) < -65536
   ·
    repeat' first|refine zal ?_|refine zat ?_|refine gwZ ?_|(refine gwX ?_;intro Q hQ _;simp [hC,hY,hin,hi',hz,l0,l1,l2,l3,l4,l5,a0,b0,a3,b3,a1,b1,a4];refine gwq hQ ?_)|fail
    refine ⟨.inr rfl,by simp [results85],kpS G0F⟩
   by_cases b4:65536<f (6*N+4)
   ·
    repeat' first|refine zal ?_|refine zat ?_|refine gwZ ?_|(refine gwX ?_;intro Q hQ _;simp [hC,hY,hin,hi',hz,l0,l1,l2,l3,l4,l5,a0,b0,a3,b3,a1,b1,a4,b4];refine gwq hQ ?_)|fail
    refine ⟨.inr rfl,by simp [results85],kpS G0F⟩
   by_cases a2:f (6*N+2) < -1048576
   ·
    repeat' first|refine zal ?_|refine zat ?_|refine gwZ ?_|(refine gwX ?_;intro Q hQ _;simp [hC,hY,hin,hi',hz,l0,l1,l2,l3,l4,l5,a0,b0,a3,b3,a1,b1,a4,b4,a2];refine gwq hQ ?_)|fail
    refine ⟨.inr rfl,by simp [results85],kpS G0F⟩
   by_cases b2:1048576<f (6*N+2)
   ·
    repeat' first|refine zal ?_|refine zat ?_|refine gwZ ?_|(refine gwX ?_;intro Q hQ _;simp [hC,hY,hin,hi',hz,l0,l1,l2,l3,l4,l5,a0,b0,a3,b3,a1,b1,a4,b4,a2,b2];refine gwq hQ ?_)|fail
    refine ⟨.inr rfl,by simp [results85],kpS G0F⟩
   by_cases a5:f (6*N+5) < -65536
   ·
    repeat' first|refine zal ?_|refine zat ?_|refine gwZ ?_|(refine gwX ?_;intro Q hQ _;simp [hC,hY,hin,hi',hz,l0,l1,l2,l3,l4,l5,a0,b0,a3,b3,a1,b1,a4,b4,a2,b2,a5];refine gwq hQ ?_)|fail
    refine ⟨.inr rfl,by simp [results85],kpS G0F⟩
   by_cases b5:65536<f (6*N+5)
   ·
    repeat' first|refine zal ?_|refine zat ?_|refine gwZ ?_|(refine gwX ?_;intro Q hQ _;simp [hC,hY,hin,hi',hz,l0,l1,l2,l3,l4,l5,a0,b0,a3,b3,a1,b1,a4,b4,a2,b2,a5,b5];refine gwq hQ ?_)|fail
    refine ⟨.inr rfl,by simp [results85],kpS G0F⟩
   exfalso
   omega
theorem zz6 (b:Blk) (off n cap:Nat) (f:Nat->Int) (h:SB b off n f) (st:Int) :
  Fun prog G0 54 #[.agg #[.int .i64 st,.slice (some ⟨100,off,none⟩) n cap]] (hpL G0 [(100,b)]) (zaa [(100,b)]) (.ret (.bool (zbl st f n)) []):=by
 refine zar (B:=200) G0F func54 rfl call54 (zao h.fx) ?_ (by simp) (by simp) (by simp) (by simp [ntmps54]) (by omega) ?_
 ·simp [zap,zax,zah,zaj,zaa]
 intro C hC hC0 hY
 have hr:=λρ=>Blk.fx_rn h.fx ρ
 unfold zbl
 by_cases c0:-1073741824<=st
 ·by_cases c1:st<=1073741824
  ·have es:stB st=true:=decide_eq_true ⟨c0,c1⟩
   rw [es]
   by_cases c2:1<=n
   ·have c2':(1:Int)<=n:=by omega
    have c2'':0<n:=by omega
    by_cases c3:n<=4
    ·have c4:(n:Int)<=4:=by omega
     have e:decide (1<=n/\n<=4)=true:=decide_eq_true (by omega)
     rw [e]
     repeat' first|refine gwZ ?_|((first|refine gwR [85] ?_|refine gwD [85] ?_);intro Q hQ _;(repeat first|simp [hC,hY,c0,c1,c2,c2',c2'',c3,c4]|refine zae (jb7 b off n cap f h st) G0F (B:=200) (zao h.fx) (λk=>k) (λk hk=>rfl) (by simp [ren,zay,zak,zan]) (by simp) (by simp [hr]) (by simp [zaa]) (by simp [zaa];rfl) ?_);refine gwq hQ ?_)|fail
     refine ⟨.inr rfl,by simp [results54],kpS G0F⟩
    ·have c4:¬(n:Int)<=4:=by omega
     have e:decide (1<=n/\n<=4)=false:=decide_eq_false (by omega)
     rw [e]
     repeat' first|refine gwZ ?_|(refine gwX ?_;intro Q hQ _;simp [hC,hY,c0,c1,c2,c2',c2'',c3,c4];refine gwq hQ ?_)|fail
     refine ⟨.inr rfl,by simp [results54],kpS G0F⟩
   ·have c2':¬(1:Int)<=n:=by omega
    have c2'':¬0<n:=by omega
    have c2''':n=0:=by omega
    have e:decide (1<=n/\n<=4)=false:=decide_eq_false (by omega)
    rw [e]
    repeat' first|refine gwZ ?_|(refine gwX ?_;intro Q hQ _;simp [hC,hY,c0,c1,c2,c2',c2'',c2'''];refine gwq hQ ?_)|fail
    refine ⟨.inr rfl,by simp [results54],kpS G0F⟩
  ·have es:stB st=false:=decide_eq_false (by omega)
   rw [es]
   repeat' first|refine gwZ ?_|(refine gwX ?_;intro Q hQ _;simp [hC,hY,c0,c1];refine gwq hQ ?_)|fail
   refine ⟨.inr rfl,by simp [results54],kpS G0F⟩
 ·have es:stB st=false:=decide_eq_false (by omega)
  rw [es]
  repeat' first|refine gwZ ?_|(refine gwX ?_;intro Q hQ _;simp [hC,hY,c0];refine gwq hQ ?_)|fail
  refine ⟨.inr rfl,by simp [results54],kpS G0F⟩
theorem zz7 (st:Int):Ret prog G0 54 #[.agg #[.int .i64 st,.slice none 0 0]] (.bool false):=by
 refine zas G0F func54 rfl call54 rfl (by simp) (by simp [ntmps54]) ?_
 intro C hC hC0 hY
 by_cases c0:-1073741824<=st
 ·by_cases c1:st<=1073741824
  ·(repeat' (first|refine gwZ ?_|(refine gwX ?_;intro Q hQ _;simp [hC,hY,c0,c1];refine gwq hQ ?_)|refine gwC ?_ ?_<;>intro hb))
   refine ⟨.inr trivial,?_⟩
   simp [results54]
  ·(repeat' (first|refine gwZ ?_|(refine gwX ?_;intro Q hQ _;simp [hC,hY,c0,c1];refine gwq hQ ?_)|refine gwC ?_ ?_<;>intro hb))
   refine ⟨.inr trivial,?_⟩
   simp [results54]
 ·(repeat' (first|refine gwZ ?_|(refine gwX ?_;intro Q hQ _;simp [hC,hY,c0];refine gwq hQ ?_)|refine gwC ?_ ?_<;>intro hb))
  refine ⟨.inr trivial,?_⟩
  simp [results54]
@[simp] theorem jqp (st:Int) (K:Value->Prop):za2 prog G0 54 #[.agg #[.int .i64 st,.slice none 0 0]] K↔K (.bool false):=zac G0W (by kernel_rfl) (zz7 st)
end Go.Gy
namespace Go.Gy
open Go Go.RowKit
section
variable {P:Program} {C:Ctx} {n:Nat} {d:List Deferred} {ro:Option Nat} {s:GS} {K:Exit->GS->Prop}
def jeg (κ:IntKind) (m i:Nat) (G:Nat->Int) (e:TypeId) (hp:Hp) (sl:Value):Prop:=(i=0/\sl=.slice none 0 0)\/∃ (k c:Nat) (g:Nat->Int),100<=k/\sl=.slice (some ⟨k,0,none⟩) i c/\hp k=some ⟨fa (m*c) κ g,.ty e⟩/\i<=c/\∀ j,j<m*i->g j=G j
theorem zfe (κ:IntKind) {ops:Array Oper} {o:Oper} {post:List Oper} {base k:Nat} {ts:Nat->Value} {hp:Hp} {yc:Nat} {tx ty:Tmp} {t e:TypeId} {m i j by':Nat} {z:Value} {T2:BTy} {G ev:Nat->Int} (hg:o.guard=none) (hd:∀ dd,o.dst=some dd->dd<n)
  (ho:o.op=.call { callee:=.builtin .append,args:=#[.tmp tx,.tmp ty],argTypes:=#[t,t] }) (ht:P.underlying t=some (.slice e)) (hs:zaz P e=some m) (hz:zbm P e=some z) (hby:zi0 P e=some by') (hb8:by'<=8*m)
  (hzz:∀ x∈z.cells,x=.int κ 0) (hzs:z.cells.size=m) (hm0:0<m) (hm1:m<=1024) (hx:jeg κ m i G e hp (ts tx)) (hy:ts ty=.slice (some ⟨j,0,none⟩) 1 1) (hb2:hp j=some ⟨fa m κ ev,T2⟩) (hev:∀ q,q<m->ev q=G (m*i+q)) (hi20:(i+1)*(8*m)<=140737488355328)
  (h:∀ k' c' g',(k'=base+8*k\/∃ c,ts tx=.slice (some ⟨k',0,none⟩) i c)->100<=k'->i+1<=c'->(∀ q,q<m*(i+1)->g' q=G q) ->
   GL P C n d ro ops base (k+1) post (zcx ts o.dst (.slice (some ⟨k',0,none⟩) (i+1) c')) (upd hp k' (some ⟨fa (m*c') κ g',.ty e⟩)) yc K) (hrd:T2.rd=true:=by first|rfl|assumption):GL P C n d ro ops base k (o::post) ts hp yc K:=by
 have hzf:∀ q,∀ x∈Builtin.zeroCells z.cells q,zbf x=true:=λq x hx=>by rw [hzz x (zt5 hx)];rfl
 by_cases hb100:¬100<=base
 ·intro r a W hi hf hb hG hR
  exact absurd hb hb100
 replace hb100:100<=base:=Classical.not_not.1 hb100
 have hle:m*(i+1)=m*i+m:=by rw [Nat.mul_add,Nat.mul_one]
 have hmi:m*i<=140737488355328:=Nat.le_trans (by rw [Nat.mul_comm];exact Nat.mul_le_mul (by omega) (by omega)) hi20
 have hi1:i+1<=140737488355328:=Nat.le_trans (Nat.le_mul_of_pos_right _ (by omega)) hi20
 have h8:(i+1)*by'<=140737488355328:=Nat.le_trans (Nat.mul_le_mul (Nat.le_refl _) hb8) hi20
 rcases hx with ⟨rfl,hx⟩|⟨k0,c,g,hk0,hx,hb,hic,hgG⟩
 ·refine z77 (nw:=(fa m κ ev).toList) hg hd ho ht hs hz hby hx hy hb2 (λq u hq=>by simpa using hq) zfy hzf (by omega) (by simp) (by unfold maxLen;omega) (by omega) (λcap' hc'=>?_)
  rw [zt6 (k:=κ) hzz,z8n,hzs]
  have em:m+(cap' - 1)*m=m*cap':=by
   have:cap'=(cap' - 1)+1:=by omega
   rw [this,Nat.mul_add,Nat.mul_comm m];simp;omega
  rw [em]
  refine h _ cap' _ (.inl rfl) (by omega) (by omega) λq hq=>?_
  unfold jcm
  rw [if_pos (by omega)]
  have:=hev q (by omega)
  simpa using this
 ·refine jec hg hd (zxg (c:=(fa (m*c) κ g).toList) (c2:=(fa m κ ev).toList) (k:=k0) (j:=j) (m:=1) (m':=1) (sl:=i) (cap:=c) (e:=e) (T2:=T2) (sz:=m) (by':=by') (z:=z) ho ht hs hz hby hx hk0 (by simpa using hb) zfy hy (by simpa using hb2) zfy zqx hzf (by simp) (by rw [zdj,Nat.mul_comm];exact Nat.le_refl _) hic (by unfold maxLen;omega) h8 (λhr=>?_) (λhr cap' hc'=>?_))
  ·have hcm:m*(i+1)<=m*c:=Nat.mul_le_mul (Nat.le_refl _) hr
   rw [Nat.mul_comm i m,z2a (by omega)]
   refine h k0 c _ (.inr ⟨c,hx⟩) hk0 hr λq hq=>?_
   unfold jnu
   by_cases hq1:q<m*i
   ·rw [if_neg (by omega)];exact hgG q hq1
   ·rw [if_pos (by omega),hev _ (by omega)];congr 1;omega
  ·have hcm:m*i<=m*c:=Nat.mul_le_mul (Nat.le_refl _) hic
   rw [Nat.mul_comm i m,zt6 (k:=κ) hzz,hzs,z19 (by omega)]
   have em:m*i+m+(cap' - (i+1))*m=m*cap':=by
    obtain ⟨x,rfl⟩:∃ x,cap'=i+1+x:=⟨cap' - (i+1),by omega⟩
    rw [show i+1+x - (i+1)=x by omega,Nat.mul_add,Nat.mul_add,Nat.mul_one,Nat.mul_comm x m]
   rw [em]
   refine h _ cap' _ (.inl rfl) (by omega) hc' λq hq=>?_
   unfold jcm
   by_cases hq1:q<m*i
   ·rw [if_pos hq1];exact hgG q hq1
   ·rw [if_neg hq1,if_pos (by omega),hev _ (by omega)];congr 1;omega
theorem FunS.mvL {G:Hp} {f:FuncId} {args args':Array Value} {m:List (Nat×Blk)} {B:Nat} {R R':Value->List (Nat×Blk)->Prop} {hp':Hp} {rs':List Nat} (h:FunS P G f args (hpL G m) (zaa m) R) (hGF:zbo G) (hm:LOk m B) (ρ:Nat->Nat) (hlow:∀ k,k<100->ρ k=k)
  (ea:args.map (ren ρ)=args') (er:(zaa m).map ρ=rs') (eR:RR ρ R=R') (hp0:∀ k,k<100->hp' k=G k) (hat:∀ p∈m,100<=ρ p.1/\hp' (ρ p.1)=some (p.2.rn ρ)) (hinj:∀ k∈zaa m,∀ l∈zaa m,ρ k=ρ l->k=l)
  (hnew:∀ v ns,R v ns->∀ k∈zaa ns,100<=ρ k/\ρ k∉rs') (hnj:∀ v ns,R v ns->∀ k∈zaa ns,∀ l∈zaa ns,ρ k=ρ l->k=l):FunS P G f args' hp' rs' R':=by
 subst ea er eR
 refine h.rn ρ hGF hm.low (zpr hm ρ hlow hp0 hat hinj) (λv ns hR k hk=>?_) hnj
 obtain ⟨h1,h2⟩:=hnew v ns hR k hk
 refine ⟨h1,λhd=>hd ?_⟩
 unfold rst
 rw [if_neg]
 rintro (h3|h3)
 ·omega
 ·exact h2 h3
theorem zeo {G:Hp} {ops:Array Oper} {o:Oper} {post:List Oper} {base k:Nat} {ts:Nat->Value} {hp hp':Hp} {yc:Nat} {c:Call} {f:Operand} {g:FuncId} {cap:Array Value} {rs:List Nat} {args:Array Value} {R:Value->List (Nat×Blk)->Prop} (hCG:C.G=G) (hr:FunS P G g args hp' rs R) (hg:o.guard=none) (hd:∀ dd,o.dst=some dd->dd<n)
  (ho:o.op=.call c) (hc:c.callee=.value f) (hf:okT ts f) (hgf:gev ts f=.func (.func g) #[] cap) (hcp:cap.all zbr=true) (ha:∀ x∈c.args.toList,okX ts hp x) (hargs:c.args.map (gev ts)++cap=args)
  (h1:∀ q∈rs,hp' q=hp q) (h2:∀ q,q<100->hp' q=hp q) (hat:∀ v ns,R v ns->∀ q∈zaa ns,base+8*k<=q/\q<base+8*k+8)
  (h:∀ v ns,R v ns->GL P C n d ro ops base (k+1) post (zcx ts o.dst v) (zbi hp ns) yc K):GL P C n d ro ops base k (o::post) ts hp yc K:=by
 subst hCG
 exact z1u hg hd ho hc hf hgf hcp ha hargs hr h1 h2 hat h
end
end Go.Gy
namespace Go.Gy
open Go Go.RowKit Go.Proofs Go.Proofs.Tryz
theorem zcd:LOk [] 200:=⟨by simp,by simp [zaa],by simp⟩
end Go.Gy
namespace Go.Gy
open Go Go.RowKit Go.Proofs
def dwE (f:Nat->Int) (p q:Int) (i:Nat):Int:=wyE (f (6*i+3)) (f (6*i+4)) (f (6*i+5)) p q
def dwV (f:Nat->Int) (p q:Int) (i j:Nat):Int:=eaV (dwE f p q i) (d1V (f (6*i+3+j)) p q)
def zc0 (st:Int) (k off n cap:Nat):Blk:=⟨#[.int .i64 st,.slice (some ⟨k,off,none⟩) n cap],.ty 27⟩
end Go.Gy
namespace Go.Gy
open Go Go.RowKit Go.Proofs
theorem zyj {m x y z:Int}:inV m x y z=true↔inW m x/\inW m y/\inW m z:=by unfold inV;exact decide_eq_true_iff
theorem zez {st:Int} {f:Nat->Int} {n:Nat} (h:zbl st f n=true):(-1073741824<=st/\st<=1073741824)/\(1<=n/\n<=4)/\∀ i,i<n->inB 1048576 65536 f i=true:=by
 unfold zbl stB at h
 simp only [Bool.and_eq_true,decide_eq_true_eq] at h
 exact ⟨h.1.1,h.1.2,zmq.1 h.2⟩
theorem zem {st:Int} {f:Nat->Int} {n:Nat} (h:zbl st f n=true) {i:Nat} (hi:i<n):(inW 1048576 (f (6*i))/\inW 1048576 (f (6*i+1))/\inW 1048576 (f (6*i+2)))/\(inW 65536 (f (6*i+3))/\inW 65536 (f (6*i+4))/\inW 65536 (f (6*i+5))):=by
 have:=(zez h).2.2 i hi
 unfold inB at this
 rw [Bool.and_eq_true,zyj,zyj] at this
 exact this
def mvG (g f:Nat->Int) (p q:Int) (i j:Nat):Int:=if j<6*i/\j%6<3 then f j+dwV f p q (j / 6) (j%6) else g j
end Go.Gy
namespace Go.Gy
open Go Go.RowKit Go.Proofs
def plo (N s:Int):Int:=isq (N / s)
def phi (N s:Int):Int:=if plo N s*plo N s*s=N then plo N s else plo N s+1
theorem zgp {a b:Int} (h0:0<=a) (h:a<=b):a*a<=b*b:=Int.mul_le_mul h h h0 (by omega)
theorem zhy {N s:Int} (hN:0<=N) (hs:0<s):0<=plo N s/\plo N s*plo N s*s<=N/\N<(plo N s+1)*(plo N s+1)*s:=by
 have hq:0<=N / s:=Int.ediv_nonneg hN (by omega)
 obtain ⟨r0,r1,r2⟩:=z3p (N / s) hq
 have h1:=Int.emod_add_mul_ediv N s
 have h2:=Int.emod_nonneg N (b:=s) (by omega)
 have h3:=Int.emod_lt_of_pos N hs
 unfold plo
 generalize isq (N / s)=r at *
 generalize N / s=q at *
 refine ⟨r0,?_,?_⟩
 ·have:r*r*s<=q*s:=Int.mul_le_mul_of_nonneg_right r1 (by omega)
  rw [Int.mul_comm q s] at this
  omega
 ·have h4:(q+1)*s<=(r+1)*(r+1)*s:=Int.mul_le_mul_of_nonneg_right (by omega) (by omega)
  rw [Int.add_mul,Int.mul_comm q s] at h4
  omega
theorem jgk {N s l:Int} (hN:0<=N) (hs:0<s) (hl:0<=l):l*l*s<=N↔l<=plo N s:=by
 obtain ⟨r0,r1,r2⟩:=zhy hN hs
 constructor
 ·intro h
  refine Classical.byContradiction λc=>?_
  have h1:=zgp (a:=plo N s+1) (b:=l) (by omega) (by omega)
  have h2:=Int.mul_le_mul_of_nonneg_right h1 (show 0<=s by omega)
  omega
 ·intro h
  have h1:=zgp hl h
  have h2:=Int.mul_le_mul_of_nonneg_right h1 (show 0<=s by omega)
  omega
theorem z7m {N s h:Int} (hN:0<=N) (hs:0<s) (hh:0<=h):N<=h*h*s↔phi N s<=h:=by
 obtain ⟨r0,r1,r2⟩:=zhy hN hs
 unfold phi
 constructor
 ·intro h1
  split
  ·rename_i e
   refine Classical.byContradiction λc=>?_
   have h2:=zgp (a:=h+1) (b:=plo N s) (by omega) (by omega)
   have h3:h*h<plo N s*plo N s:=by
    have:(h+1)*(h+1)=h*h+2*h+1:=by rw [Int.add_mul,Int.mul_add];omega
    omega
   have h4:=Int.mul_lt_mul_of_pos_right h3 hs
   omega
  ·rename_i e
   refine Classical.byContradiction λc=>?_
   have h2:=zgp (a:=h) (b:=plo N s) hh (by omega)
   have h3:=Int.mul_le_mul_of_nonneg_right h2 (show 0<=s by omega)
   omega
 ·intro h1
  split at h1
  ·rename_i e
   have h2:=zgp r0 h1
   have h3:=Int.mul_le_mul_of_nonneg_right h2 (show 0<=s by omega)
   omega
  ·have h2:=zgp (a:=plo N s+1) (b:=h) (by omega) h1
   have h3:=Int.mul_le_mul_of_nonneg_right h2 (show 0<=s by omega)
   omega
theorem jhm {N s:Int} (hN:0<=N) (hs:0<s):0<=phi N s:=by
 obtain ⟨r0,_,_⟩:=zhy hN hs
 unfold phi
 split<;>omega
theorem ztl {N s:Int}:plo N s<=phi N s/\phi N s<=plo N s+1:=by
 unfold phi
 split<;>omega
structure EIn (g m w q:Int):Prop where
 g0:1<=g
 g1:g<=1048576
 m0:1<=m
 m1:m<=1024
 w0:1<=w
 w1:w<=1024
 q0:0<=q
 q1:q<=13194139533312
def enA (g m w:Int):Int:=g*m*w*1048576
def zea (g m w q:Int):Int:=plo (enA g m w*enA g m w) q
def zjc (g m w q:Int):Int:=phi (enA g m w*enA g m w) q
theorem jp8 {a b p q:Int} (h1:1<=a) (h2:a<=p) (h3:1<=b) (h4:b<=q):1<=a*b/\a*b<=p*q:=by
 constructor
 ·have:=Int.mul_le_mul (a:=1) (b:=1) (c:=a) (d:=b) h1 h3 (by omega) (by omega)
  omega
 ·exact Int.mul_le_mul h2 h4 (by omega) (by omega)
theorem EIn.gm {g m w q:Int} (h:EIn g m w q):1<=g*m/\g*m<=1073741824:=jp8 h.g0 h.g1 h.m0 h.m1
theorem EIn.gmw {g m w q:Int} (h:EIn g m w q):1<=g*m*w/\g*m*w<=1099511627776:=jp8 h.gm.1 h.gm.2 h.w0 h.w1
theorem EIn.a {g m w q:Int} (h:EIn g m w q):1048576<=enA g m w/\enA g m w<=1152921504606846976:=by
 have:=h.gmw
 unfold enA
 omega
theorem EIn.aa {g m w q:Int} (h:EIn g m w q):0<=enA g m w*enA g m w/\enA g m w*enA g m w<=1329227995784915872903807060280344576:=by
 have h1:=h.a
 exact ⟨Int.mul_nonneg (by omega) (by omega),Int.mul_le_mul h1.2 h1.2 (by omega) (by omega)⟩
theorem EIn.lo {g m w q:Int} (h:EIn g m w q) (hq:0<q):0<=zea g m w q/\zea g m w q<=1152921504606846976:=by
 have h1:=h.a
 obtain ⟨h2,h3,h4⟩:=zhy h.aa.1 hq
 refine ⟨h2,?_⟩
 have h5:zea g m w q<=enA g m w:=by
  refine Classical.byContradiction λc=>?_
  have h6:=(jgk h.aa.1 hq (l:=enA g m w+1) (by omega)).2 (by unfold zea at c;omega)
  have h7:(enA g m w+1)*(enA g m w+1)*1<=(enA g m w+1)*(enA g m w+1)*q:=Int.mul_le_mul_of_nonneg_left hq (Int.mul_nonneg (by omega) (by omega))
  have h8:(enA g m w+1)*(enA g m w+1)=enA g m w*enA g m w+2*enA g m w+1:=by rw [Int.add_mul,Int.mul_add];omega
  omega
 omega
theorem EIn.hi {g m w q:Int} (h:EIn g m w q) (hq:0<q):zea g m w q<=zjc g m w q/\zjc g m w q<=zea g m w q+1/\zjc g m w q<=1152921504606846976:=by
 refine ⟨ztl.1,ztl.2,?_⟩
 have h1:=h.a
 have h2:zjc g m w q<=enA g m w:=(z7m h.aa.1 hq (by omega)).1 (by
  have h7:enA g m w*enA g m w*1<=enA g m w*enA g m w*q:=Int.mul_le_mul_of_nonneg_left hq h.aa.1
  omega)
 omega
theorem zm2 (g m w q:Int):zjc g m w q=if zea g m w q*zea g m w q*q=enA g m w*enA g m w then zea g m w q else zea g m w q+1:=rfl
theorem EIn.holds {g m w q:Int} (h:EIn g m w q) (hq:0<q):zea g m w q*zea g m w q*q<=enA g m w*enA g m w/\enA g m w*enA g m w<=zjc g m w q*zjc g m w q*q/\(zea g m w q=zjc g m w q↔zea g m w q*zea g m w q*q=enA g m w*enA g m w):=by
 refine ⟨(zhy h.aa.1 hq).2.1,(z7m h.aa.1 hq (jhm h.aa.1 hq)).2 (Int.le_refl _),?_⟩
 rw [zm2]
 split
 ·rename_i e
  exact ⟨λ_=>e,λ_=>rfl⟩
 ·rename_i e
  exact ⟨λh=>absurd h (by omega),λh=>absurd h e⟩
theorem zyv {a q:Int} (h0:0<=a) (h1:a<=1152921504606846976) (q0:0<=q) (q1:q<=13194139533312):0<=a*a/\a*a<=1329227995784915872903807060280344576/\0<=a*a*q/\a*a*q<=17538019647970835018444217992595396235871190515712:=by
 have h2:a*a<=1152921504606846976*1152921504606846976:=Int.mul_le_mul h1 h1 h0 (by omega)
 have h3:0<=a*a:=Int.mul_nonneg h0 h0
 have h4:a*a*q<=1329227995784915872903807060280344576*13194139533312:=Int.mul_le_mul h2 q1 q0 (by omega)
 exact ⟨h3,h2,Int.mul_nonneg h3 q0,h4⟩
def zbv (f:Nat->Int):Nat->Int
 | 0=>0
 | n+1=>zbv f n+f n
def zk6 (F:Nat->Nat->Int):Nat->Int
 | 0=>0
 | n+1=>zk6 F n+zbv (F n) n
theorem zmc {f g:Nat->Int}:∀ {n:Nat},(∀ i,i<n->f i=g i)->zbv f n=zbv g n
 | 0,_=>rfl
 | n+1,h=>by
  unfold zbv
  rw [zmc (λi hi=>h i (by omega)),h n (by omega)]
theorem zgr {F H:Nat->Nat->Int}:∀ {n:Nat},(∀ i k,k<i->i<n->F i k=H i k)->zk6 F n=zk6 H n
 | 0,_=>rfl
 | n+1,h=>by
  unfold zk6
  rw [zgr (λi k h1 h2=>h i k h1 (by omega)),zmc (λk hk=>h n k hk (by omega))]
theorem ziz {f:Nat->Int} {lo hi:Int}:∀ {n:Nat},(∀ i,i<n->lo<=f i/\f i<=hi)->n*lo<=zbv f n/\zbv f n<=n*hi
 | 0,_=>by simp [zbv]
 | n+1,h=>by
  have h1:=ziz (n:=n) λi hi=>h i (by omega)
  have h2:=h n (by omega)
  unfold zbv
  rw [Int.natCast_succ,Int.add_mul,Int.add_mul]
  omega
theorem zkz {Z:Nat->Nat->Int} (h0:∀ i k,Z i k=0\/Z i k=1) (n:Nat):zk6 Z n=0↔∀ i k,k<i->i<n->Z i k=0:=by
 have hN:∀ (f:Nat->Int) (m:Nat),(∀ k,f k=0\/f k=1)->0<=zbv f m/\(zbv f m=0↔∀ k,k<m->f k=0):=by
  intro f m hf
  induction m with
  | zero=>simp [zbv]
  | succ m ih =>
   unfold zbv
   obtain ⟨i1,i2⟩:=ih
   have hm:=hf m
   refine ⟨by omega,?_,?_⟩
   ·intro h k hk
    by_cases hkm:k=m
    ·subst hkm;omega
    ·exact i2.1 (by omega) k (by omega)
   ·intro h
    have:=i2.2 λk hk=>h k (by omega)
    have:=h m (by omega)
    omega
 have h2:0<=zk6 Z n/\(zk6 Z n=0↔∀ i k,k<i->i<n->Z i k=0):=by
  induction n with
  | zero=>simp [zk6]
  | succ n ih =>
   unfold zk6
   obtain ⟨i1,i2⟩:=ih
   obtain ⟨j1,j2⟩:=hN (Z n) n (h0 n)
   refine ⟨by omega,?_,?_⟩
   ·intro h i k hk hi
    by_cases hin:i=n
    ·subst hin;exact j2.1 (by omega) k hk
    ·exact i2.1 (by omega) i k hk (by omega)
   ·intro h
    have:=i2.2 λi k hk hi=>h i k hk (by omega)
    have:=j2.2 λk hk=>h n k hk (by omega)
    omega
 exact h2.2
end Go.Gy
namespace Go.Gy
open Go Go.RowKit Go.Proofs Go.Proofs.Tryz
def wF (x:Nat->Int) (j:Nat):Int:=wi (x (j / 4)) (j%4)
def zc2 (c:Nat) (g:Nat->Int):Blk:=⟨fa (4*c) .u64 g,.ty 30⟩
theorem zba (c:Nat) (g:Nat->Int):(zc2 c g).fx:=λx hx=>by
 obtain ⟨m,rfl⟩:=zkc hx
 rfl
theorem zk1 (c:Nat) (g:Nat->Int):LOk [(100,zc2 c g)] 200:=zao (zba c g)
theorem z01 {c n:Nat} {g:Nat->Int} {x:Nat->Int} (hg:∀ j,j<4*n->g j=wF x j) {i:Nat} (hi:i<n) (hc:n<=c):(fa (4*c) .u64 g).extract (i*4) (i*4+4)=#[.int .u64 (wi (x i) 0),.int .u64 (wi (x i) 1),.int .u64 (wi (x i) 2),.int .u64 (wi (x i) 3)]:=by
 have h:∀ k,k<4->g (i*4+k)=wi (x i) k:=λk hk=>by
  rw [hg _ (by omega)]
  unfold wF
  rw [show (i*4+k) / 4=i by omega,show (i*4+k)%4=k by omega]
 rw [<-h 0 (by omega),<-h 1 (by omega),<-h 2 (by omega),<-h 3 (by omega)]
 apply Array.ext
 ·simp;omega
 ·intro k h1 h2
  simp at h2
  rw [Array.getElem_extract,z9g]
  have:k=0\/k=1\/k=2\/k=3:=by omega
  rcases this with rfl|rfl|rfl|rfl<;>rfl
theorem zk4 {a:Int} (h0:0<=a) (h1:a<=9223372036854775807):wr a:=zdf ⟨by omega,by omega⟩
def jeb (c n cap:Nat) (g x:Nat->Int) (i:Nat):GS :=
 ⟨tsL [(2,.pointer (some ⟨200,0,none⟩)),(3,.bool false),(8,.slice (some ⟨100,0,none⟩) n cap),(9,.int .i64 n),(10,.int .i64 i)],
 hpL G0 [(100,zc2 c g),(200,⟨#[.int .u64 (wi (zbv x i) 0),.int .u64 (wi (zbv x i) 1),.int .u64 (wi (zbv x i) 2),.int .u64 (wi (zbv x i) 3)],.ty 30⟩)],400,0⟩
theorem z5k (c n:Nat) (g x:Nat->Int) (hnc:n<=c) (hn:n<=1000) (hg:∀ j,j<4*n->g j=wF x j) (hx:∀ j,j<n->0<=x j/\x j<=1152921504606846) :
  Fun prog G0 100 #[.slice (some ⟨100,0,none⟩) n c] (hpL G0 [(100,zc2 c g)]) (zaa [(100,zc2 c g)]) (.ret (.tuple #[wd (zbv x n),.bool false]) []):=by
 refine zar (B:=200) G0F func100 rfl call100 (zk1 c g) ?_ ?_ (by simp) (by simp) (by simp [ntmps100]) (by omega) ?_
 ·simp [zap,zax,zah,zaj,zaa]
 ·exact zai (by simp)
 intro C hC hC0 hY
 have hid:∀ D,Blk.ids D ⟨fa (4*c) .u64 g,.ty 30⟩:=λD=>Blk.fx_ids (zba c g) D
 have e0:zbv x 0=0:=rfl
 unfold zc2 at hC0 |-
 repeat' first|refine gwZ ?_|(refine gwX ?_;intro Q hQ _;simp [hC,hY,zaf];refine gwq hQ ?_)|fail
 refine zbt n (jeb c n c g x) ?_ ?_ ?_
 ·refine za3 _ 400 hC G0F (m0:=[(100,⟨fa (4*c) .u64 g,.ty 30⟩)]) hC0 (by omega) ?_ ?_ ?_
  ·simp [jeb,zc2,zap,zax,zah,zaj,dom]
  ·simp [jeb,zc2,zad,zah,zaj,hid,e0,zaf]
  ·simp [jeb,zc2,e0,zaf]
 ·intro i hi
  have hi':(i:Int)<n:=by omega
  have hz:(0:Int)<=i:=by omega
  have hs:Int.bmod ((i:Int)+1) 18446744073709551616=((i+1:Nat):Int):=by rw [bm (by omega) (by omega)];rfl
  have hrd:=z01 hg hi hnc
  have hle:i*4+4<=4*c:=by omega
  have hxi:=hx i hi
  have hb:=ziz (f:=x) (n:=i) (lo:=0) (hi:=1152921504606846) λj hj=>hx j (by omega)
  have hb1:zbv x i<=1000*1152921504606846:=Int.le_trans hb.2 (Int.mul_le_mul_of_nonneg_right (by omega) (by omega))
  have hb0:0<=zbv x i:=by omega
  have w1:=zk4 hb0 (by omega)
  have w2:=zk4 hxi.1 (by omega)
  have w3:wr (zbv x i+x i):=zk4 (by omega) (by omega)
  have g1:=zri w1 hb0
  have g2:=zri w2 hxi.1
  have g3:=zri w3 (by omega)
  have es:zbv x (i+1)=zbv x i+x i:=rfl
  unfold jeb zc2
  repeat' first|refine gwZ ?_|(refine gwX ?_;intro Q hQ _;simp [hC,hY,hi',hz,hrd,hle];refine gwq hQ ?_)|fail
  refine za3 _ 400 hC G0F (m0:=[(100,⟨fa (4*c) .u64 g,.ty 30⟩)]) hC0 (by omega) ?_ ?_ ?_
  ·simp [zap,zax,zah,zaj,dom,hs,g1,g2,g3]
  ·simp [zad,zah,zaj,hid,es]
  ·simp [es]
 ·unfold jeb zc2
  repeat' first|refine gwZ ?_|refine gwW ?_|fail
  refine ⟨.inr rfl,by simp [results100],kpS G0F⟩
end Go.Gy
namespace Go.Gy
open Go Go.RowKit Go.Proofs
end Go.Gy
namespace Go.Gy
open Go Go.RowKit Go.Proofs
end Go.Gy
namespace Go.Gy
open Go Go.RowKit
section
variable {P:Program} {C:Ctx} {n:Nat} {d:List Deferred} {ro:Option Nat} {s:GS} {K:Exit->GS->Prop}
structure AFree (ops:Array Oper) (base:Nat) (listed:Array Bool) (hp:Hp):Prop where
 at':∀ i,listed[i]? = some false->∀ x,base+8*i<=x->x<base+8*i+8->hp x=none
 up:∀ x,base+8*ops.size<=x->hp x=none
def GA (P:Program) (C:Ctx) (n:Nat) (d:List Deferred) (ro:Option Nat) (ops:Array Oper) (base:Nat) (fuel:Nat) (listed:Array Bool) (ts:Nat->Value) (hp:Hp) (yc:Nat) (K:Exit->GS->Prop):Prop :=
 ∀ r a W,RI C n d r ts hp yc a W->AFree ops base listed hp->100<=base->zbo C.G->(∀ y,C.Y=some y->zg9 P C y)->wpAnyIn (Fw P ro) 0 P .any ops (λe a' W'=>∃ s' r',K e s'/\GI P C n d r' s' a' W') fuel listed a W
def GO (P:Program) (C:Ctx) (n:Nat) (d:List Deferred) (ro:Option Nat) (ops:Array Oper) (base:Nat) (fuel:Nat) (listed:Array Bool) (i:Nat) (ts:Nat->Value) (hp:Hp) (yc:Nat) (K:Exit->GS->Prop):Prop :=
 ∀ r a W,RI C n d r ts hp yc a W->AFree ops base listed hp->100<=base->zbo C.G->(∀ y,C.Y=some y->zg9 P C y)->wpOpIn (Fw P ro) 0 P ops (λe a' W'=>∃ s' r',K e s'/\GI P C n d r' s' a' W') i (wpAnyIn (Fw P ro) 0 P .any ops (λe a' W'=>∃ s' r',K e s'/\GI P C n d r' s' a' W') fuel (listed.setIfInBounds i true)) a W
theorem z57 {id:Nat} {l:List Oper} (hm:P.follows .mixedOrders=true) (h:GA P C n d ro l.toArray s.B l.length (Array.replicate l.length false) s.ts s.hp s.yc K):GW P C n d ro (.region id l.toArray true) s K:=λr a W hi =>
 wpIn_region_any hm (by
  have:=h r a _ hi.ri.drew ⟨λi _ x hx _=>hi.free x (by omega),λx hx=>hi.free x (by omega)⟩ hi.low hi.flat hi.rounds
  simpa using this)
theorem z56 {ops:Array Oper} {base fuel:Nat} {listed:Array Bool} {ts:Nat->Value} {hp:Hp} {yc:Nat} (hr:Region.ready .any ops listed=[]) (h:K .normal ⟨ts,hp,base+8*ops.size,yc⟩):GA P C n d ro ops base fuel listed ts hp yc K:=λr a W hi hf hb hG hR=>by
 have hq:∃ s' r',K .normal s'/\GI P C n d r' s' a W:=⟨⟨ts,hp,_,yc⟩,r,h,hi,hf.up,by show 100<=base+8*ops.size;omega,hG,hR⟩
 cases fuel with
 | zero=>exact ⟨hr,hq⟩
 | succ k=>exact ⟨λ_=>hq,λi hi=>by rw [hr] at hi;cases hi⟩
theorem z76 {ops:Array Oper} {base fuel:Nat} {listed:Array Bool} {ts:Nat->Value} {hp:Hp} {yc:Nat} (l:List Nat) (hr:Region.ready .any ops listed=l) (hl:l.isEmpty=false) (h:∀ i∈l,GO P C n d ro ops base fuel listed i ts hp yc K):GA P C n d ro ops base (fuel+1) listed ts hp yc K:=λr a W hi hf hb hG hR=>by
 refine ⟨λh0=>?_,λi hm=>h i (by rw [<-hr];exact hm) r a W hi hf hb hG hR⟩
 rw [hr] at h0;rw [h0] at hl;cases hl
theorem AFree.after {ops:Array Oper} {base:Nat} {listed:Array Bool} {hp hp':Hp} (h:AFree ops base listed hp) {i:Nat} (hi:i<ops.size) (e:∀ x,hp x=none->¬(base+8*i<=x/\x<base+8*i+8)->hp' x=none):AFree ops base (listed.setIfInBounds i true) hp':=by
 refine ⟨λj hj x h1 h2=>?_,λx hx=>e x (h.up x hx) (by omega)⟩
 rw [Array.getElem?_setIfInBounds] at hj
 split at hj
 ·split at hj<;>cases hj
 ·exact e x (h.at' j hj x h1 h2) (by omega)
theorem z79 {l0:List Oper} {o:Oper} {post:List Oper} {base i fuel:Nat} {listed:Array Bool} {ts:Nat->Value} {hp:Hp} {yc:Nat} (pn:List FuncId) (hl:l0.drop i=o::post) (hdst:(zg1 n [o]&&zry P [o])=true) (hi:listed[i]? = some false)
  (h:∀ q:(Nat->Value)->Hp->Tr->Nat->Prop,(∀ ts hp tr yc,GA P C n d ro l0.toArray base fuel (listed.setIfInBounds i true) ts hp yc K->q ts hp tr yc) ->
   zhg P C.G ⟨C.Y,pn,false⟩ base ⟨q,λ_ _=>False⟩ ((l0.take i).map (·.dst)).reverse i [o] ts hp [] yc true false):GO P C n d ro l0.toArray base fuel listed i ts hp yc K:=by
 intro r a W hRI hf hb hG hR
 simp only [Bool.and_eq_true] at hdst
 have hok:=And.intro (ze6 hdst.1 (List.mem_singleton.2 rfl)) (zge hdst.2 o (List.mem_singleton.2 rfl))
 have hi0:l0[i]? = some o:=by
  have:=congrArg (λl=>l[0]?) hl
  simpa [List.getElem?_drop] using this
 have hlt:i<l0.length:=(List.getElem?_eq_some_iff.1 hi0).1
 have hh:=h (λts hp _ yc=>GA P C n d ro l0.toArray base fuel (listed.setIfInBounds i true) ts hp yc K) (λ_ _ _ _ a=>a)
 have ek:(l0.take i).length=i:=by simp;omega
 have hx:zi5 P C.G ⟨C.Y,pn,false⟩ l0.toArray base (λts hp _ yc=>GA P C n d ro l0.toArray base fuel (listed.setIfInBounds i true) ts hp yc K) (λ_ _=>False) i [o] ts hp [] yc true false:=by
  refine zc5 (Q:=⟨_,λ_ _=>False⟩) [o] _ i _ _ _ _ _ _ (λj hj=>?_) (λj hj=>?_) hh
  ·rw [List.getElem?_reverse (by simp;omega)]
   simp only [List.length_map,ek,List.getElem?_map,List.getElem?_toArray]
   rw [show i - 1 - (i - 1 - j)=j by omega,List.getElem?_take,if_pos hj]
   cases l0[j]?<;>rfl
  ·obtain rfl:j=0:=by simpa using hj
   simp [hi0]
 have hfree:∀ x,base+8*i<=x->x<base+8*i+8->hp x=none:=hf.at' i hi
 unfold wpOpIn
 rw [List.getElem?_toArray,hi0]
 simp only
 simp only [zi5] at hx
 cases hw:zcs l0.toArray o ts with
 | none=>rw [hw] at hx;exact hx.elim
 | some b =>
  rw [hw] at hx
  rw [zgt hRI.rel hw]
  cases b with
  | true =>
   simp only at hx
   simp only [if_true]
   obtain ⟨e,h1,hs,hyd,h3⟩:=zf8 hG hRI.glob hx
   refine z39 hG hR o e ts hp yc r a W 0 _ _ hRI hok.1 h1 (λx hx=>(hs.ws x hx).2) (λx hx=>?_) (λr' a' W' hpn hi'=>?_) (λpv W' yc' hpn hi'=>?_)
   ·have:=hs.ns x hx;exact ⟨hfree x (by omega) (by omega),by omega⟩
   ·rw [hpn] at h3
    refine h3 r' a' W' hi' (hf.after (by simpa using hlt) λx hx0 hx1=>?_) hb hG hR
    rw [za6 (λhm=>?_)]
    ·exact hx0
    ·have:x∈zaa e.ws\/x∈zaa e.ns:=by simpa [zaa] using hm
     rcases this with h|h
     ·exact (hs.ws x h).2.1 hx0
     ·have:=hs.ns x h;omega
   ·rw [hpn] at h3
    exact h3.2.2.elim
  | false =>
   simp only at hx
   simp only [Bool.false_eq_true,if_false]
   exact ⟨zs9 (Y:=none) o ts r _ a W hRI.rel ⟨hx.1,hok.2⟩,hx.2 r _ W (hRI.put_undef hok.1.1) (hf.after (by simpa using hlt) λx hx0 _=>hx0) hb hG hR⟩
theorem zdv {G:Hp} {ops:Array Oper} {o:Oper} {base i fuel:Nat} {listed:Array Bool} {ts:Nat->Value} {hp hp':Hp} {yc:Nat} {c:Call} {f:Operand} {g:FuncId} {cap:Array Value} {rs:List Nat} {args:Array Value} {R:Value->List (Nat×Blk)->Prop} (hCG:C.G=G) (hr:FunS P G g args hp' rs R) (hio:ops[i]? = some o) (hi:listed[i]? = some false) (hg:o.guard=none) (hd:∀ dd,o.dst=some dd->dd<n)
  (ho:o.op=.call c) (hc:c.callee=.value f) (hf:okT ts f) (hgf:gev ts f=.func (.func g) #[] cap) (hcp:cap.all zbr=true) (ha:∀ x∈c.args.toList,okX ts hp x) (hargs:c.args.map (gev ts)++cap=args)
  (h1:∀ q∈rs,hp' q=hp q) (h2:∀ q,q<100->hp' q=hp q) (hat:∀ v ns,R v ns->∀ q∈zaa ns,base+8*i<=q/\q<base+8*i+8)
  (h:∀ v ns,R v ns->GA P C n d ro ops base fuel (listed.setIfInBounds i true) (zcx ts o.dst v) (zbi hp ns) yc K):GO P C n d ro ops base fuel listed i ts hp yc K:=by
 subst hCG
 intro r a W hRI hfr hb hG hR
 unfold wpOpIn
 rw [hio]
 simp only [Region.wanted,hg,if_true]
 refine ziy hG hRI hd ho hc hf hgf hcp ha (by rw [hargs];exact hr.under λq hq=>hq.elim (h2 q) (h1 q)) (λv ns hRv q hq=>hfr.at' i hi q (hat v ns hRv q hq).1 (hat v ns hRv q hq).2) (λv ns hRv r' a' W' hi'=>h v ns hRv r' a' W' hi' (hfr.after (Array.getElem?_eq_some_iff.1 hio).1 λx hx hx1=>?_) hb hG hR)
 rw [za6 (λhm=>hx1 (hat v ns hRv x hm))]
 exact hx
end
section
variable {P:Program} {C:Ctx} {n:Nat} {d:List Deferred} {ro:Option Nat} {s:GS} {K:Exit->GS->Prop}
theorem gwo {l0:List Oper} {o:Oper} {post:List Oper} {base i fuel:Nat} {listed:Array Bool} {ts:Nat->Value} {hp:Hp} {yc:Nat}
  (h:∀ q:(Nat->Value)->Hp->Tr->Nat->Prop,(∀ ts hp tr yc,GA P C n d ro l0.toArray base fuel (listed.setIfInBounds i true) ts hp yc K->q ts hp tr yc) ->
   zhg P C.G ⟨C.Y,[],false⟩ base ⟨q,λ_ _=>False⟩ ((l0.take i).map (·.dst)).reverse i [o] ts hp [] yc true false) (hl:l0.drop i=o::post:=by rfl) (hdst:(zg1 n [o]&&zry P [o])=true:=by kernel_rfl) (hi:listed[i]? = some false:=by first|assumption|simp):GO P C n d ro l0.toArray base fuel listed i ts hp yc K:=z79 [] hl hdst hi h
end
end Go.Gy
namespace Go.Gy
open Go Go.RowKit Go.Proofs Go.Proofs.Tryz
end Go.Gy
namespace Go.Gy
open Go Go.RowKit Go.Proofs
end Go.Gy
namespace Go.Gy
open Go Go.RowKit Go.Proofs Go.Proofs.Tryz
@[simp] theorem jt7:zgc prog 169=true:=by kernel_rfl
def wiB (n lo hi:Int):Bool:=decide (lo<=n/\n<=hi)
theorem z85 (n lo hi:Int):Ret prog G0 149 #[.int .i64 n,.int .i64 lo,.int .i64 hi] (.bool (wiB n lo hi)):=by
 refine zas G0F func149 rfl call149 rfl (by simp) (by simp [ntmps149]) ?_
 intro C hC hC0 hY
 unfold wiB
 by_cases c0:lo<=n
 ·by_cases c1:n<=hi
  ·rw [decide_eq_true ⟨c0,c1⟩]
   (repeat' (first|refine gwZ ?_|(refine gwX ?_;intro Q hQ _;simp [hC,hY,c0,c1];refine gwq hQ ?_)|refine gwC ?_ ?_<;>intro hb))
   refine ⟨.inr trivial,?_⟩
   simp [results149]
  ·rw [decide_eq_false (by omega)]
   (repeat' (first|refine gwZ ?_|(refine gwX ?_;intro Q hQ _;simp [hC,hY,c0,c1];refine gwq hQ ?_)|refine gwC ?_ ?_<;>intro hb))
   refine ⟨.inr trivial,?_⟩
   simp [results149]
 ·rw [decide_eq_false (by omega)]
  (repeat' (first|refine gwZ ?_|(refine gwX ?_;intro Q hQ _;simp [hC,hY,c0];refine gwq hQ ?_)|refine gwC ?_ ?_<;>intro hb))
  refine ⟨.inr trivial,?_⟩
  simp [results149]
@[simp] theorem cwi (n lo hi:Int) (K:Value->Prop):za2 prog G0 149 #[.int .i64 n,.int .i64 lo,.int .i64 hi] K↔K (.bool (wiB n lo hi)):=zac G0W (by kernel_rfl) (z85 n lo hi)
def jcg (nk:Nat) (a m:Int) (v:Value) (ns:List (Nat×Blk)):Prop:=v=.func (.func 148) #[] #[.pointer (some ⟨nk,0,none⟩),.pointer (some ⟨nk+1,0,none⟩)]/\ns=[(nk,jb a),(nk+1,jb m)]
theorem jay (a m:Int):FunS prog G0 147 #[.int .i64 a,.int .i64 m] (hpL G0 []) (zaa []) (jcg 1000 a m):=by
 refine zet (B:=200) G0F func147 rfl call147 ⟨by simp,by simp [zaa],by simp⟩ ?_ ?_ (by simp [ntmps147]) (by omega) ?_
 ·simp [zap,zax,zah,zaj,zaa]
 ·rintro v ns ⟨rfl,rfl⟩
  refine ⟨by simp [zap,zax,zah,zaj,zc7,zaa],by simp [jb,zad,zah,zaj],?_⟩
  intro k b c h1 h2
  simp at h1 h2
  rcases h1 with ⟨e1,rfl⟩|⟨e1,rfl⟩<;>rcases h2 with ⟨e2,rfl⟩|⟨e2,rfl⟩<;>first|rfl|omega
 intro C hC hC0 hY
 repeat' first|refine gwZ ?_|refine gwW ?_|fail
 refine ⟨.inr trivial,kpS G0F,_,_,λk=>if k=1000 then 200 else if k=1001 then 208 else k,⟨rfl,rfl⟩,λk hk=>?_,by simp,by simp,by simp [results147,ren,zay,zak,zan],?_⟩
 ·dsimp only
  rw [if_neg (by omega),if_neg (by omega)]
 ·simp [zb0]
  simp [jb]
theorem jax {nk nk':Nat} {a m:Int} {ρ:Nat->Nat} (h0:ρ nk=nk') (h1:ρ (nk+1)=nk'+1):RR ρ (jcg nk a m)=jcg nk' a m:=by
 funext v ns
 apply propext
 constructor
 ·rintro ⟨v0,ns0,⟨rfl,rfl⟩,rfl,rfl⟩
  exact ⟨by simp [ren,zay,zak,zan,h0,h1],by simp [rnL,zb0,h0,h1]⟩
 ·rintro ⟨rfl,rfl⟩
  exact ⟨_,_,⟨rfl,rfl⟩,by simp [ren,zay,zak,zan,h0,h1],by simp [rnL,zb0,h0,h1]⟩
def up2 (nk k:Nat):Nat:=if 1000<=k then (if k<1002 then k - 1000+nk else k) else k
theorem zg4 (nk:Nat) (hnk:200<=nk) (a m:Int):FunS prog G0 147 #[.int .i64 a,.int .i64 m] (hpL G0 []) [] (jcg nk a m):=by
 have e2:∀ j,j<2->up2 nk (1000+j)=nk+j:=λj hj=>by unfold up2;rw [if_pos (by omega),if_pos (by omega)];omega
 have hk2:∀ v ns,jcg 1000 a m v ns->∀ k∈zaa ns,∃ j,j<2/\k=1000+j:=by
  rintro v ns ⟨rfl,rfl⟩ k hk
  simp [zaa] at hk
  rcases hk with rfl|rfl
  ·exact ⟨0,by omega,rfl⟩
  ·exact ⟨1,by omega,rfl⟩
 have h0:=(jay a m).rn (up2 nk) G0F zcd.low (hp':=hpL G0 []) (zpr zcd _ (λk hk=>by unfold up2;rw [if_neg (by omega)]) zcd.low (by simp) (by simp [zaa])) (λv ns hR k hk=>by
  obtain ⟨j,hj,rfl⟩:=hk2 v ns hR k hk
  rw [e2 j hj]
  refine ⟨by omega,λhd=>hd ?_⟩
  simp [rst,zaa]
  intro h4
  omega) (λv ns hR k hk l hl e=>by
  obtain ⟨j,hj,rfl⟩:=hk2 v ns hR k hk
  obtain ⟨i,hi,rfl⟩:=hk2 v ns hR l hl
  rw [e2 j hj,e2 i hi] at e
  omega)
 rw [jax (e2 0 (by omega)) (e2 1 (by omega))] at h0
 simpa [zaa,ren,zay,zak,zan] using h0
theorem zdx {nk:Nat} {a m:Int} {v:Value} {ns:List (Nat×Blk)} (h:jcg nk a m v ns):∀ k∈zaa ns,nk<=k/\k<nk+2:=by
 obtain ⟨rfl,rfl⟩:=h
 intro k hk
 simp [zaa] at hk
 omega
theorem zby (a m:Int):Fun prog G0 148 #[.pointer (some ⟨100,0,none⟩),.pointer (some ⟨108,0,none⟩)] (hpL G0 [(100,jb a),(108,jb m)]) (zaa [(100,jb a),(108,jb m)]) (.ret (.bool (wiB a 1 m)) []):=by
 refine zar (B:=200) G0F func148 rfl call148 ⟨by simp,by simp [zaa],by simp [jb,zad,zah,zaj]⟩ ?_ (by simp) (by simp) (by simp) (by simp [ntmps148]) (by omega) ?_
 ·simp [zap,zax,zah,zaj,zaa]
 intro C hC hC0 hY
 repeat' first|refine gwZ ?_|(refine gwX ?_;intro Q hQ _;simp [hC,hY,jb];refine gwq hQ ?_)|fail
 refine ⟨.inr rfl,by simp [results148],zb4 G0F (by simp [jb]) (by (intro k hk;first|rfl|(simp (disch:=omega) only [zb3,List.mem_cons,List.not_mem_nil,or_false,zab,zaq,zaw,if_neg,zbi]<;>done)))⟩
def cfB (sl:Value) (g bx tp nr md:Int):Blk:=⟨#[sl,.int .i64 g,.int .i64 bx,.int .i64 tp,.int .i64 nr,.int .i64 md],.ty 24⟩
def cfV (sl:Value) (g bx tp nr md:Int):Value:=.agg #[sl,.int .i64 g,.int .i64 bx,.int .i64 tp,.int .i64 nr,.int .i64 md]
theorem jew (m:Int):Ret prog G0 152 #[.int .i64 m] (.bool !(wiB m 1 1024)):=by
 refine zas G0F func152 rfl call152 rfl (by simp) (by simp [ntmps152]) ?_
 intro C hC hC0 hY
 repeat' first|refine gwZ ?_|refine gwW ?_|fail
 refine ⟨.inr trivial,?_⟩
 simp [results152]
@[simp] theorem cm1 (m:Int) (K:Value->Prop):za2 prog G0 152 #[.int .i64 m] K↔K (.bool !(wiB m 1 1024)):=zac G0W (by kernel_rfl) (jew m)
structure MB (b:Blk) (off n:Nat) (f:Nat->Int):Prop where
 rd:rdI b off n f
 fx:b.fx
 i6:∀ j,j<n->i64 (f j)
 nn:n<=17592186044416
theorem MB.at {b:Blk} {off n:Nat} {f:Nat->Int} (h:MB b off n f) {i:Nat} (hi:i<n):zc6 prog 3 b (off+i)=some (.int .i64 (f i)):=by
 have hbrd:=Blk.fx_rd h.fx
 exact zkl (P:=prog) (T:=3) (j:=i) (za8 isAgg3) h.rd hi
def z2l (b:Blk) (off n cap:Nat) (i:Nat):GS :=
 ⟨tsL [(0,.slice (some ⟨100,off,none⟩) n cap),(1,.func (.func 152) #[] #[]),(7,.int .i64 n),(8,.int .i64 i)],hpL G0 [(100,b)],300,0⟩
def zp8 (f:Nat->Int) (n:Nat):Bool:=(List.range n).all λi=>wiB (f i) 1 1024
theorem zxp (b:Blk) (off n cap:Nat) (f:Nat->Int) (h:MB b off n f) (N:Nat) (hN:N<=n) (hlt:∀ i,i<N->wiB (f i) 1 1024=true) (hend:N=n\/wiB (f N) 1 1024=false) :
  Fun prog G0 170 #[.slice (some ⟨100,off,none⟩) n cap,.func (.func 152) #[] #[]] (hpL G0 [(100,b)]) (zaa [(100,b)]) (.ret (.int .i64 (if N=n then -1 else N)) []):=by
 refine zar (B:=200) G0F func170 rfl call170 (zao h.fx) ?_ (by simp) (by simp) (by simp) (by simp [ntmps170]) (by omega) ?_
 ·simp [zap,zax,zah,zaj,zaa]
 intro C hC hC0 hY
 have hnn:=h.nn
 have hid:=λD=>Blk.fx_ids h.fx D
 repeat' first|refine gwZ ?_|refine gwW ?_|fail
 refine zbt N (z2l b off n cap) ?_ ?_ ?_
 ·refine za3 _ 300 hC G0F (m0:=[(100,b)]) hC0 (by omega) ?_ ?_ ?_
  ·simp [zap,zax,zah,zaj,dom]
  ·simp [hid]
  ·simp
 ·intro i hi
  have hin:i<n:=by omega
  have hi':(i:Int)<n:=by omega
  have hz:(0:Int)<=i:=by omega
  have hs:Int.bmod ((i:Int)+1) 18446744073709551616=((i+1:Nat):Int):=by rw [bm (by omega) (by omega)];rfl
  have hld:=h.at hin
  have hq:=hlt i hi
  unfold z2l
  repeat' first|refine gwZ ?_|(refine gwX ?_;intro Q hQ _;simp [hC,hY,hi,hin,hi',hz,hs,hld,hq];refine gwq hQ ?_)|fail
  refine za3 _ 300 hC G0F (m0:=[(100,b)]) hC0 (by omega) ?_ ?_ ?_
  ·simp [zap,zax,zah,zaj,dom,hs]
  ·simp [hid]
  ·simp
 ·by_cases hNn:N=n
  ·subst hNn
   simp only [if_true]
   unfold z2l
   repeat' first|refine gwZ ?_|refine gwW ?_|fail
   refine ⟨.inr rfl,by simp [results170],kpS G0F⟩
  ·have hin:N<n:=by omega
   have hi':(N:Int)<n:=by omega
   have hz:(0:Int)<=N:=by omega
   have hld:=h.at hin
   have hq:=hend.resolve_left hNn
   rw [if_neg hNn]
   unfold z2l
   repeat' first|refine gwZ ?_|(refine gwX ?_;intro Q hQ _;simp [hC,hY,hin,hi',hz,hld,hq];refine gwq hQ ?_)|fail
   refine ⟨.inr rfl,by simp [results170],kpS G0F⟩
theorem z8z (b:Blk) (off n cap:Nat) (f:Nat->Int) (h:MB b off n f) :
  Fun prog G0 151 #[.slice (some ⟨100,off,none⟩) n cap,.func (.func 152) #[] #[]] (hpL G0 [(100,b)]) (zaa [(100,b)]) (.ret (.bool !(zp8 f n)) []):=by
 refine zar (B:=200) G0F func151 rfl call151 (zao h.fx) ?_ (by simp) (by simp) (by simp) (by simp [ntmps151]) (by omega) ?_
 ·simp [zap,zax,zah,zaj,zaa]
 intro C hC hC0 hY
 have hr:=λρ=>Blk.fx_rn h.fx ρ
 obtain ⟨N,hN,hlt,hend⟩:=z3z (λi=>wiB (f i) 1 1024) n
 by_cases hNn:N=n
 ·have e:zp8 f n=true:=by unfold zp8;rw [<-hNn];simpa using hlt
  rw [e]
  repeat' first|refine gwZ ?_|((first|refine gwR [170] ?_|refine gwD [170] ?_);intro Q hQ _;(repeat first|simp [hC,hY,hNn]|refine zae (zxp b off n cap f h N hN hlt hend) G0F (B:=200) (zao h.fx) (λk=>k) (λk hk=>rfl) (by simp [ren,zay,zak,zan]) (by simp) (by simp [hr]) (by simp [zaa]) (by simp [zaa];rfl) ?_);refine gwq hQ ?_)|fail
  refine ⟨.inr rfl,by simp [results151],kpS G0F⟩
 ·have e:zp8 f n=false:=by
   unfold zp8
   rw [List.all_eq_false]
   exact ⟨N,by simp;omega,by simpa using hend.resolve_left hNn⟩
  have hz:(0:Int)<=N:=by omega
  rw [e]
  repeat' first|refine gwZ ?_|((first|refine gwR [170] ?_|refine gwD [170] ?_);intro Q hQ _;(repeat first|simp [hC,hY,hNn,hz]|refine zae (zxp b off n cap f h N hN hlt hend) G0F (B:=200) (zao h.fx) (λk=>k) (λk hk=>rfl) (by simp [ren,zay,zak,zan]) (by simp) (by simp [hr]) (by simp [zaa]) (by simp [zaa];rfl) ?_);refine gwq hQ ?_)|fail
  refine ⟨.inr rfl,by simp [results151],kpS G0F⟩
def cmL (b:Blk) (off n cap:Nat) (g bx tp nr md:Int):List (Nat×Blk):=[(100,b),(108,cfB (.slice (some ⟨100,off,none⟩) n cap) g bx tp nr md)]
theorem zfw {b:Blk} (hb:b.fx) (off n cap:Nat) (g bx tp nr md:Int):LOk (cmL b off n cap g bx tp nr md) 200:=⟨by simp [cmL],by simp [cmL,zaa],by
 simp only [cmL,List.mem_cons,List.not_mem_nil,or_false,forall_eq_or_imp,forall_eq]
 exact ⟨Blk.fx_ids hb _,by simp [cfB,zad,zah,zaj,zaa]⟩⟩
theorem zha (b:Blk) (off n cap:Nat) (f:Nat->Int) (h:MB b off n f) (g bx tp nr md:Int) :
  Fun prog G0 150 #[.pointer (some ⟨108,0,none⟩)] (hpL G0 (cmL b off n cap g bx tp nr md)) (zaa (cmL b off n cap g bx tp nr md)) (.ret (.bool (zp8 f n)) []):=by
 refine zar (B:=200) G0F func150 rfl call150 (zfw h.fx off n cap g bx tp nr md) ?_ (by simp) (by simp) (by simp) (by simp [ntmps150]) (by omega) ?_
 ·simp [zap,zax,zah,zaj,zaa,cmL]
 intro C hC hC0 hY
 have hr:=λρ=>Blk.fx_rn h.fx ρ
 unfold cmL cfB
 repeat' first|refine gwZ ?_|((first|refine gwR [151] ?_|refine gwD [151] ?_);intro Q hQ _;(repeat first|simp [hC,hY]|refine zae (z8z b off n cap f h) G0F (B:=200) (zao h.fx) (λk=>k) (λk hk=>rfl) (by simp [ren,zay,zak,zan]) (by simp) (by simp [hr]) (by simp [zaa]) (by simp [zaa];rfl) ?_);refine gwq hQ ?_)|fail
 refine ⟨.inr rfl,by simp [results150],kpS G0F⟩
theorem zxq (b:Blk) (off n cap:Nat) (hb:b.fx) (g bx tp nr md:Int) :
  Fun prog G0 153 #[.pointer (some ⟨108,0,none⟩)] (hpL G0 (cmL b off n cap g bx tp nr md)) (zaa (cmL b off n cap g bx tp nr md)) (.ret (.bool (wiB md 0 4)) []):=by
 refine zar (B:=200) G0F func153 rfl call153 (zfw hb off n cap g bx tp nr md) ?_ (by simp) (by simp) (by simp) (by simp [ntmps153]) (by omega) ?_
 ·simp [zap,zax,zah,zaj,zaa,cmL]
 intro C hC hC0 hY
 unfold cmL cfB
 repeat' first|refine gwZ ?_|refine gwW ?_|fail
 refine ⟨.inr rfl,by simp [results153],kpS G0F⟩
end Go.Gy
namespace Go.Gy
open Go Go.RowKit
@[simp] theorem jcv:za0 (.map none)=true:=by simp [za0,zg2,zbf,zhd]
theorem zqq:∀ (l:List Bool) (i:Nat),l[i]? = some false->(l.set i true).count false+1=l.count false
 | [],i,h=>by simp at h
 | a::l,0,h=>by simp at h;subst h;simp
 | a::l,i+1,h=>by
  have:=zqq l i (by simpa using h)
  simp only [List.set_cons_succ,List.count_cons]
  omega
theorem mem_ready {md:Region.Mode} {ops:Array Oper} {listed:Array Bool} (hs:listed.size=ops.size) {i:Nat}:i∈Region.ready md ops listed↔listed[i]? = some false/\∀ o,ops[i]? = some o->∀ e∈o.after,Region.binds md e=true->listed[e.on]? = some true:=by
 unfold Region.ready
 simp only [List.mem_filter,List.mem_range,Bool.and_eq_true,Bool.not_eq_true']
 constructor
 ·rintro ⟨h1,h2,h3⟩
  have e1:listed[i]? = some listed[i]:=Array.getElem?_eq_getElem (by omega)
  refine ⟨?_,λo ho e he hb=>?_⟩
  ·simp only [Array.getD_eq_getD_getElem?,e1,Option.getD_some] at h2
   rw [e1,h2]
  ·rw [ho] at h3
   simp only [Option.map_some,Option.getD_some,Array.all_eq_true_iff_forall_mem] at h3
   have:=h3 e he
   rw [hb] at this
   simp only [Bool.not_true,Bool.false_or,Array.getD_eq_getD_getElem?] at this
   cases hl:listed[e.on]? with
   | none=>rw [hl] at this;simp at this
   | some b=>rw [hl] at this;simp at this;rw [this]
 ·rintro ⟨h1,h2⟩
  have hlt:i<ops.size:=by have:=(Array.getElem?_eq_some_iff.1 h1).1;omega
  refine ⟨hlt,by simp [Array.getD_eq_getD_getElem?,h1],?_⟩
  rw [Array.getElem?_eq_getElem hlt]
  simp only [Option.map_some,Option.getD_some,Array.all_eq_true_iff_forall_mem,Bool.or_eq_true,Bool.not_eq_true']
  intro e he
  cases hb:Region.binds md e with
  | false=>exact .inl rfl
  | true=>right;simp [Array.getD_eq_getD_getElem?,h2 _ (Array.getElem?_eq_getElem hlt) e he hb]
theorem zpo {md:Region.Mode} {ops:Array Oper} {listed:Array Bool} (hs:listed.size=ops.size) (hlt:(ops.toList.zipIdx.all λp=>p.1.after.all λe=>decide (e.on<p.2))=true) (h:Region.ready md ops listed=[]):∀ i,i<ops.size->listed[i]? = some true:=by
 intro i
 induction i using Nat.strongRecOn with
 | _ i ih =>
  intro hi
  have e1:listed[i]? = some listed[i]:=Array.getElem?_eq_getElem (by omega)
  cases hb:listed[i] with
  | true=>rw [e1,hb]
  | false =>
   exfalso
   have:i∈Region.ready md ops listed:=(mem_ready hs).2 ⟨by rw [e1,hb],λo ho e he _=>by
    have hm:(o,i)∈ops.toList.zipIdx:=by
     rw [List.mem_zipIdx_iff_getElem?]
     simpa using ho
    have:=List.all_eq_true.1 hlt _ hm
    have:=Array.all_eq_true_iff_forall_mem.1 this e he
    have h3:e.on<i:=by simpa using this
    exact ih _ h3 (by omega)⟩
   rw [h] at this
   cases this
section
variable {P:Program} {C:Ctx} {n:Nat} {d:List Deferred} {ro:Option Nat} {K:Exit->GS->Prop}
theorem zsb {G:Hp} {ops:Array Oper} {o:Oper} {post:List Oper} {base k:Nat} (sh:Nat) {ts:Nat->Value} {hp hp':Hp} {yc:Nat} {c:Call} {f:Operand} {g:FuncId} {cap:Array Value} {rs:List Nat} {args:Array Value} {R:Value->List (Nat×Blk)->Prop} (hCG:C.G=G) (hr:FunS P G g args hp' rs R) (hg:o.guard=none) (hd:∀ dd,o.dst=some dd->dd<n)
  (ho:o.op=.call c) (hc:c.callee=.value f) (hf:okT ts f) (hgf:gev ts f=.func (.func g) #[] cap) (hcp:cap.all zbr=true) (ha:∀ x∈c.args.toList,okX ts hp x) (hargs:c.args.map (gev ts)++cap=args)
  (h1:∀ q∈rs,hp' q=hp q) (h2:∀ q,q<100->hp' q=hp q) (hat:∀ v ns,R v ns->∀ q∈zaa ns,base+8*k<=q/\q<base+sh+8*k+8)
  (h:∀ v ns,R v ns->GL P C n d ro ops (base+sh) (k+1) post (zcx ts o.dst v) (zbi hp ns) yc K):GL P C n d ro ops base k (o::post) ts hp yc K:=by
 subst hCG
 intro r a W hi hfr hb hG hR
 refine wpListIn_plain hg λK' hK'=>?_
 refine ziy hG hi hd ho hc hf hgf hcp ha (by rw [hargs];exact hr.under λq hq=>hq.elim (h2 q) (h1 q)) (λv ns hRv q hq=>hfr q (hat v ns hRv q hq).1) (λv ns hRv r' a' W' hi'=>hK' _ _ (h v ns hRv r' a' W' hi' (λx hx=>?_) (by omega) hG hR))
 rw [za6 (λhm=>by have:=hat v ns hRv x hm;omega)]
 exact hfr x (by omega)
theorem zwu {ops:Array Oper} {base yc:Nat} (I:Array Bool->(Nat->Value)->Hp->Prop)
  (fin:∀ listed ts hp,listed.size=ops.size->Region.ready .any ops listed=[]->I listed ts hp->K .normal ⟨ts,hp,base+8*ops.size,yc⟩)
  (step:∀ fuel listed ts hp i,listed.size=ops.size->listed[i]? = some false->(∀ o,ops[i]? = some o->∀ e∈o.after,Region.binds .any e=true->listed[e.on]? = some true)->I listed ts hp ->
   (∀ ts' hp',I (listed.setIfInBounds i true) ts' hp'->GA P C n d ro ops base fuel (listed.setIfInBounds i true) ts' hp' yc K)->GO P C n d ro ops base fuel listed i ts hp yc K) :
  ∀ (fuel:Nat) (listed:Array Bool) (ts:Nat->Value) (hp:Hp),listed.size=ops.size->listed.toList.count false<=fuel->I listed ts hp->GA P C n d ro ops base fuel listed ts hp yc K
 | 0,listed,ts,hp,hs,hc,hI=>by
  have hr:Region.ready .any ops listed=[]:=by
   cases h:Region.ready .any ops listed with
   | nil=>rfl
   | cons i l =>
    have hm:i∈Region.ready .any ops listed:=by rw [h];simp
    have h1:=((mem_ready hs).1 hm).1
    have h2:=zqq listed.toList i (by simpa using h1)
    omega
  exact z56 hr (fin _ _ _ hs hr hI)
 | fuel+1,listed,ts,hp,hs,hc,hI=>by
  cases h:Region.ready .any ops listed with
  | nil=>exact z56 h (fin _ _ _ hs h hI)
  | cons i l =>
   refine z76 _ rfl (by rw [h];rfl) λj hj=>?_
   obtain ⟨h1,h2⟩:=(mem_ready hs).1 hj
   refine step fuel listed ts hp j hs h1 h2 hI λts' hp' hI'=>?_
   have h3:=zqq listed.toList j (by simpa using h1)
   exact zwu I fin step fuel _ _ _ (by simpa using hs) (by simp only [Array.toList_setIfInBounds];omega) hI'
end
end Go.Gy
namespace Go.Gy
open Go Go.RowKit Go.Proofs Go.Proofs.Tryz
def mT (sl:Value) (n:Nat) (g bx tp nr:Int):List (Nat×Nat×Value):=[(0,4,.map (some 224)),
  (1,5,.func (.func 147) #[] #[]),
  (2,6,.pointer (some ⟨200,0,none⟩)),
  (3,7,sl),
  (4,8,.int .i64 n),
  (5,9,.func (.func 148) #[] #[.pointer (some ⟨264,0,none⟩),.pointer (some ⟨265,0,none⟩)]),
  (7,10,.func (.func 150) #[] #[.pointer (some ⟨200,0,none⟩)]),
  (9,11,.func (.func 147) #[] #[]),
  (10,12,.pointer (some ⟨200,1,none⟩)),
  (11,13,.int .i64 g),
  (12,14,.func (.func 148) #[] #[.pointer (some ⟨320,0,none⟩),.pointer (some ⟨321,0,none⟩)]),
  (14,15,.func (.func 147) #[] #[]),
  (15,16,.pointer (some ⟨200,2,none⟩)),
  (16,17,.int .i64 bx),
  (17,18,.func (.func 148) #[] #[.pointer (some ⟨360,0,none⟩),.pointer (some ⟨361,0,none⟩)]),
  (19,19,.func (.func 147) #[] #[]),
  (20,20,.pointer (some ⟨200,3,none⟩)),
  (21,21,.int .i64 tp),
  (22,22,.func (.func 148) #[] #[.pointer (some ⟨400,0,none⟩),.pointer (some ⟨401,0,none⟩)]),
  (24,23,.func (.func 147) #[] #[]),
  (25,24,.pointer (some ⟨200,4,none⟩)),
  (26,25,.int .i64 nr),
  (27,26,.pointer (some ⟨200,2,none⟩)),
  (28,27,.int .i64 bx),
  (29,28,.int .i64 (Int.bmod (2*bx) 18446744073709551616)),
  (30,29,.func (.func 148) #[] #[.pointer (some ⟨464,0,none⟩),.pointer (some ⟨465,0,none⟩)]),
  (32,30,.func (.func 153) #[] #[.pointer (some ⟨200,0,none⟩)]),
  (34,31,.map (some 224)),
  (35,2,.map (some 224))]
def mI:List (Nat×ByteArray×Value):=[(6,⟨#[98,111,100,105,101,115]⟩,.func (.func 148) #[] #[.pointer (some ⟨264,0,none⟩),.pointer (some ⟨265,0,none⟩)]),
  (8,⟨#[109,97,115,115]⟩,.func (.func 150) #[] #[.pointer (some ⟨200,0,none⟩)]),
  (13,⟨#[99,111,110,115,116,97,110,116]⟩,.func (.func 148) #[] #[.pointer (some ⟨320,0,none⟩),.pointer (some ⟨321,0,none⟩)]),
  (18,⟨#[98,111,120]⟩,.func (.func 148) #[] #[.pointer (some ⟨360,0,none⟩),.pointer (some ⟨361,0,none⟩)]),
  (23,⟨#[116,111,112]⟩,.func (.func 148) #[] #[.pointer (some ⟨400,0,none⟩),.pointer (some ⟨401,0,none⟩)]),
  (31,⟨#[110,101,97,114]⟩,.func (.func 148) #[] #[.pointer (some ⟨464,0,none⟩),.pointer (some ⟨465,0,none⟩)]),
  (33,⟨#[109,101,116,104,111,100]⟩,.func (.func 153) #[] #[.pointer (some ⟨200,0,none⟩)])]
def mX (n:Nat) (g bx tp nr:Int):List (Nat×Nat×Blk):=[(5,264,jb (n:Int)),(5,265,jb 4),
  (12,320,jb g),(12,321,jb 1048576),
  (17,360,jb bx),(17,361,jb 1048576),
  (22,400,jb tp),(22,401,jb 65536),
  (30,464,jb nr),(30,465,jb (Int.bmod (2*bx) 18446744073709551616))]
structure MI (b:Blk) (sl:Value) (n:Nat) (g bx tp nr md:Int) (listed:Array Bool) (ts:Nat->Value) (hp:Hp):Prop where
 t1:ts 1=.pointer (some ⟨200,0,none⟩)
 t3:ts 3=.func (.func 147) #[] #[]
 tm:∀ p∈mT sl n g bx tp nr,listed[p.1]? = some true->ts p.2.1=p.2.2
 low:∀ k,k<100->hp k=G0 k
 b:hp 100=some b
 c:hp 200=some (cfB sl g bx tp nr md)
 bx:∀ q∈mX n g bx tp nr,listed[q.1]? = some true->hp q.2.1=some q.2.2
 mp:listed[0]? = some true->∃ l,hp 224=some (mpB l)/\(∀ p∈l,∃ q∈mI,p=q.2/\listed[q.1]? = some true)/\∀ q∈mI,listed[q.1]? = some true->zc4 q.2.1 l=some q.2.2
 i0:∀ q∈mI,listed[q.1]? = some true->listed[0]? = some true
theorem zjw {listed:Array Bool} {i j:Nat} (h:listed[j]? = some true):(listed.setIfInBounds i true)[j]? = some true:=by
 rw [Array.getElem?_setIfInBounds]
 split
 ·split
  ·rfl
  ·rename_i e hlt
   subst e
   exact absurd (Array.getElem?_eq_some_iff.1 h).1 hlt
 ·exact h
theorem zdb {listed:Array Bool} {i j:Nat} (h:(listed.setIfInBounds i true)[j]? = some true):j=i\/listed[j]? = some true:=by
 rw [Array.getElem?_setIfInBounds] at h
 by_cases e:i=j
 ·exact .inl e.symm
 ·rw [if_neg e] at h;exact .inr h
theorem zl2 (sl:Value) (n:Nat) (g bx tp nr:Int):∀ p∈mT sl n g bx tp nr,∀ q∈mT sl n g bx tp nr,p.1=q.1\/p.2.1=q.2.1->p=q:=by
 intro p hp q hq
 simp only [mT,List.mem_cons,List.not_mem_nil,or_false] at hp hq
 rcases hp with rfl|rfl|rfl|rfl|rfl|rfl|rfl|rfl|rfl|rfl|rfl|rfl|rfl|rfl|rfl|rfl|rfl|rfl|rfl|rfl|rfl|rfl|rfl|rfl|rfl|rfl|rfl|rfl|rfl<;>rcases hq with rfl|rfl|rfl|rfl|rfl|rfl|rfl|rfl|rfl|rfl|rfl|rfl|rfl|rfl|rfl|rfl|rfl|rfl|rfl|rfl|rfl|rfl|rfl|rfl|rfl|rfl|rfl|rfl|rfl<;>simp
theorem jgw (sl:Value) (n:Nat) (g bx tp nr:Int):∀ p∈mT sl n g bx tp nr,p.2.1≠1/\p.2.1≠3:=by simp [mT]
theorem zre (sl:Value) (n:Nat) (g bx tp nr:Int):∀ p∈mT sl n g bx tp nr,∀ q∈mI,p.1≠q.1:=by simp [mT,mI]
theorem jgs:∀ p∈mI,∀ q∈mI,p.1=q.1\/(p.2.1==q.2.1)=false:=by
 intro p hp q hq
 simp only [mI,List.mem_cons,List.not_mem_nil,or_false] at hp hq
 rcases hp with rfl|rfl|rfl|rfl|rfl|rfl|rfl<;>rcases hq with rfl|rfl|rfl|rfl|rfl|rfl|rfl<;>first|exact .inl rfl|(right;decide +kernel)
theorem jgt:∀ p∈mI,∀ q∈mI,p.1=q.1->p=q:=by
 intro p hp q hq
 simp only [mI,List.mem_cons,List.not_mem_nil,or_false] at hp hq
 rcases hp with rfl|rfl|rfl|rfl|rfl|rfl|rfl<;>rcases hq with rfl|rfl|rfl|rfl|rfl|rfl|rfl<;>simp
theorem jaf:∀ p∈mI,(p.2.1==p.2.1)=true:=by
 intro p hp
 simp only [mI,List.mem_cons,List.not_mem_nil,or_false] at hp
 rcases hp with rfl|rfl|rfl|rfl|rfl|rfl|rfl<;>decide +kernel
section
variable {b:Blk} {sl:Value} {n:Nat} {g bx tp nr md:Int} {listed:Array Bool} {ts:Nat->Value} {hp:Hp}
theorem MI.tmp (h:MI b sl n g bx tp nr md listed ts hp) {i t:Nat} {v:Value} (hm:(i,t,v)∈mT sl n g bx tp nr) (hx:∀ q∈mX n g bx tp nr,q.1≠i) (hi:i≠0):MI b sl n g bx tp nr md (listed.setIfInBounds i true) (upd ts t v) hp:=by
 have h13:=jgw sl n g bx tp nr _ hm
 refine ⟨by rw [zab _ _ (λe=>h13.1 e.symm)];exact h.t1,by rw [zab _ _ (λe=>h13.2 e.symm)];exact h.t3,λp hp hl=>?_,h.low,h.b,h.c,λq hq hl=>?_,λhl=>?_,λq hq hl=>(zdb hl).elim (λe1=>absurd e1.symm (zre sl n g bx tp nr _ hm q hq)) λh1=>zjw (h.i0 q hq h1)⟩
 ·by_cases e:p.2.1=t
  ·have:=zl2 sl n g bx tp nr p hp _ hm (.inr e)
   subst this
   exact za9 _ _ _
  ·rw [zab _ _ e]
   rcases zdb hl with e1|h1
   ·exact absurd (congrArg (λx=>x.2.1) (zl2 sl n g bx tp nr p hp _ hm (.inl e1))) e
   ·exact h.tm p hp h1
 ·rcases zdb hl with e1|h1
  ·exact absurd e1 (hx q hq)
  ·exact h.bx q hq h1
 ·rcases zdb hl with e1|h1
  ·exact absurd e1.symm hi
  ·obtain ⟨l,l1,l2,l3⟩:=h.mp h1
   refine ⟨l,l1,λp hp=>?_,λq hq hl2=>?_⟩
   ·obtain ⟨q,hq,e,h2⟩:=l2 p hp
    refine ⟨q,hq,e,?_⟩
    rw [Array.getElem?_setIfInBounds,if_neg (λe=>zre sl n g bx tp nr _ hm q hq e)]
    exact h2
   ·rcases zdb hl2 with e1|h2
    ·exact absurd e1.symm (zre sl n g bx tp nr _ hm q hq)
    ·exact l3 q hq h2
theorem MI.mkm (h:MI b sl n g bx tp nr md listed ts hp) (h0:listed[0]? = some false):MI b sl n g bx tp nr md (listed.setIfInBounds 0 true) (upd ts 4 (.map (some 224))) (upd hp 224 (some (mpB []))):=by
 have hm:(0,4,Value.map (some 224))∈mT sl n g bx tp nr:=by simp [mT]
 refine ⟨by rw [zab _ _ (by omega)];exact h.t1,by rw [zab _ _ (by omega)];exact h.t3,λp hp hl=>?_,λk hk=>by rw [zab _ _ (by omega)];exact h.low k hk,by rw [zab _ _ (by omega)];exact h.b,by rw [zab _ _ (by omega)];exact h.c,λq hq hl=>?_,λ_=>⟨[],za9 _ _ _,by simp,λq hq hl=>?_⟩,λq hq hl=>by simp [Array.getElem?_setIfInBounds,(Array.getElem?_eq_some_iff.1 h0).1]⟩
 ·by_cases e:p.2.1=4
  ·have:=zl2 sl n g bx tp nr p hp _ hm (.inr e)
   subst this
   exact za9 _ _ _
  ·rw [zab _ _ e]
   rcases zdb hl with e1|h1
   ·exact absurd (congrArg (λx=>x.2.1) (zl2 sl n g bx tp nr p hp _ hm (.inl e1))) e
   ·exact h.tm p hp h1
 ·have hq2:q.1≠0/\q.2.1≠224:=(show ∀ q∈mX n g bx tp nr,q.1≠0/\q.2.1≠224 by simp [mX]) q hq
  rw [zab _ _ hq2.2]
  rcases zdb hl with e1|h1
  ·exact absurd e1 hq2.1
  ·exact h.bx q hq h1
 ·have hq2:q.1≠0:=(show ∀ q∈mI,q.1≠0 by simp [mI]) q hq
  rcases zdb hl with e1|h1
  ·exact absurd e1 hq2
  ·rw [h.i0 q hq h1] at h0;cases h0
theorem MI.call (h:MI b sl n g bx tp nr md listed ts hp) {i t nk:Nat} {v:Value} {a m:Int} (hm:(i,t,v)∈mT sl n g bx tp nr) (hnk:225<=nk) (hi:i≠0) (hx:∀ q∈mX n g bx tp nr,(q.1=i->(q.2.1=nk/\q.2.2=jb a)\/(q.2.1=nk+1/\q.2.2=jb m))/\(q.1≠i->q.2.1≠nk/\q.2.1≠nk+1)) :
  MI b sl n g bx tp nr md (listed.setIfInBounds i true) (upd ts t v) (upd (upd hp nk (some (jb a))) (nk+1) (some (jb m))):=by
 have h13:=jgw sl n g bx tp nr _ hm
 refine ⟨by rw [zab _ _ (λe=>h13.1 e.symm)];exact h.t1,by rw [zab _ _ (λe=>h13.2 e.symm)];exact h.t3,λp hp hl=>?_,λk hk=>by rw [zab _ _ (by omega),zab _ _ (by omega)];exact h.low k hk,by rw [zab _ _ (by omega),zab _ _ (by omega)];exact h.b,by rw [zab _ _ (by omega),zab _ _ (by omega)];exact h.c,λq hq hl=>?_,λhl=>?_,λq hq hl=>(zdb hl).elim (λe1=>absurd e1.symm (zre sl n g bx tp nr _ hm q hq)) λh1=>zjw (h.i0 q hq h1)⟩
 ·by_cases e:p.2.1=t
  ·have:=zl2 sl n g bx tp nr p hp _ hm (.inr e)
   subst this
   exact za9 _ _ _
  ·rw [zab _ _ e]
   rcases zdb hl with e1|h1
   ·exact absurd (congrArg (λx=>x.2.1) (zl2 sl n g bx tp nr p hp _ hm (.inl e1))) e
   ·exact h.tm p hp h1
 ·by_cases e:q.1=i
  ·rcases (hx q hq).1 e with ⟨e1,e2⟩|⟨e1,e2⟩
   ·rw [e1,e2,zab _ _ (by omega),za9]
   ·rw [e1,e2,za9]
  ·obtain ⟨e1,e2⟩:=(hx q hq).2 e
   rw [zab _ _ e2,zab _ _ e1]
   rcases zdb hl with e3|h1
   ·exact absurd e3 e
   ·exact h.bx q hq h1
 ·rcases zdb hl with e1|h1
  ·exact absurd e1.symm hi
  ·obtain ⟨l,l1,l2,l3⟩:=h.mp h1
   refine ⟨l,by rw [zab _ _ (by omega),zab _ _ (by omega)];exact l1,λp hp=>?_,λq hq hl2=>?_⟩
   ·obtain ⟨q,hq,e,h2⟩:=l2 p hp
    refine ⟨q,hq,e,?_⟩
    rw [Array.getElem?_setIfInBounds,if_neg (λe=>zre sl n g bx tp nr _ hm q hq e)]
    exact h2
   ·rcases zdb hl2 with e1|h2
    ·exact absurd e1.symm (zre sl n g bx tp nr _ hm q hq)
    ·exact l3 q hq h2
theorem zot {s:ByteArray} {v:Value} {k:ByteArray}:∀ (l:List (ByteArray×Value)),zc4 k (l++[(s,v)])=match zc4 k l with|some u=>some u|none=>if (k==s)=true then some v else none
 | []=>rfl
 | p::l=>by
  simp only [List.cons_append,zc4]
  split
  ·rfl
  ·exact zot l
theorem MI.fresh (h:MI b sl n g bx tp nr md listed ts hp) {i:Nat} {s:ByteArray} {v:Value} (hm:(i,s,v)∈mI) (hi:listed[i]? = some false) {l:List (ByteArray×Value)} (hl:∀ p∈l,∃ q∈mI,p=q.2/\listed[q.1]? = some true):zc4 s l=none:=by
 induction l with
 | nil=>rfl
 | cons p l ih =>
  simp only [zc4]
  obtain ⟨q,hq,e,h2⟩:=hl p (by simp)
  have:(s==p.1)=false:=by
   rw [e]
   rcases jgs _ hm q hq with e1|e1
   ·have e1:i=q.1:=e1
    rw [<-e1,hi] at h2
    cases h2
   ·exact e1
  rw [this]
  exact ih λp hp=>hl p (List.mem_cons_of_mem _ hp)
theorem MI.ins (h:MI b sl n g bx tp nr md listed ts hp) {i:Nat} {s:ByteArray} {v:Value} (hm:(i,s,v)∈mI) (hlt:i<listed.size) {l:List (ByteArray×Value)} (hl:∀ p∈l,∃ q∈mI,p=q.2/\listed[q.1]? = some true) (hf:∀ q∈mI,listed[q.1]? = some true->zc4 q.2.1 l=some q.2.2) (hn:zc4 s l=none) (h00:listed[0]? = some true) :
  MI b sl n g bx tp nr md (listed.setIfInBounds i true) ts (upd hp 224 (some (mpB (l++[(s,v)])))):=by
 refine ⟨h.t1,h.t3,λp hp hl=>?_,λk hk=>by rw [zab _ _ (by omega)];exact h.low k hk,by rw [zab _ _ (by omega)];exact h.b,by rw [zab _ _ (by omega)];exact h.c,λq hq hl=>?_,λ_=>⟨_,za9 _ _ _,λp hp=>?_,λq hq hl2=>?_⟩,λq hq hl=>zjw h00⟩
 ·rcases zdb hl with e1|h1
  ·exact absurd e1 (zre sl n g bx tp nr p hp _ hm)
  ·exact h.tm p hp h1
 ·have hq2:q.2.1≠224:=(show ∀ q∈mX n g bx tp nr,q.2.1≠224 by simp [mX]) q hq
  have hq3:∀ p∈mI,q.1≠p.1:=(show ∀ q∈mX n g bx tp nr,∀ p∈mI,q.1≠p.1 by simp [mX,mI]) q hq
  rw [zab _ _ hq2]
  rcases zdb hl with e1|h1
  ·exact absurd e1 (hq3 _ hm)
  ·exact h.bx q hq h1
 ·rcases List.mem_append.1 hp with hp|hp
  ·obtain ⟨q,hq,e,h2⟩:=hl p hp
   refine ⟨q,hq,e,?_⟩
   exact zjw h2
  ·simp only [List.mem_singleton] at hp
   subst hp
   refine ⟨_,hm,rfl,?_⟩
   simp [Array.getElem?_setIfInBounds,hlt]
 ·rw [zot]
  rcases zdb hl2 with e1|h2
  ·have:=jgt q hq _ hm e1
   subst this
   simp only [hn]
   rw [jaf _ hm]
   rfl
  ·rw [hf q hq h2]
end
def mV (nk:Nat):List (ByteArray×Value):=[(⟨#[98,111,100,105,101,115]⟩,.func (.func 148) #[] #[.pointer (some ⟨nk+2,0,none⟩),.pointer (some ⟨nk+3,0,none⟩)]),
  (⟨#[109,97,115,115]⟩,.func (.func 150) #[] #[.pointer (some ⟨nk+1,0,none⟩)]),
  (⟨#[99,111,110,115,116,97,110,116]⟩,.func (.func 148) #[] #[.pointer (some ⟨nk+4,0,none⟩),.pointer (some ⟨nk+5,0,none⟩)]),
  (⟨#[98,111,120]⟩,.func (.func 148) #[] #[.pointer (some ⟨nk+6,0,none⟩),.pointer (some ⟨nk+7,0,none⟩)]),
  (⟨#[116,111,112]⟩,.func (.func 148) #[] #[.pointer (some ⟨nk+8,0,none⟩),.pointer (some ⟨nk+9,0,none⟩)]),
  (⟨#[110,101,97,114]⟩,.func (.func 148) #[] #[.pointer (some ⟨nk+10,0,none⟩),.pointer (some ⟨nk+11,0,none⟩)]),
  (⟨#[109,101,116,104,111,100]⟩,.func (.func 153) #[] #[.pointer (some ⟨nk+1,0,none⟩)])]
def mNs (nk:Nat) (l:List (ByteArray×Value)) (sl:Value) (n:Nat) (g bx tp nr md:Int):List (Nat×Blk):=[(nk,mpB l),(nk+1,cfB sl g bx tp nr md),(nk+2,jb (n:Int)),(nk+3,jb 4),(nk+4,jb g),(nk+5,jb 1048576),(nk+6,jb bx),(nk+7,jb 1048576),(nk+8,jb tp),(nk+9,jb 65536),(nk+10,jb nr),(nk+11,jb (Int.bmod (2*bx) 18446744073709551616))]
def zhq (nk:Nat) (sl:Value) (n:Nat) (g bx tp nr md:Int) (v:Value) (ns:List (Nat×Blk)):Prop:=∃ l,v=.map (some nk)/\ns=mNs nk l sl n g bx tp nr md/\(∀ p∈l,p∈mV nk)/\∀ q∈mV nk,zc4 q.1 l=some q.2
theorem zf0 {s:ByteArray} {h:Value->Value}:∀ l:List (ByteArray×Value),zc4 s (l.map λp=>(p.1,h p.2))=(zc4 s l).map h
 | []=>rfl
 | p::l=>by
  simp only [List.map_cons,zc4]
  split
  ·rfl
  ·exact zf0 l
theorem ztc (ρ:Nat->Nat) (l:List (ByteArray×Value)):(mpB l).rn ρ=mpB (l.map λp=>(p.1,zak ρ p.2)):=by
 unfold mpB Blk.rn mpC
 simp only [List.map_toArray,List.map_flatMap,List.flatMap_map,List.map_cons,List.map_nil]
 rfl
def mR (k:Nat):Nat:=if k=1000 then 224 else if k=1001 then 200 else if k=1002 then 264 else if k=1003 then 265 else if k=1004 then 320 else if k=1005 then 321 else if k=1006 then 360 else if k=1007 then 361 else if k=1008 then 400 else if k=1009 then 401 else if k=1010 then 464 else if k=1011 then 465 else k
def mS (k:Nat):Nat:=if k=224 then 1000 else if k=200 then 1001 else if k=264 then 1002 else if k=265 then 1003 else if k=320 then 1004 else if k=321 then 1005 else if k=360 then 1006 else if k=361 then 1007 else if k=400 then 1008 else if k=401 then 1009 else if k=464 then 1010 else if k=465 then 1011 else k
theorem zy9 (b:Blk) (hb:b.fx) (off n cap:Nat) (g bx tp nr md:Int) :
  FunS prog G0 132 #[cfV (.slice (some ⟨100,off,none⟩) n cap) g bx tp nr md] (hpL G0 [(100,b)]) (zaa [(100,b)]) (zhq 1000 (.slice (some ⟨100,off,none⟩) n cap) n g bx tp nr md):=by
 refine zet (B:=200) G0F func132 rfl call132 (zao hb) ?_ ?_ (by simp [ntmps132]) (by omega) ?_
 ·simp [zap,zax,zah,zaj,zaa,cfV]
 ·rintro v ns ⟨l,rfl,rfl,hl,_⟩
  have hl2:∀ D:Nat->Prop,(∀ k,1000<=k->k<1012->D k)->(mpB l).ids D:=λD hD=>zit.2 λp hp=>by
   have:=hl p hp
   simp only [mV,List.mem_cons,List.not_mem_nil,or_false] at this
   rcases this with rfl|rfl|rfl|rfl|rfl|rfl|rfl<;>simp [zah,zaj,hD]
  refine ⟨by simp [zap,zax,zah,zaj,zc7,zaa,mNs],?_,?_⟩
  ·intro p hp
   simp only [mNs,List.mem_cons,List.not_mem_nil,or_false] at hp
   have hD:∀ k,1000<=k->k<1012->zc7 (λk=>k∈zaa [(100,b)]) (mNs 1000 l (.slice (some ⟨100,off,none⟩) n cap) n g bx tp nr md) k:=λk hk1 hk2=>.inr (by
    simp only [mNs,zaa,List.map_cons,List.map_nil,List.mem_cons,List.not_mem_nil,or_false]
    omega)
   rcases hp with rfl|rfl|rfl|rfl|rfl|rfl|rfl|rfl|rfl|rfl|rfl|rfl
   ·exact ⟨by omega,hl2 _ hD⟩
   ·exact ⟨by omega,by simp [cfB,zad,zah,zaj,zc7,zaa]⟩
   all_goals exact ⟨by omega,by simp [jb,zad,zah,zaj]⟩
  ·intro k b c h1 h2
   simp only [mNs,List.mem_cons,List.not_mem_nil,or_false,Prod.mk.injEq] at h1 h2
   rcases h1 with ⟨e1,rfl⟩|⟨e1,rfl⟩|⟨e1,rfl⟩|⟨e1,rfl⟩|⟨e1,rfl⟩|⟨e1,rfl⟩|⟨e1,rfl⟩|⟨e1,rfl⟩|⟨e1,rfl⟩|⟨e1,rfl⟩|⟨e1,rfl⟩|⟨e1,rfl⟩<;>rcases h2 with ⟨e2,rfl⟩|⟨e2,rfl⟩|⟨e2,rfl⟩|⟨e2,rfl⟩|⟨e2,rfl⟩|⟨e2,rfl⟩|⟨e2,rfl⟩|⟨e2,rfl⟩|⟨e2,rfl⟩|⟨e2,rfl⟩|⟨e2,rfl⟩|⟨e2,rfl⟩<;>first|rfl|omega
 intro C hC hC0 hY
 unfold cfV
 repeat' first|refine gwZ ?_|refine gwW ?_|fail
 refine z57 follows ?_
 simp only [Array.toList,List.length_cons,List.length_nil,Nat.reduceAdd]
 obtain ⟨sl,hsl⟩:∃ sl,Value.slice (some ⟨100,off,none⟩) n cap=sl:=⟨_,rfl⟩
 refine zwu (MI b sl n g bx tp nr md) (λlisted ts hp hs hr hI=>?_) (λfuel listed ts hp i hs hi hdep h hk=>?_) _ _ _ _ (by simp) (by decide +kernel) ?_
 ·have hall:=zpo hs (by kernel_rfl) hr
  have hall:∀ i,i<36->listed[i]? = some true:=λi hi=>hall i (by simpa using hi)
  obtain ⟨l,l1,l2,l3⟩:=hI.mp (hall 0 (by omega))
  have h2:=hI.tm (35,2,.map (some 224)) (by simp [mT]) (hall 35 (by omega))
  have hinv:∀ q∈mI,zak mR (zak mS q.2.2)=q.2.2:=by simp [mI,zak,zan,mR,mS]
  have hcan:∀ q∈mI,(q.2.1,zak mS q.2.2)∈mV 1000:=by simp [mI,mV,zak,zan,mS]
  have hfind:∀ q∈mV 1000,∃ p∈mI,p.2.1=q.1/\zak mS p.2.2=q.2/\p.1<36:=by
   intro q hq
   simp only [mV,List.mem_cons,List.not_mem_nil,or_false] at hq
   rcases hq with rfl|rfl|rfl|rfl|rfl|rfl|rfl
   ·exact ⟨(6,⟨#[98,111,100,105,101,115]⟩,.func (.func 148) #[] #[.pointer (some ⟨264,0,none⟩),.pointer (some ⟨265,0,none⟩)]),by simp [mI],rfl,by simp [zak,zan,mS],by omega⟩
   ·exact ⟨(8,⟨#[109,97,115,115]⟩,.func (.func 150) #[] #[.pointer (some ⟨200,0,none⟩)]),by simp [mI],rfl,by simp [zak,zan,mS],by omega⟩
   ·exact ⟨(13,⟨#[99,111,110,115,116,97,110,116]⟩,.func (.func 148) #[] #[.pointer (some ⟨320,0,none⟩),.pointer (some ⟨321,0,none⟩)]),by simp [mI],rfl,by simp [zak,zan,mS],by omega⟩
   ·exact ⟨(18,⟨#[98,111,120]⟩,.func (.func 148) #[] #[.pointer (some ⟨360,0,none⟩),.pointer (some ⟨361,0,none⟩)]),by simp [mI],rfl,by simp [zak,zan,mS],by omega⟩
   ·exact ⟨(23,⟨#[116,111,112]⟩,.func (.func 148) #[] #[.pointer (some ⟨400,0,none⟩),.pointer (some ⟨401,0,none⟩)]),by simp [mI],rfl,by simp [zak,zan,mS],by omega⟩
   ·exact ⟨(31,⟨#[110,101,97,114]⟩,.func (.func 148) #[] #[.pointer (some ⟨464,0,none⟩),.pointer (some ⟨465,0,none⟩)]),by simp [mI],rfl,by simp [zak,zan,mS],by omega⟩
   ·exact ⟨(33,⟨#[109,101,116,104,111,100]⟩,.func (.func 153) #[] #[.pointer (some ⟨200,0,none⟩)]),by simp [mI],rfl,by simp [zak,zan,mS],by omega⟩
  simp only [zcj]
  refine zwz ?_
  refine ⟨.inr rfl,zb4 G0F (by simp [hI.b]) (λk hk=>(hI.low k hk).trans (zbc (by simp) hk).symm),_,_,mR,⟨l.map λp=>(p.1,zak mS p.2),rfl,rfl,λp hp=>?_,λq hq=>?_⟩,λk hk=>?_,?_,?_,?_,?_⟩
  ·obtain ⟨p0,hp0,rfl⟩:=List.mem_map.1 hp
   obtain ⟨q,hq,rfl,_⟩:=l2 p0 hp0
   exact hcan q hq
  ·obtain ⟨p,hp,e1,e2,hlt⟩:=hfind q hq
   rw [zf0,<-e1,l3 p hp (hall _ hlt),<-e2]
   rfl
  ·unfold mR
   iterate 12 rw [if_neg (by omega)]
  ·simp [mNs,mR]
  ·simp [mNs,mR]
  ·simp [results132,h2,ren,zay,zak,zan,mR]
   rfl
  ·subst hsl
   have hbx:=hI.bx
   have hm:(mpB (l.map λp=>(p.1,zak mS p.2))).rn mR=mpB l:=by
    rw [ztc,List.map_map]
    congr 1
    conv=>rhs;rw [<-List.map_id l]
    refine List.map_congr_left λp hp=>?_
    obtain ⟨q,hq,rfl,_⟩:=l2 p hp
    simp only [Function.comp_def,id]
    rw [hinv q hq]
   intro p hp
   simp only [mNs,List.mem_cons,List.not_mem_nil,or_false] at hp
   rcases hp with rfl|rfl|rfl|rfl|rfl|rfl|rfl|rfl|rfl|rfl|rfl|rfl
   ·show hp (mR 1000)=some ((mpB _).rn mR)
    rw [hm]
    exact l1
   ·show hp 200=some ((cfB _ g bx tp nr md).rn mR)
    rw [hI.c]
    simp [cfB,Blk.rn,zak,zan,mR]
   ·show hp 264=some ((jb (n:Int)).rn mR)
    rw [zb0]
    exact hbx (5,264,jb (n:Int)) (by simp [mX]) (hall 5 (by omega))
   ·show hp 265=some ((jb 4).rn mR)
    rw [zb0]
    exact hbx (5,265,jb 4) (by simp [mX]) (hall 5 (by omega))
   ·show hp 320=some ((jb g).rn mR)
    rw [zb0]
    exact hbx (12,320,jb g) (by simp [mX]) (hall 12 (by omega))
   ·show hp 321=some ((jb 1048576).rn mR)
    rw [zb0]
    exact hbx (12,321,jb 1048576) (by simp [mX]) (hall 12 (by omega))
   ·show hp 360=some ((jb bx).rn mR)
    rw [zb0]
    exact hbx (17,360,jb bx) (by simp [mX]) (hall 17 (by omega))
   ·show hp 361=some ((jb 1048576).rn mR)
    rw [zb0]
    exact hbx (17,361,jb 1048576) (by simp [mX]) (hall 17 (by omega))
   ·show hp 400=some ((jb tp).rn mR)
    rw [zb0]
    exact hbx (22,400,jb tp) (by simp [mX]) (hall 22 (by omega))
   ·show hp 401=some ((jb 65536).rn mR)
    rw [zb0]
    exact hbx (22,401,jb 65536) (by simp [mX]) (hall 22 (by omega))
   ·show hp 464=some ((jb nr).rn mR)
    rw [zb0]
    exact hbx (30,464,jb nr) (by simp [mX]) (hall 30 (by omega))
   ·show hp 465=some ((jb (Int.bmod (2*bx) 18446744073709551616)).rn mR)
    rw [zb0]
    exact hbx (30,465,jb (Int.bmod (2*bx) 18446744073709551616)) (by simp [mX]) (hall 30 (by omega))
 ·have hlt:i<36:=by
   have:=(Array.getElem?_eq_some_iff.1 hi).1
   rw [hs] at this
   simpa using this
  subst hsl
  obtain rfl|rfl|rfl|rfl|rfl|rfl|rfl|rfl|rfl|rfl|rfl|rfl|rfl|rfl|rfl|rfl|rfl|rfl|rfl|rfl|rfl|rfl|rfl|rfl|rfl|rfl|rfl|rfl|rfl|rfl|rfl|rfl|rfl|rfl|rfl|rfl:i=0\/i=1\/i=2\/i=3\/i=4\/i=5\/i=6\/i=7\/i=8\/i=9\/i=10\/i=11\/i=12\/i=13\/i=14\/i=15\/i=16\/i=17\/i=18\/i=19\/i=20\/i=21\/i=22\/i=23\/i=24\/i=25\/i=26\/i=27\/i=28\/i=29\/i=30\/i=31\/i=32\/i=33\/i=34\/i=35:=by omega
  ·-- 0 map
   have f0:=h.t1
   have f1:=h.t3
   refine gwo ?_;intro Q hQ;simp [hC,hY,f0,f1];apply hQ
   exact hk _ _ (h.mkm hi)
  ·-- 1 mv
   have f0:=h.t1
   have f1:=h.t3
   refine gwo ?_;intro Q hQ;simp [hC,hY,f0,f1];apply hQ
   exact hk _ _ (h.tmp (i:=1) (t:=5) (by simp [mT]) (by simp [mX]) (by omega))
  ·-- 2 fa
   have f0:=h.t1
   have f1:=h.t3
   refine gwo ?_;intro Q hQ;simp [hC,hY,f0,f1];apply hQ
   exact hk _ _ (h.tmp (i:=2) (t:=6) (by simp [mT]) (by simp [mX]) (by omega))
  ·-- 3 ld
   have hd:∀ j∈[2],listed[j]? = some true:=by
    have hd0:=hdep _ rfl
    simp [Region.binds] at hd0
    simp [hd0]
   have f0:=h.t1
   have f1:=h.t3
   have f2:=h.tm (2,6,.pointer (some ⟨200,0,none⟩)) (by simp [mT]) (hd 2 (by simp))
   have fc:=h.c
   unfold cfB at fc
   refine gwo ?_;intro Q hQ;simp [hC,hY,f0,f1,f2,fc];apply hQ
   exact hk _ _ (h.tmp (i:=3) (t:=7) (by simp [mT]) (by simp [mX]) (by omega))
  ·-- 4 len
   have hd:∀ j∈[3],listed[j]? = some true:=by
    have hd0:=hdep _ rfl
    simp [Region.binds] at hd0
    simp [hd0]
   have f0:=h.t1
   have f1:=h.t3
   have f2:=h.tm (3,7,.slice (some ⟨100,off,none⟩) n cap) (by simp [mT]) (hd 3 (by simp))
   refine gwo ?_;intro Q hQ;simp [hC,hY,f0,f1,f2];apply hQ
   exact hk _ _ (h.tmp (i:=4) (t:=8) (by simp [mT]) (by simp [mX]) (by omega))
  ·-- 5 call
   have hd:∀ j∈[1,4],listed[j]? = some true:=by
    have hd0:=hdep _ rfl
    simp [Region.binds] at hd0
    simp [hd0]
   have f0:=h.t1
   have f1:=h.t3
   have f2:=h.tm (1,5,.func (.func 147) #[] #[]) (by simp [mT]) (hd 1 (by simp))
   have f3:=h.tm (4,8,.int .i64 n) (by simp [mT]) (hd 4 (by simp))
   refine zdv (f:=.tmp 5) (cap:=#[]) hC (zg4 264 (by omega) (n:Int) 4) rfl hi rfl (by simp [ntmps132]) rfl rfl (by simp [okT,f0,f1,f2,f3]) (by simp [gev,f0,f1,f2,f3]) (by simp) (by simp [okX,zcm,f0,f1,f2,f3]) (by simp [gev,f0,f1,f2,f3]) (by simp) (λq hq=>(h.low q hq).symm▸(by simp)) ?_ ?_
   ·intro v ns hV k hk
    have:=zdx hV k hk
    omega
   rintro v ns ⟨rfl,rfl⟩
   exact hk _ _ (h.call (i:=5) (t:=9) (by simp [mT]) (by omega) (by omega) (by simp [mX]))
  ·-- 6 ins
   have hd:∀ j∈[0,5],listed[j]? = some true:=by
    have hd0:=hdep _ rfl
    simp [Region.binds] at hd0
    simp [hd0]
   have f0:=h.t1
   have f1:=h.t3
   have f2:=h.tm (0,4,.map (some 224)) (by simp [mT]) (hd 0 (by simp))
   have f3:=h.tm (5,9,.func (.func 148) #[] #[.pointer (some ⟨264,0,none⟩),.pointer (some ⟨265,0,none⟩)]) (by simp [mT]) (hd 5 (by simp))
   obtain ⟨l,l1,l2,l3⟩:=h.mp (hd 0 (by simp))
   have hm:(6,⟨#[98,111,100,105,101,115]⟩,.func (.func 148) #[] #[.pointer (some ⟨264,0,none⟩),.pointer (some ⟨265,0,none⟩)])∈mI:=by simp [mI]
   have hn:=h.fresh hm hi l2
   refine gwo ?_;intro Q hQ;simp [hC,hY,f0,f1,f2,f3,l1,hn];apply hQ
   exact hk _ _ (h.ins hm (Array.getElem?_eq_some_iff.1 hi).1 l2 l3 hn (hd 0 (by simp)))
  ·-- 7 mk
   have f0:=h.t1
   have f1:=h.t3
   refine gwo ?_;intro Q hQ;simp [hC,hY,f0,f1];apply hQ
   exact hk _ _ (h.tmp (i:=7) (t:=10) (by simp [mT]) (by simp [mX]) (by omega))
  ·-- 8 ins
   have hd:∀ j∈[0,7],listed[j]? = some true:=by
    have hd0:=hdep _ rfl
    simp [Region.binds] at hd0
    simp [hd0]
   have f0:=h.t1
   have f1:=h.t3
   have f2:=h.tm (0,4,.map (some 224)) (by simp [mT]) (hd 0 (by simp))
   have f3:=h.tm (7,10,.func (.func 150) #[] #[.pointer (some ⟨200,0,none⟩)]) (by simp [mT]) (hd 7 (by simp))
   obtain ⟨l,l1,l2,l3⟩:=h.mp (hd 0 (by simp))
   have hm:(8,⟨#[109,97,115,115]⟩,.func (.func 150) #[] #[.pointer (some ⟨200,0,none⟩)])∈mI:=by simp [mI]
   have hn:=h.fresh hm hi l2
   refine gwo ?_;intro Q hQ;simp [hC,hY,f0,f1,f2,f3,l1,hn];apply hQ
   exact hk _ _ (h.ins hm (Array.getElem?_eq_some_iff.1 hi).1 l2 l3 hn (hd 0 (by simp)))
  ·-- 9 mv
   have f0:=h.t1
   have f1:=h.t3
   refine gwo ?_;intro Q hQ;simp [hC,hY,f0,f1];apply hQ
   exact hk _ _ (h.tmp (i:=9) (t:=11) (by simp [mT]) (by simp [mX]) (by omega))
  ·-- 10 fa
   have f0:=h.t1
   have f1:=h.t3
   refine gwo ?_;intro Q hQ;simp [hC,hY,f0,f1];apply hQ
   exact hk _ _ (h.tmp (i:=10) (t:=12) (by simp [mT]) (by simp [mX]) (by omega))
  ·-- 11 ld
   have hd:∀ j∈[10],listed[j]? = some true:=by
    have hd0:=hdep _ rfl
    simp [Region.binds] at hd0
    simp [hd0]
   have f0:=h.t1
   have f1:=h.t3
   have f2:=h.tm (10,12,.pointer (some ⟨200,1,none⟩)) (by simp [mT]) (hd 10 (by simp))
   have fc:=h.c
   unfold cfB at fc
   refine gwo ?_;intro Q hQ;simp [hC,hY,f0,f1,f2,fc];apply hQ
   exact hk _ _ (h.tmp (i:=11) (t:=13) (by simp [mT]) (by simp [mX]) (by omega))
  ·-- 12 call
   have hd:∀ j∈[9,11],listed[j]? = some true:=by
    have hd0:=hdep _ rfl
    simp [Region.binds] at hd0
    simp [hd0]
   have f0:=h.t1
   have f1:=h.t3
   have f2:=h.tm (9,11,.func (.func 147) #[] #[]) (by simp [mT]) (hd 9 (by simp))
   have f3:=h.tm (11,13,.int .i64 g) (by simp [mT]) (hd 11 (by simp))
   refine zdv (f:=.tmp 11) (cap:=#[]) hC (zg4 320 (by omega) g 1048576) rfl hi rfl (by simp [ntmps132]) rfl rfl (by simp [okT,f0,f1,f2,f3]) (by simp [gev,f0,f1,f2,f3]) (by simp) (by simp [okX,zcm,f0,f1,f2,f3]) (by simp [gev,f0,f1,f2,f3]) (by simp) (λq hq=>(h.low q hq).symm▸(by simp)) ?_ ?_
   ·intro v ns hV k hk
    have:=zdx hV k hk
    omega
   rintro v ns ⟨rfl,rfl⟩
   exact hk _ _ (h.call (i:=12) (t:=14) (by simp [mT]) (by omega) (by omega) (by simp [mX]))
  ·-- 13 ins
   have hd:∀ j∈[0,12],listed[j]? = some true:=by
    have hd0:=hdep _ rfl
    simp [Region.binds] at hd0
    simp [hd0]
   have f0:=h.t1
   have f1:=h.t3
   have f2:=h.tm (0,4,.map (some 224)) (by simp [mT]) (hd 0 (by simp))
   have f3:=h.tm (12,14,.func (.func 148) #[] #[.pointer (some ⟨320,0,none⟩),.pointer (some ⟨321,0,none⟩)]) (by simp [mT]) (hd 12 (by simp))
   obtain ⟨l,l1,l2,l3⟩:=h.mp (hd 0 (by simp))
   have hm:(13,⟨#[99,111,110,115,116,97,110,116]⟩,.func (.func 148) #[] #[.pointer (some ⟨320,0,none⟩),.pointer (some ⟨321,0,none⟩)])∈mI:=by simp [mI]
   have hn:=h.fresh hm hi l2
   refine gwo ?_;intro Q hQ;simp [hC,hY,f0,f1,f2,f3,l1,hn];apply hQ
   exact hk _ _ (h.ins hm (Array.getElem?_eq_some_iff.1 hi).1 l2 l3 hn (hd 0 (by simp)))
  ·-- 14 mv
   have f0:=h.t1
   have f1:=h.t3
   refine gwo ?_;intro Q hQ;simp [hC,hY,f0,f1];apply hQ
   exact hk _ _ (h.tmp (i:=14) (t:=15) (by simp [mT]) (by simp [mX]) (by omega))
  ·-- 15 fa
   have f0:=h.t1
   have f1:=h.t3
   refine gwo ?_;intro Q hQ;simp [hC,hY,f0,f1];apply hQ
   exact hk _ _ (h.tmp (i:=15) (t:=16) (by simp [mT]) (by simp [mX]) (by omega))
  ·-- 16 ld
   have hd:∀ j∈[15],listed[j]? = some true:=by
    have hd0:=hdep _ rfl
    simp [Region.binds] at hd0
    simp [hd0]
   have f0:=h.t1
   have f1:=h.t3
   have f2:=h.tm (15,16,.pointer (some ⟨200,2,none⟩)) (by simp [mT]) (hd 15 (by simp))
   have fc:=h.c
   unfold cfB at fc
   refine gwo ?_;intro Q hQ;simp [hC,hY,f0,f1,f2,fc];apply hQ
   exact hk _ _ (h.tmp (i:=16) (t:=17) (by simp [mT]) (by simp [mX]) (by omega))
  ·-- 17 call
   have hd:∀ j∈[14,16],listed[j]? = some true:=by
    have hd0:=hdep _ rfl
    simp [Region.binds] at hd0
    simp [hd0]
   have f0:=h.t1
   have f1:=h.t3
   have f2:=h.tm (14,15,.func (.func 147) #[] #[]) (by simp [mT]) (hd 14 (by simp))
   have f3:=h.tm (16,17,.int .i64 bx) (by simp [mT]) (hd 16 (by simp))
   refine zdv (f:=.tmp 15) (cap:=#[]) hC (zg4 360 (by omega) bx 1048576) rfl hi rfl (by simp [ntmps132]) rfl rfl (by simp [okT,f0,f1,f2,f3]) (by simp [gev,f0,f1,f2,f3]) (by simp) (by simp [okX,zcm,f0,f1,f2,f3]) (by simp [gev,f0,f1,f2,f3]) (by simp) (λq hq=>(h.low q hq).symm▸(by simp)) ?_ ?_
   ·intro v ns hV k hk
    have:=zdx hV k hk
    omega
   rintro v ns ⟨rfl,rfl⟩
   exact hk _ _ (h.call (i:=17) (t:=18) (by simp [mT]) (by omega) (by omega) (by simp [mX]))
  ·-- 18 ins
   have hd:∀ j∈[0,17],listed[j]? = some true:=by
    have hd0:=hdep _ rfl
    simp [Region.binds] at hd0
    simp [hd0]
   have f0:=h.t1
   have f1:=h.t3
   have f2:=h.tm (0,4,.map (some 224)) (by simp [mT]) (hd 0 (by simp))
   have f3:=h.tm (17,18,.func (.func 148) #[] #[.pointer (some ⟨360,0,none⟩),.pointer (some ⟨361,0,none⟩)]) (by simp [mT]) (hd 17 (by simp))
   obtain ⟨l,l1,l2,l3⟩:=h.mp (hd 0 (by simp))
   have hm:(18,⟨#[98,111,120]⟩,.func (.func 148) #[] #[.pointer (some ⟨360,0,none⟩),.pointer (some ⟨361,0,none⟩)])∈mI:=by simp [mI]
   have hn:=h.fresh hm hi l2
   refine gwo ?_;intro Q hQ;simp [hC,hY,f0,f1,f2,f3,l1,hn];apply hQ
   exact hk _ _ (h.ins hm (Array.getElem?_eq_some_iff.1 hi).1 l2 l3 hn (hd 0 (by simp)))
  ·-- 19 mv
   have f0:=h.t1
   have f1:=h.t3
   refine gwo ?_;intro Q hQ;simp [hC,hY,f0,f1];apply hQ
   exact hk _ _ (h.tmp (i:=19) (t:=19) (by simp [mT]) (by simp [mX]) (by omega))
  ·-- 20 fa
   have f0:=h.t1
   have f1:=h.t3
   refine gwo ?_;intro Q hQ;simp [hC,hY,f0,f1];apply hQ
   exact hk _ _ (h.tmp (i:=20) (t:=20) (by simp [mT]) (by simp [mX]) (by omega))
  ·-- 21 ld
   have hd:∀ j∈[20],listed[j]? = some true:=by
    have hd0:=hdep _ rfl
    simp [Region.binds] at hd0
    simp [hd0]
   have f0:=h.t1
   have f1:=h.t3
   have f2:=h.tm (20,20,.pointer (some ⟨200,3,none⟩)) (by simp [mT]) (hd 20 (by simp))
   have fc:=h.c
   unfold cfB at fc
   refine gwo ?_;intro Q hQ;simp [hC,hY,f0,f1,f2,fc];apply hQ
   exact hk _ _ (h.tmp (i:=21) (t:=21) (by simp [mT]) (by simp [mX]) (by omega))
  ·-- 22 call
   have hd:∀ j∈[19,21],listed[j]? = some true:=by
    have hd0:=hdep _ rfl
    simp [Region.binds] at hd0
    simp [hd0]
   have f0:=h.t1
   have f1:=h.t3
   have f2:=h.tm (19,19,.func (.func 147) #[] #[]) (by simp [mT]) (hd 19 (by simp))
   have f3:=h.tm (21,21,.int .i64 tp) (by simp [mT]) (hd 21 (by simp))
   refine zdv (f:=.tmp 19) (cap:=#[]) hC (zg4 400 (by omega) tp 65536) rfl hi rfl (by simp [ntmps132]) rfl rfl (by simp [okT,f0,f1,f2,f3]) (by simp [gev,f0,f1,f2,f3]) (by simp) (by simp [okX,zcm,f0,f1,f2,f3]) (by simp [gev,f0,f1,f2,f3]) (by simp) (λq hq=>(h.low q hq).symm▸(by simp)) ?_ ?_
   ·intro v ns hV k hk
    have:=zdx hV k hk
    omega
   rintro v ns ⟨rfl,rfl⟩
   exact hk _ _ (h.call (i:=22) (t:=22) (by simp [mT]) (by omega) (by omega) (by simp [mX]))
  ·-- 23 ins
   have hd:∀ j∈[0,22],listed[j]? = some true:=by
    have hd0:=hdep _ rfl
    simp [Region.binds] at hd0
    simp [hd0]
   have f0:=h.t1
   have f1:=h.t3
   have f2:=h.tm (0,4,.map (some 224)) (by simp [mT]) (hd 0 (by simp))
   have f3:=h.tm (22,22,.func (.func 148) #[] #[.pointer (some ⟨400,0,none⟩),.pointer (some ⟨401,0,none⟩)]) (by simp [mT]) (hd 22 (by simp))
   obtain ⟨l,l1,l2,l3⟩:=h.mp (hd 0 (by simp))
   have hm:(23,⟨#[116,111,112]⟩,.func (.func 148) #[] #[.pointer (some ⟨400,0,none⟩),.pointer (some ⟨401,0,none⟩)])∈mI:=by simp [mI]
   have hn:=h.fresh hm hi l2
   refine gwo ?_;intro Q hQ;simp [hC,hY,f0,f1,f2,f3,l1,hn];apply hQ
   exact hk _ _ (h.ins hm (Array.getElem?_eq_some_iff.1 hi).1 l2 l3 hn (hd 0 (by simp)))
  ·-- 24 mv
   have f0:=h.t1
   have f1:=h.t3
   refine gwo ?_;intro Q hQ;simp [hC,hY,f0,f1];apply hQ
   exact hk _ _ (h.tmp (i:=24) (t:=23) (by simp [mT]) (by simp [mX]) (by omega))
  ·-- 25 fa
   have f0:=h.t1
   have f1:=h.t3
   refine gwo ?_;intro Q hQ;simp [hC,hY,f0,f1];apply hQ
   exact hk _ _ (h.tmp (i:=25) (t:=24) (by simp [mT]) (by simp [mX]) (by omega))
  ·-- 26 ld
   have hd:∀ j∈[25],listed[j]? = some true:=by
    have hd0:=hdep _ rfl
    simp [Region.binds] at hd0
    simp [hd0]
   have f0:=h.t1
   have f1:=h.t3
   have f2:=h.tm (25,24,.pointer (some ⟨200,4,none⟩)) (by simp [mT]) (hd 25 (by simp))
   have fc:=h.c
   unfold cfB at fc
   refine gwo ?_;intro Q hQ;simp [hC,hY,f0,f1,f2,fc];apply hQ
   exact hk _ _ (h.tmp (i:=26) (t:=25) (by simp [mT]) (by simp [mX]) (by omega))
  ·-- 27 fa
   have f0:=h.t1
   have f1:=h.t3
   refine gwo ?_;intro Q hQ;simp [hC,hY,f0,f1];apply hQ
   exact hk _ _ (h.tmp (i:=27) (t:=26) (by simp [mT]) (by simp [mX]) (by omega))
  ·-- 28 ld
   have hd:∀ j∈[27],listed[j]? = some true:=by
    have hd0:=hdep _ rfl
    simp [Region.binds] at hd0
    simp [hd0]
   have f0:=h.t1
   have f1:=h.t3
   have f2:=h.tm (27,26,.pointer (some ⟨200,2,none⟩)) (by simp [mT]) (hd 27 (by simp))
   have fc:=h.c
   unfold cfB at fc
   refine gwo ?_;intro Q hQ;simp [hC,hY,f0,f1,f2,fc];apply hQ
   exact hk _ _ (h.tmp (i:=28) (t:=27) (by simp [mT]) (by simp [mX]) (by omega))
  ·-- 29 mul
   have hd:∀ j∈[28],listed[j]? = some true:=by
    have hd0:=hdep _ rfl
    simp [Region.binds] at hd0
    simp [hd0]
   have f0:=h.t1
   have f1:=h.t3
   have f2:=h.tm (28,27,.int .i64 bx) (by simp [mT]) (hd 28 (by simp))
   refine gwo ?_;intro Q hQ;simp [hC,hY,f0,f1,f2];apply hQ
   exact hk _ _ (h.tmp (i:=29) (t:=28) (by simp [mT]) (by simp [mX]) (by omega))
  ·-- 30 call
   have hd:∀ j∈[24,26,29],listed[j]? = some true:=by
    have hd0:=hdep _ rfl
    simp [Region.binds] at hd0
    simp [hd0]
   have f0:=h.t1
   have f1:=h.t3
   have f2:=h.tm (24,23,.func (.func 147) #[] #[]) (by simp [mT]) (hd 24 (by simp))
   have f3:=h.tm (26,25,.int .i64 nr) (by simp [mT]) (hd 26 (by simp))
   have f4:=h.tm (29,28,.int .i64 (Int.bmod (2*bx) 18446744073709551616)) (by simp [mT]) (hd 29 (by simp))
   refine zdv (f:=.tmp 23) (cap:=#[]) hC (zg4 464 (by omega) nr (Int.bmod (2*bx) 18446744073709551616)) rfl hi rfl (by simp [ntmps132]) rfl rfl (by simp [okT,f0,f1,f2,f3,f4]) (by simp [gev,f0,f1,f2,f3,f4]) (by simp) (by simp [okX,zcm,f0,f1,f2,f3,f4]) (by simp [gev,f0,f1,f2,f3,f4]) (by simp) (λq hq=>(h.low q hq).symm▸(by simp)) ?_ ?_
   ·intro v ns hV k hk
    have:=zdx hV k hk
    omega
   rintro v ns ⟨rfl,rfl⟩
   exact hk _ _ (h.call (i:=30) (t:=29) (by simp [mT]) (by omega) (by omega) (by simp [mX]))
  ·-- 31 ins
   have hd:∀ j∈[0,30],listed[j]? = some true:=by
    have hd0:=hdep _ rfl
    simp [Region.binds] at hd0
    simp [hd0]
   have f0:=h.t1
   have f1:=h.t3
   have f2:=h.tm (0,4,.map (some 224)) (by simp [mT]) (hd 0 (by simp))
   have f3:=h.tm (30,29,.func (.func 148) #[] #[.pointer (some ⟨464,0,none⟩),.pointer (some ⟨465,0,none⟩)]) (by simp [mT]) (hd 30 (by simp))
   obtain ⟨l,l1,l2,l3⟩:=h.mp (hd 0 (by simp))
   have hm:(31,⟨#[110,101,97,114]⟩,.func (.func 148) #[] #[.pointer (some ⟨464,0,none⟩),.pointer (some ⟨465,0,none⟩)])∈mI:=by simp [mI]
   have hn:=h.fresh hm hi l2
   refine gwo ?_;intro Q hQ;simp [hC,hY,f0,f1,f2,f3,l1,hn];apply hQ
   exact hk _ _ (h.ins hm (Array.getElem?_eq_some_iff.1 hi).1 l2 l3 hn (hd 0 (by simp)))
  ·-- 32 mk
   have f0:=h.t1
   have f1:=h.t3
   refine gwo ?_;intro Q hQ;simp [hC,hY,f0,f1];apply hQ
   exact hk _ _ (h.tmp (i:=32) (t:=30) (by simp [mT]) (by simp [mX]) (by omega))
  ·-- 33 ins
   have hd:∀ j∈[0,32],listed[j]? = some true:=by
    have hd0:=hdep _ rfl
    simp [Region.binds] at hd0
    simp [hd0]
   have f0:=h.t1
   have f1:=h.t3
   have f2:=h.tm (0,4,.map (some 224)) (by simp [mT]) (hd 0 (by simp))
   have f3:=h.tm (32,30,.func (.func 153) #[] #[.pointer (some ⟨200,0,none⟩)]) (by simp [mT]) (hd 32 (by simp))
   obtain ⟨l,l1,l2,l3⟩:=h.mp (hd 0 (by simp))
   have hm:(33,⟨#[109,101,116,104,111,100]⟩,.func (.func 153) #[] #[.pointer (some ⟨200,0,none⟩)])∈mI:=by simp [mI]
   have hn:=h.fresh hm hi l2
   refine gwo ?_;intro Q hQ;simp [hC,hY,f0,f1,f2,f3,l1,hn];apply hQ
   exact hk _ _ (h.ins hm (Array.getElem?_eq_some_iff.1 hi).1 l2 l3 hn (hd 0 (by simp)))
  ·-- 34 mv
   have hd:∀ j∈[0],listed[j]? = some true:=by
    have hd0:=hdep _ rfl
    simp [Region.binds] at hd0
    simp [hd0]
   have f0:=h.t1
   have f1:=h.t3
   have f2:=h.tm (0,4,.map (some 224)) (by simp [mT]) (hd 0 (by simp))
   refine gwo ?_;intro Q hQ;simp [hC,hY,f0,f1,f2];apply hQ
   exact hk _ _ (h.tmp (i:=34) (t:=31) (by simp [mT]) (by simp [mX]) (by omega))
  ·-- 35 asg
   have hd:∀ j∈[34],listed[j]? = some true:=by
    have hd0:=hdep _ rfl
    simp [Region.binds] at hd0
    simp [hd0]
   have f0:=h.t1
   have f1:=h.t3
   have f2:=h.tm (34,31,.map (some 224)) (by simp [mT]) (hd 34 (by simp))
   refine gwo ?_;intro Q hQ;simp [hC,hY,f0,f1,f2];apply hQ
   exact hk _ _ (h.tmp (i:=35) (t:=2) (by simp [mT]) (by simp [mX]) (by omega))
 ·have hno:∀ j,(Array.replicate 36 false)[j]?≠some true:=λj=>by
   rw [Array.getElem?_replicate]
   split<;>simp
  exact ⟨by simp,by simp,λp hp hl=>absurd hl (hno _),λk hk=>by rw [zab _ _ (by omega)];exact zbc (by simp) hk,by simp,by simp [cfB,hsl],λq hq hl=>absurd hl (hno _),λhl=>absurd hl (hno _),λq hq hl=>absurd hl (hno _)⟩
def zfq (n:Nat) (f:Nat->Int) (g bx tp nr md:Int):ByteArray :=
 if wiB n 1 4=false then ⟨#[98,111,100,105,101,115]⟩ else if zp8 f n=false then ⟨#[109,97,115,115]⟩ else if wiB g 1 1048576=false then ⟨#[99,111,110,115,116,97,110,116]⟩ else if wiB bx 1 1048576=false then ⟨#[98,111,120]⟩ else
  if wiB tp 1 65536=false then ⟨#[116,111,112]⟩ else if wiB nr 1 (Int.bmod (2*bx) 18446744073709551616)=false then ⟨#[110,101,97,114]⟩ else if wiB md 0 4=false then ⟨#[109,101,116,104,111,100]⟩ else ⟨#[]⟩
def mQ (nk k:Nat):Nat:=if 1000<=k then (if k<1012 then k - 1000+nk else k) else k
theorem zdg {nk n:Nat} {sl:Value} {g bx tp nr md:Int} {v:Value} {ns:List (Nat×Blk)} (h:zhq nk sl n g bx tp nr md v ns):∀ k∈zaa ns,nk<=k/\k<nk+12:=by
 obtain ⟨l,rfl,rfl,_⟩:=h
 intro k hk
 simp [zaa,mNs] at hk
 omega
theorem zpf (nk j:Nat) (hj:j<12):mQ nk (1000+j)=nk+j:=by
 unfold mQ
 rw [if_pos (by omega),if_pos (by omega)]
 omega
theorem zl1 (nk k:Nat) (hk:k<1000):mQ nk k=k:=by
 unfold mQ
 rw [if_neg (by omega)]
theorem ztf {nk n off cap:Nat} {g bx tp nr md:Int} {v:Value} {ns:List (Nat×Blk)} (h:RR (mQ nk) (zhq 1000 (.slice (some ⟨100,off,none⟩) n cap) n g bx tp nr md) v ns):zhq nk (.slice (some ⟨100,off,none⟩) n cap) n g bx tp nr md v ns:=by
 obtain ⟨v0,ns0,⟨l,rfl,rfl,hl,hf⟩,rfl,rfl⟩:=h
 have e:=zpf nk
 have e0:=e 0 (by omega)
 have e1:=e 1 (by omega)
 have e2:=e 2 (by omega)
 have e3:=e 3 (by omega)
 have e4:=e 4 (by omega)
 have e5:=e 5 (by omega)
 have e6:=e 6 (by omega)
 have e7:=e 7 (by omega)
 have e8:=e 8 (by omega)
 have e9:=e 9 (by omega)
 have e10:=e 10 (by omega)
 have e11:=e 11 (by omega)
 simp only [Nat.reduceAdd,Nat.add_zero] at e0 e1 e2 e3 e4 e5 e6 e7 e8 e9 e10 e11
 have h100:=zl1 nk 100 (by omega)
 have hmv:∀ q∈mV 1000,(q.1,zak (mQ nk) q.2)∈mV nk:=by
  simp [mV,zak,zan,e1,e2,e3,e4,e5,e6,e7,e8,e9,e10,e11]
 have hvm:∀ q∈mV nk,∃ p∈mV 1000,p.1=q.1/\zak (mQ nk) p.2=q.2:=by
  simp [mV,zak,zan,e1,e2,e3,e4,e5,e6,e7,e8,e9,e10,e11]
 refine ⟨l.map λp=>(p.1,zak (mQ nk) p.2),by simp [ren,zay,zak,zan,e0],?_,λp hp=>?_,λq hq=>?_⟩
 ·have hc:(cfB (.slice (some ⟨100,off,none⟩) n cap) g bx tp nr md).rn (mQ nk)=cfB (.slice (some ⟨100,off,none⟩) n cap) g bx tp nr md:=by simp [cfB,Blk.rn,zak,zan,h100]
  simp only [rnL,mNs,List.map_cons,List.map_nil,ztc,zb0,hc,Nat.reduceAdd,e0,e1,e2,e3,e4,e5,e6,e7,e8,e9,e10,e11]
 ·obtain ⟨p0,hp0,rfl⟩:=List.mem_map.1 hp
  exact hmv _ (hl _ hp0)
 ·obtain ⟨p,hp,h1,h2⟩:=hvm q hq
  rw [zf0,<-h1,hf p hp,<-h2]
  rfl
theorem z4f (nk:Nat) (hnk:200<=nk) (b:Blk) (hb:b.fx) (off n cap:Nat) (g bx tp nr md:Int) :
  FunS prog G0 132 #[cfV (.slice (some ⟨100,off,none⟩) n cap) g bx tp nr md] (hpL G0 [(100,b)]) [100] (RR (mQ nk) (zhq 1000 (.slice (some ⟨100,off,none⟩) n cap) n g bx tp nr md)):=by
 have hr:=λρ=>Blk.fx_rn hb ρ
 have h100:=zl1 nk 100 (by omega)
 refine (zy9 b hb off n cap g bx tp nr md).mvL G0F (zao hb) (mQ nk) (λk hk=>zl1 nk k (by omega)) (by simp [cfV,ren,zay,zak,zan,h100]) (by simp [zaa,h100]) rfl (zao hb).low (by simp [h100,hr]) (by simp [zaa]) (λv ns hV k hk=>?_) (λv ns hV k hk l hl e=>?_)
 ·have h1:=zdg hV k hk
  obtain ⟨j,hj,rfl⟩:∃ j,j<12/\k=1000+j:=⟨k - 1000,by omega,by omega⟩
  rw [zpf nk j hj]
  simp
  omega
 ·have h1:=zdg hV k hk
  have h2:=zdg hV l hl
  obtain ⟨j,hj,rfl⟩:∃ j,j<12/\k=1000+j:=⟨k - 1000,by omega,by omega⟩
  obtain ⟨i,hi,rfl⟩:∃ j,j<12/\l=1000+j:=⟨l - 1000,by omega,by omega⟩
  rw [zpf nk j hj,zpf nk i hi] at e
  omega
theorem z06 (b:Blk) (off n cap:Nat) (f:Nat->Int) (h:MB b off n f) (g bx tp nr md:Int) :
  Fun prog G0 110 #[cfV (.slice (some ⟨100,off,none⟩) n cap) g bx tp nr md] (hpL G0 [(100,b)]) (zaa [(100,b)]) (.ret (.string (zfq n f g bx tp nr md)) []):=by
 refine zar (B:=200) G0F func110 rfl call110 (zao h.fx) ?_ (by simp) (by simp) (by simp) (by simp [ntmps110]) (by omega) ?_
 ·simp [zap,zax,zah,zaj,zaa,cfV]
 intro C hC hC0 hY
 have hr:=λρ=>Blk.fx_rn h.fx ρ
 unfold cfV
 repeat' first|refine gwZ ?_|refine gwW ?_|fail
 refine zc3 ?_
 simp only [Array.toList]
 refine gwl 1 ?_;intro Q hQ;simp [hC,hY];apply hQ
 simp only [wT,wM,Nat.reduceAdd]
 refine zsb 8 (f:=.func 132) (cap:=#[]) hC (z4f 224 (by omega) b h.fx off n cap g bx tp nr md) rfl (by simp) rfl rfl (by simp [okT]) (by simp [gev]) (by simp) (by simp [okX,zcm]) (by simp [gev,cfV]) (by simp) (by (intro k hk;first|rfl|(simp (disch:=omega) only [zb3,List.mem_cons,List.not_mem_nil,or_false,zab,zaq,zaw,if_neg,zbi]<;>done))) (λv ns hV k hk=>by have:=zdg (ztf hV) k hk;omega) ?_
 intro v ns hV
 obtain ⟨l,rfl,rfl,_,hf⟩:=ztf hV
 refine gwl 1 ?_;intro Q hQ;simp [hC,hY,zcx,zbi,mNs];apply hQ
 simp only [wT,wM,Nat.reduceAdd]
 refine zdc ?_
 have f0:zc4 ⟨#[98,111,100,105,101,115]⟩ l=some (.func (.func 148) #[] #[.pointer (some ⟨226,0,none⟩),.pointer (some ⟨227,0,none⟩)]):=hf (⟨#[98,111,100,105,101,115]⟩,_) (by simp [mV])
 have f1:zc4 ⟨#[109,97,115,115]⟩ l=some (.func (.func 150) #[] #[.pointer (some ⟨225,0,none⟩)]):=hf (⟨#[109,97,115,115]⟩,_) (by simp [mV])
 have f2:zc4 ⟨#[99,111,110,115,116,97,110,116]⟩ l=some (.func (.func 148) #[] #[.pointer (some ⟨228,0,none⟩),.pointer (some ⟨229,0,none⟩)]):=hf (⟨#[99,111,110,115,116,97,110,116]⟩,_) (by simp [mV])
 have f3:zc4 ⟨#[98,111,120]⟩ l=some (.func (.func 148) #[] #[.pointer (some ⟨230,0,none⟩),.pointer (some ⟨231,0,none⟩)]):=hf (⟨#[98,111,120]⟩,_) (by simp [mV])
 have f4:zc4 ⟨#[116,111,112]⟩ l=some (.func (.func 148) #[] #[.pointer (some ⟨232,0,none⟩),.pointer (some ⟨233,0,none⟩)]):=hf (⟨#[116,111,112]⟩,_) (by simp [mV])
 have f5:zc4 ⟨#[110,101,97,114]⟩ l=some (.func (.func 148) #[] #[.pointer (some ⟨234,0,none⟩),.pointer (some ⟨235,0,none⟩)]):=hf (⟨#[110,101,97,114]⟩,_) (by simp [mV])
 have f6:zc4 ⟨#[109,101,116,104,111,100]⟩ l=some (.func (.func 153) #[] #[.pointer (some ⟨225,0,none⟩)]):=hf (⟨#[109,101,116,104,111,100]⟩,_) (by simp [mV])
 cases c0:wiB n 1 4 with
 | false =>
  have e:zfq n f g bx tp nr md=⟨#[98,111,100,105,101,115]⟩:=by unfold zfq;simp only [c0,Bool.true_eq_false,if_true,if_false,reduceCtorEq]
  rw [e]
  repeat' first|refine zal ?_|refine zat ?_|refine gwZ ?_|((first|refine gwR [148,150,153] ?_|refine gwD [148,150,153] ?_);intro Q hQ _;(repeat first|simp [hC,hY,f0,c0,cnB]|(refine zae (zby n 4) G0F (B:=200) ⟨by simp,by simp [zaa],by simp [jb,zad,zah,zaj]⟩ (λk=>if k=100 then 226 else if k=108 then 227 else k) (λk hk=>(if_neg (by omega)).trans (if_neg (by omega))) ?_ (by simp) (by simp [zb0]) (by simp [zaa]) (by simp [zaa];rfl) ?_;focus (simp [ren,zay,zak,zan];done)));refine gwq hQ ?_)|fail
  refine ⟨.inr rfl,by simp [results110],kpS G0F⟩
 | true =>
  cases c1:zp8 f n with
  | false =>
   have e:zfq n f g bx tp nr md=⟨#[109,97,115,115]⟩:=by unfold zfq;simp only [c0,c1,Bool.true_eq_false,if_true,if_false,reduceCtorEq]
   rw [e]
   repeat' first|refine zal ?_|refine zat ?_|refine gwZ ?_|((first|refine gwR [148,150,153] ?_|refine gwD [148,150,153] ?_);intro Q hQ _;(repeat first|simp [hC,hY,f0,f1,c0,c1,cnB]|(refine zae (zby n 4) G0F (B:=200) ⟨by simp,by simp [zaa],by simp [jb,zad,zah,zaj]⟩ (λk=>if k=100 then 226 else if k=108 then 227 else k) (λk hk=>(if_neg (by omega)).trans (if_neg (by omega))) ?_ (by simp) (by simp [zb0]) (by simp [zaa]) (by simp [zaa];rfl) ?_;focus (simp [ren,zay,zak,zan];done))|(refine zae (zha b off n cap f h g bx tp nr md) G0F (B:=200) (zfw h.fx off n cap g bx tp nr md) (λk=>if k=108 then 225 else k) (λk hk=>if_neg (by omega)) ?_ (by simp) (by simp [cmL,hr];simp [cfB,Blk.rn,zak,zan]) (by simp [zaa,cmL]) (by simp [zaa,cmL];rfl) ?_;focus (simp [ren,zay,zak,zan];done)));refine gwq hQ ?_)|fail
   refine ⟨.inr rfl,by simp [results110],kpS G0F⟩
  | true =>
   cases c2:wiB g 1 1048576 with
   | false =>
    have e:zfq n f g bx tp nr md=⟨#[99,111,110,115,116,97,110,116]⟩:=by unfold zfq;simp only [c0,c1,c2,Bool.true_eq_false,if_true,if_false,reduceCtorEq]
    rw [e]
    repeat' first|refine zal ?_|refine zat ?_|refine gwZ ?_|((first|refine gwR [148,150,153] ?_|refine gwD [148,150,153] ?_);intro Q hQ _;(repeat first|simp [hC,hY,f0,f1,f2,c0,c1,c2,cnB]|(refine zae (zby n 4) G0F (B:=200) ⟨by simp,by simp [zaa],by simp [jb,zad,zah,zaj]⟩ (λk=>if k=100 then 226 else if k=108 then 227 else k) (λk hk=>(if_neg (by omega)).trans (if_neg (by omega))) ?_ (by simp) (by simp [zb0]) (by simp [zaa]) (by simp [zaa];rfl) ?_;focus (simp [ren,zay,zak,zan];done))|(refine zae (zha b off n cap f h g bx tp nr md) G0F (B:=200) (zfw h.fx off n cap g bx tp nr md) (λk=>if k=108 then 225 else k) (λk hk=>if_neg (by omega)) ?_ (by simp) (by simp [cmL,hr];simp [cfB,Blk.rn,zak,zan]) (by simp [zaa,cmL]) (by simp [zaa,cmL];rfl) ?_;focus (simp [ren,zay,zak,zan];done))|(refine zae (zby g 1048576) G0F (B:=200) ⟨by simp,by simp [zaa],by simp [jb,zad,zah,zaj]⟩ (λk=>if k=100 then 228 else if k=108 then 229 else k) (λk hk=>(if_neg (by omega)).trans (if_neg (by omega))) ?_ (by simp) (by simp [zb0]) (by simp [zaa]) (by simp [zaa];rfl) ?_;focus (simp [ren,zay,zak,zan];done)));refine gwq hQ ?_)|fail
    refine ⟨.inr rfl,by simp [results110],kpS G0F⟩
   | true =>
    cases c3:wiB bx 1 1048576 with
    | false =>
     have e:zfq n f g bx tp nr md=⟨#[98,111,120]⟩:=by unfold zfq;simp only [c0,c1,c2,c3,Bool.true_eq_false,if_true,if_false,reduceCtorEq]
     rw [e]
     repeat' first|refine zal ?_|refine zat ?_|refine gwZ ?_|((first|refine gwR [148,150,153] ?_|refine gwD [148,150,153] ?_);intro Q hQ _;(repeat first|simp [hC,hY,f0,f1,f2,f3,c0,c1,c2,c3,cnB]|(refine zae (zby n 4) G0F (B:=200) ⟨by simp,by simp [zaa],by simp [jb,zad,zah,zaj]⟩ (λk=>if k=100 then 226 else if k=108 then 227 else k) (λk hk=>(if_neg (by omega)).trans (if_neg (by omega))) ?_ (by simp) (by simp [zb0]) (by simp [zaa]) (by simp [zaa];rfl) ?_;focus (simp [ren,zay,zak,zan];done))|(refine zae (zha b off n cap f h g bx tp nr md) G0F (B:=200) (zfw h.fx off n cap g bx tp nr md) (λk=>if k=108 then 225 else k) (λk hk=>if_neg (by omega)) ?_ (by simp) (by simp [cmL,hr];simp [cfB,Blk.rn,zak,zan]) (by simp [zaa,cmL]) (by simp [zaa,cmL];rfl) ?_;focus (simp [ren,zay,zak,zan];done))|(refine zae (zby g 1048576) G0F (B:=200) ⟨by simp,by simp [zaa],by simp [jb,zad,zah,zaj]⟩ (λk=>if k=100 then 228 else if k=108 then 229 else k) (λk hk=>(if_neg (by omega)).trans (if_neg (by omega))) ?_ (by simp) (by simp [zb0]) (by simp [zaa]) (by simp [zaa];rfl) ?_;focus (simp [ren,zay,zak,zan];done))|(refine zae (zby bx 1048576) G0F (B:=200) ⟨by simp,by simp [zaa],by simp [jb,zad,zah,zaj]⟩ (λk=>if k=100 then 230 else if k=108 then 231 else k) (λk hk=>(if_neg (by omega)).trans (if_neg (by omega))) ?_ (by simp) (by simp [zb0]) (by simp [zaa]) (by simp [zaa];rfl) ?_;focus (simp [ren,zay,zak,zan];done)));refine gwq hQ ?_)|fail
     refine ⟨.inr rfl,by simp [results110],kpS G0F⟩
    | true =>
     cases c4:wiB tp 1 65536 with
     | false =>
      have e:zfq n f g bx tp nr md=⟨#[116,111,112]⟩:=by unfold zfq;simp only [c0,c1,c2,c3,c4,Bool.true_eq_false,if_true,if_false,reduceCtorEq]
      rw [e]
      repeat' first|refine zal ?_|refine zat ?_|refine gwZ ?_|((first|refine gwR [148,150,153] ?_|refine gwD [148,150,153] ?_);intro Q hQ _;(repeat first|simp [hC,hY,f0,f1,f2,f3,f4,c0,c1,c2,c3,c4,cnB]|(refine zae (zby n 4) G0F (B:=200) ⟨by simp,by simp [zaa],by simp [jb,zad,zah,zaj]⟩ (λk=>if k=100 then 226 else if k=108 then 227 else k) (λk hk=>(if_neg (by omega)).trans (if_neg (by omega))) ?_ (by simp) (by simp [zb0]) (by simp [zaa]) (by simp [zaa];rfl) ?_;focus (simp [ren,zay,zak,zan];done))|(refine zae (zha b off n cap f h g bx tp nr md) G0F (B:=200) (zfw h.fx off n cap g bx tp nr md) (λk=>if k=108 then 225 else k) (λk hk=>if_neg (by omega)) ?_ (by simp) (by simp [cmL,hr];simp [cfB,Blk.rn,zak,zan]) (by simp [zaa,cmL]) (by simp [zaa,cmL];rfl) ?_;focus (simp [ren,zay,zak,zan];done))|(refine zae (zby g 1048576) G0F (B:=200) ⟨by simp,by simp [zaa],by simp [jb,zad,zah,zaj]⟩ (λk=>if k=100 then 228 else if k=108 then 229 else k) (λk hk=>(if_neg (by omega)).trans (if_neg (by omega))) ?_ (by simp) (by simp [zb0]) (by simp [zaa]) (by simp [zaa];rfl) ?_;focus (simp [ren,zay,zak,zan];done))|(refine zae (zby bx 1048576) G0F (B:=200) ⟨by simp,by simp [zaa],by simp [jb,zad,zah,zaj]⟩ (λk=>if k=100 then 230 else if k=108 then 231 else k) (λk hk=>(if_neg (by omega)).trans (if_neg (by omega))) ?_ (by simp) (by simp [zb0]) (by simp [zaa]) (by simp [zaa];rfl) ?_;focus (simp [ren,zay,zak,zan];done))|(refine zae (zby tp 65536) G0F (B:=200) ⟨by simp,by simp [zaa],by simp [jb,zad,zah,zaj]⟩ (λk=>if k=100 then 232 else if k=108 then 233 else k) (λk hk=>(if_neg (by omega)).trans (if_neg (by omega))) ?_ (by simp) (by simp [zb0]) (by simp [zaa]) (by simp [zaa];rfl) ?_;focus (simp [ren,zay,zak,zan];done)));refine gwq hQ ?_)|fail
      refine ⟨.inr rfl,by simp [results110],kpS G0F⟩
     | true =>
      cases c5:wiB nr 1 (Int.bmod (2*bx) 18446744073709551616) with
      | false =>
       have e:zfq n f g bx tp nr md=⟨#[110,101,97,114]⟩:=by unfold zfq;simp only [c0,c1,c2,c3,c4,c5,Bool.true_eq_false,if_true,if_false,reduceCtorEq]
       rw [e]
       repeat' first|refine zal ?_|refine zat ?_|refine gwZ ?_|((first|refine gwR [148,150,153] ?_|refine gwD [148,150,153] ?_);intro Q hQ _;(repeat first|simp [hC,hY,f0,f1,f2,f3,f4,f5,c0,c1,c2,c3,c4,c5,cnB]|(refine zae (zby n 4) G0F (B:=200) ⟨by simp,by simp [zaa],by simp [jb,zad,zah,zaj]⟩ (λk=>if k=100 then 226 else if k=108 then 227 else k) (λk hk=>(if_neg (by omega)).trans (if_neg (by omega))) ?_ (by simp) (by simp [zb0]) (by simp [zaa]) (by simp [zaa];rfl) ?_;focus (simp [ren,zay,zak,zan];done))|(refine zae (zha b off n cap f h g bx tp nr md) G0F (B:=200) (zfw h.fx off n cap g bx tp nr md) (λk=>if k=108 then 225 else k) (λk hk=>if_neg (by omega)) ?_ (by simp) (by simp [cmL,hr];simp [cfB,Blk.rn,zak,zan]) (by simp [zaa,cmL]) (by simp [zaa,cmL];rfl) ?_;focus (simp [ren,zay,zak,zan];done))|(refine zae (zby g 1048576) G0F (B:=200) ⟨by simp,by simp [zaa],by simp [jb,zad,zah,zaj]⟩ (λk=>if k=100 then 228 else if k=108 then 229 else k) (λk hk=>(if_neg (by omega)).trans (if_neg (by omega))) ?_ (by simp) (by simp [zb0]) (by simp [zaa]) (by simp [zaa];rfl) ?_;focus (simp [ren,zay,zak,zan];done))|(refine zae (zby bx 1048576) G0F (B:=200) ⟨by simp,by simp [zaa],by simp [jb,zad,zah,zaj]⟩ (λk=>if k=100 then 230 else if k=108 then 231 else k) (λk hk=>(if_neg (by omega)).trans (if_neg (by omega))) ?_ (by simp) (by simp [zb0]) (by simp [zaa]) (by simp [zaa];rfl) ?_;focus (simp [ren,zay,zak,zan];done))|(refine zae (zby tp 65536) G0F (B:=200) ⟨by simp,by simp [zaa],by simp [jb,zad,zah,zaj]⟩ (λk=>if k=100 then 232 else if k=108 then 233 else k) (λk hk=>(if_neg (by omega)).trans (if_neg (by omega))) ?_ (by simp) (by simp [zb0]) (by simp [zaa]) (by simp [zaa];rfl) ?_;focus (simp [ren,zay,zak,zan];done))|(refine zae (zby nr (Int.bmod (2*bx) 18446744073709551616)) G0F (B:=200) ⟨by simp,by simp [zaa],by simp [jb,zad,zah,zaj]⟩ (λk=>if k=100 then 234 else if k=108 then 235 else k) (λk hk=>(if_neg (by omega)).trans (if_neg (by omega))) ?_ (by simp) (by simp [zb0]) (by simp [zaa]) (by simp [zaa];rfl) ?_;focus (simp [ren,zay,zak,zan];done)));refine gwq hQ ?_)|fail
       refine ⟨.inr rfl,by simp [results110],kpS G0F⟩
      | true =>
       cases c6:wiB md 0 4 with
       | false =>
        have e:zfq n f g bx tp nr md=⟨#[109,101,116,104,111,100]⟩:=by unfold zfq;simp only [c0,c1,c2,c3,c4,c5,c6,Bool.true_eq_false,if_true,if_false,reduceCtorEq]
        rw [e]
        repeat' first|refine zal ?_|refine zat ?_|refine gwZ ?_|((first|refine gwR [148,150,153] ?_|refine gwD [148,150,153] ?_);intro Q hQ _;(repeat first|simp [hC,hY,f0,f1,f2,f3,f4,f5,f6,c0,c1,c2,c3,c4,c5,c6,cnB]|(refine zae (zby n 4) G0F (B:=200) ⟨by simp,by simp [zaa],by simp [jb,zad,zah,zaj]⟩ (λk=>if k=100 then 226 else if k=108 then 227 else k) (λk hk=>(if_neg (by omega)).trans (if_neg (by omega))) ?_ (by simp) (by simp [zb0]) (by simp [zaa]) (by simp [zaa];rfl) ?_;focus (simp [ren,zay,zak,zan];done))|(refine zae (zha b off n cap f h g bx tp nr md) G0F (B:=200) (zfw h.fx off n cap g bx tp nr md) (λk=>if k=108 then 225 else k) (λk hk=>if_neg (by omega)) ?_ (by simp) (by simp [cmL,hr];simp [cfB,Blk.rn,zak,zan]) (by simp [zaa,cmL]) (by simp [zaa,cmL];rfl) ?_;focus (simp [ren,zay,zak,zan];done))|(refine zae (zby g 1048576) G0F (B:=200) ⟨by simp,by simp [zaa],by simp [jb,zad,zah,zaj]⟩ (λk=>if k=100 then 228 else if k=108 then 229 else k) (λk hk=>(if_neg (by omega)).trans (if_neg (by omega))) ?_ (by simp) (by simp [zb0]) (by simp [zaa]) (by simp [zaa];rfl) ?_;focus (simp [ren,zay,zak,zan];done))|(refine zae (zby bx 1048576) G0F (B:=200) ⟨by simp,by simp [zaa],by simp [jb,zad,zah,zaj]⟩ (λk=>if k=100 then 230 else if k=108 then 231 else k) (λk hk=>(if_neg (by omega)).trans (if_neg (by omega))) ?_ (by simp) (by simp [zb0]) (by simp [zaa]) (by simp [zaa];rfl) ?_;focus (simp [ren,zay,zak,zan];done))|(refine zae (zby tp 65536) G0F (B:=200) ⟨by simp,by simp [zaa],by simp [jb,zad,zah,zaj]⟩ (λk=>if k=100 then 232 else if k=108 then 233 else k) (λk hk=>(if_neg (by omega)).trans (if_neg (by omega))) ?_ (by simp) (by simp [zb0]) (by simp [zaa]) (by simp [zaa];rfl) ?_;focus (simp [ren,zay,zak,zan];done))|(refine zae (zby nr (Int.bmod (2*bx) 18446744073709551616)) G0F (B:=200) ⟨by simp,by simp [zaa],by simp [jb,zad,zah,zaj]⟩ (λk=>if k=100 then 234 else if k=108 then 235 else k) (λk hk=>(if_neg (by omega)).trans (if_neg (by omega))) ?_ (by simp) (by simp [zb0]) (by simp [zaa]) (by simp [zaa];rfl) ?_;focus (simp [ren,zay,zak,zan];done))|(refine zae (zxq b off n cap h.fx g bx tp nr md) G0F (B:=200) (zfw h.fx off n cap g bx tp nr md) (λk=>if k=108 then 225 else k) (λk hk=>if_neg (by omega)) ?_ (by simp) (by simp [cmL,hr];simp [cfB,Blk.rn,zak,zan]) (by simp [zaa,cmL]) (by simp [zaa,cmL];rfl) ?_;focus (simp [ren,zay,zak,zan];done)));refine gwq hQ ?_)|fail
        refine ⟨.inr rfl,by simp [results110],kpS G0F⟩
       | true =>
        have e:zfq n f g bx tp nr md=⟨#[]⟩:=by unfold zfq;simp only [c0,c1,c2,c3,c4,c5,c6,Bool.true_eq_false,if_true,if_false,reduceCtorEq]
        rw [e]
        repeat' first|refine zal ?_|refine zat ?_|refine gwZ ?_|((first|refine gwR [148,150,153] ?_|refine gwD [148,150,153] ?_);intro Q hQ _;(repeat first|simp [hC,hY,f0,f1,f2,f3,f4,f5,f6,c0,c1,c2,c3,c4,c5,c6,cnB]|(refine zae (zby n 4) G0F (B:=200) ⟨by simp,by simp [zaa],by simp [jb,zad,zah,zaj]⟩ (λk=>if k=100 then 226 else if k=108 then 227 else k) (λk hk=>(if_neg (by omega)).trans (if_neg (by omega))) ?_ (by simp) (by simp [zb0]) (by simp [zaa]) (by simp [zaa];rfl) ?_;focus (simp [ren,zay,zak,zan];done))|(refine zae (zha b off n cap f h g bx tp nr md) G0F (B:=200) (zfw h.fx off n cap g bx tp nr md) (λk=>if k=108 then 225 else k) (λk hk=>if_neg (by omega)) ?_ (by simp) (by simp [cmL,hr];simp [cfB,Blk.rn,zak,zan]) (by simp [zaa,cmL]) (by simp [zaa,cmL];rfl) ?_;focus (simp [ren,zay,zak,zan];done))|(refine zae (zby g 1048576) G0F (B:=200) ⟨by simp,by simp [zaa],by simp [jb,zad,zah,zaj]⟩ (λk=>if k=100 then 228 else if k=108 then 229 else k) (λk hk=>(if_neg (by omega)).trans (if_neg (by omega))) ?_ (by simp) (by simp [zb0]) (by simp [zaa]) (by simp [zaa];rfl) ?_;focus (simp [ren,zay,zak,zan];done))|(refine zae (zby bx 1048576) G0F (B:=200) ⟨by simp,by simp [zaa],by simp [jb,zad,zah,zaj]⟩ (λk=>if k=100 then 230 else if k=108 then 231 else k) (λk hk=>(if_neg (by omega)).trans (if_neg (by omega))) ?_ (by simp) (by simp [zb0]) (by simp [zaa]) (by simp [zaa];rfl) ?_;focus (simp [ren,zay,zak,zan];done))|(refine zae (zby tp 65536) G0F (B:=200) ⟨by simp,by simp [zaa],by simp [jb,zad,zah,zaj]⟩ (λk=>if k=100 then 232 else if k=108 then 233 else k) (λk hk=>(if_neg (by omega)).trans (if_neg (by omega))) ?_ (by simp) (by simp [zb0]) (by simp [zaa]) (by simp [zaa];rfl) ?_;focus (simp [ren,zay,zak,zan];done))|(refine zae (zby nr (Int.bmod (2*bx) 18446744073709551616)) G0F (B:=200) ⟨by simp,by simp [zaa],by simp [jb,zad,zah,zaj]⟩ (λk=>if k=100 then 234 else if k=108 then 235 else k) (λk hk=>(if_neg (by omega)).trans (if_neg (by omega))) ?_ (by simp) (by simp [zb0]) (by simp [zaa]) (by simp [zaa];rfl) ?_;focus (simp [ren,zay,zak,zan];done))|(refine zae (zxq b off n cap h.fx g bx tp nr md) G0F (B:=200) (zfw h.fx off n cap g bx tp nr md) (λk=>if k=108 then 225 else k) (λk hk=>if_neg (by omega)) ?_ (by simp) (by simp [cmL,hr];simp [cfB,Blk.rn,zak,zan]) (by simp [zaa,cmL]) (by simp [zaa,cmL];rfl) ?_;focus (simp [ren,zay,zak,zan];done)));refine gwq hQ ?_)|fail
        refine ⟨.inr rfl,by simp [results110],kpS G0F⟩
def zdr (n:Nat) (f:Nat->Int) (g bx tp nr md:Int):Bool:=wiB n 1 4&&(zp8 f n&&(wiB g 1 1048576&&(wiB bx 1 1048576&&(wiB tp 1 65536&&(wiB nr 1 (Int.bmod (2*bx) 18446744073709551616)&&(wiB md 0 4))))))
theorem zvu (b:Blk) (hb:b.fx) (g bx tp nr md:Int) :
  FunS prog G0 132 #[cfV (.slice none 0 0) g bx tp nr md] (hpL G0 [(100,b)]) (zaa [(100,b)]) (zhq 1000 (.slice none 0 0) 0 g bx tp nr md):=by
 refine zet (B:=200) G0F func132 rfl call132 (zao hb) ?_ ?_ (by simp [ntmps132]) (by omega) ?_
 ·simp [zap,zax,zah,zaj,zaa,cfV]
 ·rintro v ns ⟨l,rfl,rfl,hl,_⟩
  have hl2:∀ D:Nat->Prop,(∀ k,1000<=k->k<1012->D k)->(mpB l).ids D:=λD hD=>zit.2 λp hp=>by
   have:=hl p hp
   simp only [mV,List.mem_cons,List.not_mem_nil,or_false] at this
   rcases this with rfl|rfl|rfl|rfl|rfl|rfl|rfl<;>simp [zah,zaj,hD]
  refine ⟨by simp [zap,zax,zah,zaj,zc7,zaa,mNs],?_,?_⟩
  ·intro p hp
   simp only [mNs,List.mem_cons,List.not_mem_nil,or_false] at hp
   have hD:∀ k,1000<=k->k<1012->zc7 (λk=>k∈zaa [(100,b)]) (mNs 1000 l (.slice none 0 0) 0 g bx tp nr md) k:=λk hk1 hk2=>.inr (by
    simp only [mNs,zaa,List.map_cons,List.map_nil,List.mem_cons,List.not_mem_nil,or_false]
    omega)
   rcases hp with rfl|rfl|rfl|rfl|rfl|rfl|rfl|rfl|rfl|rfl|rfl|rfl
   ·exact ⟨by omega,hl2 _ hD⟩
   ·exact ⟨by omega,by simp [cfB,zad,zah,zaj,zc7,zaa]⟩
   all_goals exact ⟨by omega,by simp [jb,zad,zah,zaj]⟩
  ·intro k b c h1 h2
   simp only [mNs,List.mem_cons,List.not_mem_nil,or_false,Prod.mk.injEq] at h1 h2
   rcases h1 with ⟨e1,rfl⟩|⟨e1,rfl⟩|⟨e1,rfl⟩|⟨e1,rfl⟩|⟨e1,rfl⟩|⟨e1,rfl⟩|⟨e1,rfl⟩|⟨e1,rfl⟩|⟨e1,rfl⟩|⟨e1,rfl⟩|⟨e1,rfl⟩|⟨e1,rfl⟩<;>rcases h2 with ⟨e2,rfl⟩|⟨e2,rfl⟩|⟨e2,rfl⟩|⟨e2,rfl⟩|⟨e2,rfl⟩|⟨e2,rfl⟩|⟨e2,rfl⟩|⟨e2,rfl⟩|⟨e2,rfl⟩|⟨e2,rfl⟩|⟨e2,rfl⟩|⟨e2,rfl⟩<;>first|rfl|omega
 intro C hC hC0 hY
 unfold cfV
 repeat' first|refine gwZ ?_|refine gwW ?_|fail
 refine z57 follows ?_
 simp only [Array.toList,List.length_cons,List.length_nil,Nat.reduceAdd]
 obtain ⟨sl,hsl⟩:∃ sl,Value.slice none 0 0=sl:=⟨_,rfl⟩
 refine zwu (MI b sl 0 g bx tp nr md) (λlisted ts hp hs hr hI=>?_) (λfuel listed ts hp i hs hi hdep h hk=>?_) _ _ _ _ (by simp) (by decide +kernel) ?_
 ·have hall:=zpo hs (by kernel_rfl) hr
  have hall:∀ i,i<36->listed[i]? = some true:=λi hi=>hall i (by simpa using hi)
  obtain ⟨l,l1,l2,l3⟩:=hI.mp (hall 0 (by omega))
  have h2:=hI.tm (35,2,.map (some 224)) (by simp [mT]) (hall 35 (by omega))
  have hinv:∀ q∈mI,zak mR (zak mS q.2.2)=q.2.2:=by simp [mI,zak,zan,mR,mS]
  have hcan:∀ q∈mI,(q.2.1,zak mS q.2.2)∈mV 1000:=by simp [mI,mV,zak,zan,mS]
  have hfind:∀ q∈mV 1000,∃ p∈mI,p.2.1=q.1/\zak mS p.2.2=q.2/\p.1<36:=by
   intro q hq
   simp only [mV,List.mem_cons,List.not_mem_nil,or_false] at hq
   rcases hq with rfl|rfl|rfl|rfl|rfl|rfl|rfl
   ·exact ⟨(6,⟨#[98,111,100,105,101,115]⟩,.func (.func 148) #[] #[.pointer (some ⟨264,0,none⟩),.pointer (some ⟨265,0,none⟩)]),by simp [mI],rfl,by simp [zak,zan,mS],by omega⟩
   ·exact ⟨(8,⟨#[109,97,115,115]⟩,.func (.func 150) #[] #[.pointer (some ⟨200,0,none⟩)]),by simp [mI],rfl,by simp [zak,zan,mS],by omega⟩
   ·exact ⟨(13,⟨#[99,111,110,115,116,97,110,116]⟩,.func (.func 148) #[] #[.pointer (some ⟨320,0,none⟩),.pointer (some ⟨321,0,none⟩)]),by simp [mI],rfl,by simp [zak,zan,mS],by omega⟩
   ·exact ⟨(18,⟨#[98,111,120]⟩,.func (.func 148) #[] #[.pointer (some ⟨360,0,none⟩),.pointer (some ⟨361,0,none⟩)]),by simp [mI],rfl,by simp [zak,zan,mS],by omega⟩
   ·exact ⟨(23,⟨#[116,111,112]⟩,.func (.func 148) #[] #[.pointer (some ⟨400,0,none⟩),.pointer (some ⟨401,0,none⟩)]),by simp [mI],rfl,by simp [zak,zan,mS],by omega⟩
   ·exact ⟨(31,⟨#[110,101,97,114]⟩,.func (.func 148) #[] #[.pointer (some ⟨464,0,none⟩),.pointer (some ⟨465,0,none⟩)]),by simp [mI],rfl,by simp [zak,zan,mS],by omega⟩
   ·exact ⟨(33,⟨#[109,101,116,104,111,100]⟩,.func (.func 153) #[] #[.pointer (some ⟨200,0,none⟩)]),by simp [mI],rfl,by simp [zak,zan,mS],by omega⟩
  simp only [zcj]
  refine zwz ?_
  refine ⟨.inr rfl,zb4 G0F (by simp [hI.b]) (λk hk=>(hI.low k hk).trans (zbc (by simp) hk).symm),_,_,mR,⟨l.map λp=>(p.1,zak mS p.2),rfl,rfl,λp hp=>?_,λq hq=>?_⟩,λk hk=>?_,?_,?_,?_,?_⟩
  ·obtain ⟨p0,hp0,rfl⟩:=List.mem_map.1 hp
   obtain ⟨q,hq,rfl,_⟩:=l2 p0 hp0
   exact hcan q hq
  ·obtain ⟨p,hp,e1,e2,hlt⟩:=hfind q hq
   rw [zf0,<-e1,l3 p hp (hall _ hlt),<-e2]
   rfl
  ·unfold mR
   iterate 12 rw [if_neg (by omega)]
  ·simp [mNs,mR]
  ·simp [mNs,mR]
  ·simp [results132,h2,ren,zay,zak,zan,mR]
   rfl
  ·subst hsl
   have hbx:=hI.bx
   have hm:(mpB (l.map λp=>(p.1,zak mS p.2))).rn mR=mpB l:=by
    rw [ztc,List.map_map]
    congr 1
    conv=>rhs;rw [<-List.map_id l]
    refine List.map_congr_left λp hp=>?_
    obtain ⟨q,hq,rfl,_⟩:=l2 p hp
    simp only [Function.comp_def,id]
    rw [hinv q hq]
   intro p hp
   simp only [mNs,List.mem_cons,List.not_mem_nil,or_false] at hp
   rcases hp with rfl|rfl|rfl|rfl|rfl|rfl|rfl|rfl|rfl|rfl|rfl|rfl
   ·show hp (mR 1000)=some ((mpB _).rn mR)
    rw [hm]
    exact l1
   ·show hp 200=some ((cfB _ g bx tp nr md).rn mR)
    rw [hI.c]
    simp [cfB,Blk.rn,zak,zan,mR]
   ·show hp 264=some ((jb ((0:Nat):Int)).rn mR)
    rw [zb0]
    exact hbx (5,264,jb ((0:Nat):Int)) (by simp [mX]) (hall 5 (by omega))
   ·show hp 265=some ((jb 4).rn mR)
    rw [zb0]
    exact hbx (5,265,jb 4) (by simp [mX]) (hall 5 (by omega))
   ·show hp 320=some ((jb g).rn mR)
    rw [zb0]
    exact hbx (12,320,jb g) (by simp [mX]) (hall 12 (by omega))
   ·show hp 321=some ((jb 1048576).rn mR)
    rw [zb0]
    exact hbx (12,321,jb 1048576) (by simp [mX]) (hall 12 (by omega))
   ·show hp 360=some ((jb bx).rn mR)
    rw [zb0]
    exact hbx (17,360,jb bx) (by simp [mX]) (hall 17 (by omega))
   ·show hp 361=some ((jb 1048576).rn mR)
    rw [zb0]
    exact hbx (17,361,jb 1048576) (by simp [mX]) (hall 17 (by omega))
   ·show hp 400=some ((jb tp).rn mR)
    rw [zb0]
    exact hbx (22,400,jb tp) (by simp [mX]) (hall 22 (by omega))
   ·show hp 401=some ((jb 65536).rn mR)
    rw [zb0]
    exact hbx (22,401,jb 65536) (by simp [mX]) (hall 22 (by omega))
   ·show hp 464=some ((jb nr).rn mR)
    rw [zb0]
    exact hbx (30,464,jb nr) (by simp [mX]) (hall 30 (by omega))
   ·show hp 465=some ((jb (Int.bmod (2*bx) 18446744073709551616)).rn mR)
    rw [zb0]
    exact hbx (30,465,jb (Int.bmod (2*bx) 18446744073709551616)) (by simp [mX]) (hall 30 (by omega))
 ·have hlt:i<36:=by
   have:=(Array.getElem?_eq_some_iff.1 hi).1
   rw [hs] at this
   simpa using this
  subst hsl
  obtain rfl|rfl|rfl|rfl|rfl|rfl|rfl|rfl|rfl|rfl|rfl|rfl|rfl|rfl|rfl|rfl|rfl|rfl|rfl|rfl|rfl|rfl|rfl|rfl|rfl|rfl|rfl|rfl|rfl|rfl|rfl|rfl|rfl|rfl|rfl|rfl:i=0\/i=1\/i=2\/i=3\/i=4\/i=5\/i=6\/i=7\/i=8\/i=9\/i=10\/i=11\/i=12\/i=13\/i=14\/i=15\/i=16\/i=17\/i=18\/i=19\/i=20\/i=21\/i=22\/i=23\/i=24\/i=25\/i=26\/i=27\/i=28\/i=29\/i=30\/i=31\/i=32\/i=33\/i=34\/i=35:=by omega
  ·-- 0 map
   have f0:=h.t1
   have f1:=h.t3
   refine gwo ?_;intro Q hQ;simp [hC,hY,f0,f1];apply hQ
   exact hk _ _ (h.mkm hi)
  ·-- 1 mv
   have f0:=h.t1
   have f1:=h.t3
   refine gwo ?_;intro Q hQ;simp [hC,hY,f0,f1];apply hQ
   exact hk _ _ (h.tmp (i:=1) (t:=5) (by simp [mT]) (by simp [mX]) (by omega))
  ·-- 2 fa
   have f0:=h.t1
   have f1:=h.t3
   refine gwo ?_;intro Q hQ;simp [hC,hY,f0,f1];apply hQ
   exact hk _ _ (h.tmp (i:=2) (t:=6) (by simp [mT]) (by simp [mX]) (by omega))
  ·-- 3 ld
   have hd:∀ j∈[2],listed[j]? = some true:=by
    have hd0:=hdep _ rfl
    simp [Region.binds] at hd0
    simp [hd0]
   have f0:=h.t1
   have f1:=h.t3
   have f2:=h.tm (2,6,.pointer (some ⟨200,0,none⟩)) (by simp [mT]) (hd 2 (by simp))
   have fc:=h.c
   unfold cfB at fc
   refine gwo ?_;intro Q hQ;simp [hC,hY,f0,f1,f2,fc];apply hQ
   exact hk _ _ (h.tmp (i:=3) (t:=7) (by simp [mT]) (by simp [mX]) (by omega))
  ·-- 4 len
   have hd:∀ j∈[3],listed[j]? = some true:=by
    have hd0:=hdep _ rfl
    simp [Region.binds] at hd0
    simp [hd0]
   have f0:=h.t1
   have f1:=h.t3
   have f2:=h.tm (3,7,.slice none 0 0) (by simp [mT]) (hd 3 (by simp))
   refine gwo ?_;intro Q hQ;simp [hC,hY,f0,f1,f2];apply hQ
   exact hk _ _ (h.tmp (i:=4) (t:=8) (by simp [mT]) (by simp [mX]) (by omega))
  ·-- 5 call
   have hd:∀ j∈[1,4],listed[j]? = some true:=by
    have hd0:=hdep _ rfl
    simp [Region.binds] at hd0
    simp [hd0]
   have f0:=h.t1
   have f1:=h.t3
   have f2:=h.tm (1,5,.func (.func 147) #[] #[]) (by simp [mT]) (hd 1 (by simp))
   have f3:=h.tm (4,8,.int .i64 ((0:Nat):Int)) (by simp [mT]) (hd 4 (by simp))
   refine zdv (f:=.tmp 5) (cap:=#[]) hC (zg4 264 (by omega) ((0:Nat):Int) 4) rfl hi rfl (by simp [ntmps132]) rfl rfl (by simp [okT,f0,f1,f2,f3]) (by simp [gev,f0,f1,f2,f3]) (by simp) (by simp [okX,zcm,f0,f1,f2,f3]) (by simp [gev,f0,f1,f2,f3]) (by simp) (λq hq=>(h.low q hq).symm▸(by simp)) ?_ ?_
   ·intro v ns hV k hk
    have:=zdx hV k hk
    omega
   rintro v ns ⟨rfl,rfl⟩
   exact hk _ _ (h.call (i:=5) (t:=9) (by simp [mT]) (by omega) (by omega) (by simp [mX]))
  ·-- 6 ins
   have hd:∀ j∈[0,5],listed[j]? = some true:=by
    have hd0:=hdep _ rfl
    simp [Region.binds] at hd0
    simp [hd0]
   have f0:=h.t1
   have f1:=h.t3
   have f2:=h.tm (0,4,.map (some 224)) (by simp [mT]) (hd 0 (by simp))
   have f3:=h.tm (5,9,.func (.func 148) #[] #[.pointer (some ⟨264,0,none⟩),.pointer (some ⟨265,0,none⟩)]) (by simp [mT]) (hd 5 (by simp))
   obtain ⟨l,l1,l2,l3⟩:=h.mp (hd 0 (by simp))
   have hm:(6,⟨#[98,111,100,105,101,115]⟩,.func (.func 148) #[] #[.pointer (some ⟨264,0,none⟩),.pointer (some ⟨265,0,none⟩)])∈mI:=by simp [mI]
   have hn:=h.fresh hm hi l2
   refine gwo ?_;intro Q hQ;simp [hC,hY,f0,f1,f2,f3,l1,hn];apply hQ
   exact hk _ _ (h.ins hm (Array.getElem?_eq_some_iff.1 hi).1 l2 l3 hn (hd 0 (by simp)))
  ·-- 7 mk
   have f0:=h.t1
   have f1:=h.t3
   refine gwo ?_;intro Q hQ;simp [hC,hY,f0,f1];apply hQ
   exact hk _ _ (h.tmp (i:=7) (t:=10) (by simp [mT]) (by simp [mX]) (by omega))
  ·-- 8 ins
   have hd:∀ j∈[0,7],listed[j]? = some true:=by
    have hd0:=hdep _ rfl
    simp [Region.binds] at hd0
    simp [hd0]
   have f0:=h.t1
   have f1:=h.t3
   have f2:=h.tm (0,4,.map (some 224)) (by simp [mT]) (hd 0 (by simp))
   have f3:=h.tm (7,10,.func (.func 150) #[] #[.pointer (some ⟨200,0,none⟩)]) (by simp [mT]) (hd 7 (by simp))
   obtain ⟨l,l1,l2,l3⟩:=h.mp (hd 0 (by simp))
   have hm:(8,⟨#[109,97,115,115]⟩,.func (.func 150) #[] #[.pointer (some ⟨200,0,none⟩)])∈mI:=by simp [mI]
   have hn:=h.fresh hm hi l2
   refine gwo ?_;intro Q hQ;simp [hC,hY,f0,f1,f2,f3,l1,hn];apply hQ
   exact hk _ _ (h.ins hm (Array.getElem?_eq_some_iff.1 hi).1 l2 l3 hn (hd 0 (by simp)))
  ·-- 9 mv
   have f0:=h.t1
   have f1:=h.t3
   refine gwo ?_;intro Q hQ;simp [hC,hY,f0,f1];apply hQ
   exact hk _ _ (h.tmp (i:=9) (t:=11) (by simp [mT]) (by simp [mX]) (by omega))
  ·-- 10 fa
   have f0:=h.t1
   have f1:=h.t3
   refine gwo ?_;intro Q hQ;simp [hC,hY,f0,f1];apply hQ
   exact hk _ _ (h.tmp (i:=10) (t:=12) (by simp [mT]) (by simp [mX]) (by omega))
  ·-- 11 ld
   have hd:∀ j∈[10],listed[j]? = some true:=by
    have hd0:=hdep _ rfl
    simp [Region.binds] at hd0
    simp [hd0]
   have f0:=h.t1
   have f1:=h.t3
   have f2:=h.tm (10,12,.pointer (some ⟨200,1,none⟩)) (by simp [mT]) (hd 10 (by simp))
   have fc:=h.c
   unfold cfB at fc
   refine gwo ?_;intro Q hQ;simp [hC,hY,f0,f1,f2,fc];apply hQ
   exact hk _ _ (h.tmp (i:=11) (t:=13) (by simp [mT]) (by simp [mX]) (by omega))
  ·-- 12 call
   have hd:∀ j∈[9,11],listed[j]? = some true:=by
    have hd0:=hdep _ rfl
    simp [Region.binds] at hd0
    simp [hd0]
   have f0:=h.t1
   have f1:=h.t3
   have f2:=h.tm (9,11,.func (.func 147) #[] #[]) (by simp [mT]) (hd 9 (by simp))
   have f3:=h.tm (11,13,.int .i64 g) (by simp [mT]) (hd 11 (by simp))
   refine zdv (f:=.tmp 11) (cap:=#[]) hC (zg4 320 (by omega) g 1048576) rfl hi rfl (by simp [ntmps132]) rfl rfl (by simp [okT,f0,f1,f2,f3]) (by simp [gev,f0,f1,f2,f3]) (by simp) (by simp [okX,zcm,f0,f1,f2,f3]) (by simp [gev,f0,f1,f2,f3]) (by simp) (λq hq=>(h.low q hq).symm▸(by simp)) ?_ ?_
   ·intro v ns hV k hk
    have:=zdx hV k hk
    omega
   rintro v ns ⟨rfl,rfl⟩
   exact hk _ _ (h.call (i:=12) (t:=14) (by simp [mT]) (by omega) (by omega) (by simp [mX]))
  ·-- 13 ins
   have hd:∀ j∈[0,12],listed[j]? = some true:=by
    have hd0:=hdep _ rfl
    simp [Region.binds] at hd0
    simp [hd0]
   have f0:=h.t1
   have f1:=h.t3
   have f2:=h.tm (0,4,.map (some 224)) (by simp [mT]) (hd 0 (by simp))
   have f3:=h.tm (12,14,.func (.func 148) #[] #[.pointer (some ⟨320,0,none⟩),.pointer (some ⟨321,0,none⟩)]) (by simp [mT]) (hd 12 (by simp))
   obtain ⟨l,l1,l2,l3⟩:=h.mp (hd 0 (by simp))
   have hm:(13,⟨#[99,111,110,115,116,97,110,116]⟩,.func (.func 148) #[] #[.pointer (some ⟨320,0,none⟩),.pointer (some ⟨321,0,none⟩)])∈mI:=by simp [mI]
   have hn:=h.fresh hm hi l2
   refine gwo ?_;intro Q hQ;simp [hC,hY,f0,f1,f2,f3,l1,hn];apply hQ
   exact hk _ _ (h.ins hm (Array.getElem?_eq_some_iff.1 hi).1 l2 l3 hn (hd 0 (by simp)))
  ·-- 14 mv
   have f0:=h.t1
   have f1:=h.t3
   refine gwo ?_;intro Q hQ;simp [hC,hY,f0,f1];apply hQ
   exact hk _ _ (h.tmp (i:=14) (t:=15) (by simp [mT]) (by simp [mX]) (by omega))
  ·-- 15 fa
   have f0:=h.t1
   have f1:=h.t3
   refine gwo ?_;intro Q hQ;simp [hC,hY,f0,f1];apply hQ
   exact hk _ _ (h.tmp (i:=15) (t:=16) (by simp [mT]) (by simp [mX]) (by omega))
  ·-- 16 ld
   have hd:∀ j∈[15],listed[j]? = some true:=by
    have hd0:=hdep _ rfl
    simp [Region.binds] at hd0
    simp [hd0]
   have f0:=h.t1
   have f1:=h.t3
   have f2:=h.tm (15,16,.pointer (some ⟨200,2,none⟩)) (by simp [mT]) (hd 15 (by simp))
   have fc:=h.c
   unfold cfB at fc
   refine gwo ?_;intro Q hQ;simp [hC,hY,f0,f1,f2,fc];apply hQ
   exact hk _ _ (h.tmp (i:=16) (t:=17) (by simp [mT]) (by simp [mX]) (by omega))
  ·-- 17 call
   have hd:∀ j∈[14,16],listed[j]? = some true:=by
    have hd0:=hdep _ rfl
    simp [Region.binds] at hd0
    simp [hd0]
   have f0:=h.t1
   have f1:=h.t3
   have f2:=h.tm (14,15,.func (.func 147) #[] #[]) (by simp [mT]) (hd 14 (by simp))
   have f3:=h.tm (16,17,.int .i64 bx) (by simp [mT]) (hd 16 (by simp))
   refine zdv (f:=.tmp 15) (cap:=#[]) hC (zg4 360 (by omega) bx 1048576) rfl hi rfl (by simp [ntmps132]) rfl rfl (by simp [okT,f0,f1,f2,f3]) (by simp [gev,f0,f1,f2,f3]) (by simp) (by simp [okX,zcm,f0,f1,f2,f3]) (by simp [gev,f0,f1,f2,f3]) (by simp) (λq hq=>(h.low q hq).symm▸(by simp)) ?_ ?_
   ·intro v ns hV k hk
    have:=zdx hV k hk
    omega
   rintro v ns ⟨rfl,rfl⟩
   exact hk _ _ (h.call (i:=17) (t:=18) (by simp [mT]) (by omega) (by omega) (by simp [mX]))
  ·-- 18 ins
   have hd:∀ j∈[0,17],listed[j]? = some true:=by
    have hd0:=hdep _ rfl
    simp [Region.binds] at hd0
    simp [hd0]
   have f0:=h.t1
   have f1:=h.t3
   have f2:=h.tm (0,4,.map (some 224)) (by simp [mT]) (hd 0 (by simp))
   have f3:=h.tm (17,18,.func (.func 148) #[] #[.pointer (some ⟨360,0,none⟩),.pointer (some ⟨361,0,none⟩)]) (by simp [mT]) (hd 17 (by simp))
   obtain ⟨l,l1,l2,l3⟩:=h.mp (hd 0 (by simp))
   have hm:(18,⟨#[98,111,120]⟩,.func (.func 148) #[] #[.pointer (some ⟨360,0,none⟩),.pointer (some ⟨361,0,none⟩)])∈mI:=by simp [mI]
   have hn:=h.fresh hm hi l2
   refine gwo ?_;intro Q hQ;simp [hC,hY,f0,f1,f2,f3,l1,hn];apply hQ
   exact hk _ _ (h.ins hm (Array.getElem?_eq_some_iff.1 hi).1 l2 l3 hn (hd 0 (by simp)))
  ·-- 19 mv
   have f0:=h.t1
   have f1:=h.t3
   refine gwo ?_;intro Q hQ;simp [hC,hY,f0,f1];apply hQ
   exact hk _ _ (h.tmp (i:=19) (t:=19) (by simp [mT]) (by simp [mX]) (by omega))
  ·-- 20 fa
   have f0:=h.t1
   have f1:=h.t3
   refine gwo ?_;intro Q hQ;simp [hC,hY,f0,f1];apply hQ
   exact hk _ _ (h.tmp (i:=20) (t:=20) (by simp [mT]) (by simp [mX]) (by omega))
  ·-- 21 ld
   have hd:∀ j∈[20],listed[j]? = some true:=by
    have hd0:=hdep _ rfl
    simp [Region.binds] at hd0
    simp [hd0]
   have f0:=h.t1
   have f1:=h.t3
   have f2:=h.tm (20,20,.pointer (some ⟨200,3,none⟩)) (by simp [mT]) (hd 20 (by simp))
   have fc:=h.c
   unfold cfB at fc
   refine gwo ?_;intro Q hQ;simp [hC,hY,f0,f1,f2,fc];apply hQ
   exact hk _ _ (h.tmp (i:=21) (t:=21) (by simp [mT]) (by simp [mX]) (by omega))
  ·-- 22 call
   have hd:∀ j∈[19,21],listed[j]? = some true:=by
    have hd0:=hdep _ rfl
    simp [Region.binds] at hd0
    simp [hd0]
   have f0:=h.t1
   have f1:=h.t3
   have f2:=h.tm (19,19,.func (.func 147) #[] #[]) (by simp [mT]) (hd 19 (by simp))
   have f3:=h.tm (21,21,.int .i64 tp) (by simp [mT]) (hd 21 (by simp))
   refine zdv (f:=.tmp 19) (cap:=#[]) hC (zg4 400 (by omega) tp 65536) rfl hi rfl (by simp [ntmps132]) rfl rfl (by simp [okT,f0,f1,f2,f3]) (by simp [gev,f0,f1,f2,f3]) (by simp) (by simp [okX,zcm,f0,f1,f2,f3]) (by simp [gev,f0,f1,f2,f3]) (by simp) (λq hq=>(h.low q hq).symm▸(by simp)) ?_ ?_
   ·intro v ns hV k hk
    have:=zdx hV k hk
    omega
   rintro v ns ⟨rfl,rfl⟩
   exact hk _ _ (h.call (i:=22) (t:=22) (by simp [mT]) (by omega) (by omega) (by simp [mX]))
  ·-- 23 ins
   have hd:∀ j∈[0,22],listed[j]? = some true:=by
    have hd0:=hdep _ rfl
    simp [Region.binds] at hd0
    simp [hd0]
   have f0:=h.t1
   have f1:=h.t3
   have f2:=h.tm (0,4,.map (some 224)) (by simp [mT]) (hd 0 (by simp))
   have f3:=h.tm (22,22,.func (.func 148) #[] #[.pointer (some ⟨400,0,none⟩),.pointer (some ⟨401,0,none⟩)]) (by simp [mT]) (hd 22 (by simp))
   obtain ⟨l,l1,l2,l3⟩:=h.mp (hd 0 (by simp))
   have hm:(23,⟨#[116,111,112]⟩,.func (.func 148) #[] #[.pointer (some ⟨400,0,none⟩),.pointer (some ⟨401,0,none⟩)])∈mI:=by simp [mI]
   have hn:=h.fresh hm hi l2
   refine gwo ?_;intro Q hQ;simp [hC,hY,f0,f1,f2,f3,l1,hn];apply hQ
   exact hk _ _ (h.ins hm (Array.getElem?_eq_some_iff.1 hi).1 l2 l3 hn (hd 0 (by simp)))
  ·-- 24 mv
   have f0:=h.t1
   have f1:=h.t3
   refine gwo ?_;intro Q hQ;simp [hC,hY,f0,f1];apply hQ
   exact hk _ _ (h.tmp (i:=24) (t:=23) (by simp [mT]) (by simp [mX]) (by omega))
  ·-- 25 fa
   have f0:=h.t1
   have f1:=h.t3
   refine gwo ?_;intro Q hQ;simp [hC,hY,f0,f1];apply hQ
   exact hk _ _ (h.tmp (i:=25) (t:=24) (by simp [mT]) (by simp [mX]) (by omega))
  ·-- 26 ld
   have hd:∀ j∈[25],listed[j]? = some true:=by
    have hd0:=hdep _ rfl
    simp [Region.binds] at hd0
    simp [hd0]
   have f0:=h.t1
   have f1:=h.t3
   have f2:=h.tm (25,24,.pointer (some ⟨200,4,none⟩)) (by simp [mT]) (hd 25 (by simp))
   have fc:=h.c
   unfold cfB at fc
   refine gwo ?_;intro Q hQ;simp [hC,hY,f0,f1,f2,fc];apply hQ
   exact hk _ _ (h.tmp (i:=26) (t:=25) (by simp [mT]) (by simp [mX]) (by omega))
  ·-- 27 fa
   have f0:=h.t1
   have f1:=h.t3
   refine gwo ?_;intro Q hQ;simp [hC,hY,f0,f1];apply hQ
   exact hk _ _ (h.tmp (i:=27) (t:=26) (by simp [mT]) (by simp [mX]) (by omega))
  ·-- 28 ld
   have hd:∀ j∈[27],listed[j]? = some true:=by
    have hd0:=hdep _ rfl
    simp [Region.binds] at hd0
    simp [hd0]
   have f0:=h.t1
   have f1:=h.t3
   have f2:=h.tm (27,26,.pointer (some ⟨200,2,none⟩)) (by simp [mT]) (hd 27 (by simp))
   have fc:=h.c
   unfold cfB at fc
   refine gwo ?_;intro Q hQ;simp [hC,hY,f0,f1,f2,fc];apply hQ
   exact hk _ _ (h.tmp (i:=28) (t:=27) (by simp [mT]) (by simp [mX]) (by omega))
  ·-- 29 mul
   have hd:∀ j∈[28],listed[j]? = some true:=by
    have hd0:=hdep _ rfl
    simp [Region.binds] at hd0
    simp [hd0]
   have f0:=h.t1
   have f1:=h.t3
   have f2:=h.tm (28,27,.int .i64 bx) (by simp [mT]) (hd 28 (by simp))
   refine gwo ?_;intro Q hQ;simp [hC,hY,f0,f1,f2];apply hQ
   exact hk _ _ (h.tmp (i:=29) (t:=28) (by simp [mT]) (by simp [mX]) (by omega))
  ·-- 30 call
   have hd:∀ j∈[24,26,29],listed[j]? = some true:=by
    have hd0:=hdep _ rfl
    simp [Region.binds] at hd0
    simp [hd0]
   have f0:=h.t1
   have f1:=h.t3
   have f2:=h.tm (24,23,.func (.func 147) #[] #[]) (by simp [mT]) (hd 24 (by simp))
   have f3:=h.tm (26,25,.int .i64 nr) (by simp [mT]) (hd 26 (by simp))
   have f4:=h.tm (29,28,.int .i64 (Int.bmod (2*bx) 18446744073709551616)) (by simp [mT]) (hd 29 (by simp))
   refine zdv (f:=.tmp 23) (cap:=#[]) hC (zg4 464 (by omega) nr (Int.bmod (2*bx) 18446744073709551616)) rfl hi rfl (by simp [ntmps132]) rfl rfl (by simp [okT,f0,f1,f2,f3,f4]) (by simp [gev,f0,f1,f2,f3,f4]) (by simp) (by simp [okX,zcm,f0,f1,f2,f3,f4]) (by simp [gev,f0,f1,f2,f3,f4]) (by simp) (λq hq=>(h.low q hq).symm▸(by simp)) ?_ ?_
   ·intro v ns hV k hk
    have:=zdx hV k hk
    omega
   rintro v ns ⟨rfl,rfl⟩
   exact hk _ _ (h.call (i:=30) (t:=29) (by simp [mT]) (by omega) (by omega) (by simp [mX]))
  ·-- 31 ins
   have hd:∀ j∈[0,30],listed[j]? = some true:=by
    have hd0:=hdep _ rfl
    simp [Region.binds] at hd0
    simp [hd0]
   have f0:=h.t1
   have f1:=h.t3
   have f2:=h.tm (0,4,.map (some 224)) (by simp [mT]) (hd 0 (by simp))
   have f3:=h.tm (30,29,.func (.func 148) #[] #[.pointer (some ⟨464,0,none⟩),.pointer (some ⟨465,0,none⟩)]) (by simp [mT]) (hd 30 (by simp))
   obtain ⟨l,l1,l2,l3⟩:=h.mp (hd 0 (by simp))
   have hm:(31,⟨#[110,101,97,114]⟩,.func (.func 148) #[] #[.pointer (some ⟨464,0,none⟩),.pointer (some ⟨465,0,none⟩)])∈mI:=by simp [mI]
   have hn:=h.fresh hm hi l2
   refine gwo ?_;intro Q hQ;simp [hC,hY,f0,f1,f2,f3,l1,hn];apply hQ
   exact hk _ _ (h.ins hm (Array.getElem?_eq_some_iff.1 hi).1 l2 l3 hn (hd 0 (by simp)))
  ·-- 32 mk
   have f0:=h.t1
   have f1:=h.t3
   refine gwo ?_;intro Q hQ;simp [hC,hY,f0,f1];apply hQ
   exact hk _ _ (h.tmp (i:=32) (t:=30) (by simp [mT]) (by simp [mX]) (by omega))
  ·-- 33 ins
   have hd:∀ j∈[0,32],listed[j]? = some true:=by
    have hd0:=hdep _ rfl
    simp [Region.binds] at hd0
    simp [hd0]
   have f0:=h.t1
   have f1:=h.t3
   have f2:=h.tm (0,4,.map (some 224)) (by simp [mT]) (hd 0 (by simp))
   have f3:=h.tm (32,30,.func (.func 153) #[] #[.pointer (some ⟨200,0,none⟩)]) (by simp [mT]) (hd 32 (by simp))
   obtain ⟨l,l1,l2,l3⟩:=h.mp (hd 0 (by simp))
   have hm:(33,⟨#[109,101,116,104,111,100]⟩,.func (.func 153) #[] #[.pointer (some ⟨200,0,none⟩)])∈mI:=by simp [mI]
   have hn:=h.fresh hm hi l2
   refine gwo ?_;intro Q hQ;simp [hC,hY,f0,f1,f2,f3,l1,hn];apply hQ
   exact hk _ _ (h.ins hm (Array.getElem?_eq_some_iff.1 hi).1 l2 l3 hn (hd 0 (by simp)))
  ·-- 34 mv
   have hd:∀ j∈[0],listed[j]? = some true:=by
    have hd0:=hdep _ rfl
    simp [Region.binds] at hd0
    simp [hd0]
   have f0:=h.t1
   have f1:=h.t3
   have f2:=h.tm (0,4,.map (some 224)) (by simp [mT]) (hd 0 (by simp))
   refine gwo ?_;intro Q hQ;simp [hC,hY,f0,f1,f2];apply hQ
   exact hk _ _ (h.tmp (i:=34) (t:=31) (by simp [mT]) (by simp [mX]) (by omega))
  ·-- 35 asg
   have hd:∀ j∈[34],listed[j]? = some true:=by
    have hd0:=hdep _ rfl
    simp [Region.binds] at hd0
    simp [hd0]
   have f0:=h.t1
   have f1:=h.t3
   have f2:=h.tm (34,31,.map (some 224)) (by simp [mT]) (hd 34 (by simp))
   refine gwo ?_;intro Q hQ;simp [hC,hY,f0,f1,f2];apply hQ
   exact hk _ _ (h.tmp (i:=35) (t:=2) (by simp [mT]) (by simp [mX]) (by omega))
 ·have hno:∀ j,(Array.replicate 36 false)[j]?≠some true:=λj=>by
   rw [Array.getElem?_replicate]
   split<;>simp
  exact ⟨by simp,by simp,λp hp hl=>absurd hl (hno _),λk hk=>by rw [zab _ _ (by omega)];exact zbc (by simp) hk,by simp,by simp [cfB,hsl],λq hq hl=>absurd hl (hno _),λhl=>absurd hl (hno _),λq hq hl=>absurd hl (hno _)⟩
theorem zpj {nk:Nat} {g bx tp nr md:Int} {v:Value} {ns:List (Nat×Blk)} (h:RR (mQ nk) (zhq 1000 (.slice none 0 0) 0 g bx tp nr md) v ns):zhq nk (.slice none 0 0) 0 g bx tp nr md v ns:=by
 obtain ⟨v0,ns0,⟨l,rfl,rfl,hl,hf⟩,rfl,rfl⟩:=h
 have e:=zpf nk
 have e0:=e 0 (by omega)
 have e1:=e 1 (by omega)
 have e2:=e 2 (by omega)
 have e3:=e 3 (by omega)
 have e4:=e 4 (by omega)
 have e5:=e 5 (by omega)
 have e6:=e 6 (by omega)
 have e7:=e 7 (by omega)
 have e8:=e 8 (by omega)
 have e9:=e 9 (by omega)
 have e10:=e 10 (by omega)
 have e11:=e 11 (by omega)
 simp only [Nat.reduceAdd,Nat.add_zero] at e0 e1 e2 e3 e4 e5 e6 e7 e8 e9 e10 e11
 have h100:=zl1 nk 100 (by omega)
 have hmv:∀ q∈mV 1000,(q.1,zak (mQ nk) q.2)∈mV nk:=by
  simp [mV,zak,zan,e1,e2,e3,e4,e5,e6,e7,e8,e9,e10,e11]
 have hvm:∀ q∈mV nk,∃ p∈mV 1000,p.1=q.1/\zak (mQ nk) p.2=q.2:=by
  simp [mV,zak,zan,e1,e2,e3,e4,e5,e6,e7,e8,e9,e10,e11]
 refine ⟨l.map λp=>(p.1,zak (mQ nk) p.2),by simp [ren,zay,zak,zan,e0],?_,λp hp=>?_,λq hq=>?_⟩
 ·have hc:(cfB (.slice none 0 0) g bx tp nr md).rn (mQ nk)=cfB (.slice none 0 0) g bx tp nr md:=by simp [cfB,Blk.rn,zak,zan,h100]
  simp only [rnL,mNs,List.map_cons,List.map_nil,ztc,zb0,hc,Nat.reduceAdd,e0,e1,e2,e3,e4,e5,e6,e7,e8,e9,e10,e11]
 ·obtain ⟨p0,hp0,rfl⟩:=List.mem_map.1 hp
  exact hmv _ (hl _ hp0)
 ·obtain ⟨p,hp,h1,h2⟩:=hvm q hq
  rw [zf0,<-h1,hf p hp,<-h2]
  rfl
theorem zy8 (nk:Nat) (hnk:200<=nk) (b:Blk) (hb:b.fx) (g bx tp nr md:Int) :
  FunS prog G0 132 #[cfV (.slice none 0 0) g bx tp nr md] (hpL G0 [(100,b)]) [100] (RR (mQ nk) (zhq 1000 (.slice none 0 0) 0 g bx tp nr md)):=by
 have hr:=λρ=>Blk.fx_rn hb ρ
 have h100:=zl1 nk 100 (by omega)
 refine (zvu b hb g bx tp nr md).mvL G0F (zao hb) (mQ nk) (λk hk=>zl1 nk k (by omega)) (by simp [cfV,ren,zay,zak,zan,h100]) (by simp [zaa,h100]) rfl (zao hb).low (by simp [h100,hr]) (by simp [zaa]) (λv ns hV k hk=>?_) (λv ns hV k hk l hl e=>?_)
 ·have h1:=zdg hV k hk
  obtain ⟨j,hj,rfl⟩:∃ j,j<12/\k=1000+j:=⟨k - 1000,by omega,by omega⟩
  rw [zpf nk j hj]
  simp
  omega
 ·have h1:=zdg hV k hk
  have h2:=zdg hV l hl
  obtain ⟨j,hj,rfl⟩:∃ j,j<12/\k=1000+j:=⟨k - 1000,by omega,by omega⟩
  obtain ⟨i,hi,rfl⟩:∃ j,j<12/\l=1000+j:=⟨l - 1000,by omega,by omega⟩
  rw [zpf nk j hj,zpf nk i hi] at e
  omega
theorem z5q (b:Blk) (hb:b.fx) (g bx tp nr md:Int) :
  Fun prog G0 110 #[cfV (.slice none 0 0) g bx tp nr md] (hpL G0 [(100,b)]) (zaa [(100,b)]) (.ret (.string (⟨#[98,111,100,105,101,115]⟩)) []):=by
 refine zar (B:=200) G0F func110 rfl call110 (zao hb) ?_ (by simp) (by simp) (by simp) (by simp [ntmps110]) (by omega) ?_
 ·simp [zap,zax,zah,zaj,zaa,cfV]
 intro C hC hC0 hY
 have hr:=λρ=>Blk.fx_rn hb ρ
 unfold cfV
 repeat' first|refine gwZ ?_|refine gwW ?_|fail
 refine zc3 ?_
 simp only [Array.toList]
 refine gwl 1 ?_;intro Q hQ;simp [hC,hY];apply hQ
 simp only [wT,wM,Nat.reduceAdd]
 refine zsb 8 (f:=.func 132) (cap:=#[]) hC (zy8 224 (by omega) b hb g bx tp nr md) rfl (by simp) rfl rfl (by simp [okT]) (by simp [gev]) (by simp) (by simp [okX,zcm]) (by simp [gev,cfV]) (by simp) (by (intro k hk;first|rfl|(simp (disch:=omega) only [zb3,List.mem_cons,List.not_mem_nil,or_false,zab,zaq,zaw,if_neg,zbi]<;>done))) (λv ns hV k hk=>by have:=zdg (zpj hV) k hk;omega) ?_
 intro v ns hV
 obtain ⟨l,rfl,rfl,_,hf⟩:=zpj hV
 refine gwl 1 ?_;intro Q hQ;simp [hC,hY,zcx,zbi,mNs];apply hQ
 simp only [wT,wM,Nat.reduceAdd]
 refine zdc ?_
 have f0:zc4 ⟨#[98,111,100,105,101,115]⟩ l=some (.func (.func 148) #[] #[.pointer (some ⟨226,0,none⟩),.pointer (some ⟨227,0,none⟩)]):=hf (⟨#[98,111,100,105,101,115]⟩,_) (by simp [mV])
 have c0:wiB 0 1 4=false:=by decide +kernel
 repeat' first|refine zal ?_|refine zat ?_|refine gwZ ?_|((first|refine gwR [148,150,153] ?_|refine gwD [148,150,153] ?_);intro Q hQ _;(repeat first|simp [hC,hY,f0,c0,cnB]|(refine zae (zby 0 4) G0F (B:=200) ⟨by simp,by simp [zaa],by simp [jb,zad,zah,zaj]⟩ (λk=>if k=100 then 226 else if k=108 then 227 else k) (λk hk=>(if_neg (by omega)).trans (if_neg (by omega))) ?_ (by simp) (by simp [zb0]) (by simp [zaa]) (by simp [zaa];rfl) ?_;focus (simp [ren,zay,zak,zan];done)));refine gwq hQ ?_)|fail
 refine ⟨.inr rfl,by simp [results110],kpS G0F⟩
def zym:Value->Bool
 | .string _=>true
 | _=>false
def jd4:Value->ByteArray
 | .string s=>s
 | _=>⟨#[]⟩
def jd1 (a b:ByteArray):Bool:=!(a.toList==b.toList)
@[simp] theorem jm0 (s:ByteArray):zym (.string s)=true:=rfl
@[simp] theorem jij (s:ByteArray):jd4 (.string s)=s:=rfl
theorem zs0 {v:Value} (h:zym v=true):v=.string (jd4 v):=by
 unfold zym at h
 split at h
 ·rfl
 ·cases h
@[simp] theorem jjd (P:Program) (op:BinOp) (T:TypeId) (a b:ByteArray):zoe P op T (.string a) (.string b)=none:=by cases op<;>rfl
@[simp] theorem jcl {dst:Option Tmp} {x y:Operand} {T:TypeId} {ps:String} {af:Array Edge} {g:Option (Nat×Bool)} {ts:Nat->Value} {hp:Hp} {C:Eff->Prop} (h:zym (gev ts x)=true) (h2:zym (gev ts y)=true) (hx:okX ts hp x) (hy:okX ts hp y) :
  z8p prog none ⟨dst,.binOp .neq 9 x y 9,T,ps,af,g⟩ ts hp C↔C (val (.bool (jd1 (jd4 (gev ts x)) (jd4 (gev ts y)))) []):=by
 have e1:=zs0 h
 have e2:=zs0 h2
 refine zkp (K:=λv=>C (val v [])) ?_ rfl λW=>?_
 ·intro z hz
  simp [Op.operands] at hz
  rcases hz with rfl|rfl
  ·exact ⟨hx,by rw [e1];rfl⟩
  ·exact ⟨hy,by rw [e2];rfl⟩
 ·generalize jd4 (gev ts x)=a at e1 |-
  generalize jd4 (gev ts y)=b at e2 |-
  have hg:(eqGuard .neq 9 x y (.string a) (.string b)).run prog W=.ok () W:=by unfold eqGuard;split<;>rfl
  simp only [execOp,e1,e2,Sem.run_bind,hg,Result.andThen_ok,binOp,Op.stringOp,Sem.run_pure,jij]
  simp [jd1]
theorem zt0 (n:Nat) (f:Nat->Int) (g bx tp nr md:Int):jd1 (zfq n f g bx tp nr md) ⟨#[]⟩=!(zdr n f g bx tp nr md):=by
 unfold zfq zdr jd1
 rcases Bool.eq_false_or_eq_true (wiB n 1 4) with c|c<;>simp only [c,Bool.false_and,Bool.true_and,if_true,Bool.true_eq_false,if_false,Bool.not_false]<;>try decide +kernel
 rcases Bool.eq_false_or_eq_true (zp8 f n) with c|c<;>simp only [c,Bool.false_and,Bool.true_and,if_true,Bool.true_eq_false,if_false,Bool.not_false]<;>try decide +kernel
 rcases Bool.eq_false_or_eq_true (wiB g 1 1048576) with c|c<;>simp only [c,Bool.false_and,Bool.true_and,if_true,Bool.true_eq_false,if_false,Bool.not_false]<;>try decide +kernel
 rcases Bool.eq_false_or_eq_true (wiB bx 1 1048576) with c|c<;>simp only [c,Bool.false_and,Bool.true_and,if_true,Bool.true_eq_false,if_false,Bool.not_false]<;>try decide +kernel
 rcases Bool.eq_false_or_eq_true (wiB tp 1 65536) with c|c<;>simp only [c,Bool.false_and,Bool.true_and,if_true,Bool.true_eq_false,if_false,Bool.not_false]<;>try decide +kernel
 rcases Bool.eq_false_or_eq_true (wiB nr 1 (Int.bmod (2*bx) 18446744073709551616)) with c|c<;>simp only [c,Bool.false_and,Bool.true_and,if_true,Bool.true_eq_false,if_false,Bool.not_false]<;>try decide +kernel
 rcases Bool.eq_false_or_eq_true (wiB md 0 4) with c|c<;>simp only [c,Bool.false_and,Bool.true_and,if_true,Bool.true_eq_false,if_false,Bool.not_false]<;>try decide +kernel
theorem zj6 (b:Blk) (off n cap:Nat) (f:Nat->Int) (h:MB b off n f) (g bx tp nr md:Int) :
  Fun prog G0 83 #[cfV (.slice (some ⟨100,off,none⟩) n cap) g bx tp nr md] (hpL G0 [(100,b)]) (zaa [(100,b)]) (.ret (.int .i64 (if zdr n f g bx tp nr md=true then 0 else 110)) []):=by
 refine zar (B:=200) G0F func83 rfl call83 (zao h.fx) ?_ (by simp) (by simp) (by simp) (by simp [ntmps83]) (by omega) ?_
 ·simp [zap,zax,zah,zaj,zaa,cfV]
 intro C hC hC0 hY
 have hr:=λρ=>Blk.fx_rn h.fx ρ
 have hne:=zt0 n f g bx tp nr md
 cases hc:zdr n f g bx tp nr md with
 | true =>
  rw [hc] at hne
  unfold cfV
  repeat' first|refine gwZ ?_|((first|refine gwR [110] ?_|refine gwD [110] ?_);intro Q hQ _;(repeat first|simp [hC,hY,hne]|refine zae (z06 b off n cap f h g bx tp nr md) G0F (B:=200) (zao h.fx) (λk=>k) (λk hk=>rfl) (by simp [ren,zay,zak,zan,cfV]) (by simp) (by simp [hr]) (by simp [zaa]) (by simp [zaa];rfl) ?_);refine gwq hQ ?_)|fail
  refine ⟨.inr rfl,by simp [results83],kpS G0F⟩
 | false =>
  rw [hc] at hne
  unfold cfV
  repeat' first|refine gwZ ?_|((first|refine gwR [110] ?_|refine gwD [110] ?_);intro Q hQ _;(repeat first|simp [hC,hY,hne]|refine zae (z06 b off n cap f h g bx tp nr md) G0F (B:=200) (zao h.fx) (λk=>k) (λk hk=>rfl) (by simp [ren,zay,zak,zan,cfV]) (by simp) (by simp [hr]) (by simp [zaa]) (by simp [zaa];rfl) ?_);refine gwq hQ ?_)|fail
  refine ⟨.inr rfl,by simp [results83],kpS G0F⟩
theorem zig (b:Blk) (hb:b.fx) (g bx tp nr md:Int) :
  Fun prog G0 83 #[cfV (.slice none 0 0) g bx tp nr md] (hpL G0 [(100,b)]) (zaa [(100,b)]) (.ret (.int .i64 110) []):=by
 refine zar (B:=200) G0F func83 rfl call83 (zao hb) ?_ (by simp) (by simp) (by simp) (by simp [ntmps83]) (by omega) ?_
 ·simp [zap,zax,zah,zaj,zaa,cfV]
 intro C hC hC0 hY
 have hr:=λρ=>Blk.fx_rn hb ρ
 have hne:jd1 ⟨#[98,111,100,105,101,115]⟩ ⟨#[]⟩=true:=by decide +kernel
 unfold cfV
 repeat' first|refine gwZ ?_|((first|refine gwR [110] ?_|refine gwD [110] ?_);intro Q hQ _;(repeat first|simp [hC,hY,hne]|refine zae (z5q b hb g bx tp nr md) G0F (B:=200) (zao hb) (λk=>k) (λk hk=>rfl) (by simp [ren,zay,zak,zan,cfV]) (by simp) (by simp [hr]) (by simp [zaa]) (by simp [zaa];rfl) ?_);refine gwq hQ ?_)|fail
 refine ⟨.inr rfl,by simp [results83],kpS G0F⟩
end Go.Gy
namespace Go.Gy
open Go Go.RowKit
structure TI (N:List (Nat×Nat)) (V:Nat->Value) (X:List (Nat×Nat)) (Bk:Nat->Blk) (ts0:Nat->Value) (hp0:Hp) (listed:Array Bool) (ts:Nat->Value) (hp:Hp):Prop where
 t0:∀ t,t∉N.map Prod.snd->ts t=ts0 t
 tm:∀ p∈N,listed[p.1]? = some true->ts p.2=V p.1
 h0:∀ k,k∉X.map Prod.snd->hp k=hp0 k
 bx:∀ q∈X,listed[q.1]? = some true->hp q.2=some (Bk q.1)
section
variable {N X:List (Nat×Nat)} {V:Nat->Value} {Bk:Nat->Blk} {ts0 ts:Nat->Value} {hp0 hp:Hp} {listed:Array Bool}
end
section
variable {P:Program} {C:Ctx} {n:Nat} {d:List Deferred} {ro:Option Nat} {K:Exit->GS->Prop}
end
structure TJ (N X D:List (Nat×Nat)) (V:Nat->Value) (Bk:Nat->Blk) (ts0:Nat->Value) (hp0:Hp) (listed:Array Bool) (ts:Nat->Value) (hp:Hp):Prop where
 t0:∀ t,t∉N.map Prod.snd->ts t=ts0 t
 tm:∀ p∈N,listed[p.1]? = some true->ts p.2=V p.1
 h0:∀ k,(∀ q∈X,q.2=k->listed[q.1]?≠some true)->hp k=hp0 k
 bx:∀ q∈X,listed[q.1]? = some true->(∀ q'∈X,q'.2=q.2->q.1<q'.1->listed[q'.1]?≠some true)->hp q.2=some (Bk q.1)
 cl:∀ p∈D,listed[p.1]? = some true->listed[p.2]? = some true
theorem zd2 {listed:Array Bool} {i j:Nat} (hi:listed[i]? = some false):(listed.setIfInBounds i true)[j]? = some true↔j=i\/listed[j]? = some true:=by
 rw [Array.getElem?_setIfInBounds]
 have:=(Array.getElem?_eq_some_iff.1 hi).1
 split
 ·rename_i e
  subst e
  simp [this]
 ·rename_i e
  exact ⟨.inr,λh=>h.resolve_left λx=>e x.symm⟩
section
variable {N X D:List (Nat×Nat)} {V:Nat->Value} {Bk:Nat->Blk} {ts0 ts:Nat->Value} {hp0 hp:Hp} {listed:Array Bool}
theorem TJ.ext (h:TJ N X D V Bk ts0 hp0 listed ts hp) {k:Nat} (hk:k∉X.map Prod.snd):hp k=hp0 k:=h.h0 k λq hq e=>absurd (List.mem_map.2 ⟨q,hq,e⟩) hk
theorem TJ.cls (h:TJ N X D V Bk ts0 hp0 listed ts hp) {i:Nat} (hi:listed[i]? = some false) (hd:∀ p∈D,p.1=i->listed[p.2]? = some true):∀ p∈D,(listed.setIfInBounds i true)[p.1]? = some true->(listed.setIfInBounds i true)[p.2]? = some true:=λp hp1 hl =>
 (zd2 hi).2 (.inr (((zd2 hi).1 hl).elim (hd p hp1) (h.cl p hp1)))
theorem TJ.none (h:TJ N X D V Bk ts0 hp0 listed ts hp) {i:Nat} (hi:listed[i]? = some false) (hd:∀ p∈D,p.1=i->listed[p.2]? = some true) (hn:i∉N.map Prod.fst) (hx:i∉X.map Prod.fst):TJ N X D V Bk ts0 hp0 (listed.setIfInBounds i true) ts hp:=by
 refine ⟨h.t0,λp hp1 hl=>?_,λk hk=>h.h0 k λq hq e hl=>hk q hq e ((zd2 hi).2 (.inr hl)),λq hq hl hl2=>?_,h.cls hi hd⟩
 ·rcases (zd2 hi).1 hl with e1|h1
  ·exact absurd (List.mem_map.2 ⟨p,hp1,e1⟩) hn
  ·exact h.tm p hp1 h1
 ·rcases (zd2 hi).1 hl with e1|h1
  ·exact absurd (List.mem_map.2 ⟨q,hq,e1⟩) hx
  ·exact h.bx q hq h1 λq' hq' e hlt hl'=>hl2 q' hq' e hlt ((zd2 hi).2 (.inr hl'))
end
structure LTwo (G:Hp) (L:List (Nat×Blk)) (ks:Nat) (b b2:Blk):Prop where
 ok:LOk L 200
 fx:∀ p∈L,p.2.fx
 ka:(100,b)∈L
 kb:(ks,b2)∈L
 k8:ks=100\/ks=108
section
variable {G:Hp} {L:List (Nat×Blk)} {ks:Nat} {b b2:Blk}
theorem LTwo.mem (h:LTwo G L ks b b2) (p:Nat×Blk) (hp:p∈L):hpL G L p.1=some p.2:=LOk.at h.ok.one p hp
theorem LTwo.a (h:LTwo G L ks b b2):hpL G L 100=some b:=h.mem _ h.ka
theorem LTwo.s (h:LTwo G L ks b b2):hpL G L ks=some b2:=h.mem _ h.kb
theorem LTwo.k1 (h:LTwo G L ks b b2):100<=ks:=(h.ok.big _ h.kb).1
theorem LTwo.k2 (h:LTwo G L ks b b2):ks<200:=(h.ok.big _ h.kb).2
theorem LTwo.ne (h:LTwo G L ks b b2) (k:Nat) (hk:200<=k):(ks=k)=False:=by
 have:=h.k2
 simp only [eq_iff_iff,iff_false]
 omega
theorem LTwo.low (h:LTwo G L ks b b2) (k:Nat) (hk:k<100):hpL G L k=G k:=h.ok.low k hk
theorem LTwo.ia (h:LTwo G L ks b b2):100∈zaa L:=zag.2 ⟨_,h.ka,rfl⟩
theorem LTwo.ib (h:LTwo G L ks b b2):ks∈zaa L:=zag.2 ⟨_,h.kb,rfl⟩
theorem LTwo.two {b b2:Blk} (h:b.fx) (h2:b2.fx):LTwo G [(100,b),(108,b2)] 108 b b2:=by
 refine ⟨⟨by simp,by simp [zaa],?_⟩,?_,by simp,by simp,.inr rfl⟩
 ·simp only [List.mem_cons,List.not_mem_nil,or_false,forall_eq_or_imp,forall_eq]
  exact ⟨Blk.fx_ids h _,Blk.fx_ids h2 _⟩
 ·simp only [List.mem_cons,List.not_mem_nil,or_false,forall_eq_or_imp,forall_eq]
  exact ⟨h,h2⟩
theorem LTwo.one {b:Blk} (h:b.fx):LTwo G [(100,b)] 100 b b:=by
 refine ⟨⟨by simp,by simp [zaa],?_⟩,?_,by simp,by simp,.inl rfl⟩
 ·simp only [List.mem_cons,List.not_mem_nil,or_false,forall_eq]
  exact Blk.fx_ids h _
 ·simp only [List.mem_cons,List.not_mem_nil,or_false,forall_eq]
  exact h
end
theorem zg6 {C:Ctx} {G:Hp} {s:GS} {m L:List (Nat×Blk)} (l:List (Nat×Value)) (B:Nat) (hG:C.G=G) (hGF:zbo G) (hL:LOk L 200) (hfx:∀ p∈L,p.2.fx) (h0:C.hp0=hpL G L) (hB:200<=B) (hl:∀ p∈l,s.ts p.1=p.2/\zap (dom (hpL G (m++L))) p.2)
  (hm:∀ p∈m,s.hp p.1=some p.2/\p.2.ids (dom (hpL G (m++L)))/\200<=p.1/\p.1<B) (hk:∀ p∈L,s.hp p.1=some p.2):Weak C s ⟨tsL l,hpL G (m++L),B,s.yc⟩:=by
 refine za3 l B hG hGF h0 (by omega) hl (λp hp=>?_) (λp hp=>?_)
 ·rcases List.mem_append.1 hp with h|h
  ·have:=hm p h
   exact ⟨this.1,this.2.1,by omega,this.2.2.2⟩
  ·have:=hL.big p h
   exact ⟨hk p h,Blk.fx_ids (hfx p h) _,this.1,by omega⟩
 ·have hb:=hL.big p hp
  refine ⟨hb.1,?_⟩
  rw [hk p hp]
  have key:∀ (m:List (Nat×Blk)),(∀ q∈m,200<=q.1)->hpL G (m++L) p.1=some p.2:=by
   intro m
   induction m with
   | nil=>intro _;exact LOk.at hL.one p hp
   | cons q m ih =>
    intro hq
    obtain ⟨k,c⟩:=q
    rw [List.cons_append,zaq]
    have:=hq (k,c) (by simp)
    simp only at this
    rw [if_neg (by omega)]
    exact ih λq h=>hq q (List.mem_cons_of_mem _ h)
  exact key m λq hq=>(hm q hq).2.2.1
theorem za7 {P:Program} {G:Hp} {L:List (Nat×Blk)} {f:FuncId} {args:Array Value} {v:Value} {hp:Hp} {nk:Nat} {K:Eff->Prop} (h:Fun P G f args (hpL G L) (zaa L) (.ret v [])) (hL:LOk L 200) (hm:∀ p∈L,hp p.1=some p.2) (hK:K ((Res.ret v []).eff (zaa L))):zik P G f args hp nk K:=by
 refine zcl h (λk hk=>?_) hL.low trivial hK
 obtain ⟨p,hp1,rfl⟩:=zag.1 hk
 rw [LOk.at hL.one p hp1,hm p hp1]
theorem zii {G:Hp} {m L:List (Nat×Blk)} {k:Nat} (h:k∈zaa L):dom (hpL G (m++L)) k:=by
 induction m with
 | nil =>
  obtain ⟨p,hp,rfl⟩:=zag.1 h
  rw [List.nil_append]
  unfold dom
  induction L with
  | nil=>cases hp
  | cons q L ih =>
   obtain ⟨k,c⟩:=q
   rw [zaq]
   by_cases e:p.1=k
   ·rw [if_pos e];simp
   ·rw [if_neg e]
    refine ih ?_ ?_
    ·rcases List.mem_cons.1 hp with e1|h1
     ·exact absurd (congrArg Prod.fst e1) e
     ·exact h1
    ·rcases List.mem_cons.1 hp with e1|h1
     ·exact absurd (congrArg Prod.fst e1) e
     ·exact zag.2 ⟨p,h1,rfl⟩
 | cons q m ih =>
  obtain ⟨j,c⟩:=q
  unfold dom
  rw [List.cons_append,zaq]
  split
  ·simp
  ·exact ih
end Go.Gy
namespace Go.Gy
open Go Go.RowKit Go.Proofs Go.Proofs.Tryz
def zqa (n n2:Nat) (okc rt:Bool):Bool:=decide (n=n2)&&(okc&&rt)
theorem zki (L:List (Nat×Blk)) (ks:Nat) (bm bs:Blk) (hT:LTwo G0 L ks bm bs) (off n cap off2 n2 cap2:Nat) (fm fs:Nat->Int) (hm:MB bm off n fm) (hSb:SB bs off2 n2 fs) (g bx tp nr md st:Int) (hs:i64 st) :
  Fun prog G0 94 #[cfV (.slice (some ⟨100,off,none⟩) n cap) g bx tp nr md,.agg #[.int .i64 st,.slice (some ⟨ks,off2,none⟩) n2 cap2]] (hpL G0 L) (zaa L) (.ret (.bool (zqa n n2 (zdr n fm g bx tp nr md) (zbl st fs n2))) []):=by
 refine zar (B:=200) G0F func94 rfl call94 hT.ok ?_ (by simp) (by simp) (by simp) (by simp [ntmps94]) (by omega) ?_
 ·simp [zap,zax,zah,zaj,hT.ia,hT.ib,cfV]
 intro C hC hC0 hY
 have hA:=hT.a
 have hS:=hT.s
 have hne:=hT.ne
 have hLow:=hT.low
 have hks:=hT.k1
 have hks2:=hT.k2
 have hrm:=λρ=>Blk.fx_rn hm.fx ρ
 have hrs:=λρ=>Blk.fx_rn hSb.fx ρ
 have hck:=zj6 bm off n cap fm hm g bx tp nr md
 have hri:=jbl bs off2 n2 cap2 fs hSb st hs
 unfold zqa
 unfold cfV at hck |-
 by_cases hn:n=n2
 ·have hn':(n:Int)=(n2:Int):=by omega
  have hnb:((n:Int)==(n2:Int))=true:=by simpa using hn'
  rw [decide_eq_true hn]
  cases hc:zdr n fm g bx tp nr md with
  | false =>
   rw [hc] at hck
   repeat' first|refine gwZ ?_|((first|refine gwR [83,118] ?_|refine gwD [83,118] ?_);intro Q hQ _;(repeat first|simp [hC,hY,hA,hS,hne,hn',hnb]|refine zae hck G0F (B:=200) (zao hm.fx) (λk=>k) (λk hk=>rfl) (by simp [ren,zay,zak,zan,cfV]) (by simp) (by simp [hrm,hA]) (by simp [zaa]) (by simp [zaa];rfl) ?_);refine gwq hQ ?_)|fail
   refine ⟨.inr rfl,by simp [results94],kpT G0F⟩
  | true =>
   rw [hc] at hck
   repeat' first|refine gwZ ?_|((first|refine gwR [83,118] ?_|refine gwD [83,118] ?_);intro Q hQ _;(repeat first|simp [hC,hY,hA,hS,hne,hn',hnb]|refine zae hck G0F (B:=200) (zao hm.fx) (λk=>k) (λk hk=>rfl) (by simp [ren,zay,zak,zan,cfV]) (by simp) (by simp [hrm,hA]) (by simp [zaa]) (by simp [zaa];rfl) ?_|refine zae hri G0F (B:=200) (zao hSb.fx) (λk=>if k=100 then ks else k) (λk hk=>if_neg (by omega)) (by simp [ren,zay,zak,zan]) (by simp) (by simp [hrs,hS,hne,hks]) (by simp [zaa]) (by simp [zaa];rfl) ?_);refine gwq hQ ?_)|fail
   refine ⟨.inr rfl,by simp [results94],kpT G0F⟩
 ·have hn':¬(n:Int)=(n2:Int):=by omega
  have hnb:((n:Int)==(n2:Int))=false:=by simpa using hn'
  rw [decide_eq_false hn]
  repeat' first|refine gwZ ?_|(refine gwX ?_;intro Q hQ _;simp [hC,hY,hA,hS,hne,hn',hnb];refine gwq hQ ?_)|fail
  refine ⟨.inr rfl,by simp [results94],kpT G0F⟩
theorem SB.vec {b:Blk} {off n:Nat} {f:Nat->Int} (h:SB b off n f) {i:Nat} (hi:i<n) {u:Nat} (hu:u+3<=6):zc6 prog 70 b (off+i*6+u)=some (.agg #[.int .i64 (f (6*i+u)),.int .i64 (f (6*i+u+1)),.int .i64 (f (6*i+u+2))]):=by
 have hbrd:=Blk.fx_rd h.fx
 have:=zs4 (P:=prog) (T:=70) (m:=3) (j:=6*i+u) (za8 isAgg70) (zam sizeOf70) (by omega) h.rd (by omega)
 rw [show off+i*6+u=off+(6*i+u) by omega,this,jrc]
 rfl
theorem jb8 (n lo hi:Int):Ret prog G0 111 #[.int .i64 n,.int .i64 lo,.int .i64 hi] (.bool (wiB n lo hi)):=by
 refine zas G0F func111 rfl call111 rfl (by simp) (by simp [ntmps111]) ?_
 intro C hC hC0 hY
 unfold wiB
 by_cases c0:lo<=n
 ·by_cases c1:n<=hi
  ·rw [decide_eq_true ⟨c0,c1⟩]
   (repeat' (first|refine gwZ ?_|(refine gwX ?_;intro Q hQ _;simp [hC,hY,c0,c1];refine gwq hQ ?_)|refine gwC ?_ ?_<;>intro hb))
   refine ⟨.inr trivial,?_⟩
   simp [results111]
  ·rw [decide_eq_false (by omega)]
   (repeat' (first|refine gwZ ?_|(refine gwX ?_;intro Q hQ _;simp [hC,hY,c0,c1];refine gwq hQ ?_)|refine gwC ?_ ?_<;>intro hb))
   refine ⟨.inr trivial,?_⟩
   simp [results111]
 ·rw [decide_eq_false (by omega)]
  (repeat' (first|refine gwZ ?_|(refine gwX ?_;intro Q hQ _;simp [hC,hY,c0];refine gwq hQ ?_)|refine gwC ?_ ?_<;>intro hb))
  refine ⟨.inr trivial,?_⟩
  simp [results111]
@[simp] theorem w11 (n lo hi:Int) (K:Value->Prop):za2 prog G0 111 #[.int .i64 n,.int .i64 lo,.int .i64 hi] K↔K (.bool (wiB n lo hi)):=zac G0W (by kernel_rfl) (jb8 n lo hi)
def z5p (b:Blk) (off n cap:Nat) (g bx tp nr md:Int) (i:Nat):GS :=
 ⟨tsL [(1,.pointer (some ⟨200,0,none⟩)),(3,.int .i64 i)],hpL G0 [(100,b),(200,cfB (.slice (some ⟨100,off,none⟩) n cap) g bx tp nr md)],400,0⟩
theorem zsg {f:Nat->Int} {n:Nat}:zp8 f n=true↔∀ i,i<n->wiB (f i) 1 1024=true:=by simp [zp8]
theorem zp5 (b:Blk) (off n cap:Nat) (f:Nat->Int) (h:MB b off n f) (g bx tp nr md:Int) :
  Fun prog G0 84 #[cfV (.slice (some ⟨100,off,none⟩) n cap) g bx tp nr md] (hpL G0 [(100,b)]) (zaa [(100,b)]) (.ret (.string (zfq n f g bx tp nr md)) []):=by
 refine zar (B:=200) G0F func84 rfl call84 (zao h.fx) ?_ (by simp [zap,zax,zah,zaj]) (by simp) (by simp) (by simp [ntmps84]) (by omega) ?_
 ·simp [zap,zax,zah,zaj,zaa,cfV]
 intro C hC hC0 hY
 have hid:=λD=>Blk.fx_ids h.fx D
 unfold cfV
 cases h4:wiB n 1 4 with
 | false =>
  have hw:zfq n f g bx tp nr md=⟨#[98,111,100,105,101,115]⟩:=by simp [zfq,h4]
  rw [hw]
  repeat' first|refine gwZ ?_|(refine gwX ?_;intro Q hQ _;simp [hC,hY,h4];refine gwq hQ ?_)|fail
  refine ⟨.inr rfl,by simp [results84],kpS G0F⟩
 | true =>
  obtain ⟨N,hN,hlt,hend⟩:=z3z (λi=>wiB (f i) 1 1024) n
  repeat' first|refine gwZ ?_|(refine gwX ?_;intro Q hQ _;simp [hC,hY,h4];refine gwq hQ ?_)|fail
  refine zbt N (z5p b off n cap g bx tp nr md) ?_ ?_ ?_
  ·refine za3 _ 400 hC G0F (m0:=[(100,b)]) hC0 (by omega) ?_ ?_ ?_
   ·simp [zap,zax,zah,zaj,dom]
   ·simp [cfB,zad,zah,zaj,hid,dom]
   ·simp
  ·intro i hi
   have hi':(i:Int)<n:=by omega
   have hz:(0:Int)<=i:=by omega
   have hnn:=h.nn
   have hs:Int.bmod ((i:Int)+1) 18446744073709551616=((i+1:Nat):Int):=by rw [bm (by omega) (by omega)];rfl
   have hld:=h.at (i:=i) (by omega)
   have hw:=hlt i hi
   unfold z5p cfB
   repeat' first|refine gwZ ?_|(refine gwX ?_;intro Q hQ _;simp [hC,hY,hi',hz,hs,hld,hw];refine gwq hQ ?_)|fail
   refine za3 _ 400 hC G0F (m0:=[(100,b)]) hC0 (by omega) ?_ ?_ ?_
   ·simp [zap,zax,zah,zaj,dom,hs]
   ·simp [cfB,zad,zah,zaj,hid,dom]
   ·simp
  ·by_cases hNn:N=n
   ·have hNs:=hNn.symm
    subst hNs
    have hm:zp8 f n=true:=zsg.2 hlt
    cases hg:wiB g 1 1048576 with
    | false =>
     have hw:zfq n f g bx tp nr md=⟨#[99,111,110,115,116,97,110,116]⟩:=by simp [zfq,h4,hm,hg]
     rw [hw]
     unfold z5p cfB
     repeat' first|refine gwZ ?_|(refine gwX ?_;intro Q hQ _;simp [hC,hY,h4,hg];refine gwq hQ ?_)|fail
     refine ⟨.inr rfl,by simp [results84],kpS G0F⟩
    | true =>
     cases hx:wiB bx 1 1048576 with
     | false =>
      have hw:zfq n f g bx tp nr md=⟨#[98,111,120]⟩:=by simp [zfq,h4,hm,hg,hx]
      rw [hw]
      unfold z5p cfB
      repeat' first|refine gwZ ?_|(refine gwX ?_;intro Q hQ _;simp [hC,hY,h4,hg,hx];refine gwq hQ ?_)|fail
      refine ⟨.inr rfl,by simp [results84],kpS G0F⟩
     | true =>
      cases ht:wiB tp 1 65536 with
      | false =>
       have hw:zfq n f g bx tp nr md=⟨#[116,111,112]⟩:=by simp [zfq,h4,hm,hg,hx,ht]
       rw [hw]
       unfold z5p cfB
       repeat' first|refine gwZ ?_|(refine gwX ?_;intro Q hQ _;simp [hC,hY,h4,hg,hx,ht];refine gwq hQ ?_)|fail
       refine ⟨.inr rfl,by simp [results84],kpS G0F⟩
      | true =>
       cases hn:wiB nr 1 (Int.bmod (2*bx) 18446744073709551616) with
       | false =>
        have hw:zfq n f g bx tp nr md=⟨#[110,101,97,114]⟩:=by simp [zfq,h4,hm,hg,hx,ht,hn]
        rw [hw]
        unfold z5p cfB
        repeat' first|refine gwZ ?_|(refine gwX ?_;intro Q hQ _;simp [hC,hY,h4,hg,hx,ht,hn];refine gwq hQ ?_)|fail
        refine ⟨.inr rfl,by simp [results84],kpS G0F⟩
       | true =>
        cases hd:wiB md 0 4 with
        | false =>
         have hw:zfq n f g bx tp nr md=⟨#[109,101,116,104,111,100]⟩:=by simp [zfq,h4,hm,hg,hx,ht,hn,hd]
         rw [hw]
         unfold z5p cfB
         repeat' first|refine gwZ ?_|(refine gwX ?_;intro Q hQ _;simp [hC,hY,h4,hg,hx,ht,hn,hd];refine gwq hQ ?_)|fail
         refine ⟨.inr rfl,by simp [results84],kpS G0F⟩
        | true =>
         have hw:zfq n f g bx tp nr md=⟨#[]⟩:=by simp [zfq,h4,hm,hg,hx,ht,hn,hd]
         rw [hw]
         unfold z5p cfB
         repeat' first|refine gwZ ?_|(refine gwX ?_;intro Q hQ _;simp [hC,hY,h4,hg,hx,ht,hn,hd];refine gwq hQ ?_)|fail
         refine ⟨.inr rfl,by simp [results84],kpS G0F⟩
   ·have hNn':N<n:=by omega
    have hend:=hend.resolve_left hNn
    have hm:zp8 f n=false:=by
     cases hm:zp8 f n with
     | false=>rfl
     | true=>have:=zsg.1 hm N hNn';rw [hend] at this;cases this
    have hw:zfq n f g bx tp nr md=⟨#[109,97,115,115]⟩:=by simp [zfq,h4,hm]
    rw [hw]
    have hi':(N:Int)<n:=by omega
    have hz:(0:Int)<=N:=by omega
    have hld:=h.at (i:=N) (by omega)
    unfold z5p cfB
    repeat' first|refine gwZ ?_|(refine gwX ?_;intro Q hQ _;simp [hC,hY,hi',hz,hld,hend];refine gwq hQ ?_)|fail
    refine ⟨.inr rfl,by simp [results84],kpS G0F⟩
theorem zj7 (b:Blk) (off n cap:Nat) (f:Nat->Int) (h:MB b off n f) (g bx tp nr md:Int) :
  Fun prog G0 53 #[cfV (.slice (some ⟨100,off,none⟩) n cap) g bx tp nr md] (hpL G0 [(100,b)]) (zaa [(100,b)]) (.ret (.int .i64 (if zdr n f g bx tp nr md=true then 0 else 110)) []):=by
 refine zar (B:=200) G0F func53 rfl call53 (zao h.fx) ?_ (by simp) (by simp) (by simp) (by simp [ntmps53]) (by omega) ?_
 ·simp [zap,zax,zah,zaj,zaa,cfV]
 intro C hC hC0 hY
 have hr:=λρ=>Blk.fx_rn h.fx ρ
 have hne:=zt0 n f g bx tp nr md
 unfold cfV
 cases hc:zdr n f g bx tp nr md with
 | true =>
  rw [hc] at hne
  repeat' first|refine gwZ ?_|((first|refine gwR [84] ?_|refine gwD [84] ?_);intro Q hQ _;(repeat first|simp [hC,hY,hne]|refine zae (zp5 b off n cap f h g bx tp nr md) G0F (B:=200) (zao h.fx) (λk=>k) (λk hk=>rfl) (by simp [ren,zay,zak,zan,cfV]) (by simp) (by simp [hr]) (by simp [zaa]) (by simp [zaa];rfl) ?_);refine gwq hQ ?_)|fail
  refine ⟨.inr rfl,by simp [results53],kpS G0F⟩
 | false =>
  rw [hc] at hne
  repeat' first|refine gwZ ?_|((first|refine gwR [84] ?_|refine gwD [84] ?_);intro Q hQ _;(repeat first|simp [hC,hY,hne]|refine zae (zp5 b off n cap f h g bx tp nr md) G0F (B:=200) (zao h.fx) (λk=>k) (λk hk=>rfl) (by simp [ren,zay,zak,zan,cfV]) (by simp) (by simp [hr]) (by simp [zaa]) (by simp [zaa];rfl) ?_);refine gwq hQ ?_)|fail
  refine ⟨.inr rfl,by simp [results53],kpS G0F⟩
theorem z05 (g bx tp nr md:Int):Ret prog G0 84 #[.agg #[.slice none 0 0,.int .i64 g,.int .i64 bx,.int .i64 tp,.int .i64 nr,.int .i64 md]] (.string ⟨#[98,111,100,105,101,115]⟩):=by
 refine zas G0F func84 rfl call84 (by simp) (by simp) (by simp [ntmps84]) ?_
 intro C hC hC0 hY
 have h4:wiB 0 1 4=false:=by decide
 repeat' first|refine gwZ ?_|(refine gwX ?_;intro Q hQ _;simp [hC,hY,h4];refine gwq hQ ?_)|fail
 refine ⟨.inr trivial,?_⟩
 simp [results84]
@[simp] theorem jqx (g bx tp nr md:Int) (K:Value->Prop):za2 prog G0 84 #[.agg #[.slice none 0 0,.int .i64 g,.int .i64 bx,.int .i64 tp,.int .i64 nr,.int .i64 md]] K↔K (.string ⟨#[98,111,100,105,101,115]⟩):=zac G0W (by kernel_rfl) (z05 g bx tp nr md)

theorem zxo (g bx tp nr md:Int):Ret prog G0 53 #[cfV (.slice none 0 0) g bx tp nr md] (.int .i64 110):=by
 unfold cfV
 refine zas G0F func53 rfl call53 (by simp) (by simp) (by simp [ntmps53]) ?_
 intro C hC hC0 hY
 have hne:jd1 ⟨#[98,111,100,105,101,115]⟩ ⟨#[]⟩=true:=by decide +kernel
 repeat' first|refine gwZ ?_|(refine gwX ?_;intro Q hQ _;simp [hC,hY,hne];refine gwq hQ ?_)|fail
 refine ⟨.inr trivial,?_⟩
 simp [results53]
@[simp] theorem jo6 (g bx tp nr md:Int) (K:Value->Prop):za2 prog G0 53 #[.agg #[.slice none 0 0,.int .i64 g,.int .i64 bx,.int .i64 tp,.int .i64 nr,.int .i64 md]] K↔K (.int .i64 110):=zac G0W (by kernel_rfl) (zxo g bx tp nr md)
end Go.Gy
namespace Go.Gy
open Go Go.RowKit
theorem ze1 {C:Ctx} {G:Hp} {s:GS} {m L:List (Nat×Blk)} (ρ:Nat->Nat) (l:List (Nat×Value)) (B:Nat) (hG:C.G=G) (hGF:zbo G) (hL:LOk L 200) (hfx:∀ p∈L,p.2.fx) (h0:C.hp0=hpL G L) (hB:200<=B)
  (hl:∀ p∈l,s.ts p.1=ren ρ p.2/\s.ts p.1≠zcm/\zap (dom (hpL G (m++L))) p.2)
  (hm:∀ p∈m,s.hp (ρ p.1)=some (p.2.rn ρ)/\p.2.ids (dom (hpL G (m++L)))/\200<=p.1/\p.1<B/\200<=ρ p.1)
  (hi:∀ p∈m,∀ q∈m,ρ p.1=ρ q.1->p.1=q.1) (hid:∀ k,k<200->ρ k=k) (hk:∀ p∈L,s.hp p.1=some p.2):WeakR C ρ s ⟨tsL l,hpL G (m++L),B,s.yc⟩:=by
 refine zp4 ρ l B hG hGF h0 (by omega) hl (λp hp=>?_) (λp hp q hq e=>?_) (λk hk=>hid k (by omega)) (λp hp=>?_)
 ·rcases List.mem_append.1 hp with h|h
  ·have:=hm p h
   exact ⟨this.1,this.2.1,by omega,this.2.2.2.1,by omega⟩
  ·have hb:=hL.big p h
   rw [hid p.1 hb.2,Blk.fx_rn (hfx p h) ρ]
   exact ⟨hk p h,Blk.fx_ids (hfx p h) _,hb.1,by omega,hb.1⟩
 ·rcases List.mem_append.1 hp with h|h<;>rcases List.mem_append.1 hq with h'|h'
  ·exact hi p h q h' e
  ·have:=(hm p h).2.2.2.2
   have hb:=hL.big q h'
   rw [hid q.1 hb.2] at e
   omega
  ·have:=(hm q h').2.2.2.2
   have hb:=hL.big p h
   rw [hid p.1 hb.2] at e
   omega
  ·rw [hid p.1 (hL.big p h).2,hid q.1 (hL.big q h').2] at e
   exact e
 ·have hb:=hL.big p hp
  exact ⟨hb.1,zii (zag.2 ⟨p,hp,rfl⟩),hid p.1 hb.2⟩
end Go.Gy
