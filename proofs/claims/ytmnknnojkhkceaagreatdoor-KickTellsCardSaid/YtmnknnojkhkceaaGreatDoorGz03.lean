/-
  Lemmas of this claim, in their order (GyO3, GyL, GyDA, GyLB, GyLC, GyLD, GyLE, GyLG, GyLH, GyM, GyX1, GyX2, GyX3, GyX4, GyX5, GyX6, GyL2, GyX7, GyQ1, GyY1, GyY2, GyY3, GyY4, GyY5, GyY6).
  Conditions: those of each theorem.
-/
import Derived.Test.YtmnknnojkhkceaaGreatDoorGz02
import Derived.Laws.Externs
import Derived.Laws.MathBits
set_option linter.unusedSimpArgs false
set_option linter.unusedVariables false
set_option maxHeartbeats 2000000
namespace Go.Gy
open Go Go.RowKit Go.Proofs Go.Proofs.Tryz

theorem jhr {n : Int} (h : i64 n) (hn : n < 0) : wi n 1 = 18446744073709551615 /\ wi n 2 = 18446744073709551615 /\ wi n 3 = 18446744073709551615 := by
  unfold i64 at h; simp only [wi]; omega
theorem jhs {n : Int} (h : i64 n) (hn : ¬ n < 0) : wi n 1 = 0 /\ wi n 2 = 0 /\ wi n 3 = 0 := by
  unfold i64 at h; simp only [wi]; omega
theorem jna (n : Int) : n % 18446744073709551616 = wi n 0 := by simp [wi]
@[simp] theorem zd9 (k : Nat) : wi 0 k = 0 := by simp [wi]

def jjj (n : Int) (i : Nat) : GS :=
  ⟨tsL [(0, .int .i64 n), (2, .pointer (some ⟨200, 0, none⟩)), (3, .pointer (some ⟨232, 0, none⟩)), (4, .int .i64 (i + 1 : Nat))],
   hpL G0 [(200, ⟨#[.int .u64 0, .int .u64 0, .int .u64 0, .int .u64 0], .ty 86⟩),
     (232, ⟨#[.int .u64 (wi n 0), .int .u64 (if 0 < i then 18446744073709551615 else 0), .int .u64 (if 1 < i then 18446744073709551615 else 0), .int .u64 (if 2 < i then 18446744073709551615 else 0)], .ty 86⟩)], 300, 0⟩
theorem zzj (n : Int) (h : i64 n) : Ret prog G0 81 #[.int .i64 n] (wd n) := by
  refine zav G0F func81 rfl call81 (by simp) (by simp) (by simp [ntmps81]) ?_
  intro C hC hC0 hY
  repeat' (first | refine gwA ?_ | (refine gwX ?_; intro Q hQ hP; simp [hC, hY, jna]; refine gwq hQ ?_; clear hQ hP Q) | (refine gwC ?_ ?_ <;> (intro hb; try (cases hb; done))))
  refine zb3 (if n < 0 then 3 else 0) (jjj n) ?_ ?_ ?_
  · refine zbc _ 300 hC G0F (m0 := []) hC0 (by omega) ?_ ?_ ?_
    · simp [zap, zau, zaj, zal, dom]
    · simp [Blk.ids, zaj, zal]
    · simp
  · intro i hi
    by_cases hn : n < 0
    · rw [if_pos hn] at hi
      have : i = 0 \/ i = 1 \/ i = 2 := by omega
      rcases this with rfl | rfl | rfl <;> unfold jjj
      all_goals
        repeat' (first | refine gwA ?_ | (refine gwX ?_; intro Q hQ hP; simp [hC, hY, hn]; refine gwq hQ ?_; clear hQ hP Q) | (refine gwC ?_ ?_ <;> (intro hb; try (cases hb; done))))
      all_goals
        refine zbc _ 300 hC G0F (m0 := []) hC0 (by omega) ?_ ?_ ?_
        · simp [zap, zau, zaj, zal, dom]
        · simp [Blk.ids, zaj, zal]
        · simp
    · rw [if_neg hn] at hi; omega
  · by_cases hn : n < 0
    · rw [if_pos hn]
      have e := jhr h hn
      unfold jjj
      repeat' (first | refine gwA ?_ | (refine gwX ?_; intro Q hQ hP; simp [hC, hY]; refine gwq hQ ?_; clear hQ hP Q) | (refine gwC ?_ ?_ <;> (intro hb; try (cases hb; done))))
      refine ⟨.inr trivial, ?_⟩
      simp [results81, e]
    · rw [if_neg hn]
      have e := jhs h hn
      unfold jjj
      repeat' (first | refine gwA ?_ | (refine gwX ?_; intro Q hQ hP; simp [hC, hY, hn]; refine gwq hQ ?_; clear hQ hP Q) | (refine gwC ?_ ?_ <;> (intro hb; try (cases hb; done))))
      refine ⟨.inr trivial, ?_⟩
      simp [results81, e]
@[simp] theorem of2 (n : Int) (h : i64 n) (K : Value -> Prop) : za2 prog G0 81 #[.int .i64 n] K ↔ K (wd n) := zaf G0W (by kernel_rfl) (zzj n h)

theorem z3k (z : Int) : Ret prog G0 62 #[wd z] (.tuple #[.int .i64 (if i64 (sz z) then sz z else 0), .bool (decide (i64 (sz z)))]) := by
  refine zav G0F func62 rfl call62 (by simp) (by simp) (by simp [ntmps62]) ?_
  intro C hC hC0 hY
  have h := zsl (wi z 0)
  repeat' (first | refine gwA ?_ | (refine gwX ?_; intro Q hQ hP; simp [hC, hY, h]; refine gwq hQ ?_; clear hQ hP Q) | (refine gwC ?_ ?_ <;> (intro hb; try (cases hb; done))))
  all_goals
    refine ⟨.inr trivial, ?_⟩
    rw [wne] at hb
    simp at hb
    rw [z6i] at hb
    simp [results62, hb]
  exact zyf z hb
theorem jba (z : Int) : sz z = wi z 0 + 18446744073709551616 * wi z 1 + 340282366920938463463374607431768211456 * wi z 2 + 6277101735386680763835789423207666416102355444464034512896 * wi z 3 - (if ng z then 115792089237316195423570985008687907853269984665640564039457584007913129639936 else 0) := by
  have h1 := jnj z
  have := zbp z 0; have := zbx z 0; have := zbp z 1; have := zbx z 1; have := zbp z 2; have := zbx z 2; have := zbp z 3; have := zbx z 3
  simp only [ng, decide_eq_true_eq]
  unfold sz
  rw [Int.bmod_def]
  split <;> split <;> omega
theorem ze1 (z : Int) : ng z = decide (sz z < 0) := by
  have h1 := jba z
  have := zbp z 0; have := zbx z 0; have := zbp z 1; have := zbx z 1; have := zbp z 2; have := zbx z 2; have := zbp z 3; have := zbx z 3
  rw [Bool.eq_iff_iff]
  simp only [ng, decide_eq_true_eq] at h1 |-
  split at h1 <;> omega
def eqW (a b : Int) : Nat := if wi a 3 = wi b 3 then if wi a 2 = wi b 2 then if wi a 1 = wi b 1 then if wi a 0 = wi b 0 then 4 else 3 else 2 else 1 else 0
def z8n (a b : Int) (i : Nat) : GS :=
  ⟨tsL [(2, .pointer (some ⟨200, 0, none⟩)), (3, .pointer (some ⟨208, 0, none⟩)), (5, .int .i64 (3 - i))],
   hpL G0 [(200, ⟨#[.int .u64 (wi a 0), .int .u64 (wi a 1), .int .u64 (wi a 2), .int .u64 (wi a 3)], .ty 86⟩), (208, ⟨#[.int .u64 (wi b 0), .int .u64 (wi b 1), .int .u64 (wi b 2), .int .u64 (wi b 3)], .ty 86⟩)], 300, 0⟩
theorem z2y (a b : Int) : Ret prog G0 127 #[wd a, wd b] (.int .i64 (zc2 (sz a) (sz b))) := by
  refine zav G0F func127 rfl call127 (by simp) (by simp) (by simp [ntmps127]) ?_
  intro C hC hC0 hY
  repeat' (first | refine gwA ?_ | (refine gwX ?_; intro Q hQ hP; simp [hC, hY]; refine gwq hQ ?_; clear hQ hP Q) | (refine gwC ?_ ?_ <;> (intro hb; try (cases hb; done))))
  · rename_i hx
    refine ⟨.inr trivial, ?_⟩
    rw [ze1, ze1] at hx
    rw [ze1] at hb
    simp at hb hx
    have : sz a < sz b := by omega
    simp [results127, zc2, this]
  · rename_i hx
    refine ⟨.inr trivial, ?_⟩
    rw [ze1, ze1] at hx
    rw [ze1] at hb
    simp at hb hx
    have h1 : ¬ sz a < sz b := by omega
    have h2 : ¬ sz a = sz b := by omega
    simp [results127, zc2, h1, h2]
  · have hs : ng a = ng b := by simpa using hb
    have e1 := jba a
    have e2 := jba b
    rw [hs] at e1
    have := zbp a 0; have := zbx a 0; have := zbp a 1; have := zbx a 1; have := zbp a 2; have := zbx a 2; have := zbp a 3; have := zbx a 3
    have := zbp b 0; have := zbx b 0; have := zbp b 1; have := zbx b 1; have := zbp b 2; have := zbx b 2; have := zbp b 3; have := zbx b 3
    refine zb3 (eqW a b) (z8n a b) ?_ ?_ ?_
    · refine zbc _ 300 hC G0F (m0 := []) hC0 (by omega) ?_ ?_ ?_
      · simp [zap, zau, zaj, zal, dom]
      · simp [Blk.ids, zaj, zal]
      · simp
    · intro i hi
      have : i = 0 /\ wi a 3 = wi b 3 \/ i = 1 /\ wi a 2 = wi b 2 \/ i = 2 /\ wi a 1 = wi b 1 \/ i = 3 /\ wi a 0 = wi b 0 := by unfold eqW at hi; (repeat' split at hi) <;> omega
      rcases this with ⟨rfl, h⟩ | ⟨rfl, h⟩ | ⟨rfl, h⟩ | ⟨rfl, h⟩ <;> unfold z8n
      all_goals
        repeat' (first | refine gwA ?_ | (refine gwX ?_; intro Q hQ hP; simp [hC, hY, h]; refine gwq hQ ?_; clear hQ hP Q) | (refine gwC ?_ ?_ <;> (intro hb; try (cases hb; done))))
      all_goals
        refine zbc _ 300 hC G0F (m0 := []) hC0 (by omega) ?_ ?_ ?_
        · simp [zap, zau, zaj, zal, dom, h]
        · simp [Blk.ids, zaj, zal, h]
        · simp
    · unfold eqW
      (repeat' split) <;> unfold z8n
      · rename_i q3 q2 q1 q0
        repeat' (first | refine gwA ?_ | (refine gwX ?_; intro Q hQ hP; simp [hC, hY]; refine gwq hQ ?_; clear hQ hP Q) | (refine gwC ?_ ?_ <;> (intro hb; try (cases hb; done))))
        refine ⟨.inr trivial, ?_⟩
        have : sz a = sz b := by omega
        simp [results127, zc2, this]
      all_goals
        rename_i h
        rcases Int.lt_or_gt_of_ne h with hlt | hlt
      all_goals
        have hnl := Int.not_lt.2 (Int.le_of_lt hlt)
        repeat' (first | refine gwA ?_ | (refine gwX ?_; intro Q hQ hP; simp [hC, hY, hlt, hnl]; refine gwq hQ ?_; clear hQ hP Q) | (refine gwC ?_ ?_ <;> (intro hb; try (cases hb; done))))
      all_goals
        refine ⟨.inr trivial, ?_⟩
        first
          | (have hc : sz a < sz b := by omega
             simp [results127, zc2, hc]; done)
          | (have hc : ¬ sz a < sz b := by omega
             have hd : ¬ sz a = sz b := by omega
             simp [results127, zc2, hc, hd]; done)
@[simp] theorem jpd (a b : Int) (K : Value -> Prop) : za2 prog G0 127 #[Value.agg #[.int .u64 (wi (a) 0), .int .u64 (wi (a) 1), .int .u64 (wi (a) 2), .int .u64 (wi (a) 3)], Value.agg #[.int .u64 (wi (b) 0), .int .u64 (wi (b) 1), .int .u64 (wi (b) 2), .int .u64 (wi (b) 3)]] K ↔ K (.int .i64 (zc2 (sz a) (sz b))) := zaf G0W (by kernel_rfl) (z2y a b)
@[simp] theorem jpe (a : Int) (K : Value -> Prop) : za2 prog G0 127 #[Value.agg #[.int .u64 (wi (a) 0), .int .u64 (wi (a) 1), .int .u64 (wi (a) 2), .int .u64 (wi (a) 3)], .agg #[.int .u64 0, .int .u64 0, .int .u64 0, .int .u64 0]] K ↔ K (.int .i64 (zc2 (sz a) 0)) := by
  have := jpd a 0 K
  have e : sz 0 = 0 := by decide
  rw [e] at this
  simpa using this
theorem z0w (a : Int) : Ret prog G0 108 #[wd a] (.int .i64 (zc2 (sz a) 0)) := by
  refine zav G0F func108 rfl call108 (by simp) (by simp) (by simp [ntmps108]) ?_
  intro C hC hC0 hY
  repeat' (first | refine gwA ?_ | (refine gwX ?_; intro Q hQ hP; simp [hC, hY]; refine gwq hQ ?_; clear hQ hP Q) | (refine gwC ?_ ?_ <;> (intro hb; try (cases hb; done))))
  refine ⟨.inr trivial, ?_⟩
  simp [results108]
@[simp] theorem jqb (a : Int) (K : Value -> Prop) : za2 prog G0 108 #[Value.agg #[.int .u64 (wi (a) 0), .int .u64 (wi (a) 1), .int .u64 (wi (a) 2), .int .u64 (wi (a) 3)]] K ↔ K (.int .i64 (zc2 (sz a) 0)) := zaf G0W (by kernel_rfl) (z0w a)
end Go.Gy
namespace Go.Gy
open Go Go.RowKit

def fa (n:Nat) (k:IntKind) (f:Nat->Int):Array Value:=Array.ofFn λj:Fin n=>.int k (f j)
@[simp] theorem jk1 (n:Nat) (k:IntKind) (f:Nat->Int):(fa n k f).size=n:=by simp [fa]
theorem zdh (n:Nat) (k:IntKind) (f:Nat->Int) (i:Nat) (h:i<n):(fa n k f)[i]? = some (.int k (f i)):=by simp [fa,h]
@[simp] theorem jkz (n:Nat) (k:IntKind) (f:Nat->Int) (i:Nat) (h:i<(fa n k f).size):(fa n k f)[i]=.int k (f i):=by simp [fa]
theorem zjf {n:Nat} {k:IntKind} {f:Nat->Int} {x:Value} (h:x∈fa n k f):∃ m,x=.int k m:=by
 simp only [fa,Array.mem_ofFn] at h
 obtain ⟨i,rfl⟩:=h
 exact ⟨_,rfl⟩
theorem zcw (n:Nat) (k:IntKind) (f:Nat->Int) (i:Nat) (v:Int):(fa n k f).setIfInBounds i (.int k v)=fa n k (upd f i v):=by
 apply Array.ext_getElem?
 intro j
 rw [Array.getElem?_setIfInBounds]
 by_cases hj:j<n
 ·rw [zdh _ _ _ _ hj,zdh _ _ _ _ hj]
  by_cases e:i=j
  ·subst e;simp [hj,upd]
  ·simp [e,upd,Ne.symm e]
 ·have h1:(fa n k f)[j]? = none:=by simp [fa];omega
  have h2:(fa n k (upd f i v))[j]? = none:=by simp [fa];omega
  rw [h1,h2]
  split<;>simp_all
@[simp] theorem jk0 (n:Nat) (k:IntKind) (f:Nat->Int):(fa n k f).all zla 0 n=true:=by
 have:(fa n k f).all zla=true:=Array.all_eq_true_iff_forall_mem.2 λx hx=>by obtain ⟨m,rfl⟩:=zjf hx;rfl
 simpa using this
@[simp] theorem jky (n:Nat) (k:IntKind) (f:Nat->Int):(fa n k f).all zbj 0 n=true:=by
 have:(fa n k f).all zbj=true:=Array.all_eq_true_iff_forall_mem.2 λx hx=>by obtain ⟨m,rfl⟩:=zjf hx;rfl
 simpa using this
theorem zae (l:List Value) (T:TypeId) (D:Nat->Prop):(Blk.mk l.toArray T).ids D↔∀ x∈l,zaj D x:=by simp [Blk.ids]
theorem zcv (n:Nat) (k:IntKind) (f:Nat->Int) (T:TypeId) (D:Nat->Prop):(Blk.mk (fa n k f) T).ids D:=by
 intro x hx
 obtain ⟨m,rfl⟩:=zjf hx
 trivial
theorem zlt (k:IntKind) (f:Nat->Int):fa 8 k f=#[.int k (f 0),.int k (f 1),.int k (f 2),.int k (f 3),.int k (f 4),.int k (f 5),.int k (f 6),.int k (f 7)]:=by
 apply Array.ext'
 simp [fa,Array.toList_ofFn,List.ofFn_succ]
theorem ziu (k:IntKind) (f:Nat->Int):fa 4 k f=#[.int k (f 0),.int k (f 1),.int k (f 2),.int k (f 3)]:=by
 apply Array.ext'
 simp [fa,Array.toList_ofFn,List.ofFn_succ]
theorem jkx (k:IntKind) (f:Nat->Int):fa 16 k f=#[.int k (f 0),.int k (f 1),.int k (f 2),.int k (f 3),.int k (f 4),.int k (f 5),.int k (f 6),.int k (f 7),.int k (f 8),.int k (f 9),.int k (f 10),.int k (f 11),.int k (f 12),.int k (f 13),.int k (f 14),.int k (f 15)]:=by
 apply Array.ext'
 simp [fa,Array.toList_ofFn,List.ofFn_succ]

theorem zi7:∀ (l:List Value) (c:Array Value) (o j:Nat),(zct c o l)[j]? = if o<=j/\j<o+l.length/\j<c.size then l[j - o]? else c[j]?
 | [],c,o,j=>by simp [zct];omega
 | v::l,c,o,j=>by
  rw [zct,zi7 l,Array.getElem?_setIfInBounds,Array.size_setIfInBounds]
  by_cases e:o=j
  ·subst e
   rw [if_neg (by omega),if_pos rfl]
   by_cases h:o<c.size
   ·simp [h]
   ·simp [h]
  ·by_cases h:o+1<=j/\j<o+1+l.length/\j<c.size
   ·rw [if_pos h,if_pos (by simp;omega)]
    have:j - o=(j - (o+1))+1:=by omega
    rw [this,List.getElem?_cons_succ]
   ·rw [if_neg h,if_neg e,if_neg (by simp;omega)]
@[simp] theorem ja2 (c:Array Value) (n:Nat) (k:IntKind) (g:Nat->Int) (h:c.size=n):zct c 0 (fa n k g).toList=fa n k g:=by
 apply Array.ext_getElem?
 intro j
 rw [zi7]
 by_cases hj:j<n
 ·rw [if_pos (by simp;omega)]
  simp [hj,fa]
 ·rw [if_neg (by simp;omega)]
  have h1:c[j]? = none:=by simp;omega
  have h2:(fa n k g)[j]? = none:=by simp [fa];omega
  rw [h1,h2]
@[simp] theorem jbw (n:Nat) (k:IntKind) (f:Nat->Int):(fa n k f).extract 0 n=fa n k f:=by
 have:n=(fa n k f).size:=by simp
 conv=>lhs;rw [this]
 simp

def zfs (A B:Int) (i:Nat):Int:=(A%2^(32*i))*B
def zl9 (A B:Int) (i k:Nat):Int:=(zfs A B i%2^(32*(i+k))+2^(32*i)*di A i*(B%2^(32*k))) / 2^(32*(i+k))
def zvg (A B:Int) (i k j:Nat):Int:=if i<=j/\j<i+k then di (zfs A B (i+1)) j else di (zfs A B i) j
theorem zif (A B:Int) (i:Nat):zfs A B (i+1)=zfs A B i+2^(32*i)*di A i*B:=by
 unfold zfs di
 rw [zg3,zeb A _ _ (zbk i) (by omega),Int.add_mul]
theorem zzr (A B:Int) (i:Nat):zl9 A B i 0=0:=by
 unfold zl9
 have h1:=Int.emod_lt_of_pos (zfs A B i) (zbk (i+0))
 have h2:=Int.emod_nonneg (zfs A B i) (b:=2^(32*(i+0))) (by have:=zbk (i+0);omega)
 simp only [Nat.mul_zero,Int.pow_zero,Int.emod_one,Int.mul_zero,Int.add_zero]
 exact Int.ediv_eq_zero_of_lt h2 h1
theorem zrk (A B:Int) (i k:Nat):0<=zl9 A B i k/\zl9 A B i k<4294967296:=by
 unfold zl9
 have hM:(2:Int)^(32*(i+k))=2^(32*i)*2^(32*k):=by rw [Nat.mul_add,Int.pow_add]
 have p1:=zbk i
 have p2:=zbk k
 have p3:=zbk (i+k)
 generalize hz:zfs A B i=z
 have h1:=Int.emod_lt_of_pos z p3
 have h2:=Int.emod_nonneg z (b:=2^(32*(i+k))) (by omega)
 have h3:=Int.emod_lt_of_pos B p2
 have h4:=Int.emod_nonneg B (b:=2^(32*k)) (by omega)
 have h5:=zm1 A i
 have h6:=zm2 A i
 have h7:0<=2^(32*i)*di A i*(B%2^(32*k)):=Int.mul_nonneg (Int.mul_nonneg (by omega) h5) h4
 have h8:2^(32*i)*di A i*(B%2^(32*k))<=2^(32*i)*4294967295*2^(32*k) :=
  Int.mul_le_mul (Int.mul_le_mul_of_nonneg_left (by omega) (by omega)) (by omega) h4 (Int.mul_nonneg (by omega) (by omega))
 have h9:(2:Int)^(32*i)*4294967295*2^(32*k)=4294967295*2^(32*(i+k)):=by
  rw [hM,Int.mul_comm (2^(32*i)) 4294967295,Int.mul_assoc]
 refine ⟨Int.ediv_nonneg (by omega) (by omega),Int.ediv_lt_of_lt_mul p3 (by omega)⟩
theorem zzq (A B:Int) (i k:Nat):(di (zfs A B i) (i+k)+di A i*di B k+zl9 A B i k) / 4294967296=zl9 A B i (k+1):=by
 have hM:(2:Int)^(32*(i+k))=2^(32*i)*2^(32*k):=by rw [Nat.mul_add,Int.pow_add]
 have p2:=zbk k
 have p3:=zbk (i+k)
 unfold zl9
 rw [show i+(k+1)=(i+k)+1 by omega,zg3,zg3,zeb _ _ _ p3 (by omega),zeb B _ _ p2 (by omega)]
 generalize hz:zfs A B i=z
 unfold di
 generalize hD:(2:Int)^(32*(i+k))=M at *
 have e:z%M+M*(z / M%4294967296)+2^(32*i)*(A / 2^(32*i)%4294967296)*(B%2^(32*k)+2^(32*k)*(B / 2^(32*k)%4294967296)) =
   (z%M+2^(32*i)*(A / 2^(32*i)%4294967296)*(B%2^(32*k)))+M*(z / M%4294967296+A / 2^(32*i)%4294967296*(B / 2^(32*k)%4294967296)):=by
  rw [hM]
  generalize (2:Int)^(32*i)=P
  generalize (2:Int)^(32*k)=Q
  generalize A / P%4294967296=a
  generalize B / Q%4294967296=b
  generalize B%Q=c
  generalize z%(P*Q)=u
  generalize z / (P*Q)%4294967296=v
  have:P*a*(c+Q*b)=P*a*c+P*Q*(a*b):=by
   rw [Int.mul_add]
   congr 1
   rw [Int.mul_assoc P a,Int.mul_assoc P Q]
   congr 1
   rw [<-Int.mul_assoc,<-Int.mul_assoc,Int.mul_comm a Q]
  rw [this,Int.mul_add]
  omega
 rw [e,<-Int.ediv_ediv_of_nonneg (Int.le_of_lt p3),Int.add_mul_ediv_left _ _ (by omega)]
 congr 1
 omega
theorem jpw (A B:Int) (i k:Nat):(di (zfs A B i) (i+k)+di A i*di B k+zl9 A B i k)%4294967296=di (zfs A B (i+1)) (i+k):=by
 have hM:(2:Int)^(32*(i+k))=2^(32*i)*2^(32*k):=by rw [Nat.mul_add,Int.pow_add]
 have p3:=zbk (i+k)
 rw [zif]
 unfold zl9
 generalize hz:zfs A B i=z
 unfold di
 generalize hD:(2:Int)^(32*(i+k))=M at *
 have h1:=Int.emod_add_mul_ediv z M
 have h2:=Int.emod_add_mul_ediv B (2^(32*k))
 have h3:=Int.emod_add_mul_ediv (B / 2^(32*k)) 4294967296
 have e:z+2^(32*i)*(A / 2^(32*i)%4294967296)*B=(z%M+2^(32*i)*(A / 2^(32*i)%4294967296)*(B%2^(32*k))) +
   M*(z / M+A / 2^(32*i)%4294967296*(B / 2^(32*k)%4294967296)+4294967296*(A / 2^(32*i)%4294967296*(B / 2^(32*k) / 4294967296))):=by
  have hB:B=B%2^(32*k)+2^(32*k)*(B / 2^(32*k)%4294967296+4294967296*(B / 2^(32*k) / 4294967296)):=by rw [h3];omega
  generalize B / 2^(32*k)%4294967296=b at *
  generalize B / 2^(32*k) / 4294967296=h at *
  generalize B%2^(32*k)=c at *
  rw [hM]
  rw [hM] at h1
  generalize (2:Int)^(32*i)=P at *
  generalize (2:Int)^(32*k)=Q at *
  generalize A / P%4294967296=a
  rw [hB]
  have:P*a*(c+Q*(b+4294967296*h))=P*a*c+P*Q*(a*b)+P*Q*(4294967296*(a*h)):=by
   rw [Int.mul_add,Int.mul_add Q,Int.mul_add]
   have e1:P*a*(Q*b)=P*Q*(a*b):=by
    rw [Int.mul_assoc P a,Int.mul_assoc P Q];congr 1;rw [<-Int.mul_assoc,<-Int.mul_assoc,Int.mul_comm a Q]
   have e2:P*a*(Q*(4294967296*h))=P*Q*(4294967296*(a*h)):=by
    rw [Int.mul_assoc P a,Int.mul_assoc P Q];congr 1
    rw [Int.mul_left_comm a Q];congr 1
    rw [Int.mul_left_comm]
   rw [e1,e2];omega
  rw [this,Int.mul_add,Int.mul_add]
  omega
 rw [e,Int.add_mul_ediv_left _ _ (by omega)]
 omega
theorem zzx (A B:Int) (i:Nat) (h0:0<=B) (h1:B<2^(32*8)):0<=zfs A B i/\zfs A B i<2^(32*(i+8)):=by
 have p1:=zbk i
 have h2:=Int.emod_nonneg A (b:=2^(32*i)) (by omega)
 have h3:=Int.emod_lt_of_pos A p1
 unfold zfs
 refine ⟨Int.mul_nonneg h2 h0,?_⟩
 rw [Nat.mul_add,Int.pow_add]
 generalize (2:Int)^(32*i)=P at *
 generalize (2:Int)^(32*8)=Q at *
 have h4:A%P*B<=A%P*Q:=Int.mul_le_mul_of_nonneg_left (by omega) h2
 have h5:A%P*Q<P*Q:=Int.mul_lt_mul_of_pos_right h3 (by omega)
 omega
theorem z4m (A B:Int) (i:Nat) (h0:0<=B) (h1:B<2^(32*8)):zl9 A B i 8=di (zfs A B (i+1)) (i+8):=by
 have hb:=zrk A B i 8
 have hz:=zzx A B i h0 h1
 unfold zl9 at *
 rw [Int.emod_eq_of_lt hz.1 hz.2,Int.emod_eq_of_lt h0 h1,<-zif] at *
 unfold di
 omega
theorem zzw (A B:Int) (i j:Nat) (h0:0<=B) (h1:B<2^(32*8)) (hj:i+8<=j):di (zfs A B i) j=0:=by
 have hz:=zzx A B i h0 h1
 have e:(2:Int)^(32*j)=2^(32*(i+8))*2^(32*(j - (i+8))):=by rw [<-Int.pow_add];congr 1;omega
 have p:=zbk (j - (i+8))
 unfold di
 rw [Int.ediv_eq_zero_of_lt hz.1]
 ·rfl
 ·rw [e]
  have:(2:Int)^(32*(i+8))*1<=2^(32*(i+8))*2^(32*(j - (i+8))):=Int.mul_le_mul_of_nonneg_left (by omega) (by have:=zbk (i+8);omega)
  omega
theorem zce {n:Nat} {k:IntKind} {f g:Nat->Int} (h:∀ j,j<n->f j=g j):fa n k f=fa n k g:=by
 unfold fa;congr 1;funext j;rw [h j j.2]
theorem z4l (A B:Int) (i j:Nat) (hj:j<i):di (zfs A B (i+1)) j=di (zfs A B i) j:=by
 rw [zif]
 unfold di
 have e:(2:Int)^(32*i)=2^(32*j)*(4294967296*2^(32*(i - j - 1))):=by
  rw [show (4294967296:Int)=2^32 by rfl,<-Int.pow_add,<-Int.pow_add];congr 1;omega
 rw [e,Int.mul_assoc,Int.mul_assoc (2^(32*j)),Int.mul_assoc 4294967296,Int.add_mul_ediv_left _ _ (by have:=zbk j;omega)]
 omega
theorem zzv (A B:Int) (i k:Nat):∀ j,upd (zvg A B i k) (i+k) (di (zfs A B (i+1)) (i+k)) j=zvg A B i (k+1) j:=λj=>by
 unfold upd zvg
 by_cases e:j=i+k
 ·subst e;simp
 ·rw [if_neg e]
  by_cases h:i<=j/\j<i+k
  ·rw [if_pos h,if_pos (by omega)]
  ·rw [if_neg h,if_neg (by omega)]
theorem z4k (A B:Int) (i:Nat) (h0:0<=B) (h1:B<2^(32*8)):∀ j,upd (zvg A B i 8) (i+8) (zl9 A B i 8) j=di (zfs A B (i+1)) j:=λj=>by
 unfold upd zvg
 by_cases e:j=i+8
 ·subst e;rw [if_pos rfl,z4m A B i h0 h1]
 ·rw [if_neg e]
  by_cases h:i<=j/\j<i+8
  ·rw [if_pos h]
  ·rw [if_neg h]
   by_cases hj:j<i
   ·exact (z4l A B i j hj).symm
   ·rw [zzw A B i j h0 h1 (by omega),zzw A B (i+1) j h0 h1 (by omega)]
@[simp] theorem jl7 (A B:Int) (i k:Nat):zvg A B i k (i+k)=di (zfs A B i) (i+k):=by unfold zvg;rw [if_neg (by omega)]
theorem jgp (A B:Int) (i k:Nat):0<=di (zfs A B i) (i+k)+di A i*di B k+zl9 A B i k/\di (zfs A B i) (i+k)+di A i*di B k+zl9 A B i k<18446744073709551616:=by
 have h1:=zm1 (zfs A B i) (i+k);have h2:=zm2 (zfs A B i) (i+k);have h3:=zm1 A i;have h4:=zm2 A i;have h5:=zm1 B k;have h6:=zm2 B k
 have h7:=zrk A B i k
 have h8:0<=di A i*di B k:=Int.mul_nonneg h3 h5
 have h9:di A i*di B k<=4294967295*4294967295:=Int.mul_le_mul (by omega) (by omega) h5 (by omega)
 omega
theorem jpz (A B:Int) (i k:Nat):((di (zfs A B i) (i+k)+di A i*di B k+zl9 A B i k)%18446744073709551616).tmod 4294967296=di (zfs A B (i+1)) (i+k):=by
 have h:=jgp A B i k
 rw [Int.emod_eq_of_lt h.1 h.2,Int.tmod_eq_emod_of_nonneg h.1,jpw]
theorem jpx (A B:Int) (i k:Nat):((di (zfs A B i) (i+k)+di A i*di B k+zl9 A B i k)%18446744073709551616).tdiv 4294967296%18446744073709551616=zl9 A B i (k+1):=by
 have h:=jgp A B i k
 have hb:=zrk A B i (k+1)
 rw [Int.emod_eq_of_lt h.1 h.2,Int.tdiv_eq_ediv_of_nonneg h.1,zzq]
 omega
end Go.Gy
namespace Go.Gy
open Go Go.RowKit
section
variable {P:Program}
def rdI (b:Blk) (off N:Nat) (f:Nat->Int):Prop:=∀ j,j<N->b.c[off+j]? = some (.int .i64 (f j))
theorem ztm (N:Nat) (f:Nat->Int) (T:BTy):rdI ⟨fa N .i64 f,T⟩ 0 N f:=λj hj=>by
 rw [Nat.zero_add];exact zdh N .i64 f j hj
theorem rdI.le {b:Blk} {off N M:Nat} {f:Nat->Int} (h:rdI b off N f) (hm:M<=N):rdI b off M f:=λj hj=>h j (by omega)
theorem zs6 {T:TypeId} {b:Blk} {off:Nat} {v:Value} (h:zc3 P T b.c off=some v) (hf:za0 v=true) (hrd:b.T.rd=true:=by first|rfl|assumption):zds P T b off=some v:=by
 obtain ⟨c,t⟩:=b
 cases t with
 | ty t=>exact h
 | raw t fr=>simp only [zds];simp only at h;rw [h];simp [hf]
 | mp=>cases hrd
theorem z3a (m:Nat) (k:IntKind) (f:Nat->Int):za0 (.agg (fa m k f))=true:=by
 simp [za0,zhe]
theorem zj0 {T:TypeId} {m:Nat} (h1:zhg P T=some true) (h2:zaz P T=some m) (hm:0<m) {b:Blk} {off N j:Nat} {f:Nat->Int} (h:rdI b off N f) (hj:j+m<=N) (hrd:b.T.rd=true:=by first|rfl|assumption):zds P T b (off+j)=some (.agg (fa m .i64 λq=>f (j+q))):=by
 have hsz:off+j+m<=b.c.size:=by
  have:=h (j+m - 1) (by omega)
  have:=(Array.getElem?_eq_some_iff.1 this).1
  omega
 have he:b.c.extract (off+j) (off+j+m)=fa m .i64 λq=>f (j+q):=by
  apply Array.ext_getElem?
  intro q
  rw [Array.getElem?_extract]
  by_cases hq:q<m
  ·rw [if_pos (by omega),zdh _ _ _ _ hq,Nat.add_assoc,h (j+q) (by omega)]
  ·rw [if_neg (by omega)]
   simp [fa];omega
 refine zs6 ?_ (z3a _ _ _)
 simp only [zc3,h1,h2,if_pos hsz,he]
theorem zkq {T:TypeId} (h1:zhg P T=some false) {b:Blk} {off N j:Nat} {f:Nat->Int} (h:rdI b off N f) (hj:j<N) (hrd:b.T.rd=true:=by first|rfl|assumption):zds P T b (off+j)=some (.int .i64 (f j)):=by
 refine zs6 ?_ (by simp [za0,zhe,zbj,zho])
 simp only [zc3,h1,h j hj]
 rfl
theorem jpj (k:IntKind) (f:Nat->Int):fa 6 k f=#[.int k (f 0),.int k (f 1),.int k (f 2),.int k (f 3),.int k (f 4),.int k (f 5)]:=by
 apply Array.ext'
 simp [fa,Array.toList_ofFn,List.ofFn_succ]
theorem zxw (k:IntKind) (f:Nat->Int):fa 3 k f=#[.int k (f 0),.int k (f 1),.int k (f 2)]:=by
 apply Array.ext'
 simp [fa,Array.toList_ofFn,List.ofFn_succ]
def zwl (f:Nat->Int) (o:Nat) (a b c:Int):Nat->Int:=λj=>if j=o then a else if j=o+1 then b else if j=o+2 then c else f j
theorem jj8 (N:Nat) (k:IntKind) (f:Nat->Int) (o:Nat) (a b c:Int) (h:o+3<=N):zct (fa N k f) o [.int k a,.int k b,.int k c]=fa N k (zwl f o a b c):=by
 apply Array.ext_getElem?
 intro j
 rw [zi7]
 by_cases hj:j<N
 ·rw [zdh _ _ _ _ hj,zdh _ _ _ _ hj]
  unfold zwl
  by_cases h0:j=o
  ·subst h0;simp [hj]
  ·by_cases h1:j=o+1
   ·subst h1;simp [hj]
   ·by_cases h2:j=o+2
    ·subst h2;simp [hj]
    ·rw [if_neg (by simp;omega),if_neg h0,if_neg h1,if_neg h2]
 ·rw [if_neg (by simp;omega)]
  have h1:(fa N k f)[j]? = none:=by simp [fa];omega
  have h2:(fa N k (zwl f o a b c))[j]? = none:=by simp [fa];omega
  rw [h1,h2]
def jmb (f:Nat->Int) (a m:Nat) (g:Nat->Int):Nat->Int:=λj=>if a<=j/\j<a+m then g (j - a) else f j
def z1r (f:Nat->Int) (a m:Nat) (g:Nat->Int):Nat->Int:=λj=>if j<a then f j else if j<a+m then g (j - a) else 0
theorem znc {l:List Value} {N:Nat} {k:IntKind} {g:Nat->Int} (hl:l.length=N) (h:∀ j,j<N->l[j]? = some (.int k (g j))):l.toArray=fa N k g:=by
 apply Array.ext_getElem?
 intro j
 by_cases hj:j<N
 ·rw [zdh _ _ _ _ hj,List.getElem?_toArray,h j hj]
 ·have h1:(fa N k g)[j]? = none:=by simp [fa];omega
  rw [h1,List.getElem?_toArray,List.getElem?_eq_none (by omega)]
theorem zb6 {N:Nat} {k:IntKind} {f:Nat->Int} {j:Nat} (h:j<N):(fa N k f).toList[j]? = some (.int k (f j)):=by
 rw [Array.getElem?_toList];exact zdh _ _ _ _ h
theorem zdv (N:Nat) (k:IntKind) (f:Nat->Int):(fa N k f).toList.length=N:=by simp
theorem z2l {N a m:Nat} {k:IntKind} {f g:Nat->Int} (h:a+m<=N):((fa N k f).toList.take a++(fa m k g).toList++(fa N k f).toList.drop (a+(fa m k g).toList.length)).toArray=fa N k (jmb f a m g):=by
 refine znc (by simp;omega) λj hj=>?_
 rw [zdv]
 have hta:((fa N k f).toList.take a).length=a:=by simp;omega
 unfold jmb
 by_cases h1:j<a
 ·rw [List.append_assoc,List.getElem?_append_left (by omega),List.getElem?_take,if_pos h1,zb6 (by omega),if_neg (by omega)]
 ·rw [List.append_assoc,List.getElem?_append_right (by omega),hta]
  by_cases h2:j<a+m
  ·rw [List.getElem?_append_left (by simp;omega),zb6 (by omega),if_pos (by omega)]
  ·rw [List.getElem?_append_right (by simp;omega),zdv,List.getElem?_drop,if_neg (by omega),show a+m+(j - a - m)=j by omega,zb6 hj]
theorem zj8 {z:Array Value} {k:IntKind} (hz:∀ x∈z,x=.int k 0) (q:Nat):(Builtin.zeroCells z q).toList=(fa (q*z.size) k λ_=>0).toList:=by
 have e:(Builtin.zeroCells z q).toList.toArray=fa (q*z.size) k λ_=>0:=znc (by simp [zr8]) λj hj=>by
  have hj':j<(Builtin.zeroCells z q).size:=by rw [zr8];exact hj
  rw [Array.getElem?_toList,Array.getElem?_eq_getElem hj']
  exact congrArg some (hz _ (zmq (Array.getElem_mem hj')))
 rw [<-e]
theorem z2k {N a m q:Nat} {k:IntKind} {f g:Nat->Int} (h:a<=N):((fa N k f).toList.take a++(fa m k g).toList++(fa q k λ_=>0).toList).toArray=fa (a+m+q) k (z1r f a m g):=by
 refine znc (by simp;omega) λj hj=>?_
 have hta:((fa N k f).toList.take a).length=a:=by simp;omega
 unfold z1r
 by_cases h1:j<a
 ·rw [List.append_assoc,List.getElem?_append_left (by omega),List.getElem?_take,if_pos h1,zb6 (by omega),if_pos h1]
 ·rw [List.append_assoc,List.getElem?_append_right (by omega),hta,if_neg h1]
  by_cases h2:j<a+m
  ·rw [List.getElem?_append_left (by simp;omega),zb6 (by omega),if_pos h2]
  ·rw [List.getElem?_append_right (by simp;omega),zdv,zb6 (by omega),if_neg h2]
theorem zqi {m q:Nat} {k:IntKind} {g:Nat->Int}:((fa m k g).toList++(fa q k λ_=>0).toList).toArray=fa (m+q) k (z1r g m 0 g):=by
 refine znc (by simp) λj hj=>?_
 unfold z1r
 by_cases h1:j<m
 ·rw [List.getElem?_append_left (by simp;omega),zb6 h1,if_pos h1]
 ·rw [List.getElem?_append_right (by simp;omega),zdv,zb6 (by omega),if_neg h1,if_neg (by omega)]
theorem zei {N:Nat} {k:IntKind} {f:Nat->Int}:∀ x∈(fa N k f).toList,zbj x=true:=λx hx=>by
 obtain ⟨m,rfl⟩:=zjf (Array.mem_toList_iff.1 hx)
 rfl
theorem zqr {N:Nat} {k:IntKind} {f:Nat->Int}:∀ x∈(fa N k f).toList,x.oneCell'=true:=λx hx=>by
 obtain ⟨m,rfl⟩:=zjf (Array.mem_toList_iff.1 hx)
 rfl
theorem z7f {b:Blk} {off N:Nat} {f:Nat->Int} (h:rdI b off N f):∀ q u,(fa N .i64 f).toList[q]? = some u->b.c[off+q]? = some u:=λq u hq=>by
 by_cases hN:q<N
 ·rw [zb6 hN] at hq;rw [h q hN];exact hq
 ·rw [List.getElem?_eq_none (by simp;omega)] at hq;cases hq
theorem zd3 {N:Nat} {f:Nat->Int} {k:IntKind} {T:TypeId} {ρ:Nat->Nat}:(Blk.mk (fa N k f) (.ty T)).rn ρ=⟨fa N k f,.ty T⟩:=Blk.rn_flat λx hx=>by
 obtain ⟨m,rfl⟩:=zjf hx;rfl
end
end Go.Gy
namespace Go.Gy
open Go Go.RowKit
section
variable {P:Program} {C:Ctx} {n:Nat} {d:List Deferred} {ro:Option Nat} {s:GS} {K:Exit->GS->Prop}
theorem zwp {ops:Array Oper} {o:Oper} {post:List Oper} {base k:Nat} {ts:Nat->Value} {hp:Hp} {yc:Nat} {T e:TypeId} {m:Nat} (hg:o.guard=none) (hd:∀ dd,o.dst=some dd->dd<n)
  (ho:o.op=.buildSlice T 0 #[]) (hu:P.underlying T=some (.slice e)) (hm:zaz P e=some m)
  (h:GL P C n d ro ops base (k+1) post (zbl ts o.dst (.slice (some ⟨base+8*k,0,none⟩) 0 0)) (upd hp (base+8*k) (some ⟨#[],.ty e⟩)) yc K):GL P C n d ro ops base k (o::post) ts hp yc K:=by
 intro r a W hi hf hb hG hR
 refine wpListIn_plain hg λK' hK'=>?_
 have hnk:hp (base+8*k)=none:=hf _ (Nat.le_refl _)
 have hff:∀ x∈(#[]:Array Value),zbj x=true:=by simp
 have hnd:¬dom hp (base+8*k):=by unfold dom;simp [hnk]
 have hr':∀ q,dom hp q->upd r (base+8*k) W.heap.size q=r q:=λq hq=>zaa _ _ (λe=>hnd (e▸hq))
 refine zev (by rw [ho];intro c;simp) (R:=λu W'=>u=.slice (some ⟨W.heap.size,0,none⟩) 0 0/\W'=W.alloc (.cells #[] e)) (Rp:=λ_ _=>False) ?_ (λu W' h'=>?_) (λpv W' h=>h.elim)
 ·unfold zlj
  simp only [execOp,ho,Instr.buildSlice,Sem.run_bind,run_underlying hu,Result.andThen_ok,zb1 hm,Nat.zero_mul]
  simp [Instr.fill,newRow,newObj,Sem.run]
  rw [show Array.range 0=#[] from rfl,show ∀ f:Nat->Value,Array.map f #[]=#[] from λf=>by simp]
 ·obtain ⟨rfl,rfl⟩:=h'
  have hv:(Value.slice (some ⟨W.heap.size,0,none⟩) 0 0)=ren (upd r (base+8*k) W.heap.size) (.slice (some ⟨base+8*k,0,none⟩) 0 0):=by simp [ren,zas,zan,zao,upd]
  rw [hv]
  refine hK' _ _ (h (upd r (base+8*k) W.heap.size) _ _ (hi.after (e:=⟨.slice (some ⟨base+8*k,0,none⟩) 0 0,[],[],[(base+8*k,⟨#[],.ty e⟩)],none,false⟩) hd hr' (by simp [zap,zau,zaj,zal,zc7,zab]) ⟨rfl,rfl,rfl,(by show W.heap.size<=(W.heap.push _).size;simp),λq hq _=>?_,λp hp1=>?_,λp hp1=>?_,by simp⟩ (by simp [zab]) (by simp [zab,hnk];omega)) (λx hx'=>?_) hb hG hR)
  ·exact Below.heap_alloc _ _ _ hq
  ·simp only [List.nil_append,List.mem_singleton] at hp1
   subst hp1
   refine ⟨?_,Blk.flat_ids hff⟩
   rw [Blk.obj_flat hff]
   show (W.alloc _).heap[upd r (base+8*k) W.heap.size (base+8*k)]? = _
   rw [zbg]
   exact heap_alloc_new W _
  ·simp only [List.mem_singleton] at hp1
   subst hp1
   show W.heap.size<=upd r (base+8*k) W.heap.size (base+8*k)
   rw [zbg]
   exact Nat.le_refl _
  ·rw [zaa _ _ (λe=>by omega)]
   exact hf x (by omega)
def jdp (κ:IntKind) (m i:Nat) (G:Nat->Int) (e:TypeId) (hp:Hp) (sl:Value):Prop:=(i=0/\sl=.slice none 0 0)\/∃ (k c:Nat) (g:Nat->Int),100<=k/\sl=.slice (some ⟨k,0,none⟩) i c/\hp k=some ⟨fa (m*c) κ g,.ty e⟩/\i<=c/\∀ j,j<m*i->g j=G j
theorem ze8 (κ:IntKind) {ops:Array Oper} {o:Oper} {post:List Oper} {base k:Nat} {ts:Nat->Value} {hp:Hp} {yc:Nat} {tx ty:Tmp} {t e:TypeId} {m i j by':Nat} {z:Value} {T2:BTy} {G ev:Nat->Int} (hg:o.guard=none) (hd:∀ dd,o.dst=some dd->dd<n)
  (ho:o.op=.call { callee:=.builtin .append,args:=#[.tmp tx,.tmp ty],argTypes:=#[t,t] }) (ht:P.underlying t=some (.slice e)) (hs:zaz P e=some m) (hz:zbq P e=some z) (hby:zi9 P e=some by') (hb8:by'<=8*m)
  (hzz:∀ x∈z.cells,x=.int κ 0) (hzs:z.cells.size=m) (hm0:0<m) (hm1:m<=1024) (hx:jdp κ m i G e hp (ts tx)) (hy:ts ty=.slice (some ⟨j,0,none⟩) 1 1) (hb2:hp j=some ⟨fa m κ ev,T2⟩) (hev:∀ q,q<m->ev q=G (m*i+q)) (hi20:(i+1)*(8*m)<=140737488355328)
  (h:∀ k' c' g',(k'=base+8*k\/∃ c,ts tx=.slice (some ⟨k',0,none⟩) i c)->100<=k'->i+1<=c'->(∀ q,q<m*(i+1)->g' q=G q) ->
   GL P C n d ro ops base (k+1) post (zbl ts o.dst (.slice (some ⟨k',0,none⟩) (i+1) c')) (upd hp k' (some ⟨fa (m*c') κ g',.ty e⟩)) yc K) (hrd:T2.rd=true:=by first|rfl|assumption):GL P C n d ro ops base k (o::post) ts hp yc K:=by
 have hzf:∀ q,∀ x∈Builtin.zeroCells z.cells q,zbj x=true:=λq x hx=>by rw [hzz x (zmq hx)];rfl
 by_cases hb100:¬100<=base
 ·intro r a W hi hf hb hG hR
  exact absurd hb hb100
 replace hb100:100<=base:=Classical.not_not.1 hb100
 have hle:m*(i+1)=m*i+m:=by rw [Nat.mul_add,Nat.mul_one]
 have hmi:m*i<=140737488355328:=Nat.le_trans (by rw [Nat.mul_comm];exact Nat.mul_le_mul (by omega) (by omega)) hi20
 have hi1:i+1<=140737488355328:=Nat.le_trans (Nat.le_mul_of_pos_right _ (by omega)) hi20
 have h8:(i+1)*by'<=140737488355328:=Nat.le_trans (Nat.mul_le_mul (Nat.le_refl _) hb8) hi20
 rcases hx with ⟨rfl,hx⟩|⟨k0,c,g,hk0,hx,hb,hic,hgG⟩
 ·refine zp9 (nw:=(fa m κ ev).toList) hg hd ho ht hs hz hby hx hy hb2 (λq u hq=>by simpa using hq) zei hzf (by omega) (by simp) (by unfold maxLen;omega) (by omega) (λcap' hc'=>?_)
  rw [zj8 (k:=κ) hzz,zqi,hzs]
  have em:m+(cap' - 1)*m=m*cap':=by
   have:cap'=(cap' - 1)+1:=by omega
   rw [this,Nat.mul_add,Nat.mul_comm m];simp;omega
  rw [em]
  refine h _ cap' _ (.inl rfl) (by omega) (by omega) λq hq=>?_
  unfold z1r
  rw [if_pos (by omega)]
  have:=hev q (by omega)
  simpa using this
 ·refine jdl hg hd (zxc (c:=(fa (m*c) κ g).toList) (c2:=(fa m κ ev).toList) (k:=k0) (j:=j) (m:=1) (m':=1) (sl:=i) (cap:=c) (e:=e) (T2:=T2) (sz:=m) (by':=by') (z:=z) ho ht hs hz hby hx hk0 (by simpa using hb) zei hy (by simpa using hb2) zei zqr hzf (by simp) (by rw [zdv,Nat.mul_comm];exact Nat.le_refl _) hic (by unfold maxLen;omega) h8 (λhr=>?_) (λhr cap' hc'=>?_))
  ·have hcm:m*(i+1)<=m*c:=Nat.mul_le_mul (Nat.le_refl _) hr
   rw [Nat.mul_comm i m,z2l (by omega)]
   refine h k0 c _ (.inr ⟨c,hx⟩) hk0 hr λq hq=>?_
   unfold jmb
   by_cases hq1:q<m*i
   ·rw [if_neg (by omega)];exact hgG q hq1
   ·rw [if_pos (by omega),hev _ (by omega)];congr 1;omega
  ·have hcm:m*i<=m*c:=Nat.mul_le_mul (Nat.le_refl _) hic
   rw [Nat.mul_comm i m,zj8 (k:=κ) hzz,hzs,z2k (by omega)]
   have em:m*i+m+(cap' - (i+1))*m=m*cap':=by
    obtain ⟨x,rfl⟩:∃ x,cap'=i+1+x:=⟨cap' - (i+1),by omega⟩
    rw [show i+1+x - (i+1)=x by omega,Nat.mul_add,Nat.mul_add,Nat.mul_one,Nat.mul_comm x m]
   rw [em]
   refine h _ cap' _ (.inl rfl) (by omega) hc' λq hq=>?_
   unfold z1r
   by_cases hq1:q<m*i
   ·rw [if_pos hq1];exact hgG q hq1
   ·rw [if_neg hq1,if_pos (by omega),hev _ (by omega)];congr 1;omega
theorem FunS.mvL {G:Hp} {f:FuncId} {args args':Array Value} {m:List (Nat×Blk)} {B:Nat} {R R':Value->List (Nat×Blk)->Prop} {hp':Hp} {rs':List Nat} (h:FunS P G f args (hpL G m) (zab m) R) (hGF:zbm G) (hm:LOk m B) (ρ:Nat->Nat) (hlow:∀ k,k<100->ρ k=k)
  (ea:args.map (ren ρ)=args') (er:(zab m).map ρ=rs') (eR:RR ρ R=R') (hp0:∀ k,k<100->hp' k=G k) (hat:∀ p∈m,100<=ρ p.1/\hp' (ρ p.1)=some (p.2.rn ρ)) (hinj:∀ k∈zab m,∀ l∈zab m,ρ k=ρ l->k=l)
  (hnew:∀ v ns,R v ns->∀ k∈zab ns,100<=ρ k/\ρ k∉rs') (hnj:∀ v ns,R v ns->∀ k∈zab ns,∀ l∈zab ns,ρ k=ρ l->k=l):FunS P G f args' hp' rs' R':=by
 subst ea er eR
 refine h.rn ρ hGF hm.low (zpl hm ρ hlow hp0 hat hinj) (λv ns hR k hk=>?_) hnj
 obtain ⟨h1,h2⟩:=hnew v ns hR k hk
 refine ⟨h1,λhd=>hd ?_⟩
 unfold rst
 rw [if_neg]
 rintro (h3|h3)
 ·omega
 ·exact h2 h3
theorem zbd {G:Hp} {ops:Array Oper} {o:Oper} {post:List Oper} {base k:Nat} {ts:Nat->Value} {hp hp':Hp} {yc:Nat} {c:Call} {f:Operand} {g:FuncId} {cap:Array Value} {rs:List Nat} {args:Array Value} {R:Value->List (Nat×Blk)->Prop} (hCG:C.G=G) (hr:FunS P G g args hp' rs R) (hg:o.guard=none) (hd:∀ dd,o.dst=some dd->dd<n)
  (ho:o.op=.call c) (hc:c.callee=.value f) (hf:okT ts f) (hgf:gev ts f=.func (.func g) #[] cap) (hcp:cap.all zbs=true) (ha:∀ x∈c.args.toList,okX ts hp x) (hargs:c.args.map (gev ts)++cap=args)
  (h1:∀ q∈rs,hp' q=hp q) (h2:∀ q,q<100->hp' q=hp q) (hat:∀ v ns,R v ns->∀ q∈zab ns,base+8*k<=q/\q<base+8*k+8)
  (h:∀ v ns,R v ns->GL P C n d ro ops base (k+1) post (zbl ts o.dst v) (zaw hp ns) yc K):GL P C n d ro ops base k (o::post) ts hp yc K:=by
 subst hCG
 exact zsd hg hd ho hc hf hgf hcp ha hargs hr h1 h2 hat h
end
section
variable {P:Program} {C:Ctx} {n:Nat} {d:List Deferred} {ro:Option Nat} {s:GS} {K:Exit->GS->Prop}
structure AFree (ops:Array Oper) (base:Nat) (listed:Array Bool) (hp:Hp):Prop where
 at':∀ i,listed[i]? = some false->∀ x,base+8*i<=x->x<base+8*i+8->hp x=none
 up:∀ x,base+8*ops.size<=x->hp x=none
def GA (P:Program) (C:Ctx) (n:Nat) (d:List Deferred) (ro:Option Nat) (ops:Array Oper) (base:Nat) (fuel:Nat) (listed:Array Bool) (ts:Nat->Value) (hp:Hp) (yc:Nat) (K:Exit->GS->Prop):Prop :=
 ∀ r a W,RI C n d r ts hp yc a W->AFree ops base listed hp->100<=base->zbm C.G->(∀ y,C.Y=some y->zgg P C.G C.E y)->wpAnyIn (Fw P ro) 0 P .any ops (λe a' W'=>∃ s' r',K e s'/\GI P C n d r' s' a' W') fuel listed a W
def GO (P:Program) (C:Ctx) (n:Nat) (d:List Deferred) (ro:Option Nat) (ops:Array Oper) (base:Nat) (fuel:Nat) (listed:Array Bool) (i:Nat) (ts:Nat->Value) (hp:Hp) (yc:Nat) (K:Exit->GS->Prop):Prop :=
 ∀ r a W,RI C n d r ts hp yc a W->AFree ops base listed hp->100<=base->zbm C.G->(∀ y,C.Y=some y->zgg P C.G C.E y)->wpOpIn (Fw P ro) 0 P ops (λe a' W'=>∃ s' r',K e s'/\GI P C n d r' s' a' W') i (wpAnyIn (Fw P ro) 0 P .any ops (λe a' W'=>∃ s' r',K e s'/\GI P C n d r' s' a' W') fuel (listed.setIfInBounds i true)) a W
theorem z5w {id:Nat} {l:List Oper} (hm:P.follows .mixedOrders=true) (h:GA P C n d ro l.toArray s.B l.length (Array.replicate l.length false) s.ts s.hp s.yc K):GW P C n d ro (.region id l.toArray true) s K:=λr a W hi =>
 wpIn_region_any hm (by
  have:=h r a _ hi.ri.drew ⟨λi _ x hx _=>hi.free x (by omega),λx hx=>hi.free x (by omega)⟩ hi.low hi.flat hi.rounds
  simpa using this)
theorem z5v {ops:Array Oper} {base fuel:Nat} {listed:Array Bool} {ts:Nat->Value} {hp:Hp} {yc:Nat} (hr:Region.ready .any ops listed=[]) (h:K .normal ⟨ts,hp,base+8*ops.size,yc⟩):GA P C n d ro ops base fuel listed ts hp yc K:=λr a W hi hf hb hG hR=>by
 have hq:∃ s' r',K .normal s'/\GI P C n d r' s' a W:=⟨⟨ts,hp,_,yc⟩,r,h,hi,hf.up,by show 100<=base+8*ops.size;omega,hG,hR⟩
 cases fuel with
 | zero=>exact ⟨hr,hq⟩
 | succ k=>exact ⟨λ_=>hq,λi hi=>by rw [hr] at hi;cases hi⟩
theorem z7x {ops:Array Oper} {base fuel:Nat} {listed:Array Bool} {ts:Nat->Value} {hp:Hp} {yc:Nat} (l:List Nat) (hr:Region.ready .any ops listed=l) (hl:l.isEmpty=false) (h:∀ i∈l,GO P C n d ro ops base fuel listed i ts hp yc K):GA P C n d ro ops base (fuel+1) listed ts hp yc K:=λr a W hi hf hb hG hR=>by
 refine ⟨λh0=>?_,λi hm=>h i (by rw [<-hr];exact hm) r a W hi hf hb hG hR⟩
 rw [hr] at h0;rw [h0] at hl;cases hl
theorem AFree.after {ops:Array Oper} {base:Nat} {listed:Array Bool} {hp hp':Hp} (h:AFree ops base listed hp) {i:Nat} (hi:i<ops.size) (e:∀ x,hp x=none->¬(base+8*i<=x/\x<base+8*i+8)->hp' x=none):AFree ops base (listed.setIfInBounds i true) hp':=by
 refine ⟨λj hj x h1 h2=>?_,λx hx=>e x (h.up x hx) (by omega)⟩
 rw [Array.getElem?_setIfInBounds] at hj
 split at hj
 ·split at hj<;>cases hj
 ·exact e x (h.at' j hj x h1 h2) (by omega)
theorem z7z {l0:List Oper} {o:Oper} {post:List Oper} {base i fuel:Nat} {listed:Array Bool} {ts:Nat->Value} {hp:Hp} {yc:Nat} (pn:List FuncId) (hl:l0.drop i=o::post) (hdst:(zhd n [o]&&zrz P [o])=true) (hi:listed[i]? = some false)
  (h:∀ q:(Nat->Value)->Hp->Tr->Nat->Prop,(∀ ts hp tr yc,GA P C n d ro l0.toArray base fuel (listed.setIfInBounds i true) ts hp yc K->q ts hp tr yc) ->
   zhu P C.G ⟨C.Y,pn,false⟩ base ⟨q,λ_ _=>False⟩ ((l0.take i).map (·.dst)).reverse i [o] ts hp [] yc true false):GO P C n d ro l0.toArray base fuel listed i ts hp yc K:=by
 intro r a W hRI hf hb hG hR
 simp only [Bool.and_eq_true] at hdst
 have hok:=And.intro (zfm hdst.1 (List.mem_singleton.2 rfl)) (zg0 hdst.2 o (List.mem_singleton.2 rfl))
 have hi0:l0[i]? = some o:=by
  have:=congrArg (λl=>l[0]?) hl
  simpa [List.getElem?_drop] using this
 have hlt:i<l0.length:=(List.getElem?_eq_some_iff.1 hi0).1
 have hh:=h (λts hp _ yc=>GA P C n d ro l0.toArray base fuel (listed.setIfInBounds i true) ts hp yc K) (λ_ _ _ _ a=>a)
 have ek:(l0.take i).length=i:=by simp;omega
 have hx:zji P C.G ⟨C.Y,pn,false⟩ l0.toArray base (λts hp _ yc=>GA P C n d ro l0.toArray base fuel (listed.setIfInBounds i true) ts hp yc K) (λ_ _=>False) i [o] ts hp [] yc true false:=by
  refine zdf (Q:=⟨_,λ_ _=>False⟩) [o] _ i _ _ _ _ _ _ (λj hj=>?_) (λj hj=>?_) hh
  ·rw [List.getElem?_reverse (by simp;omega)]
   simp only [List.length_map,ek,List.getElem?_map,List.getElem?_toArray]
   rw [show i - 1 - (i - 1 - j)=j by omega,List.getElem?_take,if_pos hj]
   cases l0[j]?<;>rfl
  ·obtain rfl:j=0:=by simpa using hj
   simp [hi0]
 have hfree:∀ x,base+8*i<=x->x<base+8*i+8->hp x=none:=hf.at' i hi
 unfold wpOpIn
 rw [List.getElem?_toArray,hi0]
 simp only
 simp only [zji] at hx
 cases hw:zc0 l0.toArray o ts with
 | none=>rw [hw] at hx;exact hx.elim
 | some b =>
  rw [hw] at hx
  rw [zg6 hRI.rel hw]
  cases b with
  | true =>
   simp only at hx
   simp only [if_true]
   obtain ⟨e,h1,hs,hyd,h3⟩:=zgt hG hRI.glob hx
   refine z3y hG hR o e ts hp yc r a W 0 _ _ hRI hok.1 h1 (λx hx=>(hs.ws x hx).2) (λx hx=>?_) (λr' a' W' hpn hi'=>?_) (λpv W' yc' hpn hi'=>?_)
   ·have:=hs.ns x hx;exact ⟨hfree x (by omega) (by omega),by omega⟩
   ·rw [hpn] at h3
    refine h3 r' a' W' hi' (hf.after (by simpa using hlt) λx hx0 hx1=>?_) hb hG hR
    rw [zbb (λhm=>?_)]
    ·exact hx0
    ·have:x∈zab e.ws\/x∈zab e.ns:=by simpa [zab] using hm
     rcases this with h|h
     ·exact (hs.ws x h).2.1 hx0
     ·have:=hs.ns x h;omega
   ·rw [hpn] at h3
    exact h3.2.2.elim
  | false =>
   simp only at hx
   simp only [Bool.false_eq_true,if_false]
   exact ⟨zs8 (Y:=none) o ts r _ a W hRI.rel ⟨hx.1,hok.2⟩,hx.2 r _ W (hRI.put_undef hok.1.1) (hf.after (by simpa using hlt) λx hx0 _=>hx0) hb hG hR⟩
theorem zea {G:Hp} {ops:Array Oper} {o:Oper} {base i fuel:Nat} {listed:Array Bool} {ts:Nat->Value} {hp hp':Hp} {yc:Nat} {c:Call} {f:Operand} {g:FuncId} {cap:Array Value} {rs:List Nat} {args:Array Value} {R:Value->List (Nat×Blk)->Prop} (hCG:C.G=G) (hr:FunS P G g args hp' rs R) (hio:ops[i]? = some o) (hi:listed[i]? = some false) (hg:o.guard=none) (hd:∀ dd,o.dst=some dd->dd<n)
  (ho:o.op=.call c) (hc:c.callee=.value f) (hf:okT ts f) (hgf:gev ts f=.func (.func g) #[] cap) (hcp:cap.all zbs=true) (ha:∀ x∈c.args.toList,okX ts hp x) (hargs:c.args.map (gev ts)++cap=args)
  (h1:∀ q∈rs,hp' q=hp q) (h2:∀ q,q<100->hp' q=hp q) (hat:∀ v ns,R v ns->∀ q∈zab ns,base+8*i<=q/\q<base+8*i+8)
  (h:∀ v ns,R v ns->GA P C n d ro ops base fuel (listed.setIfInBounds i true) (zbl ts o.dst v) (zaw hp ns) yc K):GO P C n d ro ops base fuel listed i ts hp yc K:=by
 subst hCG
 intro r a W hRI hfr hb hG hR
 unfold wpOpIn
 rw [hio]
 simp only [Region.wanted,hg,if_true]
 refine zi8 hG hRI hd ho hc hf hgf hcp ha (by rw [hargs];exact hr.under λq hq=>hq.elim (h2 q) (h1 q)) (λv ns hRv q hq=>hfr.at' i hi q (hat v ns hRv q hq).1 (hat v ns hRv q hq).2) (λv ns hRv r' a' W' hi'=>h v ns hRv r' a' W' hi' (hfr.after (Array.getElem?_eq_some_iff.1 hio).1 λx hx hx1=>?_) hb hG hR)
 rw [zbb (λhm=>hx1 (hat v ns hRv x hm))]
 exact hx
end
section
variable {P:Program} {C:Ctx} {n:Nat} {d:List Deferred} {ro:Option Nat} {s:GS} {K:Exit->GS->Prop}
theorem gwo {l0:List Oper} {o:Oper} {post:List Oper} {base i fuel:Nat} {listed:Array Bool} {ts:Nat->Value} {hp:Hp} {yc:Nat}
  (h:∀ q:(Nat->Value)->Hp->Tr->Nat->Prop,(∀ ts hp tr yc,GA P C n d ro l0.toArray base fuel (listed.setIfInBounds i true) ts hp yc K->q ts hp tr yc) ->
   zhu P C.G ⟨C.Y,[],false⟩ base ⟨q,λ_ _=>False⟩ ((l0.take i).map (·.dst)).reverse i [o] ts hp [] yc true false) (hl:l0.drop i=o::post:=by rfl) (hdst:(zhd n [o]&&zrz P [o])=true:=by kernel_rfl) (hi:listed[i]? = some false:=by first|assumption|simp):GO P C n d ro l0.toArray base fuel listed i ts hp yc K:=z7z [] hl hdst hi h
end
@[simp] theorem jb2:za0 (.map none)=true:=by simp [za0,zhe,zbj,zho]
theorem zqo:∀ (l:List Bool) (i:Nat),l[i]? = some false->(l.set i true).count false+1=l.count false
 | [],i,h=>by simp at h
 | a::l,0,h=>by simp at h;subst h;simp
 | a::l,i+1,h=>by
  have:=zqo l i (by simpa using h)
  simp only [List.set_cons_succ,List.count_cons]
  omega
theorem mem_ready {md:Region.Mode} {ops:Array Oper} {listed:Array Bool} (hs:listed.size=ops.size) {i:Nat}:i∈Region.ready md ops listed↔listed[i]? = some false/\∀ o,ops[i]? = some o->∀ e∈o.after,Region.binds md e=true->listed[e.on]? = some true:=by
 unfold Region.ready
 simp only [List.mem_filter,List.mem_range,Bool.and_eq_true,Bool.not_eq_true']
 constructor
 ·rintro ⟨h1,h2,h3⟩
  have e1:listed[i]? = some listed[i]:=Array.getElem?_eq_getElem (by omega)
  refine ⟨?_,λo ho e he hb=>?_⟩
  ·simp only [Array.getD_eq_getD_getElem?,e1,Option.getD_some] at h2
   rw [e1,h2]
  ·rw [ho] at h3
   simp only [Option.map_some,Option.getD_some,Array.all_eq_true_iff_forall_mem] at h3
   have:=h3 e he
   rw [hb] at this
   simp only [Bool.not_true,Bool.false_or,Array.getD_eq_getD_getElem?] at this
   cases hl:listed[e.on]? with
   | none=>rw [hl] at this;simp at this
   | some b=>rw [hl] at this;simp at this;rw [this]
 ·rintro ⟨h1,h2⟩
  have hlt:i<ops.size:=by have:=(Array.getElem?_eq_some_iff.1 h1).1;omega
  refine ⟨hlt,by simp [Array.getD_eq_getD_getElem?,h1],?_⟩
  rw [Array.getElem?_eq_getElem hlt]
  simp only [Option.map_some,Option.getD_some,Array.all_eq_true_iff_forall_mem,Bool.or_eq_true,Bool.not_eq_true']
  intro e he
  cases hb:Region.binds md e with
  | false=>exact .inl rfl
  | true=>right;simp [Array.getD_eq_getD_getElem?,h2 _ (Array.getElem?_eq_getElem hlt) e he hb]
theorem zpi {md:Region.Mode} {ops:Array Oper} {listed:Array Bool} (hs:listed.size=ops.size) (hlt:(ops.toList.zipIdx.all λp=>p.1.after.all λe=>decide (e.on<p.2))=true) (h:Region.ready md ops listed=[]):∀ i,i<ops.size->listed[i]? = some true:=by
 intro i
 induction i using Nat.strongRecOn with
 | _ i ih =>
  intro hi
  have e1:listed[i]? = some listed[i]:=Array.getElem?_eq_getElem (by omega)
  cases hb:listed[i] with
  | true=>rw [e1,hb]
  | false =>
   exfalso
   have:i∈Region.ready md ops listed:=(mem_ready hs).2 ⟨by rw [e1,hb],λo ho e he _=>by
    have hm:(o,i)∈ops.toList.zipIdx:=by
     rw [List.mem_zipIdx_iff_getElem?]
     simpa using ho
    have:=List.all_eq_true.1 hlt _ hm
    have:=Array.all_eq_true_iff_forall_mem.1 this e he
    have h3:e.on<i:=by simpa using this
    exact ih _ h3 (by omega)⟩
   rw [h] at this
   cases this
section
variable {P:Program} {C:Ctx} {n:Nat} {d:List Deferred} {ro:Option Nat} {K:Exit->GS->Prop}
theorem zse {G:Hp} {ops:Array Oper} {o:Oper} {post:List Oper} {base k:Nat} (sh:Nat) {ts:Nat->Value} {hp hp':Hp} {yc:Nat} {c:Call} {f:Operand} {g:FuncId} {cap:Array Value} {rs:List Nat} {args:Array Value} {R:Value->List (Nat×Blk)->Prop} (hCG:C.G=G) (hr:FunS P G g args hp' rs R) (hg:o.guard=none) (hd:∀ dd,o.dst=some dd->dd<n)
  (ho:o.op=.call c) (hc:c.callee=.value f) (hf:okT ts f) (hgf:gev ts f=.func (.func g) #[] cap) (hcp:cap.all zbs=true) (ha:∀ x∈c.args.toList,okX ts hp x) (hargs:c.args.map (gev ts)++cap=args)
  (h1:∀ q∈rs,hp' q=hp q) (h2:∀ q,q<100->hp' q=hp q) (hat:∀ v ns,R v ns->∀ q∈zab ns,base+8*k<=q/\q<base+sh+8*k+8)
  (h:∀ v ns,R v ns->GL P C n d ro ops (base+sh) (k+1) post (zbl ts o.dst v) (zaw hp ns) yc K):GL P C n d ro ops base k (o::post) ts hp yc K:=by
 subst hCG
 intro r a W hi hfr hb hG hR
 refine wpListIn_plain hg λK' hK'=>?_
 refine zi8 hG hi hd ho hc hf hgf hcp ha (by rw [hargs];exact hr.under λq hq=>hq.elim (h2 q) (h1 q)) (λv ns hRv q hq=>hfr q (hat v ns hRv q hq).1) (λv ns hRv r' a' W' hi'=>hK' _ _ (h v ns hRv r' a' W' hi' (λx hx=>?_) (by omega) hG hR))
 rw [zbb (λhm=>by have:=hat v ns hRv x hm;omega)]
 exact hfr x (by omega)
theorem zwo {ops:Array Oper} {base yc:Nat} (I:Array Bool->(Nat->Value)->Hp->Prop)
  (fin:∀ listed ts hp,listed.size=ops.size->Region.ready .any ops listed=[]->I listed ts hp->K .normal ⟨ts,hp,base+8*ops.size,yc⟩)
  (step:∀ fuel listed ts hp i,listed.size=ops.size->listed[i]? = some false->(∀ o,ops[i]? = some o->∀ e∈o.after,Region.binds .any e=true->listed[e.on]? = some true)->I listed ts hp ->
   (∀ ts' hp',I (listed.setIfInBounds i true) ts' hp'->GA P C n d ro ops base fuel (listed.setIfInBounds i true) ts' hp' yc K)->GO P C n d ro ops base fuel listed i ts hp yc K) :
  ∀ (fuel:Nat) (listed:Array Bool) (ts:Nat->Value) (hp:Hp),listed.size=ops.size->listed.toList.count false<=fuel->I listed ts hp->GA P C n d ro ops base fuel listed ts hp yc K
 | 0,listed,ts,hp,hs,hc,hI=>by
  have hr:Region.ready .any ops listed=[]:=by
   cases h:Region.ready .any ops listed with
   | nil=>rfl
   | cons i l =>
    have hm:i∈Region.ready .any ops listed:=by rw [h];simp
    have h1:=((mem_ready hs).1 hm).1
    have h2:=zqo listed.toList i (by simpa using h1)
    omega
  exact z5v hr (fin _ _ _ hs hr hI)
 | fuel+1,listed,ts,hp,hs,hc,hI=>by
  cases h:Region.ready .any ops listed with
  | nil=>exact z5v h (fin _ _ _ hs h hI)
  | cons i l =>
   refine z7x _ rfl (by rw [h];rfl) λj hj=>?_
   obtain ⟨h1,h2⟩:=(mem_ready hs).1 hj
   refine step fuel listed ts hp j hs h1 h2 hI λts' hp' hI'=>?_
   have h3:=zqo listed.toList j (by simpa using h1)
   exact zwo I fin step fuel _ _ _ (by simpa using hs) (by simp only [Array.toList_setIfInBounds];omega) hI'
end
end Go.Gy
namespace Go.Gy
open Go Go.RowKit
structure TI (N:List (Nat×Nat)) (V:Nat->Value) (X:List (Nat×Nat)) (Bk:Nat->Blk) (ts0:Nat->Value) (hp0:Hp) (listed:Array Bool) (ts:Nat->Value) (hp:Hp):Prop where
 t0:∀ t,t∉N.map Prod.snd->ts t=ts0 t
 tm:∀ p∈N,listed[p.1]? = some true->ts p.2=V p.1
 h0:∀ k,k∉X.map Prod.snd->hp k=hp0 k
 bx:∀ q∈X,listed[q.1]? = some true->hp q.2=some (Bk q.1)
theorem ztu {listed:Array Bool} {i j:Nat} (h:(listed.setIfInBounds i true)[j]? = some true):j=i\/listed[j]? = some true:=by
 rw [Array.getElem?_setIfInBounds] at h
 split at h
 ·rename_i e;exact .inl e.symm
 ·exact .inr h
theorem ztv {N:List (Nat×Nat)} (h:(N.map Prod.snd).Nodup) {p q:Nat×Nat} (hp:p∈N) (hq:q∈N) (e:p.2=q.2):p=q:=by
 induction N with
 | nil=>cases hp
 | cons a l ih =>
  simp only [List.map_cons,List.nodup_cons] at h
  rcases List.mem_cons.1 hp with rfl|hp1<;>rcases List.mem_cons.1 hq with rfl|hq1
  ·rfl
  ·exact absurd (List.mem_map.2 ⟨q,hq1,e.symm⟩) h.1
  ·exact absurd (List.mem_map.2 ⟨p,hp1,e⟩) h.1
  ·exact ih h.2 hp1 hq1
theorem zmk {N:List (Nat×Nat)} (h:(N.map Prod.fst).Nodup) {p q:Nat×Nat} (hp:p∈N) (hq:q∈N) (e:p.1=q.1):p=q:=by
 induction N with
 | nil=>cases hp
 | cons a l ih =>
  simp only [List.map_cons,List.nodup_cons] at h
  rcases List.mem_cons.1 hp with rfl|hp1<;>rcases List.mem_cons.1 hq with rfl|hq1
  ·rfl
  ·exact absurd (List.mem_map.2 ⟨q,hq1,e.symm⟩) h.1
  ·exact absurd (List.mem_map.2 ⟨p,hp1,e⟩) h.1
  ·exact ih h.2 hp1 hq1
section
variable {N X:List (Nat×Nat)} {V:Nat->Value} {Bk:Nat->Blk} {ts0 ts:Nat->Value} {hp0 hp:Hp} {listed:Array Bool}
theorem TI.tmp (hN1:(N.map Prod.fst).Nodup) (hN2:(N.map Prod.snd).Nodup) (h:TI N V X Bk ts0 hp0 listed ts hp) {i t:Nat} {v:Value} (hm:(i,t)∈N) (hv:V i=v) (hx:i∉X.map Prod.fst):TI N V X Bk ts0 hp0 (listed.setIfInBounds i true) (upd ts t v) hp:=by
 refine ⟨λu hu=>?_,λp hp1 hl=>?_,h.h0,λq hq hl=>?_⟩
 ·rw [zaa _ _ (λe=>hu (List.mem_map.2 ⟨_,hm,e.symm⟩))]
  exact h.t0 u hu
 ·by_cases e:p.2=t
  ·have:=ztv hN2 hp1 hm e
   subst this
   rw [<-hv]
   exact zbg _ _ _
  ·rw [zaa _ _ e]
   rcases ztu hl with e1|h1
   ·exact absurd (congrArg Prod.snd (zmk hN1 hp1 hm e1)) e
   ·exact h.tm p hp1 h1
 ·rcases ztu hl with e1|h1
  ·exact absurd (List.mem_map.2 ⟨q,hq,e1⟩) hx
  ·exact h.bx q hq h1
theorem TI.new (hN1:(N.map Prod.fst).Nodup) (hN2:(N.map Prod.snd).Nodup) (hX1:(X.map Prod.fst).Nodup) (hX2:(X.map Prod.snd).Nodup) (h:TI N V X Bk ts0 hp0 listed ts hp) {i t k:Nat} {v:Value} {b:Blk} (hm:(i,t)∈N) (hv:V i=v) (hx:(i,k)∈X) (hb:Bk i=b):TI N V X Bk ts0 hp0 (listed.setIfInBounds i true) (upd ts t v) (upd hp k (some b)):=by
 refine ⟨λu hu=>?_,λp hp1 hl=>?_,λu hu=>?_,λq hq hl=>?_⟩
 ·rw [zaa _ _ (λe=>hu (List.mem_map.2 ⟨_,hm,e.symm⟩))]
  exact h.t0 u hu
 ·by_cases e:p.2=t
  ·have:=ztv hN2 hp1 hm e
   subst this
   rw [<-hv]
   exact zbg _ _ _
  ·rw [zaa _ _ e]
   rcases ztu hl with e1|h1
   ·exact absurd (congrArg Prod.snd (zmk hN1 hp1 hm e1)) e
   ·exact h.tm p hp1 h1
 ·rw [zaa _ _ (λe=>hu (List.mem_map.2 ⟨_,hx,e.symm⟩))]
  exact h.h0 u hu
 ·by_cases e:q.2=k
  ·have:=ztv hX2 hq hx e
   subst this
   rw [<-hb]
   exact zbg _ _ _
  ·rw [zaa _ _ e]
   rcases ztu hl with e1|h1
   ·exact absurd (congrArg Prod.snd (zmk hX1 hq hx e1)) e
   ·exact h.bx q hq h1
end
section
variable {P:Program} {C:Ctx} {n:Nat} {d:List Deferred} {ro:Option Nat} {K:Exit->GS->Prop}
end
structure TJ (N X D:List (Nat×Nat)) (V:Nat->Value) (Bk:Nat->Blk) (ts0:Nat->Value) (hp0:Hp) (listed:Array Bool) (ts:Nat->Value) (hp:Hp):Prop where
 t0:∀ t,t∉N.map Prod.snd->ts t=ts0 t
 tm:∀ p∈N,listed[p.1]? = some true->ts p.2=V p.1
 h0:∀ k,(∀ q∈X,q.2=k->listed[q.1]?≠some true)->hp k=hp0 k
 bx:∀ q∈X,listed[q.1]? = some true->(∀ q'∈X,q'.2=q.2->q.1<q'.1->listed[q'.1]?≠some true)->hp q.2=some (Bk q.1)
 cl:∀ p∈D,listed[p.1]? = some true->listed[p.2]? = some true
theorem zgc {listed:Array Bool} {i j:Nat} (hi:listed[i]? = some false):(listed.setIfInBounds i true)[j]? = some true↔j=i\/listed[j]? = some true:=by
 rw [Array.getElem?_setIfInBounds]
 have:=(Array.getElem?_eq_some_iff.1 hi).1
 split
 ·rename_i e
  subst e
  simp [this]
 ·rename_i e
  exact ⟨.inr,λh=>h.resolve_left λx=>e x.symm⟩
section
variable {N X D:List (Nat×Nat)} {V:Nat->Value} {Bk:Nat->Blk} {ts0 ts:Nat->Value} {hp0 hp:Hp} {listed:Array Bool}
theorem TJ.ext (h:TJ N X D V Bk ts0 hp0 listed ts hp) {k:Nat} (hk:k∉X.map Prod.snd):hp k=hp0 k:=h.h0 k λq hq e=>absurd (List.mem_map.2 ⟨q,hq,e⟩) hk
theorem TJ.put (hN1:(N.map Prod.fst).Nodup) (hN2:(N.map Prod.snd).Nodup) (h:TJ N X D V Bk ts0 hp0 listed ts hp) {i t:Nat} {v:Value} (hi:listed[i]? = some false) (hm:(i,t)∈N) (hv:V i=v):(∀ u,u∉N.map Prod.snd->upd ts t v u=ts0 u)/\∀ p∈N,(listed.setIfInBounds i true)[p.1]? = some true->upd ts t v p.2=V p.1:=by
 refine ⟨λu hu=>?_,λp hp1 hl=>?_⟩
 ·rw [zaa _ _ (λe=>hu (List.mem_map.2 ⟨_,hm,e.symm⟩))]
  exact h.t0 u hu
 ·by_cases e:p.2=t
  ·have:=ztv hN2 hp1 hm e
   subst this
   rw [<-hv]
   exact zbg _ _ _
  ·rw [zaa _ _ e]
   rcases (zgc hi).1 hl with e1|h1
   ·exact absurd (congrArg Prod.snd (zmk hN1 hp1 hm e1)) e
   ·exact h.tm p hp1 h1
theorem TJ.cls (h:TJ N X D V Bk ts0 hp0 listed ts hp) {i:Nat} (hi:listed[i]? = some false) (hd:∀ p∈D,p.1=i->listed[p.2]? = some true):∀ p∈D,(listed.setIfInBounds i true)[p.1]? = some true->(listed.setIfInBounds i true)[p.2]? = some true:=λp hp1 hl =>
 (zgc hi).2 (.inr (((zgc hi).1 hl).elim (hd p hp1) (h.cl p hp1)))
theorem TJ.tmp (hN1:(N.map Prod.fst).Nodup) (hN2:(N.map Prod.snd).Nodup) (h:TJ N X D V Bk ts0 hp0 listed ts hp) {i t:Nat} {v:Value} (hi:listed[i]? = some false) (hd:∀ p∈D,p.1=i->listed[p.2]? = some true) (hm:(i,t)∈N) (hv:V i=v) (hx:i∉X.map Prod.fst):TJ N X D V Bk ts0 hp0 (listed.setIfInBounds i true) (upd ts t v) hp:=by
 obtain ⟨a,b⟩:=h.put hN1 hN2 hi hm hv
 refine ⟨a,b,λk hk=>h.h0 k λq hq e hl=>hk q hq e ((zgc hi).2 (.inr hl)),λq hq hl hl2=>?_,h.cls hi hd⟩
 rcases (zgc hi).1 hl with e1|h1
 ·exact absurd (List.mem_map.2 ⟨q,hq,e1⟩) hx
 ·exact h.bx q hq h1 λq' hq' e hlt hl'=>hl2 q' hq' e hlt ((zgc hi).2 (.inr hl'))
theorem TJ.blk (hX1:(X.map Prod.fst).Nodup) (h:TJ N X D V Bk ts0 hp0 listed ts hp) {i k:Nat} {b:Blk} (hi:listed[i]? = some false) (hx:(i,k)∈X) (hb:Bk i=b) (ho:∀ q∈X,q.2=k->i<q.1->(q.1,i)∈D) :
  (∀ u,(∀ q∈X,q.2=u->(listed.setIfInBounds i true)[q.1]?≠some true)->upd hp k (some b) u=hp0 u)/\∀ q∈X,(listed.setIfInBounds i true)[q.1]? = some true->(∀ q'∈X,q'.2=q.2->q.1<q'.1->(listed.setIfInBounds i true)[q'.1]?≠some true)->upd hp k (some b) q.2=some (Bk q.1):=by
 refine ⟨λu hu=>?_,λq hq hl hl2=>?_⟩
 ·rw [zaa _ _ (λe=>hu _ hx e.symm ((zgc hi).2 (.inl rfl)))]
  exact h.h0 u λq hq e hl=>hu q hq e ((zgc hi).2 (.inr hl))
 ·by_cases e:q.2=k
  ·have e2:q.1=i:=by
    rcases (zgc hi).1 hl with e1|h1
    ·exact e1
    ·rcases Nat.lt_trichotomy q.1 i with c|c|c
     ·exact absurd ((zgc hi).2 (.inl rfl)) (hl2 _ hx e.symm c)
     ·exact c
     ·have:=h.cl _ (ho q hq e c) h1
      rw [hi] at this
      cases this
   have:=zmk hX1 hq hx e2
   subst this
   rw [<-hb]
   exact zbg _ _ _
  ·rw [zaa _ _ e]
   rcases (zgc hi).1 hl with e1|h1
   ·exact absurd (congrArg Prod.snd (zmk hX1 hq hx e1)) e
   ·exact h.bx q hq h1 λq' hq' e hlt hl'=>hl2 q' hq' e hlt ((zgc hi).2 (.inr hl'))
theorem TJ.new (hN1:(N.map Prod.fst).Nodup) (hN2:(N.map Prod.snd).Nodup) (hX1:(X.map Prod.fst).Nodup) (h:TJ N X D V Bk ts0 hp0 listed ts hp) {i t k:Nat} {v:Value} {b:Blk} (hi:listed[i]? = some false) (hd:∀ p∈D,p.1=i->listed[p.2]? = some true) (hm:(i,t)∈N) (hv:V i=v) (hx:(i,k)∈X) (hb:Bk i=b) (ho:∀ q∈X,q.2=k->i<q.1->(q.1,i)∈D):TJ N X D V Bk ts0 hp0 (listed.setIfInBounds i true) (upd ts t v) (upd hp k (some b)):=by
 obtain ⟨a1,a2⟩:=h.put hN1 hN2 hi hm hv
 obtain ⟨b1,b2⟩:=h.blk hX1 hi hx hb ho
 exact ⟨a1,a2,b1,b2,h.cls hi hd⟩
end
structure LTwo (G:Hp) (L:List (Nat×Blk)) (ks:Nat) (b b2:Blk):Prop where
 ok:LOk L 200
 fx:∀ p∈L,p.2.fx
 ka:(100,b)∈L
 kb:(ks,b2)∈L
 k8:ks=100\/ks=108
section
variable {G:Hp} {L:List (Nat×Blk)} {ks:Nat} {b b2:Blk}
theorem LTwo.mem (h:LTwo G L ks b b2) (p:Nat×Blk) (hp:p∈L):hpL G L p.1=some p.2:=LOk.at h.ok.one p hp
theorem LTwo.a (h:LTwo G L ks b b2):hpL G L 100=some b:=h.mem _ h.ka
theorem LTwo.s (h:LTwo G L ks b b2):hpL G L ks=some b2:=h.mem _ h.kb
theorem LTwo.k1 (h:LTwo G L ks b b2):100<=ks:=(h.ok.big _ h.kb).1
theorem LTwo.k2 (h:LTwo G L ks b b2):ks<200:=(h.ok.big _ h.kb).2
theorem LTwo.ne (h:LTwo G L ks b b2) (k:Nat) (hk:200<=k):(ks=k)=False:=by
 have:=h.k2
 simp only [eq_iff_iff,iff_false]
 omega
theorem LTwo.low (h:LTwo G L ks b b2) (k:Nat) (hk:k<100):hpL G L k=G k:=h.ok.low k hk
theorem LTwo.ia (h:LTwo G L ks b b2):100∈zab L:=zah.2 ⟨_,h.ka,rfl⟩
theorem LTwo.ib (h:LTwo G L ks b b2):ks∈zab L:=zah.2 ⟨_,h.kb,rfl⟩
theorem LTwo.fb (h:LTwo G L ks b b2):b2.fx:=h.fx _ h.kb
theorem LTwo.two {b b2:Blk} (h:b.fx) (h2:b2.fx):LTwo G [(100,b),(108,b2)] 108 b b2:=by
 refine ⟨⟨by simp,by simp [zab],?_⟩,?_,by simp,by simp,.inr rfl⟩
 ·simp only [List.mem_cons,List.not_mem_nil,or_false,forall_eq_or_imp,forall_eq]
  exact ⟨Blk.fx_ids h _,Blk.fx_ids h2 _⟩
 ·simp only [List.mem_cons,List.not_mem_nil,or_false,forall_eq_or_imp,forall_eq]
  exact ⟨h,h2⟩
theorem LTwo.one {b:Blk} (h:b.fx):LTwo G [(100,b)] 100 b b:=by
 refine ⟨⟨by simp,by simp [zab],?_⟩,?_,by simp,by simp,.inl rfl⟩
 ·simp only [List.mem_cons,List.not_mem_nil,or_false,forall_eq]
  exact Blk.fx_ids h _
 ·simp only [List.mem_cons,List.not_mem_nil,or_false,forall_eq]
  exact h
end
theorem zc1 {C:Ctx} {G:Hp} {s:GS} {m L:List (Nat×Blk)} (l:List (Nat×Value)) (B:Nat) (hG:C.G=G) (hGF:zbm G) (hL:LOk L 200) (hfx:∀ p∈L,p.2.fx) (h0:C.hp0=hpL G L) (hB:200<=B) (hl:∀ p∈l,s.ts p.1=p.2/\zap (dom (hpL G (m++L))) p.2)
  (hm:∀ p∈m,s.hp p.1=some p.2/\p.2.ids (dom (hpL G (m++L)))/\200<=p.1/\p.1<B) (hk:∀ p∈L,s.hp p.1=some p.2):Weak C s ⟨tsL l,hpL G (m++L),B,s.yc⟩:=by
 refine zbc l B hG hGF h0 (by omega) hl (λp hp=>?_) (λp hp=>?_)
 ·rcases List.mem_append.1 hp with h|h
  ·have:=hm p h
   exact ⟨this.1,this.2.1,by omega,this.2.2.2⟩
  ·have:=hL.big p h
   exact ⟨hk p h,Blk.fx_ids (hfx p h) _,this.1,by omega⟩
 ·have hb:=hL.big p hp
  refine ⟨hb.1,?_⟩
  rw [hk p hp]
  have key:∀ (m:List (Nat×Blk)),(∀ q∈m,200<=q.1)->hpL G (m++L) p.1=some p.2:=by
   intro m
   induction m with
   | nil=>intro _;exact LOk.at hL.one p hp
   | cons q m ih =>
    intro hq
    obtain ⟨k,c⟩:=q
    rw [List.cons_append,zai]
    have:=hq (k,c) (by simp)
    simp only at this
    rw [if_neg (by omega)]
    exact ih λq h=>hq q (List.mem_cons_of_mem _ h)
  exact key m λq hq=>(hm q hq).2.2.1
theorem zar {P:Program} {G:Hp} {L:List (Nat×Blk)} {f:FuncId} {args:Array Value} {v:Value} {hp:Hp} {nk:Nat} {K:Eff->Prop} (h:Fun P G f args (hpL G L) (zab L) (.ret v [])) (hL:LOk L 200) (hm:∀ p∈L,hp p.1=some p.2) (hK:K ((Res.ret v []).eff (zab L))):zgn P G f args hp nk K:=by
 refine zb2 h (λk hk=>?_) hL.low trivial hK
 obtain ⟨p,hp1,rfl⟩:=zah.1 hk
 rw [LOk.at hL.one p hp1,hm p hp1]
theorem z8s {G:Hp} {m L:List (Nat×Blk)} {k:Nat} (h:k∈zab L):dom (hpL G (m++L)) k:=by
 induction m with
 | nil =>
  obtain ⟨p,hp,rfl⟩:=zah.1 h
  rw [List.nil_append]
  unfold dom
  induction L with
  | nil=>cases hp
  | cons q L ih =>
   obtain ⟨k,c⟩:=q
   rw [zai]
   by_cases e:p.1=k
   ·rw [if_pos e];simp
   ·rw [if_neg e]
    refine ih ?_ ?_
    ·rcases List.mem_cons.1 hp with e1|h1
     ·exact absurd (congrArg Prod.fst e1) e
     ·exact h1
    ·rcases List.mem_cons.1 hp with e1|h1
     ·exact absurd (congrArg Prod.fst e1) e
     ·exact zah.2 ⟨p,h1,rfl⟩
 | cons q m ih =>
  obtain ⟨j,c⟩:=q
  unfold dom
  rw [List.cons_append,zai]
  split
  ·simp
  ·exact ih
end Go.Gy
namespace Go.Gy
open Go Go.RowKit Go.Proofs Go.Proofs.Tryz

def jbb (A B:Int) (i:Nat):GS :=
 ⟨tsL [(2,.pointer (some ⟨200,0,none⟩)),(3,.pointer (some ⟨208,0,none⟩)),(4,.pointer (some ⟨216,0,none⟩)),(5,.pointer (some ⟨224,0,none⟩)),(6,.int .i64 i)],
 hpL G0 [(200,⟨fa 8 .u64 (di A),.ty 118⟩),(208,⟨fa 8 .u64 (di B),.ty 118⟩),(216,⟨fa 16 .u64 λ_=>0,.ty 116⟩),(224,⟨fa 16 .u64 (di (zfs A B i)),.ty 116⟩)],300,0⟩
def z06 (A B:Int) (i k:Nat):GS :=
 ⟨tsL [(2,.pointer (some ⟨200,0,none⟩)),(3,.pointer (some ⟨208,0,none⟩)),(4,.pointer (some ⟨216,0,none⟩)),(5,.pointer (some ⟨224,0,none⟩)),(6,.int .i64 i),(7,.int .u64 (zl9 A B i k)),(8,.int .i64 k)],
 hpL G0 [(200,⟨fa 8 .u64 (di A),.ty 118⟩),(208,⟨fa 8 .u64 (di B),.ty 118⟩),(216,⟨fa 16 .u64 λ_=>0,.ty 116⟩),(224,⟨fa 16 .u64 (zvg A B i k),.ty 116⟩)],300,0⟩
theorem bm {x:Int} (h0:-9223372036854775808<=x) (h1:x<9223372036854775808):Int.bmod x 18446744073709551616=x:=by
 rw [Int.bmod_def];split<;>omega
theorem zwa (A B:Int) (h0:0<=B) (h1:B<2^(32*8)):Ret prog G0 103 #[dg A,dg B] (.agg (fa 16 .u64 (di (zfs A B 8)))):=by
 refine zav G0F func103 rfl call103 (by simp) (by simp) (by simp [ntmps103]) ?_
 intro C hC hC0 hY
 repeat' first|refine gwZ ?_|refine gwW ?_|refine gwC ?_ ?_<;>intro hb
 refine zb3 8 (jbb A B) ?_ ?_ ?_
 ·refine zbc _ 300 hC G0F (m0:=[]) hC0 (by omega) ?_ ?_ ?_
  ·simp [zap,zau,zaj,zal,dom]
  ·simp [Blk.ids,zaj,zal,zlt,jkx,zfs,Int.emod_one]
  ·simp
 ·intro i hi
  have hi':(i:Int)<8:=by omega
  have hz:(0:Int)<=i:=by omega
  have hs:Int.bmod ((i:Int)+1) 18446744073709551616=((i+1:Nat):Int):=by rw [bm (by omega) (by omega)];rfl
  unfold jbb
  repeat' first|refine gwZ ?_|(refine gwX ?_;intro Q hQ _;simp [hC,hY,hi,hi',hz,hs,zdh];refine gwq hQ ?_)|refine gwC ?_ ?_<;>intro hb
  ·-- this digit is 0: nothing comes
   have hd:di A i=0:=by simpa using hb
   refine zbc _ 300 hC G0F (m0:=[]) hC0 (by omega) ?_ ?_ ?_
   ·simp [zap,zau,zaj,zal,dom,hs]
   ·have e:fa 16 .u64 (di (zfs A B (i+1)))=fa 16 .u64 (di (zfs A B i)):=by rw [zif,hd];simp
    simp [e,zcv]
   ·simp
  ·refine zb3 8 (z06 A B i) ?_ ?_ ?_
   ·refine zbc _ 300 hC G0F (m0:=[]) hC0 (by omega) ?_ ?_ ?_
    ·simp [zap,zau,zaj,zal,dom,zzr]
    ·have e:fa 16 .u64 (zvg A B i 0)=fa 16 .u64 (di (zfs A B i)):=zce λj _=>by unfold zvg;rw [if_neg (by omega)]
     simp [e,zcv]
    ·simp
   ·intro k hk
    have hk':(k:Int)<8:=by omega
    have hkz:(0:Int)<=k:=by omega
    have hs2:Int.bmod ((k:Int)+1) 18446744073709551616=((k+1:Nat):Int):=by rw [bm (by omega) (by omega)];rfl
    have hik:Int.bmod ((i:Int)+k) 18446744073709551616=((i+k:Nat):Int):=by rw [bm (by omega) (by omega)];rfl
    have hik2:i+k<16:=by omega
    have hik3:(i:Int)+k<16:=by omega
    have hik4:(0:Int)<=(i:Int)+k:=by omega
    have hik5:((i:Int)+k).toNat=i+k:=by omega
    have hik6:(i:Int)+k<=15:=by omega
    have hik7:i+k<=15:=by omega
    unfold z06
    repeat' first|refine gwZ ?_|(refine gwX ?_;intro Q hQ _;simp [hC,hY,hi,hi',hz,hk,hk',hkz,hik,hik2,hik3,hik4,hik5,hik6,hik7,hs2,zcw];refine gwq hQ ?_)|refine gwC ?_ ?_<;>intro hb
    refine zbc _ 300 hC G0F (m0:=[]) hC0 (by omega) ?_ ?_ ?_
    ·simp [zap,zau,zaj,zal,dom,hs2,jpx]
    ·have e:fa 16 .u64 (upd (zvg A B i k) (i+k) (di (zfs A B (i+1)) (i+k)))=fa 16 .u64 (zvg A B i (k+1)):=zce λj _=>zzv A B i k j
     simp [zcv,jpz,e]
    ·simp
   ·have hi8:Int.bmod ((i:Int)+8) 18446744073709551616=(i:Int)+8:=bm (by omega) (by omega)
    have hi9:(0:Int)<=(i:Int)+8:=by omega
    have hi10:((i:Int)+8).toNat=i+8:=by omega
    have hi11:(i:Int)+8<16:=by omega
    have hi12:(i:Int)<=7:=by omega
    have hi14:i<=7:=by omega
    have hi13:i+8<16:=by omega
    unfold z06
    repeat' first|refine gwZ ?_|(refine gwX ?_;intro Q hQ _;simp [hC,hY,hi,hi',hz,hs,hi8,hi9,hi10,hi11,hi12,hi13,hi14,zcw];refine gwq hQ ?_)|refine gwC ?_ ?_<;>intro hb
    refine zbc _ 300 hC G0F (m0:=[]) hC0 (by omega) ?_ ?_ ?_
    ·simp [zap,zau,zaj,zal,dom,hs]
    ·have e:fa 16 .u64 (upd (zvg A B i 8) (i+8) (zl9 A B i 8))=fa 16 .u64 (di (zfs A B (i+1))):=zce λj _=>z4k A B i h0 h1 j
     simp [zcv,e]
    ·simp
 ·unfold jbb
  repeat' first|refine gwZ ?_|refine gwW ?_|refine gwC ?_ ?_<;>intro hb
  refine ⟨.inr trivial,?_⟩
  simp [results103]
def um (z:Int):Int:=if sz z<0 then -sz z else sz z
theorem jms (z:Int):-57896044618658097711785492504343953926634992332820282019728792003956564819968<=sz z/\sz z<57896044618658097711785492504343953926634992332820282019728792003956564819968:=by
 unfold sz;rw [Int.bmod_def];constructor<;>split<;>omega
theorem zwb (z:Int):0<=um z/\um z<=57896044618658097711785492504343953926634992332820282019728792003956564819968:=by
 have:=jms z;unfold um;split<;>omega
theorem z58 (z y:Int) (k:Nat) (h:z%115792089237316195423570985008687907853269984665640564039457584007913129639936=y%115792089237316195423570985008687907853269984665640564039457584007913129639936) (hk:k<8):di z k=di y k:=by
 have:k=0\/k=1\/k=2\/k=3\/k=4\/k=5\/k=6\/k=7:=by omega
 rcases this with rfl|rfl|rfl|rfl|rfl|rfl|rfl|rfl<;>simp only [di]<;>omega
theorem zpv (z:Int):sz z%115792089237316195423570985008687907853269984665640564039457584007913129639936=z%115792089237316195423570985008687907853269984665640564039457584007913129639936:=by
 unfold sz;rw [Int.bmod_def];split<;>omega
theorem jqm (z:Int) (h:ng z=true) (k:Nat) (hk:k<8):di (-z) k=di (um z) k:=z58 _ _ _ (by
 rw [ze1] at h;simp at h;have:=zpv z;unfold um;rw [if_pos h];omega) hk
theorem jql (z:Int) (h:ng z=false) (k:Nat) (hk:k<8):di z k=di (um z) k:=z58 _ _ _ (by
 rw [ze1] at h;simp at h;have:=zpv z;unfold um;rw [if_neg (by omega)];omega) hk
theorem z0x (z:Int):Ret prog G0 104 #[wd z] (dg (um z)):=by
 refine zav G0F func104 rfl call104 (by simp) (by simp) (by simp [ntmps104]) ?_
 intro C hC hC0 hY
 repeat' first|refine gwZ ?_|refine gwW ?_|refine gwC ?_ ?_<;>intro hb
 ·refine ⟨.inr trivial,?_⟩
  simp [results104,jqm z hb]
 ·refine ⟨.inr trivial,?_⟩
  simp [results104,jql z hb]
@[simp] theorem jqc (z:Int) (K:Value->Prop):za2 prog G0 104 #[Value.agg #[.int .u64 (wi (z) 0),.int .u64 (wi (z) 1),.int .u64 (wi (z) 2),.int .u64 (wi (z) 3)]] K↔K (dg (um z)):=zaf G0W (by kernel_rfl) (z0x z)
@[simp] theorem jo3 (a b:Int) (K:Value->Prop):za2 prog G0 103 #[Value.agg #[.int .u64 (di (um a) 0),.int .u64 (di (um a) 1),.int .u64 (di (um a) 2),.int .u64 (di (um a) 3),.int .u64 (di (um a) 4),.int .u64 (di (um a) 5),.int .u64 (di (um a) 6),.int .u64 (di (um a) 7)],Value.agg #[.int .u64 (di (um b) 0),.int .u64 (di (um b) 1),.int .u64 (di (um b) 2),.int .u64 (di (um b) 3),.int .u64 (di (um b) 4),.int .u64 (di (um b) 5),.int .u64 (di (um b) 6),.int .u64 (di (um b) 7)]] K↔K (.agg (fa 16 .u64 (di (um a*um b)))):=by
 have h1:=zwb a
 have h2:=zwb b
 have e:zfs (um a) (um b) 8=um a*um b:=by unfold zfs;rw [Int.emod_eq_of_lt (by omega) (by omega)]
 rw [<-e]
 exact zaf G0W (by kernel_rfl) (zwa (um a) (um b) (by omega) (by omega))

def hiB (D:Int) (i:Nat):Bool:=(List.range i).any λj=>decide (0<di D (8+j))
theorem z3f (D:Int) (i:Nat):hiB D (i+1)=(hiB D i||decide (0<di D (8+i))):=by unfold hiB;rw [List.range_succ,List.any_append];simp
def zva (a b:Int) (D:Int) (i:Nat):GS :=
 ⟨tsL [(2,.pointer (some ⟨200,0,none⟩)),(3,.pointer (some ⟨208,0,none⟩)),(4,.pointer (some ⟨216,0,none⟩)),(6,.pointer (some ⟨272,0,none⟩)),(7,.pointer (some ⟨288,0,none⟩)),(8,.bool (hiB D i)),(9,.int .i64 i)],
 hpL G0 [(200,⟨#[.int .u64 (wi a 0),.int .u64 (wi a 1),.int .u64 (wi a 2),.int .u64 (wi a 3)],.ty 86⟩),(208,⟨#[.int .u64 (wi b 0),.int .u64 (wi b 1),.int .u64 (wi b 2),.int .u64 (wi b 3)],.ty 86⟩),(216,⟨#[.int .u64 0,.int .u64 0,.int .u64 0,.int .u64 0],.ty 86⟩),
  (272,⟨fa 16 .u64 (di D),.ty 116⟩),(288,⟨fa 8 .u64 λj=>if j<i then di D j else 0,.ty 118⟩)],300,0⟩
def zie (a b:Int):Bool:=decide (¬(-57896044618658097711785492504343953926634992332820282019728792003956564819968<=sz a*sz b/\sz a*sz b<57896044618658097711785492504343953926634992332820282019728792003956564819968))
theorem zwe (D:Int) (h:sz D=0):wi D 0=0/\wi D 1=0/\wi D 2=0/\wi D 3=0:=by
 have h1:=zpv D
 rw [h] at h1
 simp only [wi]
 refine ⟨?_,?_,?_,?_⟩<;>omega
theorem zr6 (D:Int) (h:sz D=0):(!wi D 0==0||(!wi D 1==0||(!wi D 2==0||!wi D 3==0)))=false:=by
 obtain ⟨w0,w1,w2,w3⟩:=zwe D h
 simp [w0,w1,w2,w3]
theorem zj7 (D:Int) (h:¬sz D=0):(!wi D 0==0||(!wi D 1==0||(!wi D 2==0||!wi D 3==0)))=true:=by
 have:=wne D 0
 simp at this
 rw [this]
 have e:sz 0=0:=by decide
 simp [e,h]
theorem z23 (D:Int) (j:Nat):di D (8+j)=di (D / 115792089237316195423570985008687907853269984665640564039457584007913129639936) j:=by
 unfold di
 rw [Nat.mul_add,Int.pow_add,<-Int.ediv_ediv_of_nonneg (Int.le_of_lt (zbk 8))]
 rfl
theorem je0 (D:Int) (h0:0<=D) (h1:D<115792089237316195423570985008687907853269984665640564039457584007913129639936*115792089237316195423570985008687907853269984665640564039457584007913129639936):hiB D 8=decide (115792089237316195423570985008687907853269984665640564039457584007913129639936<=D):=by
 have e:hiB D 8=decide (0<di (D / 115792089237316195423570985008687907853269984665640564039457584007913129639936) 0\/0<di (D / 115792089237316195423570985008687907853269984665640564039457584007913129639936) 1\/0<di (D / 115792089237316195423570985008687907853269984665640564039457584007913129639936) 2\/0<di (D / 115792089237316195423570985008687907853269984665640564039457584007913129639936) 3\/0<di (D / 115792089237316195423570985008687907853269984665640564039457584007913129639936) 4\/0<di (D / 115792089237316195423570985008687907853269984665640564039457584007913129639936) 5\/0<di (D / 115792089237316195423570985008687907853269984665640564039457584007913129639936) 6\/0<di (D / 115792089237316195423570985008687907853269984665640564039457584007913129639936) 7):=by
  simp only [hiB,List.range,List.range.loop,List.any_cons,List.any_nil,Bool.or_false,z23,Bool.decide_or]
 rw [e]
 congr 1
 have hE:0<=D / 115792089237316195423570985008687907853269984665640564039457584007913129639936/\D / 115792089237316195423570985008687907853269984665640564039457584007913129639936<115792089237316195423570985008687907853269984665640564039457584007913129639936:=⟨by omega,by omega⟩
 have hD:115792089237316195423570985008687907853269984665640564039457584007913129639936<=D↔D / 115792089237316195423570985008687907853269984665640564039457584007913129639936≠0:=by omega
 rw [hD]
 generalize D / 115792089237316195423570985008687907853269984665640564039457584007913129639936=E at *
 simp only [di]
 refine propext ⟨λh=>?_,λh=>?_⟩
 ·rcases h with h|h|h|h|h|h|h|h<;>omega
 ·omega
theorem zpf (a b:Int) (h:(ng a==ng b)=true):sz a*sz b=um a*um b:=by
 rw [ze1,ze1] at h
 simp at h
 unfold um
 by_cases h1:sz a<0
 ·rw [if_pos h1,if_pos (h.1 h1),Int.neg_mul_neg]
 ·rw [if_neg h1,if_neg (λh2=>h1 (h.2 h2))]
theorem zma (a b:Int) (h:(ng a==ng b)=false):sz a*sz b=-(um a*um b):=by
 rw [ze1,ze1] at h
 simp at h
 unfold um
 by_cases h1:sz a<0
 ·rw [if_pos h1,if_neg (λh2=>h ⟨λ_=>h2,λ_=>h1⟩),Int.neg_mul,Int.neg_neg]
 ·have h2:sz b<0:=Classical.byContradiction λh2=>h ⟨λh3=>absurd h3 h1,λh3=>absurd h3 h2⟩
  rw [if_neg h1,if_pos h2,Int.mul_neg,Int.neg_neg]
theorem zet (D:Int) (h0:0<=D) (h1:¬115792089237316195423570985008687907853269984665640564039457584007913129639936<=D):sz D=if 57896044618658097711785492504343953926634992332820282019728792003956564819968<=D then D - 115792089237316195423570985008687907853269984665640564039457584007913129639936 else D:=by
 unfold sz;rw [Int.bmod_def];split<;>split<;>omega
theorem zry (D:Int) (h0:0<=D) (h1:¬115792089237316195423570985008687907853269984665640564039457584007913129639936<=D):sz (-D)=if 57896044618658097711785492504343953926634992332820282019728792003956564819968<D then 115792089237316195423570985008687907853269984665640564039457584007913129639936 - D else -D:=by
 unfold sz;rw [Int.bmod_def];split<;>split<;>omega
theorem ztd (a b:Int):Ret prog G0 80 #[wd a,wd b] (.tuple #[wd (sz a*sz b),.bool (zie a b)]):=by
 refine zav G0F func80 rfl call80 (by simp) (by simp) (by simp [ntmps80]) ?_
 intro C hC hC0 hY
 repeat' first|refine gwZ ?_|refine gwW ?_|refine gwC ?_ ?_<;>intro hb
 generalize hD:um a*um b=D
 refine zb3 8 (zva a b D) ?_ ?_ ?_
 ·refine zbc _ 300 hC G0F (m0:=[]) hC0 (by omega) ?_ ?_ ?_
  ·simp [zap,zau,zaj,zal,dom,hiB]
  ·simp [zae,zcv,zaj,zal]
   exact (zlt .u64 λ_=>0).symm
  ·simp
 ·intro i hi
  have hi':(i:Int)<8:=by omega
  have hz:(0:Int)<=i:=by omega
  have hs:Int.bmod ((i:Int)+1) 18446744073709551616=((i+1:Nat):Int):=by rw [bm (by omega) (by omega)];rfl
  have hi8:Int.bmod (8+(i:Int)) 18446744073709551616=8+(i:Int):=bm (by omega) (by omega)
  have hi9:(0:Int)<=8+(i:Int):=by omega
  have hi10:(8+(i:Int)).toNat=8+i:=by omega
  have hi11:8+(i:Int)<16:=by omega
  have hi12:(i:Int)<=7:=by omega
  have hi13:8+i<16:=by omega
  have hi14:i<=7:=by omega
  have hj1:(i:Int)<16:=by omega
  have hj2:i<16:=by omega
  cases hq:hiB D i
  all_goals
   unfold zva
   repeat' first|refine gwZ ?_|(refine gwX ?_;intro Q hQ _;simp [hC,hY,hq,hi,hi',hz,hs,hi8,hi9,hi10,hi11,hi12,hi13,hi14,hj1,hj2,zcw];refine gwq hQ ?_)|refine gwC ?_ ?_<;>intro hb
  all_goals
   refine zbc _ 300 hC G0F (m0:=[]) hC0 (by omega) ?_ ?_ ?_
   ·simp [zap,zau,zaj,zal,dom,hs,z3f,hq]
   ·have e:fa 8 .u64 (upd (λj=>if j<i then di D j else 0) i (di D i))=fa 8 .u64 (λj=>if j<i+1 then di D j else 0):=zce λj _=>by
     unfold upd
     by_cases h:j=i
     ·subst h;simp
     ·simp only [h,if_false]
      by_cases h2:j<i
      ·rw [if_pos h2,if_pos (by omega)]
      ·rw [if_neg h2,if_neg (by omega)]
    simp [zae,zcv,zaj,zal,e]
   ·simp
 ·have hbd:0<=D/\D<=57896044618658097711785492504343953926634992332820282019728792003956564819968*57896044618658097711785492504343953926634992332820282019728792003956564819968:=by
   have h1:=zwb a
   have h2:=zwb b
   rw [<-hD]
   exact ⟨Int.mul_nonneg h1.1 h2.1,Int.mul_le_mul h1.2 h2.2 h2.1 (by omega)⟩
  have hh:=je0 D hbd.1 (by have:=hbd.2;omega)
  have hs1:=zpf a b
  have hs2:=zma a b
  rw [hD] at hs1 hs2
  cases hn:(ng a==ng b)
  ·cases hq:hiB D 8
   ·by_cases hz:sz D=0
    ·have hw:=zr6 D hz
     unfold zva
     repeat' first|refine gwZ ?_|(refine gwX ?_;intro Q hQ _;simp [hC,hY,zlt,hq,hn,hw];refine gwq hQ ?_)|refine gwC ?_ ?_<;>intro hb
     refine ⟨.inr trivial,?_⟩
     rw [hh] at hq
     simp [results80,hs2 hn,hw,zie,hq]
     have:=zet D hbd.1 (by simpa using hq)
     simp at hq
     omega
    ·have hw:=zj7 D hz
     unfold zva
     repeat' first|refine gwZ ?_|(refine gwX ?_;intro Q hQ _;simp [hC,hY,zlt,hq,hn,hw];refine gwq hQ ?_)|refine gwC ?_ ?_<;>intro hb
     refine ⟨.inr trivial,?_⟩
     rw [hh] at hq
     simp [results80,hs2 hn,hw,zie,hq]
     rw [Bool.eq_iff_iff]
     simp [ze1]
     have h3:=zet D hbd.1 (by simpa using hq)
     have h4:=zry D hbd.1 (by simpa using hq)
     simp at hq
     omega
   ·unfold zva
    repeat' first|refine gwZ ?_|(refine gwX ?_;intro Q hQ _;simp [hC,hY,zlt,hq,hn];refine gwq hQ ?_)|refine gwC ?_ ?_<;>intro hb
    refine ⟨.inr trivial,?_⟩
    rw [hh] at hq
    simp [results80,hs2 hn,zie,hq]
    simp at hq
    omega
  ·cases hq:hiB D 8
   all_goals
    unfold zva
    repeat' first|refine gwZ ?_|(refine gwX ?_;intro Q hQ _;simp [hC,hY,zlt,hq,hn];refine gwq hQ ?_)|refine gwC ?_ ?_<;>intro hb
   ·refine ⟨.inr trivial,?_⟩
    rw [hh] at hq
    simp [results80,hs1 hn,zie,hq]
    rw [Bool.eq_iff_iff]
    simp [ze1]
    have h3:=zet D hbd.1 (by simpa using hq)
    simp at hq
    omega
   ·refine ⟨.inr trivial,?_⟩
    rw [hh] at hq
    simp [results80,hs1 hn,zie,hq]
    simp at hq
    omega
@[simp] theorem jrf (a b:Int) (K:Value->Prop):za2 prog G0 80 #[Value.agg #[.int .u64 (wi (a) 0),.int .u64 (wi (a) 1),.int .u64 (wi (a) 2),.int .u64 (wi (a) 3)],Value.agg #[.int .u64 (wi (b) 0),.int .u64 (wi (b) 1),.int .u64 (wi (b) 2),.int .u64 (wi (b) 3)]] K↔K (.tuple #[wd (sz a*sz b),.bool (zie a b)]):=zaf G0W (by kernel_rfl) (ztd a b)

theorem z5l (z:Int):Ret prog G0 121 #[wd z] (.bool (ng z)):=by
 refine zav G0F func121 rfl call121 rfl (by simp) (by simp [ntmps121]) ?_
 intro C hC _ hY
 repeat' first|refine gwZ ?_|refine gwW ?_|refine gwC ?_ ?_<;>intro hb
 refine ⟨.inr trivial,?_⟩
 have:=zbp z 3
 have:=zbx z 3
 simp [results121,ng]
 rw [Int.bmod_def]
 split<;>omega
@[simp] theorem jse (z:Int) (K:Value->Prop):za2 prog G0 121 #[Value.agg #[.int .u64 (wi (z) 0),.int .u64 (wi (z) 1),.int .u64 (wi (z) 2),.int .u64 (wi (z) 3)]] K↔K (.bool (ng z)):=zaf G0W (by kernel_rfl) (z5l z)

theorem zxa (x y c:Int) (hx:0<=x) (hy:0<=y) (h0:0<=c) (h1:c<=1):jhy prog 124 #[.int .u64 x,.int .u64 y,.int .u64 c] (.tuple #[.int .u64 ((x+y+c)%18446744073709551616),.int .u64 ((x+y+c) / 18446744073709551616)]):=by
 refine ⟨by simp,by simp,λw=>?_⟩
 rw [run_callFunc_extern func124 (by kernel_rfl) (by kernel_rfl) (by kernel_rfl) (e:=add64Entry) (by kernel_rfl),run_add64 x y c hx hy h0 h1]
 simp only [Result.andThen]
@[simp] theorem jo9 (x y c:Int) (hx:0<=x) (hy:0<=y) (h0:0<=c) (h1:c<=1) (K:Value->Prop):za2 prog G0 124 #[.int .u64 x,.int .u64 y,.int .u64 c] K↔K (.tuple #[.int .u64 ((x+y+c)%18446744073709551616),.int .u64 ((x+y+c) / 18446744073709551616)]):=zuh (zxa x y c hx hy h0 h1)

def wb (z:Int):Blk:=⟨#[.int .u64 (wi z 0),.int .u64 (wi z 1),.int .u64 (wi z 2),.int .u64 (wi z 3)],.ty 86⟩
theorem z1k (a b:Int) (k:Nat) (h100:100<=k):Fun prog G0 145 #[wd a,wd b] G0 [] (.new (.func (.func 155) #[] #[.pointer (some ⟨k,0,none⟩),.pointer (some ⟨k+1,0,none⟩)]) [(k,wb a),(k+1,wb b)]):=by
 have e0:rst G0 []=G0:=zjr G0F []
 refine zpa (B:=200) (λj=>if j=k then 200 else if j=k+1 then 208 else j) G0F (λ_ _=>rfl) func145 rfl call145 (by simp [zap,zau,zaj,zal]) (by rw [e0];exact zew _) ?_ (by simp [ntmps145]) (by omega) (by rw [e0];exact λx hx=>zr9 x (by omega)) (λj hj=>?_) ?_ ?_ ?_ ?_
 ·refine ⟨by simp [zap,zau,zaj,zal,zc7,zab],by simp [zab];omega,λq b c h1 h2=>?_⟩
  simp at h1 h2
  rcases h1 with ⟨e1,rfl⟩|⟨e1,rfl⟩<;>rcases h2 with ⟨e2,rfl⟩|⟨e2,rfl⟩<;>first|rfl|omega
 ·rw [e0] at hj;have:=zlg hj;rw [if_neg (by omega),if_neg (by omega)]
 ·simp [e0,dom]
 ·simp
 ·simp [wb,zae,zaj,zal]
 ·intro C hC hC0 hY
  rw [e0]
  repeat' first|refine gwZ ?_|refine gwW ?_|refine gwC ?_ ?_<;>intro hb
  refine ⟨.inr trivial,?_⟩
  simp [results145,ren,zas,zan,zao,wb]
  intro j hj
  have:=zlg hj
  rw [if_neg (by omega),if_neg (by omega)]
def zfk (a b:Int):List (Array Value):=[#[.int .u64 (wi a 0),.int .u64 (wi b 0)],#[.int .u64 (wi a 1),.int .u64 (wi b 1)],#[.int .u64 (wi a 2),.int .u64 (wi b 2)],#[.int .u64 (wi a 3),.int .u64 (wi b 3)]]

def wHp (a b:Int):Hp:=hpL G0 [(100,wb a),(101,wb b)]
def znx (a b:Int) (l i:Nat):GS :=
 ⟨tsL [(0,.func (.yield l) #[] #[]),(1,.pointer (some ⟨100,0,none⟩)),(2,.pointer (some ⟨101,0,none⟩)),(5,.int .i64 i)],wHp a b,300,i⟩
theorem z5q (a b:Int):zhl prog G0 155 #[.pointer (some ⟨100,0,none⟩),.pointer (some ⟨101,0,none⟩)] (wHp a b) [100,101] (zfk a b):=by
 have e0:rst (wHp a b) [100,101]=wHp a b:=zdr G0F (by simp)
 refine zm9 (B:=200) (v:=.tuple #[]) G0F (λk hk=>za6 (by simp) hk) func155 rfl call155 ?_ ?_ (by simp [ntmps155]) (by omega) ?_ ?_
 ·rw [e0];simp [zap,zau,zaj,zal,dom,wHp]
 ·rw [e0]
  intro k c hk
  rcases za8 hk with h|h
  ·simp at h
   rcases h with ⟨_,rfl⟩|⟨_,rfl⟩<;>simp [wb,zae,zaj,zal]
  ·exact Blk.flat_ids ((G0F k c h).2)
 ·rw [e0]
  intro x hx
  have h1:¬x=100:=by omega
  have h2:¬x=101:=by omega
  have h3:100<=x:=by omega
  simp [wHp,h1,h2,h3]
 ·intro C l stop hC hC0 hY
  rw [e0] at hC0 |-
  repeat' first|refine gwZ ?_|(refine gwX ?_;intro Q hQ _;simp [hC,hY,wHp,wb];refine gwq hQ ?_)|refine gwC ?_ ?_<;>intro hb
  refine zb3 (min stop 4) (znx a b l) ?_ ?_ ?_
  ·refine zbc _ 300 hC G0F (m0:=[(100,wb a),(101,wb b)]) hC0 (by omega) ?_ ?_ ?_
   ·simp [zap,zau,zaj,zal,dom]
   ·simp [zae,zaj,zal,wb]
   ·simp [wb]
  ·intro i hi
   have hs:i<stop:=by omega
   have hq:(i != stop)=true:=by simp;omega
   have hle:i<=stop:=by omega
   have:i=0\/i=1\/i=2\/i=3:=by omega
   rcases this with rfl|rfl|rfl|rfl<;>unfold znx wHp
   all_goals
    repeat' first|refine gwZ ?_|(refine gwX ?_;intro Q hQ _;simp [hC,hY,zfk,hq,hle,wb];refine gwq hQ ?_)|refine gwC ?_ ?_<;>intro hb
   all_goals
    refine zbc _ 300 hC G0F (m0:=[(100,wb a),(101,wb b)]) hC0 (by omega) ?_ ?_ ?_
    ·simp [zap,zau,zaj,zal,dom]
    ·simp [zae,zaj,zal,wb]
    ·simp [wb]
  ·by_cases h4:4<=stop
   ·rw [Nat.min_eq_right h4]
    unfold znx wHp
    repeat' first|refine gwZ ?_|(refine gwX ?_;intro Q hQ _;simp [hC,hY,zfk,wb];refine gwq hQ ?_)|refine gwC ?_ ?_<;>intro hb
    refine ⟨.inl trivial,?_⟩
    simp [results155,zfk]
    omega
   ·rw [Nat.min_eq_left (by omega)]
    have:stop=0\/stop=1\/stop=2\/stop=3:=by omega
    rcases this with rfl|rfl|rfl|rfl<;>unfold znx wHp
    all_goals
     repeat' first|refine gwZ ?_|(refine gwX ?_;intro Q hQ _;simp [hC,hY,zfk,wb];refine gwq hQ ?_)|refine gwC ?_ ?_<;>intro hb
    all_goals
     refine ⟨.inr trivial,?_⟩
     simp [results155,zfk]

theorem jal (i:Nat):(2:Int)^(64*i)=2^(32*(2*i)):=by congr 1;omega
theorem jkf (a b c:Int) (i:Nat):(wi a i+wi b i+car a b c (2*i))%18446744073709551616=wi (a+b+c) i:=by
 unfold wi car
 rw [jal,zlr a b c _ (zbk (2*i))]
 omega
theorem jkg (a b c:Int) (i:Nat):(wi a i+wi b i+car a b c (2*i)) / 18446744073709551616=car a b c (2*(i+1)):=by
 unfold wi car
 have e:(2:Int)^(32*(2*(i+1)))=2^(32*(2*i))*18446744073709551616:=by
  rw [show 32*(2*(i+1))=32*(2*i)+64 by omega,Int.pow_add];rfl
 rw [jal,e,zeb a _ _ (zbk (2*i)) (by omega),zeb b _ _ (zbk (2*i)) (by omega)]
 generalize hM:(2:Int)^(32*(2*i))=M
 have hp:0<M:=hM▸zbk (2*i)
 have e:a%M+M*(a / M%18446744073709551616)+(b%M+M*(b / M%18446744073709551616))+c=(a%M+b%M+c)+M*(a / M%18446744073709551616+b / M%18446744073709551616):=by rw [Int.mul_add];omega
 rw [e,<-Int.ediv_ediv_of_nonneg (Int.le_of_lt hp),Int.add_mul_ediv_left _ _ (by omega)]
 congr 1
 omega

theorem zhl.cast {P:Program} {G:Hp} {f:FuncId} {caps caps':Array Value} {hp:Hp} {rs rs':List Nat} {xs:List (Array Value)} (h:zhl P G f caps hp rs xs) (e1:caps=caps') (e2:rs=rs'):zhl P G f caps' hp rs' xs:=by subst e1 e2;exact h

theorem ze6 {D:Nat->Prop} {l:List (Nat×Value)} (h:∀ p∈l,zap D p.2) (t:Nat):zap D (tsL l t):=by
 rcases zf5 (l:=l) (t:=t) with e|e
 ·rw [e];simp [zbz,zap,zau,zaj,zal]
 ·exact h _ e
def jgl (a b c:Int) (i:Nat):Hp:=hpL G0 [(200,wb a),(208,wb b),(216,⟨#[.int .u64 (car a b c (2*i))],.ty 84⟩),
 (224,⟨#[.int .u64 (if 0<i then wi (a+b+c) 0 else 0),.int .u64 (if 1<i then wi (a+b+c) 1 else 0),.int .u64 (if 2<i then wi (a+b+c) 2 else 0),.int .u64 (if 3<i then wi (a+b+c) 3 else 0)],.ty 86⟩),
 (232,⟨#[.int .i64 i],.ty 3⟩)]
def jjv:Nat->Value:=tsL [(3,.pointer (some ⟨200,0,none⟩)),(4,.pointer (some ⟨208,0,none⟩)),(5,.pointer (some ⟨216,0,none⟩)),(6,.pointer (some ⟨224,0,none⟩)),(7,.pointer (some ⟨232,0,none⟩))]
theorem z1l (a b c:Int) (h0:0<=c) (h1:c<=1):Ret prog G0 137 #[wd a,wd b,.int .u64 c] (wd (a+b+c)):=by
 refine zav G0F func137 rfl call137 (by simp) (by simp) (by simp [ntmps137]) ?_
 intro C hC hC0 hY
 repeat' first|refine gwZ ?_|refine gwW ?_|refine gwC ?_ ?_<;>intro hb
 refine zck [145] (by kernel_rfl) ?_;intro Q hQ hP;simp [hC,hY]
 refine zb2 (z1k a b 264 (by omega)) (by simp) (λ_ _=>rfl) (by simp [Res.at]) ?_
 simp
 refine hQ _ _ _ _ ?_;clear hQ hP Q
 repeat' first|refine gwZ ?_|refine gwW ?_|refine gwC ?_ ?_<;>intro hb
 refine zg1 (f:=155) (rs:=[264,265]) (xs:=zfk a b) (caps:=#[.pointer (some ⟨264,0,none⟩),.pointer (some ⟨265,0,none⟩)]) (by simp) ?_ (by simp [zfk]) (by simp [ntmps137]) jjv (jgl a b c) 300 4 (by simp [zfk]) ?_ ?_ ?_ ?_ ?_
 ·rw [hC]
  refine zhl.cast (IterX.rn (λk=>if k=100 then 264 else if k=101 then 265 else k) G0F (λk hk=>za6 (by simp) hk) (rs:=[100,101]) ?_ (z5q a b)) (by simp [zao]) (by simp)
  refine ⟨λk hk=>?_,?_,?_,?_⟩
  ·have h1:¬k=100:=by omega
   have h2:¬k=101:=by omega
   have h3:¬k=200:=by omega
   have h4:¬k=208:=by omega
   have h5:¬k=216:=by omega
   have h6:¬k=224:=by omega
   have h7:¬k=232:=by omega
   have h8:¬k=264:=by omega
   have h9:¬k=265:=by omega
   simp [h1,h2,h3,h4,h5,h6,h7,h8,h9,wHp]
  ·simp
  ·simp [wHp,wb,Blk.rn,zan,zao]
  ·simp
 ·refine zbc _ 300 hC G0F (m0:=[]) hC0 (by omega) ?_ ?_ ?_
  ·simp [zap,zau,zaj,zal,dom]
  ·simp [zae,zaj,zal,wb,zsn]
  ·simp
 ·simp [jgl,dom]
 ·intro i hi t
  refine ze6 ?_ t
  simp [zap,zau,zaj,zal,dom,jgl]
 ·intro i x hi hx C1 l hC1 hh1 hY1
  have hCC:=hC
  have hC1':C1.G=G0:=hC1.trans hC
  have c0:=λk=>(zsm a b c h0 h1 k).1
  have c1:=λk=>(zsm a b c h0 h1 k).2
  have A0:(wi a 0+wi b 0+car a b c 0)%18446744073709551616=wi (a+b+c) 0:=jkf a b c 0
  have A1:(wi a 1+wi b 1+car a b c 2)%18446744073709551616=wi (a+b+c) 1:=jkf a b c 1
  have A2:(wi a 2+wi b 2+car a b c 4)%18446744073709551616=wi (a+b+c) 2:=jkf a b c 2
  have A3:(wi a 3+wi b 3+car a b c 6)%18446744073709551616=wi (a+b+c) 3:=jkf a b c 3
  have B0:(wi a 0+wi b 0+car a b c 0) / 18446744073709551616=car a b c 2:=jkg a b c 0
  have B1:(wi a 1+wi b 1+car a b c 2) / 18446744073709551616=car a b c 4:=jkg a b c 1
  have B2:(wi a 2+wi b 2+car a b c 4) / 18446744073709551616=car a b c 6:=jkg a b c 2
  have B3:(wi a 3+wi b 3+car a b c 6) / 18446744073709551616=car a b c 8:=jkg a b c 3
  replace hC:=hC1'
  replace hY:=hY1
  have:i=0\/i=1\/i=2\/i=3:=by omega
  rcases this with rfl|rfl|rfl|rfl
  all_goals
   simp [zfk] at hx
   subst hx
   unfold jgl
  all_goals
   repeat' first|refine gwZ ?_|(refine gwX ?_;intro Q hQ _;simp [hC,hY,za3,jjv];refine gwq hQ ?_)|refine gwC ?_ ?_<;>intro hb
  all_goals
   intro C2 hC2 hh2 hY2
   replace hC:C2.G=G0:=hC2.trans hCC
   replace hY:=hY2
   repeat' first|refine gwZ ?_|(refine gwX ?_;intro Q hQ _;simp [hC,hY,za3,jjv,c0,c1,zbp,A0,A1,A2,A3,B0,B1,B2,B3];refine gwq hQ ?_)|refine gwC ?_ ?_<;>intro hb
  all_goals
   refine zbc [] 300 hC1' G0F hh1 (by omega) ?_ ?_ ?_
   ·simp
   ·simp [zae,zaj,zal,wb]
   ·simp [wb]
 ·left
  refine ⟨rfl,?_⟩
  unfold jgl jjv
  repeat' first|refine gwZ ?_|refine gwW ?_|refine gwC ?_ ?_<;>intro hb
  refine ⟨.inr trivial,?_⟩
  simp [results137]
@[simp] theorem jqx (a b c:Int) (h0:0<=c) (h1:c<=1) (K:Value->Prop):za2 prog G0 137 #[Value.agg #[.int .u64 (wi (a) 0),.int .u64 (wi (a) 1),.int .u64 (wi (a) 2),.int .u64 (wi (a) 3)],Value.agg #[.int .u64 (wi (b) 0),.int .u64 (wi (b) 1),.int .u64 (wi (b) 2),.int .u64 (wi (b) 3)],.int .u64 c] K↔K (wd (a+b+c)):=zaf G0W (by kernel_rfl) (z1l a b c h0 h1)

theorem z5e (a b:Int):Ret prog G0 118 #[wd a,wd b] (.tuple #[wd (a+b),.bool (ng a==ng b&&ng (a+b) != ng a)]):=by
 refine zav G0F func118 rfl call118 (by simp) (by simp) (by simp [ntmps118]) ?_
 intro C hC hC0 hY
 cases hq:(ng a==ng b)
 all_goals
  repeat' first|refine gwZ ?_|(refine gwX ?_;intro Q hQ _;simp [hC,hY,hq];refine gwq hQ ?_)|refine gwC ?_ ?_<;>intro hb
  refine ⟨.inr trivial,?_⟩
  simp [results118,hq]
@[simp] theorem jr9 (a b:Int) (K:Value->Prop):za2 prog G0 118 #[Value.agg #[.int .u64 (wi (a) 0),.int .u64 (wi (a) 1),.int .u64 (wi (a) 2),.int .u64 (wi (a) 3)],Value.agg #[.int .u64 (wi (b) 0),.int .u64 (wi (b) 1),.int .u64 (wi (b) 2),.int .u64 (wi (b) 3)]] K↔K (.tuple #[wd (a+b),.bool (ng a==ng b&&ng (a+b) != ng a)]):=zaf G0W (by kernel_rfl) (z5e a b)
theorem z1j (n:Int) (h:i64 n):Ret prog G0 92 #[.int .i64 n] (wd n):=by
 refine zav G0F func92 rfl call92 (by simp) (by simp) (by simp [ntmps92]) ?_
 intro C hC hC0 hY
 repeat' first|refine gwZ ?_|refine gwW ?_|refine gwC ?_ ?_<;>intro hb
 refine ⟨.inr trivial,?_⟩
 simp [results92,wi]
 unfold i64 at h
 rw [Int.fdiv_eq_ediv_of_nonneg _ (by omega)]
 by_cases hn:n<0
 ·have e1:n / 9223372036854775808=-1:=by omega
  have e2:n / 18446744073709551616=-1:=by omega
  have e3:n / 340282366920938463463374607431768211456=-1:=by omega
  have e4:n / 6277101735386680763835789423207666416102355444464034512896=-1:=by omega
  rw [e1,e2,e3,e4];decide
 ·have e1:n / 9223372036854775808=0:=by omega
  have e2:n / 18446744073709551616=0:=by omega
  have e3:n / 340282366920938463463374607431768211456=0:=by omega
  have e4:n / 6277101735386680763835789423207666416102355444464034512896=0:=by omega
  rw [e1,e2,e3,e4];decide
@[simp] theorem wOf (n:Int) (h:i64 n) (K:Value->Prop):za2 prog G0 92 #[.int .i64 n] K↔K (wd n):=zaf G0W (by kernel_rfl) (z1j n h)
theorem z5u (x:Int) (h0:0<=x) (h1:x<18446744073709551616):zeh .xor .u64 IntKind.u64.max x=18446744073709551615 - x:=by
 have e:BitVec.ofInt 64 IntKind.u64.max=BitVec.allOnes 64:=by decide
 unfold zeh
 show IntKind.u64.wrap ((BitVec.ofInt 64 IntKind.u64.max ^^^ BitVec.ofInt 64 x:BitVec 64).toNat:Int)=_
 rw [zny,e,BitVec.allOnes_xor,BitVec.toNat_not]
 have:(BitVec.ofInt 64 x).toNat=x.toNat:=by
  rw [BitVec.toNat_ofInt]
  congr 1
  exact Int.emod_eq_of_lt h0 h1
 rw [this]
 omega
theorem jnf (z:Int) (k:Nat):18446744073709551615 - wi z k=wi (-z - 1) k:=by
 unfold wi
 generalize hM:(2:Int)^(64*k)=M
 have hp:0<M:=by rw [<-hM,jal];exact zbk _
 have e:(-z - 1) / M=-(z / M) - 1:=by
  have h1:=Int.emod_add_mul_ediv z M
  have h2:=Int.emod_nonneg z (b:=M) (by omega)
  have h3:=Int.emod_lt_of_pos z hp
  have:-z - 1=(M - 1 - z%M)+M*(-(z / M) - 1):=by rw [Int.mul_sub,Int.mul_neg];omega
  rw [this,Int.add_mul_ediv_left _ _ (by omega),Int.ediv_eq_zero_of_lt (by omega) (by omega)]
  omega
 rw [e]
 omega
theorem z5p (z:Int):Ret prog G0 144 #[wd z] (wd (-z - 1)):=by
 refine zav G0F func144 rfl call144 (by simp) (by simp) (by simp [ntmps144]) ?_
 intro C hC hC0 hY
 repeat' first|refine gwZ ?_|refine gwW ?_|refine gwC ?_ ?_<;>intro hb
 refine ⟨.inr trivial,?_⟩
 have e:(if IntKind.u64.signed=true then (-1:Int) else IntKind.u64.max)=IntKind.u64.max:=rfl
 have X:=λk=>z5u (wi z k) (zbp z k) (zbx z k)
 simp [results144,e,X,jnf]
@[simp] theorem jsc (z:Int) (K:Value->Prop):za2 prog G0 144 #[Value.agg #[.int .u64 (wi (z) 0),.int .u64 (wi (z) 1),.int .u64 (wi (z) 2),.int .u64 (wi (z) 3)]] K↔K (wd (-z - 1)):=zaf G0W (by kernel_rfl) (z5p z)
theorem z5r (a b:Int):Ret prog G0 136 #[wd a,wd b] (.tuple #[wd (a - b),.bool (ng a != ng b&&ng (a - b) != ng a)]):=by
 refine zav G0F func136 rfl call136 (by simp) (by simp) (by simp [ntmps136]) ?_
 intro C hC hC0 hY
 have e:a+(-b - 1)+1=a - b:=by omega
 cases hq:(ng a != ng b)
 all_goals
  repeat' first|refine gwZ ?_|(refine gwX ?_;intro Q hQ _;simp [hC,hY,hq,e];refine gwq hQ ?_)|refine gwC ?_ ?_<;>intro hb
  refine ⟨.inr trivial,?_⟩
  simp [results136,hq,e]
@[simp] theorem jqu (a b:Int) (K:Value->Prop):za2 prog G0 136 #[Value.agg #[.int .u64 (wi (a) 0),.int .u64 (wi (a) 1),.int .u64 (wi (a) 2),.int .u64 (wi (a) 3)],Value.agg #[.int .u64 (wi (b) 0),.int .u64 (wi (b) 1),.int .u64 (wi (b) 2),.int .u64 (wi (b) 3)]] K↔K (.tuple #[wd (a - b),.bool (ng a != ng b&&ng (a - b) != ng a)]):=zaf G0W (by kernel_rfl) (z5r a b)
theorem z5k (z:Int):Ret prog G0 73 #[wd z] (.tuple #[.int .i64 (if i64 (sz z) then sz z else 0),.bool (decide (i64 (sz z)))]):=by
 refine zav G0F func73 rfl call73 (by simp) (by simp) (by simp [ntmps73]) ?_
 intro C hC hC0 hY
 have h:=zsl (wi z 0)
 repeat' first|refine gwZ ?_|(refine gwX ?_;intro Q hQ _;simp [hC,hY,h];refine gwq hQ ?_)|refine gwC ?_ ?_<;>intro hb
 all_goals
  refine ⟨.inr trivial,?_⟩
  try rw [wne] at hb
  try rw [weq] at hb
  simp at hb
  rw [eq_comm,z6i] at hb
  simp [results73,hb]
 exact zyf z hb

theorem z9y:ng 0=false:=by decide
@[simp] theorem jqv (a:Int) (K:Value->Prop):za2 prog G0 136 #[.agg #[.int .u64 0,.int .u64 0,.int .u64 0,.int .u64 0],Value.agg #[.int .u64 (wi (a) 0),.int .u64 (wi (a) 1),.int .u64 (wi (a) 2),.int .u64 (wi (a) 3)]] K↔K (.tuple #[wd (-a),.bool (ng a&&ng (-a))]):=by
 have:=jqu 0 a K
 have e:((false != ng a)&&ng (0 - a) != false)=(ng a&&ng (-a)):=by
  rw [Int.zero_sub];cases ng a<;>cases ng (-a)<;>rfl
 rw [z9y,e,Int.zero_sub] at this
 simpa using this
theorem z5o (a:Int):Ret prog G0 122 #[wd a] (.tuple #[wd (-a),.bool (ng a&&ng (-a))]):=by
 refine zav G0F func122 rfl call122 (by simp) (by simp) (by simp [ntmps122]) ?_
 intro C hC hC0 hY
 repeat' first|refine gwZ ?_|refine gwW ?_|refine gwC ?_ ?_<;>intro hb
 refine ⟨.inr trivial,?_⟩
 simp [results122]
@[simp] theorem jsb (a:Int) (K:Value->Prop):za2 prog G0 122 #[Value.agg #[.int .u64 (wi (a) 0),.int .u64 (wi (a) 1),.int .u64 (wi (a) 2),.int .u64 (wi (a) 3)]] K↔K (.tuple #[wd (-a),.bool (ng a&&ng (-a))]):=zaf G0W (by kernel_rfl) (z5o a)

theorem z33 (x:Int):Ret prog G0 156 #[.int .i64 x] (.bool false):=by
 refine zav G0F func156 rfl call156 rfl (by simp) (by simp [ntmps156]) ?_
 intro C hC hC0 hY
 repeat' first|refine gwZ ?_|refine gwW ?_|refine gwC ?_ ?_<;>intro hb
 refine ⟨.inr trivial,?_⟩
 simp [results156]
@[simp] theorem jrg (x:Int) (K:Value->Prop):za2 prog G0 156 #[.int .i64 x] K↔K (.bool false):=zaf G0W (by kernel_rfl) (z33 x)
theorem z34 (x:Int):Ret prog G0 157 #[.int .u64 x] (.bool false):=by
 refine zav G0F func157 rfl call157 rfl (by simp) (by simp [ntmps157]) ?_
 intro C hC hC0 hY
 repeat' first|refine gwZ ?_|refine gwW ?_|refine gwC ?_ ?_<;>intro hb
 refine ⟨.inr trivial,?_⟩
 simp [results157]
@[simp] theorem jrh (x:Int) (K:Value->Prop):za2 prog G0 157 #[.int .u64 x] K↔K (.bool false):=zaf G0W (by kernel_rfl) (z34 x)
theorem z2z (x y:Int):Ret prog G0 146 #[.int .i64 x,.int .i64 y] (.int .i64 (zc2 x y)):=by
 refine zav G0F func146 rfl call146 rfl (by simp) (by simp [ntmps146]) ?_
 intro C hC hC0 hY
 by_cases h1:x<y
 ·(repeat' (first|refine gwZ ?_|(refine gwX ?_;intro Q hQ _;simp [hC,hY,h1];refine gwq hQ ?_)|refine gwC ?_ ?_<;>intro hb))
  all_goals
   refine ⟨.inr trivial,?_⟩
   simp [results146,zc2,h1]
 ·by_cases h2:y<x
  ·have h3:¬x=y:=by omega
   (repeat' (first|refine gwZ ?_|(refine gwX ?_;intro Q hQ _;simp [hC,hY,h1,h2];refine gwq hQ ?_)|refine gwC ?_ ?_<;>intro hb))
   all_goals
    refine ⟨.inr trivial,?_⟩
    simp [results146,zc2,h1,h3]
  ·have h3:x=y:=by omega
   subst h3
   (repeat' (first|refine gwZ ?_|(refine gwX ?_;intro Q hQ _;simp [hC,hY,h1];refine gwq hQ ?_)|refine gwC ?_ ?_<;>intro hb))
   all_goals
    refine ⟨.inr trivial,?_⟩
    simp [results146,zc2]
@[simp] theorem jq1 (x y:Int) (K:Value->Prop):za2 prog G0 146 #[.int .i64 x,.int .i64 y] K↔K (.int .i64 (zc2 x y)):=zaf G0W (by kernel_rfl) (z2z x y)
theorem z20 (x y:Int):Ret prog G0 147 #[.int .u64 x,.int .u64 y] (.int .i64 (zc2 x y)):=by
 refine zav G0F func147 rfl call147 rfl (by simp) (by simp [ntmps147]) ?_
 intro C hC hC0 hY
 by_cases h1:x<y
 ·(repeat' (first|refine gwZ ?_|(refine gwX ?_;intro Q hQ _;simp [hC,hY,h1];refine gwq hQ ?_)|refine gwC ?_ ?_<;>intro hb))
  all_goals
   refine ⟨.inr trivial,?_⟩
   simp [results147,zc2,h1]
 ·by_cases h2:y<x
  ·have h3:¬x=y:=by omega
   (repeat' (first|refine gwZ ?_|(refine gwX ?_;intro Q hQ _;simp [hC,hY,h1,h2];refine gwq hQ ?_)|refine gwC ?_ ?_<;>intro hb))
   all_goals
    refine ⟨.inr trivial,?_⟩
    simp [results147,zc2,h1,h3]
  ·have h3:x=y:=by omega
   subst h3
   (repeat' (first|refine gwZ ?_|(refine gwX ?_;intro Q hQ _;simp [hC,hY,h1];refine gwq hQ ?_)|refine gwC ?_ ?_<;>intro hb))
   all_goals
    refine ⟨.inr trivial,?_⟩
    simp [results147,zc2]
@[simp] theorem jq2 (x y:Int) (K:Value->Prop):za2 prog G0 147 #[.int .u64 x,.int .u64 y] K↔K (.int .i64 (zc2 x y)):=zaf G0W (by kernel_rfl) (z20 x y)

def zhc (a b:Int) (j:Nat):Int:=if j=0 then zc2 (Int.bmod (wi a 3) 18446744073709551616) (Int.bmod (wi b 3) 18446744073709551616) else zc2 (wi a (3 - j)) (wi b (3 - j))
def ztz (a b:Int) (j:Nat):GS :=
 ⟨tsL [(2,.pointer (some ⟨200,0,none⟩)),(3,.pointer (some ⟨208,0,none⟩)),(5,.int .i64 (zhc a b j)),(6,.int .i64 (2 - j))],hpL G0 [(200,wb a),(208,wb b)],300,0⟩
theorem zxt {x y:Int}:zc2 x y=0↔x=y:=by unfold zc2;split<;>(try split)<;>omega
theorem bm3 (z:Int):Int.bmod (wi z 3) 18446744073709551616=wi z 3 - (if ng z then 18446744073709551616 else 0):=by
 have:=zbp z 3;have:=zbx z 3
 rw [Int.bmod_def];unfold ng;simp only [decide_eq_true_eq];split<;>split<;>omega
theorem jhe (z:Int):∃ r,sz z=Int.bmod (wi z 3) 18446744073709551616*6277101735386680763835789423207666416102355444464034512896+r/\r=wi z 0+18446744073709551616*wi z 1+340282366920938463463374607431768211456*wi z 2/\0<=r/\r<6277101735386680763835789423207666416102355444464034512896:=by
 refine ⟨_,?_,rfl,?_,?_⟩
 ·rw [jba,bm3];split<;>omega
 ·have:=zbp z 0;have:=zbp z 1;have:=zbp z 2;omega
 ·have:=zbx z 0;have:=zbx z 1;have:=zbx z 2;omega
theorem zmz {x y u v:Int} (h1:x<y↔u<v) (h2:x=y↔u=v):zc2 x y=zc2 u v:=by
 unfold zc2;simp only [h1,h2]
theorem z8o (a b:Int) (k:Nat) (hk:k=(if zhc a b 0=0 then if zhc a b 1=0 then if zhc a b 2=0 then 3 else 2 else 1 else 0)):zhc a b k=zc2 (sz a) (sz b):=by
 obtain ⟨r,ea,er,r0,r1⟩:=jhe a
 obtain ⟨q,eb,eq,q0,q1⟩:=jhe b
 have z0:zhc a b 0=0↔Int.bmod (wi a 3) 18446744073709551616=Int.bmod (wi b 3) 18446744073709551616:=by simp only [zhc,if_true,zxt]
 have z1:zhc a b 1=0↔wi a 2=wi b 2:=by simp [zhc,zxt]
 have z2:zhc a b 2=0↔wi a 1=wi b 1:=by simp [zhc,zxt]
 simp only [z0,z1,z2] at hk
 have:=zbp a 0;have:=zbx a 0;have:=zbp a 1;have:=zbx a 1;have:=zbp a 2;have:=zbx a 2
 have:=zbp b 0;have:=zbx b 0;have:=zbp b 1;have:=zbx b 1;have:=zbp b 2;have:=zbx b 2
 clear z0 z1 z2
 by_cases h0:Int.bmod (wi a 3) 18446744073709551616=Int.bmod (wi b 3) 18446744073709551616
 ·rw [if_pos h0] at hk
  rw [h0] at ea
  by_cases h1:wi a 2=wi b 2
  ·rw [if_pos h1] at hk
   by_cases h2:wi a 1=wi b 1
   ·rw [if_pos h2] at hk
    subst hk
    simp only [zhc]
    exact zmz (by first|omega|(simp;omega)) (by first|omega|(simp;omega))
   ·rw [if_neg h2] at hk
    subst hk
    simp only [zhc]
    exact zmz (by first|omega|(simp;omega)) (by first|omega|(simp;omega))
  ·rw [if_neg h1] at hk
   subst hk
   simp only [zhc]
   exact zmz (by first|omega|(simp;omega)) (by first|omega|(simp;omega))
 ·rw [if_neg h0] at hk
  subst hk
  simp only [zhc]
  exact zmz (by first|omega|(simp;omega)) (by first|omega|(simp;omega))
theorem z5g (a b:Int):Ret prog G0 138 #[wd a,wd b] (.int .i64 (zc2 (sz a) (sz b))):=by
 refine zav G0F func138 rfl call138 (by simp) (by simp) (by simp [ntmps138]) ?_
 intro C hC hC0 hY
 repeat' first|refine gwZ ?_|refine gwW ?_|refine gwC ?_ ?_<;>intro hb
 have e3:∀ z,Int.bmod (wi z 3) 18446744073709551616=wi z 3 - (if ng z then 18446744073709551616 else 0):=λz=>by
  have:=zbp z 3;have:=zbx z 3
  rw [Int.bmod_def];unfold ng;simp only [decide_eq_true_eq];split<;>split<;>omega
 refine zb3 (if zhc a b 0=0 then if zhc a b 1=0 then if zhc a b 2=0 then 3 else 2 else 1 else 0) (ztz a b) ?_ ?_ ?_
 ·refine zbc _ 300 hC G0F (m0:=[]) hC0 (by omega) ?_ ?_ ?_
  ·simp [zap,zau,zaj,zal,dom,zhc]
  ·simp [zae,zaj,zal,wb]
  ·simp
 ·intro i hi
  have:(i=0/\zhc a b 0=0)\/(i=1/\zhc a b 1=0)\/(i=2/\zhc a b 2=0):=by (repeat' split at hi)<;>omega
  rcases this with ⟨rfl,h⟩|⟨rfl,h⟩|⟨rfl,h⟩<;>unfold ztz
  all_goals
   repeat' first|refine gwZ ?_|(refine gwX ?_;intro Q hQ _;simp [hC,hY,h,wb];refine gwq hQ ?_)|refine gwC ?_ ?_<;>intro hb
  all_goals
   refine zbc _ 300 hC G0F (m0:=[]) hC0 (by omega) ?_ ?_ ?_
   ·simp [zap,zau,zaj,zal,dom,zhc]
   ·simp [zae,zaj,zal,wb]
   ·simp
 ·have f1:=jba a
  have f2:=jba b
  have g1:=e3 a
  have g2:=e3 b
  have:=zbp a 0;have:=zbx a 0;have:=zbp a 1;have:=zbx a 1;have:=zbp a 2;have:=zbx a 2;have:=zbp a 3;have:=zbx a 3
  have:=zbp b 0;have:=zbx b 0;have:=zbp b 1;have:=zbx b 1;have:=zbp b 2;have:=zbx b 2;have:=zbp b 3;have:=zbx b 3
  have key:∀ k,k=(if zhc a b 0=0 then if zhc a b 1=0 then if zhc a b 2=0 then 3 else 2 else 1 else 0)->zhc a b k=zc2 (sz a) (sz b):=λk hk=>by
   exact z8o a b k hk
  have hk:=key _ rfl
  generalize hN:(if zhc a b 0=0 then if zhc a b 1=0 then if zhc a b 2=0 then 3 else 2 else 1 else 0)=N at *
  have hc:zhc a b N≠0\/N=3:=by (repeat' split at hN)<;>subst hN<;>first|(left;assumption)|(right;rfl)
  by_cases hz:zhc a b N=0
  ·have h3:N=3:=hc.resolve_left (λh=>h hz)
   subst h3
   unfold ztz
   repeat' first|refine gwZ ?_|(refine gwX ?_;intro Q hQ _;simp [hC,hY,hz,wb];refine gwq hQ ?_)|refine gwC ?_ ?_<;>intro hb
   refine ⟨.inr trivial,?_⟩
   simp [results138,<-hk,hz]
  ·have hzb:(zhc a b N==0)=false:=by simpa using hz
   unfold ztz
   repeat' first|refine gwZ ?_|(refine gwX ?_;intro Q hQ _;simp [hC,hY,hzb,wb];refine gwq hQ ?_)|refine gwC ?_ ?_<;>intro hb
   refine ⟨.inr trivial,?_⟩
   simp [results138,hk]
@[simp] theorem jqp (a b:Int) (K:Value->Prop):za2 prog G0 138 #[Value.agg #[.int .u64 (wi (a) 0),.int .u64 (wi (a) 1),.int .u64 (wi (a) 2),.int .u64 (wi (a) 3)],Value.agg #[.int .u64 (wi (b) 0),.int .u64 (wi (b) 1),.int .u64 (wi (b) 2),.int .u64 (wi (b) 3)]] K↔K (.int .i64 (zc2 (sz a) (sz b))):=zaf G0W (by kernel_rfl) (z5g a b)
@[simp] theorem jqq (a:Int) (K:Value->Prop):za2 prog G0 138 #[Value.agg #[.int .u64 (wi (a) 0),.int .u64 (wi (a) 1),.int .u64 (wi (a) 2),.int .u64 (wi (a) 3)],.agg #[.int .u64 0,.int .u64 0,.int .u64 0,.int .u64 0]] K↔K (.int .i64 (zc2 (sz a) 0)):=by
 have:=jqp a 0 K
 have e:sz 0=0:=by decide
 rw [e] at this
 simpa using this
theorem z1p (a:Int):Ret prog G0 119 #[wd a] (.int .i64 (zc2 (sz a) 0)):=by
 refine zav G0F func119 rfl call119 (by simp) (by simp) (by simp [ntmps119]) ?_
 intro C hC hC0 hY
 repeat' first|refine gwZ ?_|refine gwW ?_|refine gwC ?_ ?_<;>intro hb
 refine ⟨.inr trivial,?_⟩
 simp [results119]
@[simp] theorem jqt (a:Int) (K:Value->Prop):za2 prog G0 119 #[Value.agg #[.int .u64 (wi (a) 0),.int .u64 (wi (a) 1),.int .u64 (wi (a) 2),.int .u64 (wi (a) 3)]] K↔K (.int .i64 (zc2 (sz a) 0)):=zaf G0W (by kernel_rfl) (z1p a)
end Go.Gy
namespace Go.Gy
open Go Go.RowKit
theorem zco (i:Nat):(0:Int)<2^(64*i):=Int.pow_pos (by decide)
theorem zi3 (i:Nat):(2:Int)^(64*(i+1))=2^(64*i)*18446744073709551616:=by
 rw [Nat.mul_add,Int.pow_add];rfl
def zb8 (A B:Int) (i:Nat):Int:=(A%2^(64*i))*B
def ze7 (A B:Int) (i k:Nat):Int:=(zb8 A B i%2^(64*(i+k))+2^(64*i)*wi A i*(B%2^(64*k))) / 2^(64*(i+k))
def zd4 (A B:Int) (i k j:Nat):Int:=if i<=j/\j<i+k then wi (zb8 A B (i+1)) j else wi (zb8 A B i) j
theorem zjb (A B:Int) (i:Nat):zb8 A B (i+1)=zb8 A B i+2^(64*i)*wi A i*B:=by
 unfold zb8 wi
 rw [zi3,zeb A _ _ (zco i) (by omega),Int.add_mul]
theorem zha (A B:Int) (i:Nat):ze7 A B i 0=0:=by
 unfold ze7
 have h1:=Int.emod_lt_of_pos (zb8 A B i) (zco (i+0))
 have h2:=Int.emod_nonneg (zb8 A B i) (b:=2^(64*(i+0))) (by have:=zco (i+0);omega)
 simp only [Nat.mul_zero,Int.pow_zero,Int.emod_one,Int.mul_zero,Int.add_zero]
 exact Int.ediv_eq_zero_of_lt h2 h1
theorem zg9 (A B:Int) (i k:Nat):0<=ze7 A B i k/\ze7 A B i k<18446744073709551616:=by
 unfold ze7
 have hM:(2:Int)^(64*(i+k))=2^(64*i)*2^(64*k):=by rw [Nat.mul_add,Int.pow_add]
 have p1:=zco i
 have p2:=zco k
 have p3:=zco (i+k)
 generalize hz:zb8 A B i=z
 have h1:=Int.emod_lt_of_pos z p3
 have h2:=Int.emod_nonneg z (b:=2^(64*(i+k))) (by omega)
 have h3:=Int.emod_lt_of_pos B p2
 have h4:=Int.emod_nonneg B (b:=2^(64*k)) (by omega)
 have h5:=zbp A i
 have h6:=zbx A i
 have h7:0<=2^(64*i)*wi A i*(B%2^(64*k)):=Int.mul_nonneg (Int.mul_nonneg (by omega) h5) h4
 have h8:2^(64*i)*wi A i*(B%2^(64*k))<=2^(64*i)*18446744073709551615*2^(64*k) :=
  Int.mul_le_mul (Int.mul_le_mul_of_nonneg_left (by omega) (by omega)) (by omega) h4 (Int.mul_nonneg (by omega) (by omega))
 have h9:(2:Int)^(64*i)*18446744073709551615*2^(64*k)=18446744073709551615*2^(64*(i+k)):=by
  rw [hM,Int.mul_comm (2^(64*i)) 18446744073709551615,Int.mul_assoc]
 refine ⟨Int.ediv_nonneg (by omega) (by omega),Int.ediv_lt_of_lt_mul p3 (by omega)⟩
theorem zwf (A B:Int) (i k:Nat):(wi (zb8 A B i) (i+k)+wi A i*wi B k+ze7 A B i k) / 18446744073709551616=ze7 A B i (k+1):=by
 have hM:(2:Int)^(64*(i+k))=2^(64*i)*2^(64*k):=by rw [Nat.mul_add,Int.pow_add]
 have p2:=zco k
 have p3:=zco (i+k)
 unfold ze7
 rw [show i+(k+1)=(i+k)+1 by omega,zi3,zi3,zeb _ _ _ p3 (by omega),zeb B _ _ p2 (by omega)]
 generalize hz:zb8 A B i=z
 unfold wi
 generalize hD:(2:Int)^(64*(i+k))=M at *
 have e:z%M+M*(z / M%18446744073709551616)+2^(64*i)*(A / 2^(64*i)%18446744073709551616)*(B%2^(64*k)+2^(64*k)*(B / 2^(64*k)%18446744073709551616)) =
   (z%M+2^(64*i)*(A / 2^(64*i)%18446744073709551616)*(B%2^(64*k)))+M*(z / M%18446744073709551616+A / 2^(64*i)%18446744073709551616*(B / 2^(64*k)%18446744073709551616)):=by
  rw [hM]
  generalize (2:Int)^(64*i)=P
  generalize (2:Int)^(64*k)=Q
  generalize A / P%18446744073709551616=a
  generalize B / Q%18446744073709551616=b
  generalize B%Q=c
  generalize z%(P*Q)=u
  generalize z / (P*Q)%18446744073709551616=v
  have:P*a*(c+Q*b)=P*a*c+P*Q*(a*b):=by
   rw [Int.mul_add]
   congr 1
   rw [Int.mul_assoc P a,Int.mul_assoc P Q]
   congr 1
   rw [<-Int.mul_assoc,<-Int.mul_assoc,Int.mul_comm a Q]
  rw [this,Int.mul_add]
  omega
 rw [e,<-Int.ediv_ediv_of_nonneg (Int.le_of_lt p3),Int.add_mul_ediv_left _ _ (by omega)]
 congr 1
 omega
theorem jng (A B:Int) (i k:Nat):(wi (zb8 A B i) (i+k)+wi A i*wi B k+ze7 A B i k)%18446744073709551616=wi (zb8 A B (i+1)) (i+k):=by
 have hM:(2:Int)^(64*(i+k))=2^(64*i)*2^(64*k):=by rw [Nat.mul_add,Int.pow_add]
 have p3:=zco (i+k)
 rw [zjb]
 unfold ze7
 generalize hz:zb8 A B i=z
 unfold wi
 generalize hD:(2:Int)^(64*(i+k))=M at *
 have h1:=Int.emod_add_mul_ediv z M
 have h2:=Int.emod_add_mul_ediv B (2^(64*k))
 have h3:=Int.emod_add_mul_ediv (B / 2^(64*k)) 18446744073709551616
 have e:z+2^(64*i)*(A / 2^(64*i)%18446744073709551616)*B=(z%M+2^(64*i)*(A / 2^(64*i)%18446744073709551616)*(B%2^(64*k))) +
   M*(z / M+A / 2^(64*i)%18446744073709551616*(B / 2^(64*k)%18446744073709551616)+18446744073709551616*(A / 2^(64*i)%18446744073709551616*(B / 2^(64*k) / 18446744073709551616))):=by
  have hB:B=B%2^(64*k)+2^(64*k)*(B / 2^(64*k)%18446744073709551616+18446744073709551616*(B / 2^(64*k) / 18446744073709551616)):=by rw [h3];omega
  generalize B / 2^(64*k)%18446744073709551616=b at *
  generalize B / 2^(64*k) / 18446744073709551616=h at *
  generalize B%2^(64*k)=c at *
  rw [hM]
  rw [hM] at h1
  generalize (2:Int)^(64*i)=P at *
  generalize (2:Int)^(64*k)=Q at *
  generalize A / P%18446744073709551616=a
  rw [hB]
  have:P*a*(c+Q*(b+18446744073709551616*h))=P*a*c+P*Q*(a*b)+P*Q*(18446744073709551616*(a*h)):=by
   rw [Int.mul_add,Int.mul_add Q,Int.mul_add]
   have e1:P*a*(Q*b)=P*Q*(a*b):=by
    rw [Int.mul_assoc P a,Int.mul_assoc P Q];congr 1;rw [<-Int.mul_assoc,<-Int.mul_assoc,Int.mul_comm a Q]
   have e2:P*a*(Q*(18446744073709551616*h))=P*Q*(18446744073709551616*(a*h)):=by
    rw [Int.mul_assoc P a,Int.mul_assoc P Q];congr 1
    rw [Int.mul_left_comm a Q];congr 1
    rw [Int.mul_left_comm]
   rw [e1,e2];omega
  rw [this,Int.mul_add,Int.mul_add]
  omega
 rw [e,Int.add_mul_ediv_left _ _ (by omega)]
 omega
theorem zt3 (A B:Int) (i:Nat) (h0:0<=B) (h1:B<2^(64*4)):0<=zb8 A B i/\zb8 A B i<2^(64*(i+4)):=by
 have p1:=zco i
 have h2:=Int.emod_nonneg A (b:=2^(64*i)) (by omega)
 have h3:=Int.emod_lt_of_pos A p1
 unfold zb8
 refine ⟨Int.mul_nonneg h2 h0,?_⟩
 rw [Nat.mul_add,Int.pow_add]
 generalize (2:Int)^(64*i)=P at *
 generalize (2:Int)^(64*4)=Q at *
 have h4:A%P*B<=A%P*Q:=Int.mul_le_mul_of_nonneg_left (by omega) h2
 have h5:A%P*Q<P*Q:=Int.mul_lt_mul_of_pos_right h3 (by omega)
 omega
theorem z1n (A B:Int) (i:Nat) (h0:0<=B) (h1:B<2^(64*4)):ze7 A B i 4=wi (zb8 A B (i+1)) (i+4):=by
 have hb:=zg9 A B i 4
 have hz:=zt3 A B i h0 h1
 unfold ze7 at *
 rw [Int.emod_eq_of_lt hz.1 hz.2,Int.emod_eq_of_lt h0 h1,<-zjb] at *
 unfold wi
 omega
theorem zt2 (A B:Int) (i j:Nat) (h0:0<=B) (h1:B<2^(64*4)) (hj:i+4<=j):wi (zb8 A B i) j=0:=by
 have hz:=zt3 A B i h0 h1
 have e:(2:Int)^(64*j)=2^(64*(i+4))*2^(64*(j - (i+4))):=by rw [<-Int.pow_add];congr 1;omega
 have p:=zco (j - (i+4))
 unfold wi
 rw [Int.ediv_eq_zero_of_lt hz.1]
 ·rfl
 ·rw [e]
  have:(2:Int)^(64*(i+4))*1<=2^(64*(i+4))*2^(64*(j - (i+4))):=Int.mul_le_mul_of_nonneg_left (by omega) (by have:=zco (i+4);omega)
  omega
theorem z1m (A B:Int) (i j:Nat) (hj:j<i):wi (zb8 A B (i+1)) j=wi (zb8 A B i) j:=by
 rw [zjb]
 unfold wi
 have e:(2:Int)^(64*i)=2^(64*j)*(18446744073709551616*2^(64*(i - j - 1))):=by
  rw [show (18446744073709551616:Int)=2^64 by rfl,<-Int.pow_add,<-Int.pow_add];congr 1;omega
 rw [e,Int.mul_assoc,Int.mul_assoc (2^(64*j)),Int.mul_assoc 18446744073709551616,Int.add_mul_ediv_left _ _ (by have:=zco j;omega)]
 omega
theorem zhb (A B:Int) (i k:Nat):∀ j,upd (zd4 A B i k) (i+k) (wi (zb8 A B (i+1)) (i+k)) j=zd4 A B i (k+1) j:=λj=>by
 unfold upd zd4
 by_cases e:j=i+k
 ·subst e;simp
 ·rw [if_neg e]
  by_cases h:i<=j/\j<i+k
  ·rw [if_pos h,if_pos (by omega)]
  ·rw [if_neg h,if_neg (by omega)]
theorem zio (A B:Int) (i:Nat) (h0:0<=B) (h1:B<2^(64*4)):∀ j,upd (zd4 A B i 4) (i+4) (ze7 A B i 4) j=wi (zb8 A B (i+1)) j:=λj=>by
 unfold upd zd4
 by_cases e:j=i+4
 ·subst e;rw [if_pos rfl,z1n A B i h0 h1]
 ·rw [if_neg e]
  by_cases h:i<=j/\j<i+4
  ·rw [if_pos h]
  ·rw [if_neg h]
   by_cases hj:j<i
   ·exact (z1m A B i j hj).symm
   ·rw [zt2 A B i j h0 h1 (by omega),zt2 A B (i+1) j h0 h1 (by omega)]
@[simp] theorem jkh (A B:Int) (i k:Nat):zd4 A B i k (i+k)=wi (zb8 A B i) (i+k):=by unfold zd4;rw [if_neg (by omega)]

theorem jni (x y d c:Int) (hx:0<=x/\x<18446744073709551616) (hy:0<=y/\y<18446744073709551616) (hd:0<=d/\d<18446744073709551616) (hc:0<=c/\c<18446744073709551616) :
  ((x*y%18446744073709551616+d)%18446744073709551616+c)%18446744073709551616=(d+x*y+c)%18446744073709551616 /\
  ((x*y / 18446744073709551616+(x*y%18446744073709551616+d) / 18446744073709551616)%18446744073709551616+((x*y%18446744073709551616+d)%18446744073709551616+c) / 18446744073709551616)%18446744073709551616=(d+x*y+c) / 18446744073709551616:=by
 have h1:0<=x*y:=Int.mul_nonneg hx.1 hy.1
 have h2:x*y<=18446744073709551615*18446744073709551615:=Int.mul_le_mul (by omega) (by omega) hy.1 (by omega)
 generalize x*y=p at *
 omega
end Go.Gy
namespace Go.Gy
open Go Go.RowKit Go.Proofs Go.Proofs.Tryz
@[simp] theorem jla (D:Nat->Prop) (n:Nat) (k:IntKind) (f:Nat->Int):zap D (.agg (fa n k f))↔True:=by
 refine ⟨λ_=>trivial,λ_ x hx=>?_⟩
 obtain ⟨m,rfl⟩:=zjf hx
 trivial
theorem zqh (z:Int) (h0:0<=z) (h1:z<18446744073709551616):zeh .and .u64 z 4294967295=z%4294967296:=by
 rw [<-and_low32 z h0 h1];rfl
theorem zzc (x y:Int) (hx0:0<=x) (hx:x<18446744073709551616) (hy0:0<=y) (hy:y<18446744073709551616):Ret prog G0 123 #[.int .u64 x,.int .u64 y] (.tuple #[.int .u64 (x*y / 18446744073709551616),.int .u64 (x*y%18446744073709551616)]):=by
 refine zav G0F func123 rfl call123 (by simp) (by simp) (by simp [ntmps123]) ?_
 intro C hC hC0 hY
 have f32:∀ z:Int,z.fdiv 4294967296=z / 4294967296:=λz=>Int.fdiv_eq_ediv_of_nonneg z (by omega)
 have a1:=zqh x hx0 hx
 have a2:=zqh y hy0 hy
 have a3:∀ z:Int,zeh .and .u64 (z%18446744073709551616) 4294967295=z%18446744073709551616%4294967296:=λz=>zqh _ (by omega) (by omega)
 repeat' first|refine gwZ ?_|(refine gwX ?_;intro Q hQ _;simp [hC,hY,f32,a1,a2,a3];refine gwq hQ ?_)|refine gwC ?_ ?_<;>intro hb
 refine ⟨.inr trivial,?_⟩
 have:=mul64_arith x y hx0 hx hy0 hy
 simpa [results123] using this
@[simp] theorem jps (x y:Int) (hx0:0<=x) (hx:x<18446744073709551616) (hy0:0<=y) (hy:y<18446744073709551616) (K:Value->Prop):za2 prog G0 123 #[.int .u64 x,.int .u64 y] K↔K (.tuple #[.int .u64 (x*y / 18446744073709551616),.int .u64 (x*y%18446744073709551616)]):=zaf G0W (by kernel_rfl) (zzc x y hx0 hx hy0 hy)
theorem z7s (z y:Int) (k:Nat) (h:z%115792089237316195423570985008687907853269984665640564039457584007913129639936=y%115792089237316195423570985008687907853269984665640564039457584007913129639936) (hk:k<4):wi z k=wi y k:=by
 have:k=0\/k=1\/k=2\/k=3:=by omega
 rcases this with rfl|rfl|rfl|rfl<;>simp only [wi]<;>omega
theorem z5t (z:Int) (h:ng z=true) (k:Nat) (hk:k<4):wi (-z) k=wi (um z) k:=z7s _ _ _ (by
 rw [ze1] at h;simp at h;have:=zpv z;unfold um;rw [if_pos h];omega) hk
theorem z5s (z:Int) (h:ng z=false) (k:Nat) (hk:k<4):wi z k=wi (um z) k:=z7s _ _ _ (by
 rw [ze1] at h;simp at h;have:=zpv z;unfold um;rw [if_neg (by omega)];omega) hk
theorem z5n (A B:Int) (i k:Nat):0<=wi A i*wi B k/\0<=wi A i*wi B k%18446744073709551616/\0<=(wi A i*wi B k+wi (zb8 A B i) (i+k))%18446744073709551616:=by
 have h1:=zbp A i;have h2:=zbp B k
 exact ⟨Int.mul_nonneg h1 h2,Int.emod_nonneg _ (by omega),Int.emod_nonneg _ (by omega)⟩
theorem z5m (A B:Int) (i k:Nat):(wi A i*wi B k+wi (zb8 A B i) (i+k)+ze7 A B i k)%18446744073709551616=wi (zb8 A B (i+1)) (i+k):=by
 rw [<-jng A B i k];congr 1;omega
theorem z5h (A B:Int) (i k:Nat):(wi A i*wi B k / 18446744073709551616+(wi A i*wi B k%18446744073709551616+wi (zb8 A B i) (i+k)) / 18446744073709551616+((wi A i*wi B k+wi (zb8 A B i) (i+k))%18446744073709551616+ze7 A B i k) / 18446744073709551616)%18446744073709551616=ze7 A B i (k+1):=by
 have h:=(jni (wi A i) (wi B k) (wi (zb8 A B i) (i+k)) (ze7 A B i k) ⟨zbp _ _,zbx _ _⟩ ⟨zbp _ _,zbx _ _⟩ ⟨zbp _ _,zbx _ _⟩ (zg9 A B i k)).2
 rw [<-zwf,<-h]
 simp
def zwk (q:Nat) (mi:Bool) (A B:Int) (i:Nat):GS :=
 ⟨tsL [(2,.pointer (some ⟨200,0,none⟩)),(3,.pointer (some ⟨208,0,none⟩)),(4,.pointer (some ⟨216,0,none⟩)),(6,.bool mi),(7,.pointer (some ⟨q,0,none⟩)),(40,.agg (fa 4 .u64 (wi A))),(41,.int .i64 i)],
 hpL G0 [(200,⟨fa 4 .u64 (wi A),.ty 86⟩),(208,⟨fa 4 .u64 (wi B),.ty 86⟩),(216,⟨fa 4 .u64 λ_=>0,.ty 86⟩),(q,⟨fa 8 .u64 (wi (zb8 A B i)),.ty 118⟩)],600,0⟩
def zjp (q:Nat) (mi:Bool) (A B:Int) (i k:Nat):GS :=
 ⟨tsL [(2,.pointer (some ⟨200,0,none⟩)),(3,.pointer (some ⟨208,0,none⟩)),(4,.pointer (some ⟨216,0,none⟩)),(6,.bool mi),(7,.pointer (some ⟨q,0,none⟩)),(40,.agg (fa 4 .u64 (wi A))),(41,.int .i64 i),
   (8,.int .i64 i),(9,.int .u64 (wi A i)),(10,.int .u64 (ze7 A B i k)),(45,.agg (fa 4 .u64 (wi B))),(46,.int .i64 k)],
 hpL G0 [(200,⟨fa 4 .u64 (wi A),.ty 86⟩),(208,⟨fa 4 .u64 (wi B),.ty 86⟩),(216,⟨fa 4 .u64 λ_=>0,.ty 86⟩),(q,⟨fa 8 .u64 (zd4 A B i k),.ty 118⟩)],600,0⟩
theorem zq9 {x y:Int} (hx0:0<=x) (hx:x<18446744073709551616) (hy0:0<=y) (hy:y<18446744073709551616):(zeh .or .u64 x y=0↔x=0/\y=0)/\0<=zeh .or .u64 x y/\zeh .or .u64 x y<18446744073709551616:=by
 have e:zeh .or .u64 x y=((BitVec.ofInt 64 x ||| BitVec.ofInt 64 y:BitVec 64).toNat:Int)%18446744073709551616:=by
  unfold zeh
  show IntKind.u64.wrap ((BitVec.ofInt 64 x ||| BitVec.ofInt 64 y:BitVec 64).toNat:Int)=_
  rw [zny]
 have hx':(BitVec.ofInt 64 x).toNat=x.toNat:=by
  rw [BitVec.toNat_ofInt];congr 1;exact Int.emod_eq_of_lt hx0 hx
 have hy':(BitVec.ofInt 64 y).toNat=y.toNat:=by
  rw [BitVec.toNat_ofInt];congr 1;exact Int.emod_eq_of_lt hy0 hy
 have hb:=(BitVec.ofInt 64 x ||| BitVec.ofInt 64 y).isLt
 rw [e]
 refine ⟨?_,Int.emod_nonneg _ (by omega),Int.emod_lt_of_pos _ (by omega)⟩
 rw [Int.emod_eq_of_lt (by omega) (by omega),BitVec.toNat_or,hx',hy']
 constructor
 ·intro h
  have h1:x.toNat ||| y.toNat=0:=by omega
  have:=Nat.or_eq_zero_iff.1 h1
  omega
 ·rintro ⟨rfl,rfl⟩;rfl
theorem zj6 (D:Int) (j:Nat) (h:4<=j:=by omega):wi D j=wi (D / 115792089237316195423570985008687907853269984665640564039457584007913129639936) (j - 4):=by
 unfold wi
 have e:64*j=64*4+64*(j - 4):=by omega
 rw [e,Int.pow_add,<-Int.ediv_ediv_of_nonneg (Int.le_of_lt (zco 4))]
 rfl
def ovD (D:Int):Bool:=decide (115792089237316195423570985008687907853269984665640564039457584007913129639936<=D)
def orW (D:Int):Int:=zeh .or .u64 (zeh .or .u64 (zeh .or .u64 (wi D 4) (wi D 5)) (wi D 6)) (wi D 7)
theorem jl5 (D:Int) (h0:0<=D) (h1:D<115792089237316195423570985008687907853269984665640564039457584007913129639936*115792089237316195423570985008687907853269984665640564039457584007913129639936) :
  (!orW D==0)=ovD D:=by
 unfold orW
 have o1:=zq9 (zbp D 4) (zbx D 4) (zbp D 5) (zbx D 5)
 have o2:=zq9 o1.2.1 o1.2.2 (zbp D 6) (zbx D 6)
 have o3:=zq9 o2.2.1 o2.2.2 (zbp D 7) (zbx D 7)
 rw [Bool.eq_iff_iff]
 simp only [Bool.not_eq_true',beq_eq_false_iff_ne,ne_eq,ovD,decide_eq_true_eq]
 rw [o3.1,o2.1,o1.1,zj6 D 4,zj6 D 5,zj6 D 6,zj6 D 7]
 have hE:0<=D / 115792089237316195423570985008687907853269984665640564039457584007913129639936/\D / 115792089237316195423570985008687907853269984665640564039457584007913129639936<115792089237316195423570985008687907853269984665640564039457584007913129639936:=⟨by omega,by omega⟩
 have hD:115792089237316195423570985008687907853269984665640564039457584007913129639936<=D↔D / 115792089237316195423570985008687907853269984665640564039457584007913129639936≠0:=by omega
 rw [hD]
 generalize D / 115792089237316195423570985008687907853269984665640564039457584007913129639936=E at *
 simp only [wi]
 omega
theorem zt1 (a b:Int):Ret prog G0 94 #[wd a,wd b] (.tuple #[wd (sz a*sz b),.bool (zie a b)]):=by
 refine zav G0F func94 rfl call94 (by simp) (by simp) (by simp [ntmps94]) ?_
 intro C hC hC0 hY
 have hA:=zwb a
 have hB:=zwb b
 have hB0:0<=um b:=hB.1
 have hB1:um b<2^(64*4):=by have:=hB.2;omega
 obtain ⟨D,hD⟩:∃ D,um a*um b=D:=⟨_,rfl⟩
 have eD:zb8 (um a) (um b) 4=D:=by rw [<-hD];unfold zb8;rw [Int.emod_eq_of_lt (by omega) (by omega)]
 have hbd:0<=D/\D<=57896044618658097711785492504343953926634992332820282019728792003956564819968*57896044618658097711785492504343953926634992332820282019728792003956564819968:=by
  rw [<-hD]
  exact ⟨Int.mul_nonneg hA.1 hB.1,Int.mul_le_mul hA.2 hB.2 hB.1 (by omega)⟩
 have hor:=jl5 D hbd.1 (by have:=hbd.2;omega)
 have hs1:=zpf a b
 have hs2:=zma a b
 rw [hD] at hs1 hs2
 cases ha:ng a<;>cases hq:ng b
 all_goals
  repeat' first|refine gwZ ?_|(refine gwX ?_;intro Q hQ _;simp [hC,hY,ha,hq];refine gwq hQ ?_)|refine gwC ?_ ?_<;>intro hb
 ·have hn:(ng a==ng b)=true:=by rw [ha,hq];rfl
  refine zb3 4 (zwk 312 false (um a) (um b)) ?_ ?_ ?_
  ·have e1:=z5s a ha
   have e2:=z5s b hq
   refine zbc _ 600 hC G0F (m0:=[]) hC0 (by omega) ?_ ?_ ?_
   ·simp [dom,ziu,e1]
   ·simp [zcv,ziu,zlt,e1,e2,zb8,Int.emod_one,zd9]
   ·simp
  ·intro i hi
   have hi':(i:Int)<4:=by omega
   have hz:(0:Int)<=i:=by omega
   have hs:Int.bmod ((i:Int)+1) 18446744073709551616=((i+1:Nat):Int):=by rw [bm (by omega) (by omega)];rfl
   unfold zwk
   repeat' first|refine gwZ ?_|(refine gwX ?_;intro Q hQ _;simp [hC,hY,hi,hi',hz,hs,zdh];refine gwq hQ ?_)|refine gwC ?_ ?_<;>intro hb
   refine zb3 4 (zjp 312 false (um a) (um b) i) ?_ ?_ ?_
   ·refine zbc _ 600 hC G0F (m0:=[]) hC0 (by omega) ?_ ?_ ?_
    ·simp [dom,zha]
    ·have e:fa 8 .u64 (zd4 (um a) (um b) i 0)=fa 8 .u64 (wi (zb8 (um a) (um b) i)):=zce λj _=>by unfold zd4;rw [if_neg (by omega)]
     simp [e,zcv]
    ·simp
   ·intro k hk
    have hk':(k:Int)<4:=by omega
    have hkz:(0:Int)<=k:=by omega
    have hs2:Int.bmod ((k:Int)+1) 18446744073709551616=((k+1:Nat):Int):=by rw [bm (by omega) (by omega)];rfl
    have hik:Int.bmod ((i:Int)+k) 18446744073709551616=((i+k:Nat):Int):=by rw [bm (by omega) (by omega)];rfl
    have hik2:i+k<8:=by omega
    have hik3:(i:Int)+k<8:=by omega
    have hik4:(0:Int)<=(i:Int)+k:=by omega
    have hik5:((i:Int)+k).toNat=i+k:=by omega
    have hik6:(i:Int)+k<=7:=by omega
    have hik7:i+k<=7:=by omega
    have hn:=z5n (um a) (um b) i k
    have hc:=zg9 (um a) (um b) i k
    unfold zjp
    repeat' first|refine gwZ ?_|(refine gwX ?_;intro Q hQ _;simp [hC,hY,hi,hi',hz,hk,hk',hkz,hik,hik2,hik3,hik4,hik5,hik6,hik7,hs2,zdh,zcw,zbp,zbx,hn.1,hn.2.1,hn.2.2,hc.1];refine gwq hQ ?_)|refine gwC ?_ ?_<;>intro hb
    refine zbc _ 600 hC G0F (m0:=[]) hC0 (by omega) ?_ ?_ ?_
    ·simp [dom,hs2,z5h]
    ·have e:fa 8 .u64 (upd (zd4 (um a) (um b) i k) (i+k) (wi (zb8 (um a) (um b) (i+1)) (i+k)))=fa 8 .u64 (zd4 (um a) (um b) i (k+1)):=zce λj _=>zhb (um a) (um b) i k j
     simp [zcv,z5m,e]
    ·simp
   ·have hi8:Int.bmod ((i:Int)+4) 18446744073709551616=(i:Int)+4:=bm (by omega) (by omega)
    have hi9:(0:Int)<=(i:Int)+4:=by omega
    have hi10:((i:Int)+4).toNat=i+4:=by omega
    have hi11:(i:Int)+4<8:=by omega
    have hi12:(i:Int)<=3:=by omega
    have hi14:i<=3:=by omega
    have hi13:i+4<8:=by omega
    unfold zjp
    repeat' first|refine gwZ ?_|(refine gwX ?_;intro Q hQ _;simp [hC,hY,hi,hi',hz,hs,hi8,hi9,hi10,hi11,hi12,hi13,hi14,zcw];refine gwq hQ ?_)|refine gwC ?_ ?_<;>intro hb
    refine zbc _ 600 hC G0F (m0:=[]) hC0 (by omega) ?_ ?_ ?_
    ·simp [dom,hs]
    ·have e:fa 8 .u64 (upd (zd4 (um a) (um b) i 4) (i+4) (ze7 (um a) (um b) i 4))=fa 8 .u64 (wi (zb8 (um a) (um b) (i+1))):=zce λj _=>zio (um a) (um b) i hB0 hB1 j
     simp [zcv,e]
    ·simp
  ·unfold zwk
   rw [eD]
   by_cases hx:orW D=0
   ·have hov:ovD D=false:=by rw [<-hor];simp [hx]
    unfold orW at hx
    repeat' first|refine gwZ ?_|(refine gwX ?_;intro Q hQ _;simp [hC,hY,zlt,ziu,hx];refine gwq hQ ?_)|refine gwC ?_ ?_<;>intro hb
    refine ⟨.inr trivial,?_⟩
    rw [ovD] at hov
    simp [results94,hs1 hn,zie,hx]
    rw [Bool.eq_iff_iff]
    simp [ze1]
    have h3:=zet D hbd.1 (by simpa using hov)
    simp at hov
    omega
   ·have hov:ovD D=true:=by rw [<-hor];simp [hx]
    unfold orW at hx
    have hx2:(zeh .or .u64 (zeh .or .u64 (zeh .or .u64 (wi D 4) (wi D 5)) (wi D 6)) (wi D 7)==0)=false:=by simpa using hx
    have hx3:(zeh .or .u64 (zeh .or .u64 (zeh .or .u64 (wi D 4) (wi D 5)) (wi D 6)) (wi D 7) != 0)=true:=by simpa using hx
    repeat' first|refine gwZ ?_|(refine gwX ?_;intro Q hQ _;simp [hC,hY,zlt,ziu,hx,hx2,hx3];refine gwq hQ ?_)|refine gwC ?_ ?_<;>intro hb
    refine ⟨.inr trivial,?_⟩
    rw [ovD] at hov
    simp [results94,hs1 hn,zie,hx]
    simp at hov
    omega
 ·have hn:(ng a==ng b)=false:=by rw [ha,hq];rfl
  refine zb3 4 (zwk 360 true (um a) (um b)) ?_ ?_ ?_
  ·have e1:=z5s a ha
   have e2:=z5t b hq
   refine zbc _ 600 hC G0F (m0:=[]) hC0 (by omega) ?_ ?_ ?_
   ·simp [dom,ziu,e1]
   ·simp [zcv,ziu,zlt,e1,e2,zb8,Int.emod_one,zd9]
   ·simp
  ·intro i hi
   have hi':(i:Int)<4:=by omega
   have hz:(0:Int)<=i:=by omega
   have hs:Int.bmod ((i:Int)+1) 18446744073709551616=((i+1:Nat):Int):=by rw [bm (by omega) (by omega)];rfl
   unfold zwk
   repeat' first|refine gwZ ?_|(refine gwX ?_;intro Q hQ _;simp [hC,hY,hi,hi',hz,hs,zdh];refine gwq hQ ?_)|refine gwC ?_ ?_<;>intro hb
   refine zb3 4 (zjp 360 true (um a) (um b) i) ?_ ?_ ?_
   ·refine zbc _ 600 hC G0F (m0:=[]) hC0 (by omega) ?_ ?_ ?_
    ·simp [dom,zha]
    ·have e:fa 8 .u64 (zd4 (um a) (um b) i 0)=fa 8 .u64 (wi (zb8 (um a) (um b) i)):=zce λj _=>by unfold zd4;rw [if_neg (by omega)]
     simp [e,zcv]
    ·simp
   ·intro k hk
    have hk':(k:Int)<4:=by omega
    have hkz:(0:Int)<=k:=by omega
    have hs2:Int.bmod ((k:Int)+1) 18446744073709551616=((k+1:Nat):Int):=by rw [bm (by omega) (by omega)];rfl
    have hik:Int.bmod ((i:Int)+k) 18446744073709551616=((i+k:Nat):Int):=by rw [bm (by omega) (by omega)];rfl
    have hik2:i+k<8:=by omega
    have hik3:(i:Int)+k<8:=by omega
    have hik4:(0:Int)<=(i:Int)+k:=by omega
    have hik5:((i:Int)+k).toNat=i+k:=by omega
    have hik6:(i:Int)+k<=7:=by omega
    have hik7:i+k<=7:=by omega
    have hn:=z5n (um a) (um b) i k
    have hc:=zg9 (um a) (um b) i k
    unfold zjp
    repeat' first|refine gwZ ?_|(refine gwX ?_;intro Q hQ _;simp [hC,hY,hi,hi',hz,hk,hk',hkz,hik,hik2,hik3,hik4,hik5,hik6,hik7,hs2,zdh,zcw,zbp,zbx,hn.1,hn.2.1,hn.2.2,hc.1];refine gwq hQ ?_)|refine gwC ?_ ?_<;>intro hb
    refine zbc _ 600 hC G0F (m0:=[]) hC0 (by omega) ?_ ?_ ?_
    ·simp [dom,hs2,z5h]
    ·have e:fa 8 .u64 (upd (zd4 (um a) (um b) i k) (i+k) (wi (zb8 (um a) (um b) (i+1)) (i+k)))=fa 8 .u64 (zd4 (um a) (um b) i (k+1)):=zce λj _=>zhb (um a) (um b) i k j
     simp [zcv,z5m,e]
    ·simp
   ·have hi8:Int.bmod ((i:Int)+4) 18446744073709551616=(i:Int)+4:=bm (by omega) (by omega)
    have hi9:(0:Int)<=(i:Int)+4:=by omega
    have hi10:((i:Int)+4).toNat=i+4:=by omega
    have hi11:(i:Int)+4<8:=by omega
    have hi12:(i:Int)<=3:=by omega
    have hi14:i<=3:=by omega
    have hi13:i+4<8:=by omega
    unfold zjp
    repeat' first|refine gwZ ?_|(refine gwX ?_;intro Q hQ _;simp [hC,hY,hi,hi',hz,hs,hi8,hi9,hi10,hi11,hi12,hi13,hi14,zcw];refine gwq hQ ?_)|refine gwC ?_ ?_<;>intro hb
    refine zbc _ 600 hC G0F (m0:=[]) hC0 (by omega) ?_ ?_ ?_
    ·simp [dom,hs]
    ·have e:fa 8 .u64 (upd (zd4 (um a) (um b) i 4) (i+4) (ze7 (um a) (um b) i 4))=fa 8 .u64 (wi (zb8 (um a) (um b) (i+1))):=zce λj _=>zio (um a) (um b) i hB0 hB1 j
     simp [zcv,e]
    ·simp
  ·unfold zwk
   rw [eD]
   by_cases hx:orW D=0
   ·have hov:ovD D=false:=by rw [<-hor];simp [hx]
    unfold orW at hx
    by_cases hzz:sz D=0
    ·have hw:=zr6 D hzz
     repeat' first|refine gwZ ?_|(refine gwX ?_;intro Q hQ _;simp [hC,hY,zlt,ziu,hx,hw];refine gwq hQ ?_)|refine gwC ?_ ?_<;>intro hb
     refine ⟨.inr trivial,?_⟩
     rw [ovD] at hov
     simp [results94,hs2 hn,zie,hx]
     have:=zet D hbd.1 (by simpa using hov)
     simp at hov
     omega
    ·have hw:=zj7 D hzz
     repeat' first|refine gwZ ?_|(refine gwX ?_;intro Q hQ _;simp [hC,hY,zlt,ziu,hx,hw];refine gwq hQ ?_)|refine gwC ?_ ?_<;>intro hb
     refine ⟨.inr trivial,?_⟩
     rw [ovD] at hov
     simp [results94,hs2 hn,zie,hx]
     rw [Bool.eq_iff_iff]
     simp [ze1]
     have h3:=zet D hbd.1 (by simpa using hov)
     have h4:=zry D hbd.1 (by simpa using hov)
     simp at hov
     omega
   ·have hov:ovD D=true:=by rw [<-hor];simp [hx]
    unfold orW at hx
    have hx2:(zeh .or .u64 (zeh .or .u64 (zeh .or .u64 (wi D 4) (wi D 5)) (wi D 6)) (wi D 7)==0)=false:=by simpa using hx
    have hx3:(zeh .or .u64 (zeh .or .u64 (zeh .or .u64 (wi D 4) (wi D 5)) (wi D 6)) (wi D 7) != 0)=true:=by simpa using hx
    repeat' first|refine gwZ ?_|(refine gwX ?_;intro Q hQ _;simp [hC,hY,zlt,ziu,hx,hx2,hx3];refine gwq hQ ?_)|refine gwC ?_ ?_<;>intro hb
    refine ⟨.inr trivial,?_⟩
    rw [ovD] at hov
    simp [results94,hs2 hn,zie,hx]
    simp at hov
    omega
 ·have hn:(ng a==ng b)=false:=by rw [ha,hq];rfl
  refine zb3 4 (zwk 360 true (um a) (um b)) ?_ ?_ ?_
  ·have e1:=z5t a ha
   have e2:=z5s b hq
   refine zbc _ 600 hC G0F (m0:=[]) hC0 (by omega) ?_ ?_ ?_
   ·simp [dom,ziu,e1]
   ·simp [zcv,ziu,zlt,e1,e2,zb8,Int.emod_one,zd9]
   ·simp
  ·intro i hi
   have hi':(i:Int)<4:=by omega
   have hz:(0:Int)<=i:=by omega
   have hs:Int.bmod ((i:Int)+1) 18446744073709551616=((i+1:Nat):Int):=by rw [bm (by omega) (by omega)];rfl
   unfold zwk
   repeat' first|refine gwZ ?_|(refine gwX ?_;intro Q hQ _;simp [hC,hY,hi,hi',hz,hs,zdh];refine gwq hQ ?_)|refine gwC ?_ ?_<;>intro hb
   refine zb3 4 (zjp 360 true (um a) (um b) i) ?_ ?_ ?_
   ·refine zbc _ 600 hC G0F (m0:=[]) hC0 (by omega) ?_ ?_ ?_
    ·simp [dom,zha]
    ·have e:fa 8 .u64 (zd4 (um a) (um b) i 0)=fa 8 .u64 (wi (zb8 (um a) (um b) i)):=zce λj _=>by unfold zd4;rw [if_neg (by omega)]
     simp [e,zcv]
    ·simp
   ·intro k hk
    have hk':(k:Int)<4:=by omega
    have hkz:(0:Int)<=k:=by omega
    have hs2:Int.bmod ((k:Int)+1) 18446744073709551616=((k+1:Nat):Int):=by rw [bm (by omega) (by omega)];rfl
    have hik:Int.bmod ((i:Int)+k) 18446744073709551616=((i+k:Nat):Int):=by rw [bm (by omega) (by omega)];rfl
    have hik2:i+k<8:=by omega
    have hik3:(i:Int)+k<8:=by omega
    have hik4:(0:Int)<=(i:Int)+k:=by omega
    have hik5:((i:Int)+k).toNat=i+k:=by omega
    have hik6:(i:Int)+k<=7:=by omega
    have hik7:i+k<=7:=by omega
    have hn:=z5n (um a) (um b) i k
    have hc:=zg9 (um a) (um b) i k
    unfold zjp
    repeat' first|refine gwZ ?_|(refine gwX ?_;intro Q hQ _;simp [hC,hY,hi,hi',hz,hk,hk',hkz,hik,hik2,hik3,hik4,hik5,hik6,hik7,hs2,zdh,zcw,zbp,zbx,hn.1,hn.2.1,hn.2.2,hc.1];refine gwq hQ ?_)|refine gwC ?_ ?_<;>intro hb
    refine zbc _ 600 hC G0F (m0:=[]) hC0 (by omega) ?_ ?_ ?_
    ·simp [dom,hs2,z5h]
    ·have e:fa 8 .u64 (upd (zd4 (um a) (um b) i k) (i+k) (wi (zb8 (um a) (um b) (i+1)) (i+k)))=fa 8 .u64 (zd4 (um a) (um b) i (k+1)):=zce λj _=>zhb (um a) (um b) i k j
     simp [zcv,z5m,e]
    ·simp
   ·have hi8:Int.bmod ((i:Int)+4) 18446744073709551616=(i:Int)+4:=bm (by omega) (by omega)
    have hi9:(0:Int)<=(i:Int)+4:=by omega
    have hi10:((i:Int)+4).toNat=i+4:=by omega
    have hi11:(i:Int)+4<8:=by omega
    have hi12:(i:Int)<=3:=by omega
    have hi14:i<=3:=by omega
    have hi13:i+4<8:=by omega
    unfold zjp
    repeat' first|refine gwZ ?_|(refine gwX ?_;intro Q hQ _;simp [hC,hY,hi,hi',hz,hs,hi8,hi9,hi10,hi11,hi12,hi13,hi14,zcw];refine gwq hQ ?_)|refine gwC ?_ ?_<;>intro hb
    refine zbc _ 600 hC G0F (m0:=[]) hC0 (by omega) ?_ ?_ ?_
    ·simp [dom,hs]
    ·have e:fa 8 .u64 (upd (zd4 (um a) (um b) i 4) (i+4) (ze7 (um a) (um b) i 4))=fa 8 .u64 (wi (zb8 (um a) (um b) (i+1))):=zce λj _=>zio (um a) (um b) i hB0 hB1 j
     simp [zcv,e]
    ·simp
  ·unfold zwk
   rw [eD]
   by_cases hx:orW D=0
   ·have hov:ovD D=false:=by rw [<-hor];simp [hx]
    unfold orW at hx
    by_cases hzz:sz D=0
    ·have hw:=zr6 D hzz
     repeat' first|refine gwZ ?_|(refine gwX ?_;intro Q hQ _;simp [hC,hY,zlt,ziu,hx,hw];refine gwq hQ ?_)|refine gwC ?_ ?_<;>intro hb
     refine ⟨.inr trivial,?_⟩
     rw [ovD] at hov
     simp [results94,hs2 hn,zie,hx]
     have:=zet D hbd.1 (by simpa using hov)
     simp at hov
     omega
    ·have hw:=zj7 D hzz
     repeat' first|refine gwZ ?_|(refine gwX ?_;intro Q hQ _;simp [hC,hY,zlt,ziu,hx,hw];refine gwq hQ ?_)|refine gwC ?_ ?_<;>intro hb
     refine ⟨.inr trivial,?_⟩
     rw [ovD] at hov
     simp [results94,hs2 hn,zie,hx]
     rw [Bool.eq_iff_iff]
     simp [ze1]
     have h3:=zet D hbd.1 (by simpa using hov)
     have h4:=zry D hbd.1 (by simpa using hov)
     simp at hov
     omega
   ·have hov:ovD D=true:=by rw [<-hor];simp [hx]
    unfold orW at hx
    have hx2:(zeh .or .u64 (zeh .or .u64 (zeh .or .u64 (wi D 4) (wi D 5)) (wi D 6)) (wi D 7)==0)=false:=by simpa using hx
    have hx3:(zeh .or .u64 (zeh .or .u64 (zeh .or .u64 (wi D 4) (wi D 5)) (wi D 6)) (wi D 7) != 0)=true:=by simpa using hx
    repeat' first|refine gwZ ?_|(refine gwX ?_;intro Q hQ _;simp [hC,hY,zlt,ziu,hx,hx2,hx3];refine gwq hQ ?_)|refine gwC ?_ ?_<;>intro hb
    refine ⟨.inr trivial,?_⟩
    rw [ovD] at hov
    simp [results94,hs2 hn,zie,hx]
    simp at hov
    omega
 ·have hn:(ng a==ng b)=true:=by rw [ha,hq];rfl
  refine zb3 4 (zwk 408 false (um a) (um b)) ?_ ?_ ?_
  ·have e1:=z5t a ha
   have e2:=z5t b hq
   refine zbc _ 600 hC G0F (m0:=[]) hC0 (by omega) ?_ ?_ ?_
   ·simp [dom,ziu,e1]
   ·simp [zcv,ziu,zlt,e1,e2,zb8,Int.emod_one,zd9]
   ·simp
  ·intro i hi
   have hi':(i:Int)<4:=by omega
   have hz:(0:Int)<=i:=by omega
   have hs:Int.bmod ((i:Int)+1) 18446744073709551616=((i+1:Nat):Int):=by rw [bm (by omega) (by omega)];rfl
   unfold zwk
   repeat' first|refine gwZ ?_|(refine gwX ?_;intro Q hQ _;simp [hC,hY,hi,hi',hz,hs,zdh];refine gwq hQ ?_)|refine gwC ?_ ?_<;>intro hb
   refine zb3 4 (zjp 408 false (um a) (um b) i) ?_ ?_ ?_
   ·refine zbc _ 600 hC G0F (m0:=[]) hC0 (by omega) ?_ ?_ ?_
    ·simp [dom,zha]
    ·have e:fa 8 .u64 (zd4 (um a) (um b) i 0)=fa 8 .u64 (wi (zb8 (um a) (um b) i)):=zce λj _=>by unfold zd4;rw [if_neg (by omega)]
     simp [e,zcv]
    ·simp
   ·intro k hk
    have hk':(k:Int)<4:=by omega
    have hkz:(0:Int)<=k:=by omega
    have hs2:Int.bmod ((k:Int)+1) 18446744073709551616=((k+1:Nat):Int):=by rw [bm (by omega) (by omega)];rfl
    have hik:Int.bmod ((i:Int)+k) 18446744073709551616=((i+k:Nat):Int):=by rw [bm (by omega) (by omega)];rfl
    have hik2:i+k<8:=by omega
    have hik3:(i:Int)+k<8:=by omega
    have hik4:(0:Int)<=(i:Int)+k:=by omega
    have hik5:((i:Int)+k).toNat=i+k:=by omega
    have hik6:(i:Int)+k<=7:=by omega
    have hik7:i+k<=7:=by omega
    have hn:=z5n (um a) (um b) i k
    have hc:=zg9 (um a) (um b) i k
    unfold zjp
    repeat' first|refine gwZ ?_|(refine gwX ?_;intro Q hQ _;simp [hC,hY,hi,hi',hz,hk,hk',hkz,hik,hik2,hik3,hik4,hik5,hik6,hik7,hs2,zdh,zcw,zbp,zbx,hn.1,hn.2.1,hn.2.2,hc.1];refine gwq hQ ?_)|refine gwC ?_ ?_<;>intro hb
    refine zbc _ 600 hC G0F (m0:=[]) hC0 (by omega) ?_ ?_ ?_
    ·simp [dom,hs2,z5h]
    ·have e:fa 8 .u64 (upd (zd4 (um a) (um b) i k) (i+k) (wi (zb8 (um a) (um b) (i+1)) (i+k)))=fa 8 .u64 (zd4 (um a) (um b) i (k+1)):=zce λj _=>zhb (um a) (um b) i k j
     simp [zcv,z5m,e]
    ·simp
   ·have hi8:Int.bmod ((i:Int)+4) 18446744073709551616=(i:Int)+4:=bm (by omega) (by omega)
    have hi9:(0:Int)<=(i:Int)+4:=by omega
    have hi10:((i:Int)+4).toNat=i+4:=by omega
    have hi11:(i:Int)+4<8:=by omega
    have hi12:(i:Int)<=3:=by omega
    have hi14:i<=3:=by omega
    have hi13:i+4<8:=by omega
    unfold zjp
    repeat' first|refine gwZ ?_|(refine gwX ?_;intro Q hQ _;simp [hC,hY,hi,hi',hz,hs,hi8,hi9,hi10,hi11,hi12,hi13,hi14,zcw];refine gwq hQ ?_)|refine gwC ?_ ?_<;>intro hb
    refine zbc _ 600 hC G0F (m0:=[]) hC0 (by omega) ?_ ?_ ?_
    ·simp [dom,hs]
    ·have e:fa 8 .u64 (upd (zd4 (um a) (um b) i 4) (i+4) (ze7 (um a) (um b) i 4))=fa 8 .u64 (wi (zb8 (um a) (um b) (i+1))):=zce λj _=>zio (um a) (um b) i hB0 hB1 j
     simp [zcv,e]
    ·simp
  ·unfold zwk
   rw [eD]
   by_cases hx:orW D=0
   ·have hov:ovD D=false:=by rw [<-hor];simp [hx]
    unfold orW at hx
    repeat' first|refine gwZ ?_|(refine gwX ?_;intro Q hQ _;simp [hC,hY,zlt,ziu,hx];refine gwq hQ ?_)|refine gwC ?_ ?_<;>intro hb
    refine ⟨.inr trivial,?_⟩
    rw [ovD] at hov
    simp [results94,hs1 hn,zie,hx]
    rw [Bool.eq_iff_iff]
    simp [ze1]
    have h3:=zet D hbd.1 (by simpa using hov)
    simp at hov
    omega
   ·have hov:ovD D=true:=by rw [<-hor];simp [hx]
    unfold orW at hx
    have hx2:(zeh .or .u64 (zeh .or .u64 (zeh .or .u64 (wi D 4) (wi D 5)) (wi D 6)) (wi D 7)==0)=false:=by simpa using hx
    have hx3:(zeh .or .u64 (zeh .or .u64 (zeh .or .u64 (wi D 4) (wi D 5)) (wi D 6)) (wi D 7) != 0)=true:=by simpa using hx
    repeat' first|refine gwZ ?_|(refine gwX ?_;intro Q hQ _;simp [hC,hY,zlt,ziu,hx,hx2,hx3];refine gwq hQ ?_)|refine gwC ?_ ?_<;>intro hb
    refine ⟨.inr trivial,?_⟩
    rw [ovD] at hov
    simp [results94,hs1 hn,zie,hx]
    simp at hov
    omega
@[simp] theorem jsa (a b:Int) (K:Value->Prop):za2 prog G0 94 #[Value.agg #[.int .u64 (wi (a) 0),.int .u64 (wi (a) 1),.int .u64 (wi (a) 2),.int .u64 (wi (a) 3)],Value.agg #[.int .u64 (wi (b) 0),.int .u64 (wi (b) 1),.int .u64 (wi (b) 2),.int .u64 (wi (b) 3)]] K↔K (.tuple #[wd (sz a*sz b),.bool (zie a b)]):=zaf G0W (by kernel_rfl) (zt1 a b)

def erV (n:Int):Value:=.iface 32 (.int .i64 n)
@[simp] theorem jeg (n:Int):erV n=.iface 32 (.int .i64 n):=rfl
def zB:Blk:=⟨#[.int .u64 0,.int .u64 0,.int .u64 0,.int .u64 0],.ty 86⟩
def eB (n:Int):Blk:=⟨#[.int .i64 n],.ty 32⟩
theorem zxf (n:Int) (W:World):(Instr.typeAssert (erV n) 20 32 true).run prog W=.ok (.tuple #[.int .i64 n,.bool true]) W:=by kernel_rfl
theorem zub (W:World):(Instr.typeAssert .nilIface 20 32 true).run prog W=.ok (.tuple #[.int .i64 0,.bool false]) W:=by kernel_rfl
theorem jgv:Array.replicate 10 undef=#[undef,undef,undef,undef,undef,undef,undef,undef,undef,undef]:=rfl
theorem jow:Array.replicate 7 undef=#[undef,undef,undef,undef,undef,undef,undef]:=rfl
def zwi:Array Value:=#[.pointer (some ⟨100000,0,none⟩),.pointer (some ⟨100008,0,none⟩)]
def hpQ (n:Int):Hp:=hpL G0 [(100000,zB),(100008,eB n)]
theorem zfh (n:Int):rst (hpQ n) [100000,100008]=hpQ n:=zdr G0F (by simp)
theorem zx9 (n:Int) (k:Nat) (b:Blk) (D:Nat->Prop) (h:hpQ n k=some b):b.ids D:=by
 rcases za8 h with h|h
 ·simp at h
  rcases h with ⟨_,rfl⟩|⟨_,rfl⟩<;>simp [zB,eB]
 ·exact zew _ _ _ h
theorem jp1 (n:Int):RecF prog G0 132 zwi (hpQ 0) [100000,100008] (erV n) [(100000,zB),(100008,eB n)]:=by
 refine ⟨⟨_,func132⟩,call132,?_,?_⟩
 ·refine zqj (k:=2) func132 rfl λargs c₀ cs W hk hu=>?_
  obtain ⟨p0,p1,rfl⟩:∃ p0 p1,args=#[p0,p1]:=by
   rcases args with ⟨l⟩
   match l,hk with
   | [a,b],_=>exact ⟨a,b,rfl⟩
  have hn:f132.ntmps=12:=ntmps132
  refine wpSIn_seq (wpSIn_region ?_)
  simp [wpOpsSIn,List.range,List.range.loop,go_sem,recoverD,hu,hn,zub,jgv]
  refine wpSIn_seq (wpSIn_region ?_)
  simp [wpOpsSIn,List.range,List.range.loop,go_sem]
  refine wpSIn_cond (t:=false) (by simp [Act.eval]) ?_
  refine wpSIn_of_wpIn rfl (wpIn_skip ?_)
  exact ⟨.inl rfl,rfl,rfl,rfl,.tuple #[],by simp [results,results132,go_sem]⟩
 ·refine zkb (B:=200000) (A:=#[.pointer (some ⟨100000,0,none⟩),.pointer (some ⟨100008,0,none⟩),.int .i64 n,.bool true,.tuple #[.int .i64 n,.bool true],erV n,.tuple #[.int .i64 n,.bool true],.int .i64 n,.bool true,undef,undef,undef]) G0F (λk hk=>za6 (by simp) hk) func132 rfl (by simp [ntmps132]) ?_ ?_ ?_ ?_ ?_ ?_ (by omega) ?_ ?_
  ·rw [zfh];simp [hpQ,dom];exact zak (by simp)
  ·intro r c₀ cs W Q hu hQ
   have hrn:∀ v,za0 v=true->ren r v=v:=λv hv=>zax hv
   simp only [List.map_toArray,List.map_cons,List.map_nil,zwi] at hQ |-
   generalize ren r (.pointer (some ⟨100000,0,none⟩))=p0 at hQ |-
   generalize ren r (.pointer (some ⟨100008,0,none⟩))=p1 at hQ |-
   simp only [hrn (.int .i64 n) rfl,hrn (.bool true) rfl,hrn (erV n) rfl,hrn (.tuple #[.int .i64 n,.bool true]) (by simp),zcp] at hQ
   have hn:f132.ntmps=12:=ntmps132
   have hA:=zxf n
   simp only [jeg] at hA
   simp [wpOpsSIn,List.range,List.range.loop,go_sem,recoverD,hu,jcv,erV,hn,hA,jgv]
   exact hQ
  ·rw [zfh];exact λk b h=>zx9 0 k b _ h
  ·rw [zfh];simp [hpQ,dom]
  ·intro k b c h1 h2
   simp at h1 h2
   rcases h1 with ⟨rfl,rfl⟩|⟨rfl,rfl⟩<;>rcases h2 with ⟨e2,rfl⟩|⟨e2,rfl⟩<;>first|rfl|omega
  ·simp [zB,eB]
  ·rw [zfh];exact λx hx=>by simp [hpQ,show ¬x=100000 by omega,show ¬x=100008 by omega,show 100<=x by omega]
  ·intro C hC hC0 hY
   rw [zfh]
   repeat' first|refine gwZ ?_|(refine gwX ?_;intro Q hQ _;simp [hC,hY,hpQ,zB,eB];refine gwq hQ ?_)|refine gwC ?_ ?_<;>intro hb
   refine ⟨.inl trivial,by simp [results132],λk hk=>?_⟩
   simp [zB,eB,hpQ]
theorem ztg (W:World):((do eqGuard .neq 20 (.tmp 4) (.const .nilIface) .nilIface .nilIface;binOp .neq 20 .nilIface .nilIface:Sem Value)).run prog W=.ok (.bool false) W:=by kernel_rfl
def ifE:Value->Bool
 | .iface T (.int .i64 _)=>T==32
 | _=>false
def ifN:Value->Value
 | .iface _ u=>u
 | v=>v
@[simp] theorem jn9 (T:TypeId) (n:Int):ifE (.iface T (.int .i64 n))=(T==32):=nr rfl
@[simp] theorem joa (T:TypeId) (u:Value):ifN (.iface T u)=u:=nr rfl
theorem zyc {v:Value} (h:ifE v=true):∃ n,v=erV n:=by
 unfold ifE at h
 split at h
 ·rename_i T n
  have:T=32:=by simpa using h
  exact ⟨n,by rw [this];rfl⟩
 ·cases h
theorem zig {P:Program} {o:Oper} {ts:Nat->Value} {hp:Hp} {K:Value->Prop} {v:Value} (ho:∀ x∈o.op.operands.toList,okX ts hp x/\za0 (gev ts x)=true) (hv:za0 v=true) (hr:∀ W,(execOp (gev ts) o).run P W=.ok (.value v) W):zvi P o ts hp K↔K v :=
 ⟨λ⟨_,u,_,h1,h2⟩=>by
  have:=(hr default).symm.trans (h1 default)
  injection this with this;injection this with this;subst this;exact h2,λh=>⟨ho,v,hv,hr,h⟩⟩
@[simp] theorem jdu (P:Program) (op:BinOp) (T t:TypeId) (v:Value):znz P op T (.iface t v) .nilIface=none:=by cases op<;>rfl
@[simp] theorem z8f {dst:Option Tmp} {x:Operand} {T:TypeId} {ps:String} {af:Array Edge} {g:Option (Nat×Bool)} {ts:Nat->Value} {hp:Hp} {C:Eff->Prop} (h:ifE (gev ts x)=true) (hx:okX ts hp x) :
  z8e prog none ⟨dst,.binOp .neq 20 x (.const .nilIface) 20,T,ps,af,g⟩ ts hp C↔C (val (.bool true) []):=by
 obtain ⟨n,hn⟩:=zyc h
 refine zig (K:=λv=>C (val v [])) (v:=.bool true) ?_ rfl λW=>?_
 ·intro y hy
  simp [Op.operands] at hy
  rcases hy with rfl|rfl
  ·exact ⟨hx,by rw [hn];rfl⟩
  ·exact ⟨rfl,rfl⟩
 ·show (execOp (gev ts) ⟨dst,.binOp .neq 20 x (.const .nilIface) 20,T,ps,af,g⟩).run prog W=_
  simp only [execOp,hn]
  kernel_rfl
@[simp] theorem z97 {dst:Option Tmp} {x:Operand} {T:TypeId} {ps:String} {af:Array Edge} {g:Option (Nat×Bool)} {V:XV} {yc nk:Nat} {ts:Nat->Value} {hp:Hp} {C:Eff->Prop} (h:ifE (gev ts x)=true) (hx:okX ts hp x) :
  opX prog G0 V yc ⟨dst,.typeAssert x 20 32 false,T,ps,af,g⟩ ts hp nk C↔C (val (ifN (gev ts x)) []):=by
 obtain ⟨n,hn⟩:=zyc h
 refine zig (K:=λv=>C (val v [])) ?_ ?_ λW=>?_
 ·intro y hy
  simp [Op.operands] at hy
  subst hy
  exact ⟨hx,by rw [hn];rfl⟩
 ·rw [hn];rfl
 ·simp only [execOp,hn]
  kernel_rfl
theorem jqa (n:Int):RecF prog G0 114 zwi (hpQ 0) [100000,100008] (erV n) [(100000,zB),(100008,eB n)]:=by
 refine ⟨⟨_,func114⟩,call114,?_,?_⟩
 ·refine zqj (k:=2) func114 rfl λargs c₀ cs W hk hu=>?_
  obtain ⟨p0,p1,rfl⟩:∃ p0 p1,args=#[p0,p1]:=by
   rcases args with ⟨l⟩
   match l,hk with
   | [a,b],_=>exact ⟨a,b,rfl⟩
  have hn:f114.ntmps=9:=ntmps114
  refine wpSIn_seq (wpSIn_region ?_)
  simp [wpOpsSIn,List.range,List.range.loop,go_sem,recoverD,hu,hn,jow]
  refine wpSIn_seq (wpSIn_region ?_)
  simp [wpOpsSIn,List.range,List.range.loop,go_sem,ztg]
  refine wpSIn_cond (t:=false) (by simp [Act.eval]) ?_
  refine wpSIn_of_wpIn rfl (wpIn_skip ?_)
  exact ⟨.inl rfl,rfl,rfl,rfl,.tuple #[],by simp [results,results114,go_sem]⟩
 ·refine zkb (B:=200000) (A:=#[.pointer (some ⟨100000,0,none⟩),.pointer (some ⟨100008,0,none⟩),erV n,erV n,undef,undef,undef,undef,undef]) G0F (λk hk=>za6 (by simp) hk) func114 rfl (by simp [ntmps114]) ?_ ?_ ?_ ?_ ?_ ?_ (by omega) ?_ ?_
  ·rw [zfh];simp [hpQ,dom]
  ·intro r c₀ cs W Q hu hQ
   have hrn:∀ v,za0 v=true->ren r v=v:=λv hv=>zax hv
   simp only [List.map_toArray,List.map_cons,List.map_nil,zwi] at hQ |-
   generalize ren r (.pointer (some ⟨100000,0,none⟩))=p0 at hQ |-
   generalize ren r (.pointer (some ⟨100008,0,none⟩))=p1 at hQ |-
   simp only [hrn (erV n) rfl,zcp] at hQ
   have hn:f114.ntmps=9:=ntmps114
   simp [wpOpsSIn,List.range,List.range.loop,go_sem,recoverD,hu,jcv,erV,hn,jow]
   exact hQ
  ·rw [zfh];exact λk b h=>zx9 0 k b _ h
  ·rw [zfh];simp [hpQ,dom]
  ·intro k b c h1 h2
   simp at h1 h2
   rcases h1 with ⟨rfl,rfl⟩|⟨rfl,rfl⟩<;>rcases h2 with ⟨e2,rfl⟩|⟨e2,rfl⟩<;>first|rfl|omega
  ·simp [zB,eB]
  ·rw [zfh];exact λx hx=>by simp [hpQ,show ¬x=100000 by omega,show ¬x=100008 by omega,show 100<=x by omega]
  ·intro C hC hC0 hY
   rw [zfh]
   repeat' first|refine gwZ ?_|(refine gwX ?_;intro Q hQ _;simp [hC,hY,hpQ,zB,eB];refine gwq hQ ?_)|refine gwC ?_ ?_<;>intro hb
   refine ⟨.inl trivial,by simp [results114],λk hk=>?_⟩
   simp [zB,eB,hpQ]
theorem zz3 {g:FuncId} {capv:List Value} {hp:Hp} {rs:List Nat} {x0 x1 x2 x3:Int} {ws:List (Nat×Blk)} (hG:∀ k,k<100->hp k=G0 k) (hrs:∀ k∈rs,k<100000) (hc:capv.isEmpty=false) (hpl:capv.all zbs=true)
  (h:Fun prog G0 g capv.toArray hp rs (.ret (.agg #[.int .u64 x0,.int .u64 x1,.int .u64 x2,.int .u64 x3]) ws)) :
  Fun prog G0 115 #[.func (.func g) #[] capv.toArray] hp rs (.ret (.tuple #[.agg #[.int .u64 x0,.int .u64 x1,.int .u64 x2,.int .u64 x3],.int .i64 0]) ws):=by
 have hids:∀ x∈capv,zal (dom (rst hp rs)) x:=λx hx=>(zcb (List.all_eq_true.1 hpl x hx)).1 (h.ids x (by simpa using hx))
 have hbig:∀ x,100000<=x->rst hp rs x=none:=λx hx=>by
  unfold rst;rw [if_neg];rintro (h1|h1)
  ·omega
  ·have:=hrs x h1;omega
 refine zm5 (out:=.ret (.tuple #[.agg #[.int .u64 x0,.int .u64 x1,.int .u64 x2,.int .u64 x3],.int .i64 0]) ws) (B:=100000) (B1:=100016) (id:=1) (t:=4) (ts1:=upd (upd (λt=>[Value.func (.func g) #[] capv.toArray][t]?.getD undef) 2 (zlv 100000)) 3 (zlv 100008))
  (hp1:=upd (upd (rst hp rs) 100000 (some zB)) 100008 (some (eB 0))) zwi G0F hG func115 rfl (by simp [ntmps115]) call115 ⟨_,_,_,_,jp1 0⟩ ?_ h.closed ?_ (by simp [ntmps115]) (by omega) hbig ?_ ?_ ?_ ?_ ?_ ?_
 ·simpa using hids
 ·exact ⟨zak (by simp),h.fits.2⟩
 ·intro C hC hC0 hY
  repeat' first|refine gwZ ?_|refine gwW ?_|refine gwC ?_ ?_<;>intro hb
  exact ⟨trivial,rfl⟩
 ·intro k hk
  have h1:¬k=100000:=λe=>hk (hbig k (by omega))
  have h2:¬k=100008:=λe=>hk (hbig k (by omega))
  simp [h1,h2]
 ·simp [okT,zwi]
 ·simp [zwi]
 ·simp [zwi]
 ·intro C d hC hC0 hY
  refine zf6 ?_
  refine zck [] (by kernel_rfl) ?_;intro Q hQ hP;simp [hC,hY,hc,hpl]
  have hk1:∀ k∈zab ws,k<100000:=λk hk=>hrs k (h.fits.2.1 k hk).1
  have hk2:(100000:Nat)∉zab ws:=λhm=>by have:=hk1 _ hm;omega
  have hk3:(100008:Nat)∉zab ws:=λhm=>by have:=hk1 _ hm;omega
  have w1:zaw (upd (upd (rst hp rs) 100000 (some zB)) 100008 (some (eB 0))) ws 100000=some zB:=by
   rw [zbb hk2];simp
  have w2:zaw (upd (upd (rst hp rs) 100000 (some zB)) 100008 (some (eB 0))) ws 100008=some (eB 0):=by
   rw [zbb hk3];simp
  refine zb2 (hp':=hp) h (λk hk=>?_) hG trivial ?_
  ·have:=hrs k hk
   simp [rst,hk,show ¬k=100000 by omega,show ¬k=100008 by omega]
  simp only [zB,eB] at w1 w2
  simp [w1,w2,zB,eB]
  refine hQ _ _ _ _ ?_
  repeat' first|refine gwZ ?_|(refine gwX ?_;intro Q hQ _;simp [hC,hY,w1,w2,zB,eB];refine gwq hQ ?_)|refine gwC ?_ ?_<;>intro hb
  refine ⟨.inr rfl,by simp [results115],λk hk=>?_⟩
  have h1:¬k=100000:=λe=>hk (hbig k (by omega))
  have h2:¬k=100008:=λe=>hk (hbig k (by omega))
  rw [zdg hk3,zdg hk2]
  simp [h1,h2]
theorem z0q {g:FuncId} {capv:List Value} {hp:Hp} {rs:List Nat} {x0 x1 x2 x3:Int} {ws:List (Nat×Blk)} (hG:∀ k,k<100->hp k=G0 k) (hrs:∀ k∈rs,k<100000) (hc:capv.isEmpty=false) (hpl:capv.all zbs=true)
  (h:Fun prog G0 g capv.toArray hp rs (.ret (.agg #[.int .u64 x0,.int .u64 x1,.int .u64 x2,.int .u64 x3]) ws)) :
  Fun prog G0 87 #[.func (.func g) #[] capv.toArray] hp rs (.ret (.tuple #[.agg #[.int .u64 x0,.int .u64 x1,.int .u64 x2,.int .u64 x3],.int .i64 0]) ws):=by
 have hids:∀ x∈capv,zal (dom (rst hp rs)) x:=λx hx=>(zcb (List.all_eq_true.1 hpl x hx)).1 (h.ids x (by simpa using hx))
 have hbig:∀ x,100000<=x->rst hp rs x=none:=λx hx=>by
  unfold rst;rw [if_neg];rintro (h1|h1)
  ·omega
  ·have:=hrs x h1;omega
 refine zm5 (out:=.ret (.tuple #[.agg #[.int .u64 x0,.int .u64 x1,.int .u64 x2,.int .u64 x3],.int .i64 0]) ws) (B:=100000) (B1:=100016) (id:=1) (t:=4) (ts1:=upd (upd (λt=>[Value.func (.func g) #[] capv.toArray][t]?.getD undef) 2 (zlv 100000)) 3 (zlv 100008))
  (hp1:=upd (upd (rst hp rs) 100000 (some zB)) 100008 (some (eB 0))) zwi G0F hG func87 rfl (by simp [ntmps87]) call87 ⟨_,_,_,_,jqa 0⟩ ?_ h.closed ?_ (by simp [ntmps87]) (by omega) hbig ?_ ?_ ?_ ?_ ?_ ?_
 ·simpa using hids
 ·exact ⟨zak (by simp),h.fits.2⟩
 ·intro C hC hC0 hY
  repeat' first|refine gwZ ?_|refine gwW ?_|refine gwC ?_ ?_<;>intro hb
  exact ⟨trivial,rfl⟩
 ·intro k hk
  have h1:¬k=100000:=λe=>hk (hbig k (by omega))
  have h2:¬k=100008:=λe=>hk (hbig k (by omega))
  simp [h1,h2]
 ·simp [okT,zwi]
 ·simp [zwi]
 ·simp [zwi]
 ·intro C d hC hC0 hY
  refine zf6 ?_
  refine zck [] (by kernel_rfl) ?_;intro Q hQ hP;simp [hC,hY,hc,hpl]
  have hk1:∀ k∈zab ws,k<100000:=λk hk=>hrs k (h.fits.2.1 k hk).1
  have hk2:(100000:Nat)∉zab ws:=λhm=>by have:=hk1 _ hm;omega
  have hk3:(100008:Nat)∉zab ws:=λhm=>by have:=hk1 _ hm;omega
  have w1:zaw (upd (upd (rst hp rs) 100000 (some zB)) 100008 (some (eB 0))) ws 100000=some zB:=by
   rw [zbb hk2];simp
  have w2:zaw (upd (upd (rst hp rs) 100000 (some zB)) 100008 (some (eB 0))) ws 100008=some (eB 0):=by
   rw [zbb hk3];simp
  refine zb2 (hp':=hp) h (λk hk=>?_) hG trivial ?_
  ·have:=hrs k hk
   simp [rst,hk,show ¬k=100000 by omega,show ¬k=100008 by omega]
  simp only [zB,eB] at w1 w2
  simp [w1,w2,zB,eB]
  refine hQ _ _ _ _ ?_
  repeat' first|refine gwZ ?_|(refine gwX ?_;intro Q hQ _;simp [hC,hY,w1,w2,zB,eB];refine gwq hQ ?_)|refine gwC ?_ ?_<;>intro hb
  refine ⟨.inr rfl,by simp [results87],λk hk=>?_⟩
  have h1:¬k=100000:=λe=>hk (hbig k (by omega))
  have h2:¬k=100008:=λe=>hk (hbig k (by omega))
  rw [zdg hk3,zdg hk2]
  simp [h1,h2]

def za1 (x:Int):Int:=if x<=0 then 0 else (Nat.log2 x.toNat:Int)+1
theorem ze0 {x:Int} (h:0<x):∃ k:Nat,za1 x=k+1/\2^k<=x/\x<2^(k+1):=by
 refine ⟨Nat.log2 x.toNat,by unfold za1;rw [if_neg (by omega)],?_,?_⟩
 ·have:=Nat.log2_self_le (n:=x.toNat) (by omega)
  have h2:((2^Nat.log2 x.toNat:Nat):Int)<=(x.toNat:Int):=by exact_mod_cast this
  rw [Int.toNat_of_nonneg (by omega)] at h2
  exact_mod_cast h2
 ·have:=Nat.lt_log2_self (n:=x.toNat)
  have h2:(x.toNat:Int)<((2^(Nat.log2 x.toNat+1):Nat):Int):=by exact_mod_cast this
  rw [Int.toNat_of_nonneg (by omega)] at h2
  exact_mod_cast h2
theorem z35 {x:Int} {k:Nat} (h1:2^k<=x) (h2:x<2^(k+1)):za1 x=k+1:=by
 have hp:(0:Int)<2^k:=Int.pow_pos (by omega)
 unfold za1
 rw [if_neg (by omega)]
 have:Nat.log2 x.toNat=k:=(Nat.log2_eq_iff (by omega)).2 ⟨by
  have:((2^k:Nat):Int)<=(x.toNat:Int):=by rw [Int.toNat_of_nonneg (by omega)];exact_mod_cast h1
  exact_mod_cast this,by
  have:(x.toNat:Int)<((2^(k+1):Nat):Int):=by rw [Int.toNat_of_nonneg (by omega)];exact_mod_cast h2
  exact_mod_cast this⟩
 rw [this]
theorem zfq {x:Int} (j:Nat) (h:2^j<=x):za1 x=j+za1 (x / 2^j):=by
 have hp:(0:Int)<2^j:=Int.pow_pos (by omega)
 have h1:0<x / 2^j:=by
  have:=(Int.le_ediv_iff_mul_le hp (a:=1) (b:=x)).2 (by omega);omega
 obtain ⟨k,e,l1,l2⟩:=ze0 h1
 rw [e]
 have:=z35 (x:=x) (k:=j+k) (by
  have:=(Int.le_ediv_iff_mul_le hp).1 l1
  rw [Int.pow_add,Int.mul_comm];exact this) (by
  have:=(Int.ediv_lt_iff_lt_mul hp).1 l2
  rw [Nat.add_assoc,Int.pow_add,Int.mul_comm];exact this)
 rw [this];omega
theorem z3h {s:ByteArray} {m:Int} {C:Eff->Prop} (h0:0<=m) (h1:m<256) (ht:∀ k:Fin 256,(s[k.1]?).map (λb=>b.toNat)=some (if k.1=0 then 0 else Nat.log2 k.1+1)) (h:C (val (.int .u8 (za1 m)) [])):z6g s m C:=by
 have h2:=ht ⟨m.toNat,by omega⟩
 cases hb:s[m.toNat]? with
 | none=>simp [hb] at h2
 | some b =>
  simp only [hb,Option.map_some,Option.some.injEq] at h2
  rw [z87 h0 hb,h2]
  have:((if m.toNat=0 then 0 else Nat.log2 m.toNat+1:Nat):Int)=za1 m:=by
   unfold za1
   by_cases e:m<=0
   ·rw [if_pos e,if_pos (by omega)];rfl
   ·rw [if_neg e,if_neg (by omega)];rfl
  exact this▸h
theorem zfd {x:Int} (h:x<256):0<=za1 x/\za1 x<=8:=by
 by_cases h0:0<x
 ·obtain ⟨k,e,l1,l2⟩:=ze0 h0
  rw [e]
  have:k<8:=Classical.byContradiction λhk=>by
   have:(2:Int)^8<=2^k:=by exact_mod_cast Nat.pow_le_pow_right (by omega) (by omega:8<=k)
   omega
  omega
 ·unfold za1;rw [if_pos (by omega)];omega
@[simp] theorem jnh (z:Int):IntKind.u8.wrap z=z%256:=rfl
theorem zy7 (x:Int) (h0:0<=x) (h1:x<18446744073709551616):Ret prog G0 158 #[.int .u64 x] (.int .i64 (za1 x)):=by
 refine zav G0F func158 rfl call158 rfl (by simp) (by simp [ntmps158]) ?_
 intro C hC hC0 hY
 have f32:∀ z:Int,z.fdiv 4294967296=z / 4294967296:=λz=>Int.fdiv_eq_ediv_of_nonneg z (by omega)
 have f16:∀ z:Int,z.fdiv 65536=z / 65536:=λz=>Int.fdiv_eq_ediv_of_nonneg z (by omega)
 have f8:∀ z:Int,z.fdiv 256=z / 256:=λz=>Int.fdiv_eq_ediv_of_nonneg z (by omega)
 have n32:4294967296<=x->za1 x=32+za1 (x / 4294967296):=zfq 32
 have n16:∀ y:Int,65536<=y->za1 y=16+za1 (y / 65536):=λy=>zfq 16
 have n8:∀ y:Int,256<=y->za1 y=8+za1 (y / 256):=λy=>zfq 8
 repeat' (first|refine gwA ?_|(refine gwX ?_;intro Q hQ hP;simp [hC,hY,f32,f16,f8];refine gwq hQ ?_;clear hQ hP Q)|refine gwC ?_ ?_<;>intro hb<;>try (cases hb;done))
 all_goals
  rename_i c1 c2
  simp at c1 c2 hb
  refine zck [] (by kernel_rfl) ?_;intro Q hQ hP;simp [hC,hY]
  refine z3h (by omega) (by omega) (by decide +kernel) ?_
  simp
  refine hQ _ _ _ _ ?_
  repeat' (first|refine gwA ?_|(refine gwX ?_;intro Q hQ hP;simp [hC,hY];refine gwq hQ ?_;clear hQ hP Q)|refine gwC ?_ ?_<;>intro hb<;>try (cases hb;done))
  refine ⟨.inr trivial,?_⟩
  simp [results158]
  rw [Int.emod_eq_of_lt (by omega) (by omega)]
  have k2:=n16 x
  have k3:=n16 (x / 4294967296)
  have k4:=n8 x
  have k5:=n8 (x / 4294967296)
  have k6:=n8 (x / 65536)
  have k7:=n8 (x / 4294967296 / 65536)
  have b1:=zfd (x:=x)
  have b2:=zfd (x:=x / 256)
  have b3:=zfd (x:=x / 65536)
  have b4:=zfd (x:=x / 65536 / 256)
  have b5:=zfd (x:=x / 4294967296)
  have b6:=zfd (x:=x / 4294967296 / 256)
  have b7:=zfd (x:=x / 4294967296 / 65536)
  have b8:=zfd (x:=x / 4294967296 / 65536 / 256)
  rw [bm (by omega) (by omega)]
  try omega
@[simp] theorem jpq (x:Int) (h0:0<=x) (h1:x<18446744073709551616) (K:Value->Prop):za2 prog G0 158 #[.int .u64 x] K↔K (.int .i64 (za1 x)):=zaf G0W (by kernel_rfl) (zy7 x h0 h1)
def uz (z:Int):Int:=z%115792089237316195423570985008687907853269984665640564039457584007913129639936
theorem zfc {x:Int} (j:Nat) (h:x<2^j):0<=za1 x/\za1 x<=j:=by
 by_cases h0:0<x
 ·obtain ⟨k,e,l1,l2⟩:=ze0 h0
  rw [e]
  have:k<j:=Classical.byContradiction λhk=>by
   have:(2:Int)^j<=2^k:=by exact_mod_cast Nat.pow_le_pow_right (by omega) (by omega:j<=k)
   omega
  omega
 ·unfold za1;rw [if_pos (by omega)];omega
theorem zf0 (z:Int) (k:Nat):0<=za1 (wi z k)/\za1 (wi z k)<=64:=zfc 64 (by have:=zbx z k;omega)
theorem z01 (z:Int) (h:¬wi z 3=0):za1 (uz z)=192+za1 (wi z 3):=by
 have h0:=zbp z 3
 have e:uz z / 2^192=wi z 3:=by unfold uz wi;omega
 have:=zfq (x:=uz z) 192 (by unfold wi at h h0;unfold uz;omega)
 rw [this,e];rfl
theorem z00 (z:Int) (h3:wi z 3=0) (h:¬wi z 2=0):za1 (uz z)=128+za1 (wi z 2):=by
 have h0:=zbp z 2
 have e:uz z / 2^128=wi z 2:=by unfold wi at h3;unfold uz wi;omega
 have:=zfq (x:=uz z) 128 (by unfold wi at h h0;unfold uz;omega)
 rw [this,e];rfl
theorem z0z (z:Int) (h3:wi z 3=0) (h2:wi z 2=0) (h:¬wi z 1=0):za1 (uz z)=64+za1 (wi z 1):=by
 have h0:=zbp z 1
 have e:uz z / 2^64=wi z 1:=by unfold wi at h3 h2;unfold uz wi;omega
 have:=zfq (x:=uz z) 64 (by unfold wi at h h0;unfold uz;omega)
 rw [this,e];rfl
theorem z0y (z:Int) (h3:wi z 3=0) (h2:wi z 2=0) (h1:wi z 1=0):uz z=wi z 0:=by
 unfold wi at h3 h2 h1;unfold uz wi;omega
theorem z62 (n:Int):zli prog G0 133 #[.bool true,.int .i64 n] (.ret (.tuple #[])):=by
 refine zeq G0F func133 rfl call133 (λv h=>by cases h;simp) (by simp) (by simp [ntmps133]) ?_
 intro C hC hC0 hY
 repeat' (first|refine gwA ?_|(refine gwX ?_;intro Q hQ hP;simp [hC,hY];(first|refine gwq hQ ?_|refine hP _ _ (by kernel_rfl) λ_=>?_);clear hQ hP Q)|refine gwC ?_ ?_<;>intro hb<;>try (cases hb;done))
 exact ⟨.inl trivial,by simp [results133]⟩
theorem jfx (n:Int):zli prog G0 133 #[.bool false,.int .i64 n] (.pan (erV n)):=by
 refine zeq G0F func133 rfl call133 (λv h=>by cases h) (by simp) (by simp [ntmps133]) ?_
 intro C hC hC0 hY
 repeat' (first|refine gwA ?_|(refine gwX ?_;intro Q hQ hP;simp [hC,hY];(first|refine gwq hQ ?_|refine hP _ _ (by kernel_rfl) λ_=>?_);clear hQ hP Q)|refine gwC ?_ ?_<;>intro hb<;>try (cases hb;done))
 rfl
theorem jhd (z:Int):zli prog G0 134 #[wd z,.bool false] (.ret (wd z)):=by
 refine zeq G0F func134 rfl call134 (λv h=>by cases h;simp) (by simp) (by simp [ntmps134]) ?_
 intro C hC hC0 hY
 repeat' (first|refine gwA ?_|((first|refine gwR [1000133] ?_|refine gwD [1000133] ?_);intro Q hQ hP;(repeat first|simp [hC,hY]|refine za4 (z62 20) ?_);(first|refine gwq hQ ?_|refine hP _ _ (by kernel_rfl) λ_=>?_);clear hQ hP Q)|refine gwC ?_ ?_<;>intro hb<;>try (cases hb;done))
 exact ⟨.inr trivial,by simp [results134]⟩
theorem z40 (z:Int):Ret prog G0 153 #[wd z] (.int .i64 (za1 (uz z))):=by
 refine zav G0F func153 rfl call153 rfl (by simp) (by simp [ntmps153]) ?_
 intro C hC hC0 hY
 have b0:=zf0 z 0
 have b1:=zf0 z 1
 have b2:=zf0 z 2
 have b3:=zf0 z 3
 have k3:=z01 z
 have k2:=z00 z
 have k1:=z0z z
 have k0:=z0y z
 have m3:Int.bmod (192+za1 (wi z 3)) 18446744073709551616=192+za1 (wi z 3):=bm (by omega) (by omega)
 have m2:Int.bmod (128+za1 (wi z 2)) 18446744073709551616=128+za1 (wi z 2):=bm (by omega) (by omega)
 have m1:Int.bmod (64+za1 (wi z 1)) 18446744073709551616=64+za1 (wi z 1):=bm (by omega) (by omega)
 repeat' (first|refine zad ?_|refine zag ?_|refine gwA ?_|(refine gwX ?_;intro Q hQ hP;simp [hC,hY,zbp,zbx,m1,m2,m3];(first|refine gwq hQ ?_|refine hP _ _ (by kernel_rfl) λ_=>?_);clear hQ hP Q)|refine gwC ?_ ?_<;>intro hb<;>try (cases hb;done))
 all_goals
  refine ⟨.inr trivial,?_⟩
  simp [results153]
  simp_all
@[simp] theorem jp2 (z:Int) (K:Value->Prop):za2 prog G0 153 #[Value.agg #[.int .u64 (wi (z) 0),.int .u64 (wi (z) 1),.int .u64 (wi (z) 2),.int .u64 (wi (z) 3)]] K↔K (.int .i64 (za1 (uz z))):=zaf G0W (by kernel_rfl) (z40 z)

theorem emm (a p m:Int):a%m*p%m=a*p%m:=by rw [Int.mul_emod,Int.emod_emod_of_dvd _ (Int.dvd_refl _),<-Int.mul_emod]
theorem z7d {x y:Int} {R:Nat} (hx0:0<=x) (hx:x<18446744073709551616) (hd:x%2^R=0) (hy0:0<=y) (hy:y<2^R) (hR:R<=64):zeh .or .u64 x y=x+y:=by
 have hp:(2:Int)^R<=2^64:=by exact_mod_cast Nat.pow_le_pow_right (by omega) (by omega:R<=64)
 have e:zeh .or .u64 x y=((BitVec.ofInt 64 x ||| BitVec.ofInt 64 y:BitVec 64).toNat:Int)%18446744073709551616:=by
  unfold zeh
  show IntKind.u64.wrap ((BitVec.ofInt 64 x ||| BitVec.ofInt 64 y:BitVec 64).toNat:Int)=_
  rw [zny]
 have hx':(BitVec.ofInt 64 x).toNat=x.toNat:=by
  rw [BitVec.toNat_ofInt];congr 1;exact Int.emod_eq_of_lt hx0 hx
 have hy':(BitVec.ofInt 64 y).toNat=y.toNat:=by
  rw [BitVec.toNat_ofInt];congr 1;exact Int.emod_eq_of_lt hy0 (by omega)
 obtain ⟨X,rfl⟩:=Int.eq_ofNat_of_zero_le hx0
 obtain ⟨Y,rfl⟩:=Int.eq_ofNat_of_zero_le hy0
 have hd':X%2^R=0:=by exact_mod_cast hd
 have hY:Y<2^R:=by exact_mod_cast hy
 have hX:X=(X / 2^R) <<< R:=by rw [Nat.shiftLeft_eq];exact (Nat.div_mul_cancel (Nat.dvd_of_mod_eq_zero hd')).symm
 have hor:X ||| Y=X+Y:=by
  rw [hX];exact (Nat.shiftLeft_add_eq_or_of_lt hY _).symm
 have hp':2^R<=2^64:=Nat.pow_le_pow_right (by omega) (by omega:R<=64)
 have hb:X+Y<18446744073709551616:=by
  rw [<-hor];exact Nat.or_lt_two_pow (n:=64) (by omega) (by omega)
 rw [e,BitVec.toNat_or,hx',hy']
 simp only [Int.toNat_natCast,hor]
 omega
theorem z07 {R:Nat} (hR:R<64):(2:Int)^R*2^(64 - R)=18446744073709551616:=by
 rw [<-Int.pow_add,show R+(64 - R)=64 by omega];rfl
theorem jbk (z:Int) (R:Nat):wi (z*2^R) 0=(wi z 0*2^R)%18446744073709551616:=by
 simp only [wi,Nat.mul_zero,Int.pow_zero,Int.ediv_one]
 rw [emm]
theorem jbl (z:Int) (R:Nat) (hR:R<64) (k:Nat):wi (z*2^R) (k+1)=(wi z (k+1)*2^R)%18446744073709551616+wi z k / 2^(64 - R)/\0<=wi z k / 2^(64 - R)/\wi z k / 2^(64 - R)<2^R/\(wi z (k+1)*2^R)%18446744073709551616%2^R=0:=by
 have hM:=z07 hR
 have hPp:(0:Int)<2^R:=Int.pow_pos (by omega)
 have hSp:(0:Int)<2^(64 - R):=Int.pow_pos (by omega)
 have e1:(2:Int)^(64*(k+1))=2^(64*k)*18446744073709551616:=by
  rw [show 64*(k+1)=64*k+64 by omega,Int.pow_add];rfl
 have hKp:(0:Int)<2^(64*k):=Int.pow_pos (by omega)
 unfold wi
 rw [e1]
 generalize (2:Int)^R=P at *
 generalize (2:Int)^(64 - R)=S at *
 generalize (2:Int)^(64*k)=K at *
 have eu:z*P / (K*18446744073709551616)=z / K / S:=by
  rw [<-hM,show K*(P*S)=(K*S)*P by rw [Int.mul_comm P S,Int.mul_assoc],Int.mul_ediv_mul_of_pos_left _ _ hPp,Int.ediv_ediv_of_nonneg (by omega)]
 rw [eu,<-Int.ediv_ediv_of_nonneg (Int.le_of_lt hKp)]
 generalize z / K=u at *
 have hdvd:P ∣ 18446744073709551616:=⟨S,hM.symm⟩
 have h1:0<=u%18446744073709551616 / S:=Int.ediv_nonneg (Int.emod_nonneg _ (by omega)) (by omega)
 have h2:u%18446744073709551616 / S<P:=by
  have:=Int.emod_lt_of_pos u (b:=18446744073709551616) (by omega)
  exact (Int.ediv_lt_iff_lt_mul hSp).2 (by rw [hM];exact this)
 have h3:(u / 18446744073709551616%18446744073709551616*P)%18446744073709551616%P=0:=by
  rw [Int.emod_emod_of_dvd _ hdvd,Int.mul_emod_left]
 refine ⟨?_,h1,h2,h3⟩
 have e2:u / S=(u / 18446744073709551616)*P+u%18446744073709551616 / S:=by
  have:=Int.emod_add_mul_ediv u 18446744073709551616
  have h4:u=u%18446744073709551616+S*(u / 18446744073709551616*P):=by
   have:S*(u / 18446744073709551616*P)=18446744073709551616*(u / 18446744073709551616):=by
    rw [<-hM,Int.mul_comm P S,Int.mul_assoc,Int.mul_comm _ P]
   omega
  conv=>lhs;rw [h4]
  rw [Int.add_mul_ediv_left _ _ (by omega)]
  omega
 rw [e2,emm]
 have h5:(u / 18446744073709551616*P)%18446744073709551616%P=0:=by rw [Int.emod_emod_of_dvd _ hdvd,Int.mul_emod_left]
 have h6:=Int.emod_nonneg (u / 18446744073709551616*P) (b:=18446744073709551616) (by omega)
 have h7:=Int.emod_lt_of_pos (u / 18446744073709551616*P) (b:=18446744073709551616) (by omega)
 have h8:(u / 18446744073709551616*P)%18446744073709551616<=18446744073709551616 - P:=by
  obtain ⟨c,hc⟩:=Int.dvd_of_emod_eq_zero h5
  rw [hc] at h7 |-
  rw [<-hM] at h7 |-
  have:c<S:=Int.lt_of_mul_lt_mul_left h7 (by omega)
  have:P*c<=P*(S - 1):=Int.mul_le_mul_of_nonneg_left (by omega) (by omega)
  rw [Int.mul_sub,Int.mul_one] at this
  exact this
 rw [Int.add_emod,Int.emod_eq_of_lt h1 (by omega),Int.emod_eq_of_lt (by omega) (by omega)]
theorem jnd (z:Int) (q i R:Nat) (h:q<=i):wi (z*2^(64*q+R)) i=wi (z*2^R) (i - q):=by
 unfold wi
 obtain ⟨j,rfl⟩:∃ j,i=q+j:=⟨i - q,by omega⟩
 rw [show q+j - q=j by omega,Int.pow_add,show z*(2^(64*q)*2^R)=(z*2^R)*2^(64*q) by rw [Int.mul_comm (2^(64*q)),Int.mul_assoc],show 64*(q+j)=64*j+64*q by omega,Int.pow_add,
  Int.mul_ediv_mul_of_pos_left _ _ (Int.pow_pos (by omega))]
theorem jm9 (z:Int) (q i R:Nat) (h:i<q):wi (z*2^(64*q+R)) i=0:=by
 unfold wi
 obtain ⟨j,rfl⟩:∃ j,q=i+1+j:=⟨q - (i+1),by omega⟩
 rw [show 64*(i+1+j)+R=64*i+(64+(64*j+R)) by omega,Int.pow_add,Int.pow_add,show z*(2^(64*i)*(2^64*2^(64*j+R)))=(z*2^(64*j+R)*2^64)*2^(64*i) by
  rw [Int.mul_comm (2^(64*i)),Int.mul_comm (2^64) (2^(64*j+R))];simp only [Int.mul_assoc],Int.mul_ediv_cancel _ (by have:(0:Int)<2^(64*i):=Int.pow_pos (by omega);omega)]
 exact Int.mul_emod_left _ _
theorem z0u (z:Int) (q R:Nat) (hq:q<4) (hR:R<64):Ret prog G0 154 #[wd z,.int .i64 (64*q+R)] (wd (z*2^(64*q+R))):=by
 refine zav G0F func154 rfl call154 (by simp) (by simp) (by simp [ntmps154]) ?_
 intro C hC hC0 hY
 have t1:(64*(q:Int)+R).tdiv 64=q:=by rw [Int.tdiv_eq_ediv_of_nonneg (by omega)];omega
 have t2:(64*(q:Int)+R).tmod 64=R:=by rw [Int.tmod_eq_emod_of_nonneg (by omega)];omega
 have m1:min R 64=R:=by omega
 have m2:Int.bmod (64 - (R:Int)) 18446744073709551616=64 - R:=bm (by omega) (by omega)
 have m3:(64 - (R:Int)).toNat=64 - R:=by omega
 have m4:min (64 - R) 64=64 - R:=by omega
 have m5:(R:Int)<=64:=by omega
 have m6:(0:Int)<=64 - R:=by omega
 have fd:∀ x:Int,x.fdiv (2^(64 - R))=x / 2^(64 - R):=λx=>Int.fdiv_eq_ediv_of_nonneg x (Int.le_of_lt (Int.pow_pos (by omega)))
 have OR:∀ k,zeh .or .u64 ((wi z (k+1)*2^R)%18446744073709551616) (wi z k / 2^(64 - R))=wi (z*2^R) (k+1):=λk=>by
  obtain ⟨e,h1,h2,h3⟩:=jbl z R hR k
  rw [z7d (R:=R) (Int.emod_nonneg _ (by omega)) (Int.emod_lt_of_pos _ (by omega)) h3 h1 h2 (by omega),e]
 have o0:=OR 0
 have o1:=OR 1
 have o2:=OR 2
 have s0:=jbk z R
 have:q=0\/q=1\/q=2\/q=3:=by omega
 have up:=jnd z
 have dn:=jm9 z
 rcases this with rfl|rfl|rfl|rfl
 ·simp at t1 t2
  repeat' first|refine zad ?_|refine zag ?_|refine gwZ ?_|(refine gwX ?_;intro Q hQ _;simp [hC,hY,t1,t2,m1,m2,m3,m4,m5,m6,fd,zbp,zbx];refine gwq hQ ?_)|refine gwC ?_ ?_<;>intro hb
  refine ⟨.inr trivial,?_⟩
  simp [results154,o0,o1,o2,s0]
 ·simp at t1 t2
  repeat' first|refine zad ?_|refine zag ?_|refine gwZ ?_|(refine gwX ?_;intro Q hQ _;simp [hC,hY,t1,t2,m1,m2,m3,m4,m5,m6,fd,zbp,zbx];refine gwq hQ ?_)|refine gwC ?_ ?_<;>intro hb
  refine ⟨.inr trivial,?_⟩
  simp [results154,o0,o1,o2,s0]
  exact ⟨(dn 1 0 R (by omega)).symm,((up 1 1 R (by omega)).trans s0).symm,(up 1 2 R (by omega)).symm,(up 1 3 R (by omega)).symm⟩
 ·simp at t1 t2
  repeat' first|refine zad ?_|refine zag ?_|refine gwZ ?_|(refine gwX ?_;intro Q hQ _;simp [hC,hY,t1,t2,m1,m2,m3,m4,m5,m6,fd,zbp,zbx];refine gwq hQ ?_)|refine gwC ?_ ?_<;>intro hb
  refine ⟨.inr trivial,?_⟩
  simp [results154,o0,o1,o2,s0]
  exact ⟨(dn 2 0 R (by omega)).symm,(dn 2 1 R (by omega)).symm,((up 2 2 R (by omega)).trans s0).symm,(up 2 3 R (by omega)).symm⟩
 ·simp at t1 t2
  repeat' first|refine zad ?_|refine zag ?_|refine gwZ ?_|(refine gwX ?_;intro Q hQ _;simp [hC,hY,t1,t2,m1,m2,m3,m4,m5,m6,fd,zbp,zbx];refine gwq hQ ?_)|refine gwC ?_ ?_<;>intro hb
  refine ⟨.inr trivial,?_⟩
  simp [results154,o0,o1,o2,s0]
  exact ⟨(dn 3 0 R (by omega)).symm,(dn 3 1 R (by omega)).symm,(dn 3 2 R (by omega)).symm,((up 3 3 R (by omega)).trans s0).symm⟩
theorem jaz (z n:Int) (h0:0<=n) (h1:n<256):Ret prog G0 154 #[wd z,.int .i64 n] (wd (z*2^n.toNat)):=by
 have h:=z0u z (n / 64).toNat (n%64).toNat (by omega) (by omega)
 have e:64*(n / 64).toNat+(n%64).toNat=n.toNat:=by omega
 have e':(64*((n / 64).toNat:Int)+((n%64).toNat:Int))=n:=by omega
 rw [e,e'] at h
 exact h
@[simp] theorem jor (z n:Int) (h0:0<=n) (h1:n<256) (K:Value->Prop):za2 prog G0 154 #[Value.agg #[.int .u64 (wi (z) 0),.int .u64 (wi (z) 1),.int .u64 (wi (z) 2),.int .u64 (wi (z) 3)],.int .i64 n] K↔K (wd (z*2^n.toNat)):=zaf G0W (by kernel_rfl) (jaz z n h0 h1)

theorem zv2 (a b:Int) (k:Nat) (h100:100<=k):Fun prog G0 143 #[wd a,wd b] G0 [] (.new (.func (.func 152) #[] #[.pointer (some ⟨k,0,none⟩),.pointer (some ⟨k+1,0,none⟩)]) [(k,wb a),(k+1,wb b)]):=by
 have e0:rst G0 []=G0:=zjr G0F []
 refine zpa (B:=200) (λj=>if j=k then 200 else if j=k+1 then 208 else j) G0F (λ_ _=>rfl) func143 rfl call143 (by simp [zap,zau,zaj,zal]) (by rw [e0];exact zew _) ?_ (by simp [ntmps143]) (by omega) (by rw [e0];exact λx hx=>zr9 x (by omega)) (λj hj=>?_) ?_ ?_ ?_ ?_
 ·refine ⟨by simp [zap,zau,zaj,zal,zc7,zab],by simp [zab];omega,λq b c h1 h2=>?_⟩
  simp at h1 h2
  rcases h1 with ⟨e1,rfl⟩|⟨e1,rfl⟩<;>rcases h2 with ⟨e2,rfl⟩|⟨e2,rfl⟩<;>first|rfl|omega
 ·rw [e0] at hj;have:=zlg hj;rw [if_neg (by omega),if_neg (by omega)]
 ·simp [e0,dom]
 ·simp
 ·simp [wb,zae,zaj,zal]
 ·intro C hC hC0 hY
  rw [e0]
  repeat' first|refine gwZ ?_|refine gwW ?_|refine gwC ?_ ?_<;>intro hb
  refine ⟨.inr trivial,?_⟩
  simp [results143,ren,zas,zan,zao,wb]
  intro j hj
  have:=zlg hj
  rw [if_neg (by omega),if_neg (by omega)]
theorem z5b (z:Int):0<=uz z/\uz z<2^256:=by unfold uz;omega
def shN (a b:Int):Int:=za1 (uz a) - za1 (uz b)
theorem z7k (a b:Int):-256<=shN a b/\shN a b<=256:=by
 have h1:=zfc 256 (z5b a).2
 have h2:=zfc 256 (z5b b).2
 unfold shN;omega
def z7l (b N:Int):List (Array Value):=(List.range (N+1).toNat).map λ(i:Nat)=>#[.int .i64 (N - (i:Int)),wd (b*2^(N - (i:Int)).toNat)]
theorem znp (b N:Int):(z7l b N).length=(N+1).toNat:=by simp [z7l]
theorem z0t (b N:Int) (i:Nat) (h:i<(N+1).toNat):(z7l b N)[i]? = some #[.int .i64 (N - i),wd (b*2^(N - i).toNat)]:=by
 simp [z7l,h]
def jc9 (a b N:Int) (l i:Nat):GS :=
 ⟨tsL [(0,.func (.yield l) #[] #[]),(1,.pointer (some ⟨100,0,none⟩)),(2,.pointer (some ⟨101,0,none⟩)),(4,.int .i64 (N - i))],wHp a b,300,i⟩
theorem z0v (a b:Int) (hlt:shN a b<256):zhl prog G0 152 #[.pointer (some ⟨100,0,none⟩),.pointer (some ⟨101,0,none⟩)] (wHp a b) [100,101] (z7l b (shN a b)):=by
 have e0:rst (wHp a b) [100,101]=wHp a b:=zdr G0F (by simp)
 refine zm9 (B:=200) (v:=.tuple #[]) G0F (λk hk=>za6 (by simp) hk) func152 rfl call152 ?_ ?_ (by simp [ntmps152]) (by omega) ?_ ?_
 ·rw [e0];simp [zap,zau,zaj,zal,dom,wHp]
 ·rw [e0]
  intro k c hk
  rcases za8 hk with h|h
  ·simp at h
   rcases h with ⟨_,rfl⟩|⟨_,rfl⟩<;>simp [wb,zae,zaj,zal]
  ·exact Blk.flat_ids ((G0F k c h).2)
 ·rw [e0]
  intro x hx
  have h1:¬x=100:=by omega
  have h2:¬x=101:=by omega
  have h3:100<=x:=by omega
  simp [wHp,h1,h2,h3]
 ·intro C l stop hC hC0 hY
  rw [e0] at hC0 |-
  have hbd:=z7k a b
  have hN:Int.bmod (za1 (uz a) - za1 (uz b)) 18446744073709551616=shN a b:=bm (by unfold shN at hbd;omega) (by unfold shN at hbd;omega)
  have hlen:=znp b (shN a b)
  generalize hn:shN a b=N at *
  generalize hxs:z7l b N=xs at *
  refine zeg 0 (λm s=>∃ i,i<=stop/\i+m=xs.length/\s=jc9 a b N l i) rfl ?_ ?_
  ·rintro m _ ⟨i,hi,him,rfl⟩
   have hi256:(i:Int)<=257:=by omega
   by_cases hl:i<xs.length
   ·have g1:(i:Int)<=N:=by omega
    have g2:N - (i:Int)<256:=by omega
    have g4:Int.bmod (N - (i:Int) - 1) 18446744073709551616=N - ((i+1:Nat):Int):=by rw [bm (by omega) (by omega)];omega
    have hx:xs[i]? = some #[.int .i64 (N - (i:Int)),wd (b*2^(N - (i:Int)).toNat)]:=by
     rw [<-hxs];exact z0t b N i (by omega)
    simp only [jbj] at hx
    by_cases hs:i=stop
    ·have q1:(i != stop)=false:=by simp [hs]
     unfold jc9
     repeat' first|refine gwZ ?_|(refine gwX ?_;intro Q hQ _;simp [hC,hY,wHp,wb,hi,g1,g2,hx,q1];refine gwq hQ ?_)|refine gwC ?_ ?_<;>intro hb
     refine ⟨.inl trivial,by simp [results152],?_⟩
     show i+1=_
     omega
    ·have q1:(i != stop)=true:=by simp [hs]
     unfold jc9
     repeat' first|refine gwZ ?_|(refine gwX ?_;intro Q hQ _;simp [hC,hY,wHp,wb,hi,g1,g2,g4,hx,q1];refine gwq hQ ?_)|refine gwC ?_ ?_<;>intro hb
     refine ⟨rfl,jc9 a b N l (i+1),xs.length - (i+1),zbc _ 300 hC G0F (m:=[(100,wb a),(101,wb b)]) (m0:=[(100,wb a),(101,wb b)]) hC0 (by omega) ?_ ?_ ?_,⟨i+1,by omega,by omega,rfl⟩,by omega⟩
     ·simp [dom]
     ·simp [wb]
     ·simp [wb]
   ·have g1:¬(i:Int)<=N:=by omega
    unfold jc9
    repeat' first|refine gwZ ?_|(refine gwX ?_;intro Q hQ _;simp [hC,hY,wHp,wb,g1];refine gwq hQ ?_)|refine gwC ?_ ?_<;>intro hb
    refine ⟨.inl trivial,by simp [results152],?_⟩
    show i=_
    omega
  ·intro pass
   refine zf6 ?_
   (refine gwX ?_;intro Q hQ hP;simp [hC,hY,wHp,wb,hN];refine gwq hQ ?_;clear hQ hP Q)
   simp only [wN,wM,Nat.reduceAdd,Nat.reduceMul]
   refine zf6 (zsf ?_)
   simp only [zca]
   refine pass xs.length (jc9 a b N l 0) _ ?_ ⟨0,by omega,by omega,rfl⟩
   refine zbc _ 300 hC G0F (m:=[(100,wb a),(101,wb b)]) (m0:=[(100,wb a),(101,wb b)]) hC0 (by omega) ?_ ?_ ?_
   ·simp [dom]
   ·simp [wb]
   ·simp [wb]
end Go.Gy
namespace Go.Gy
open Go Go.RowKit Go.Proofs

theorem jhf {z:Int} (h0:-57896044618658097711785492504343953926634992332820282019728792003956564819968<=z) (h1:z<57896044618658097711785492504343953926634992332820282019728792003956564819968):sz z=z:=by
 unfold sz;rw [Int.bmod_def];split<;>omega
theorem zhk {z:Int} (h0:0<=z) (h1:z<57896044618658097711785492504343953926634992332820282019728792003956564819968):sz z=z:=jhf (Int.le_trans (by decide) h0) h1
theorem z24 (a M:Int) (hM:0<M):(M<=a%(2*M)->a%M=a%(2*M) - M/\a / M=2*(a / (2*M))+1)/\(a%(2*M)<M->a%M=a%(2*M)/\a / M=2*(a / (2*M))):=by
 have h1:=Int.emod_add_mul_ediv a (2*M)
 have h2:=Int.emod_nonneg a (b:=2*M) (by omega)
 have h3:=Int.emod_lt_of_pos a (b:=2*M) (by omega)
 have e:2*M*(a / (2*M))=M*(2*(a / (2*M))):=by rw [Int.mul_comm 2 M,Int.mul_assoc]
 rw [e] at h1
 generalize a%(2*M)=r at *
 generalize 2*(a / (2*M))=k at *
 constructor
 ·intro h
  have ea:a=(r - M)+M*(k+1):=by rw [Int.mul_add];omega
  constructor
  ·rw [ea,Int.add_mul_emod_self_left,Int.emod_eq_of_lt (by omega) (by omega)]
  ·rw [ea,Int.add_mul_ediv_left _ _ (by omega),Int.ediv_eq_zero_of_lt (by omega) (by omega)];omega
 ·intro h
  have ea:a=r+M*k:=by omega
  constructor
  ·rw [ea,Int.add_mul_emod_self_left,Int.emod_eq_of_lt (by omega) (by omega)]
  ·rw [ea,Int.add_mul_ediv_left _ _ (by omega),Int.ediv_eq_zero_of_lt (by omega) (by omega)];omega
theorem zbi (k:Nat):(0:Int)<2^k:=Int.pow_pos (by omega)
theorem z7r (c:Int) (t r:Nat) (hr:r<64):zeh .or .u64 (wi (c*2^(64*t+r+1)) t) (2^r)=wi (c*2^(64*t+r+1)+2^(64*t+r)) t:=by
 have e1:c*2^(64*t+r+1) / 2^(64*t)=c*2^(r+1):=by
  rw [show 64*t+r+1=(r+1)+64*t by omega,Int.pow_add,<-Int.mul_assoc,Int.mul_ediv_cancel _ (by have:=zbi (64*t);omega)]
 have e2:(c*2^(64*t+r+1)+2^(64*t+r)) / 2^(64*t)=c*2^(r+1)+2^r:=by
  have x1:(2:Int)^(64*t+r+1)=2^(r+1)*2^(64*t):=by rw [<-Int.pow_add];congr 1;omega
  have x2:(2:Int)^(64*t+r)=2^r*2^(64*t):=by rw [<-Int.pow_add];congr 1;omega
  rw [x1,x2,<-Int.mul_assoc,<-Int.add_mul,Int.mul_ediv_cancel _ (by have:=zbi (64*t);omega)]
 have hM:(18446744073709551616:Int)=2^(63 - r)*2^(r+1):=by rw [<-Int.pow_add,show 63 - r+(r+1)=64 by omega];rfl
 have hdvd:(2:Int)^(r+1) ∣ 18446744073709551616:=⟨2^(63 - r),by rw [hM,Int.mul_comm]⟩
 have hp:=zbi r
 have hp1:(2:Int)^(r+1)=2*2^r:=by rw [Int.pow_succ,Int.mul_comm]
 have h5:(c*2^(r+1))%18446744073709551616%2^(r+1)=0:=by rw [Int.emod_emod_of_dvd _ hdvd,Int.mul_emod_left]
 have h6:=Int.emod_nonneg (c*2^(r+1)) (b:=18446744073709551616) (by omega)
 have h7:=Int.emod_lt_of_pos (c*2^(r+1)) (b:=18446744073709551616) (by omega)
 have h8:(c*2^(r+1))%18446744073709551616<=18446744073709551616 - 2^(r+1):=by
  obtain ⟨d,hd⟩:=Int.dvd_of_emod_eq_zero h5
  rw [hd] at h7 |-
  have hs:=zbi (63 - r)
  have hq:=zbi (r+1)
  rw [hM] at h7 |-
  generalize (2:Int)^(r+1)=P at *
  generalize (2:Int)^(63 - r)=S at *
  rw [Int.mul_comm S P] at h7 |-
  have:d<S:=Int.lt_of_mul_lt_mul_left h7 (by omega)
  have:P*d<=P*(S - 1):=Int.mul_le_mul_of_nonneg_left (by omega) (by omega)
  rw [Int.mul_sub,Int.mul_one] at this
  exact this
 unfold wi
 rw [e1,e2,z7d (R:=r+1) h6 h7 h5 (by omega) (by omega) (by omega),Int.add_emod (c*2^(r+1)),Int.emod_eq_of_lt (a:=2^r) (by omega) (by omega),Int.emod_eq_of_lt (a:=c*2^(r+1)%18446744073709551616+2^r) (by omega) (by omega)]
theorem znw (c:Int) (t r j:Nat) (hr:r<64) (h:j≠t):wi (c*2^(64*t+r+1)+2^(64*t+r)) j=wi (c*2^(64*t+r+1)) j:=by
 unfold wi
 by_cases hj:j<t
 ·obtain ⟨m,rfl⟩:∃ m,t=j+1+m:=⟨t - (j+1),by omega⟩
  have e:(2:Int)^(64*(j+1+m)+r)=(2^(64*m+r)*18446744073709551616)*2^(64*j):=by
   rw [show 64*(j+1+m)+r=64*m+r+64+64*j by omega,Int.pow_add,Int.pow_add];rfl
  rw [Int.pow_succ,e,show c*(2^(64*m+r)*18446744073709551616*2^(64*j)*2)=(c*2*2^(64*m+r)*18446744073709551616)*2^(64*j) by
   simp only [Int.mul_assoc,Int.mul_comm,Int.mul_left_comm],<-Int.add_mul,Int.mul_ediv_cancel _ (by have:=zbi (64*j);omega),Int.mul_ediv_cancel _ (by have:=zbi (64*j);omega),<-Int.add_mul,Int.mul_emod_left,Int.mul_emod_left]
 ·obtain ⟨m,rfl⟩:∃ m,j=t+1+m:=⟨j - (t+1),by omega⟩
  have e:(2:Int)^(64*(t+1+m))=2^(64*t+r+1)*2^(64*m+(63 - r)):=by
   rw [<-Int.pow_add];congr 1;omega
  have hp:=zbi (64*t+r)
  have hq:(2:Int)^(64*t+r+1)=2*2^(64*t+r):=by rw [Int.pow_succ,Int.mul_comm]
  have hc:(c*2^(64*t+r+1)+2^(64*t+r)) / 2^(64*t+r+1)=c:=by
   rw [Int.add_comm,Int.add_mul_ediv_right _ _ (by omega),Int.ediv_eq_zero_of_lt (by omega) (by omega)];omega
  rw [e,<-Int.ediv_ediv_of_nonneg (Int.le_of_lt (zbi _)),<-Int.ediv_ediv_of_nonneg (Int.le_of_lt (zbi _)),hc,Int.mul_ediv_cancel _ (by omega)]
def rA (a b:Int) (k:Nat):Int:=a%(b*2^k)
def qA (a b:Int) (k:Nat):Int:=a / (b*2^k)*2^k
theorem z8r (a b:Int) (hb:0<b) (k:Nat):(b*2^k<=rA a b (k+1)->rA a b k=rA a b (k+1) - b*2^k/\qA a b k=qA a b (k+1)+2^k)/\(rA a b (k+1)<b*2^k->rA a b k=rA a b (k+1)/\qA a b k=qA a b (k+1)):=by
 have hp:=zbi k
 have e:b*2^(k+1)=2*(b*2^k):=by rw [Int.pow_succ,<-Int.mul_assoc,Int.mul_comm]
 have e2:∀ x:Int,x*2^(k+1)=2*x*2^k:=λx=>by rw [Int.pow_succ,Int.mul_comm (2^k),<-Int.mul_assoc,Int.mul_comm x 2]
 have h:=z24 a (b*2^k) (Int.mul_pos hb hp)
 unfold rA qA
 rw [e,e2]
 refine ⟨λh1=>?_,λh1=>?_⟩
 ·obtain ⟨h2,h3⟩:=h.1 h1
  exact ⟨h2,by rw [h3,Int.add_mul,Int.one_mul]⟩
 ·obtain ⟨h2,h3⟩:=h.2 h1
  exact ⟨h2,by rw [h3]⟩
theorem jd9 (a b:Int):rA a b 0=a%b/\qA a b 0=a / b:=by simp [rA,qA]
theorem z21 (a b:Int) (k:Nat) (h0:0<=a) (h:a<b*2^k):rA a b k=a/\qA a b k=0:=by
 unfold rA qA
 rw [Int.emod_eq_of_lt h0 h,Int.ediv_eq_zero_of_lt h0 h]
 simp
theorem jg8 (a b:Int) (ha0:0<=a) (hb0:0<b) (ha:a<2^256) (hb:b<2^256):a<b*2^(shN a b+1).toNat/\(0<=shN a b->b*2^(shN a b).toNat<2^(za1 a).toNat):=by
 have ea:uz a=a:=by unfold uz;omega
 have eb:uz b=b:=by unfold uz;omega
 unfold shN
 rw [ea,eb]
 obtain ⟨j,hj,j1,j2⟩:=ze0 hb0
 by_cases h0:a=0
 ·subst h0
  have e0:za1 0=0:=rfl
  rw [e0,hj]
  exact ⟨Int.mul_pos hb0 (zbi _),λh=>by omega⟩
 ·obtain ⟨k,hk,k1,k2⟩:=ze0 (x:=a) (by omega)
  rw [hk,hj]
  refine ⟨?_,λh=>?_⟩
  ·by_cases hkj:j<=k+1
   ·have e:((k:Int)+1 - (j+1)+1).toNat=k+1 - j:=by omega
    rw [e]
    refine Int.lt_of_lt_of_le k2 ?_
    have h3:(2:Int)^(k+1)=2^j*2^(k+1 - j):=by rw [<-Int.pow_add];congr 1;omega
    rw [h3]
    exact Int.mul_le_mul_of_nonneg_right j1 (Int.le_of_lt (zbi _))
   ·have e:((k:Int)+1 - (j+1)+1).toNat=0:=by omega
    rw [e,Int.pow_zero,Int.mul_one]
    refine Int.lt_of_lt_of_le k2 (Int.le_trans ?_ j1)
    exact_mod_cast Nat.pow_le_pow_right (by omega) (by omega:k+1<=j)
  ·have e:((k:Int)+1 - (j+1)).toNat=k - j:=by omega
   have e':((k:Int)+1).toNat=k+1:=by omega
   rw [e,e']
   have h3:(2:Int)^(k+1)=2^(j+1)*2^(k - j):=by rw [<-Int.pow_add];congr 1;omega
   rw [h3]
   exact Int.mul_lt_mul_of_pos_right j2 (zbi _)
end Go.Gy
namespace Go.Gy
open Go Go.RowKit Go.Proofs Go.Proofs.Tryz

def jcy (a b:Int) (k:Nat):Hp:=hpL G0 [(200,wb (rA a b k)),(208,wb b),(216,⟨fa 4 .u64 (wi (qA a b k)),.ty 86⟩),(224,zB)]
def jcz:Nat->Value:=tsL [(2,.pointer (some ⟨200,0,none⟩)),(3,.pointer (some ⟨208,0,none⟩)),(4,.pointer (some ⟨216,0,none⟩)),(5,.pointer (some ⟨224,0,none⟩))]
theorem zzs (a b:Int) (ha0:0<=a) (ha:a<57896044618658097711785492504343953926634992332820282019728792003956564819968) (hb0:0<b) (hb1:b<57896044618658097711785492504343953926634992332820282019728792003956564819968) :
  Ret prog G0 135 #[wd a,wd b] (.tuple #[wd (a / b),wd (a%b)]):=by
 refine zav G0F func135 rfl call135 (by simp) (by simp) (by simp [ntmps135]) ?_
 intro C hC hC0 hY
 have hup:=jg8 a b ha0 hb0 (by omega) (by omega)
 have hbd:=z7k a b
 have hna:za1 a<=255:=(zfc 255 (by omega)).2
 have hlt:shN a b<256:=by
  have ea:uz a=a:=by unfold uz;omega
  have hnb:=zfc 256 (z5b b).2
  unfold shN;rw [ea];omega
 have hit:=z0v a b hlt
 generalize shN a b=N at *
 repeat' first|refine gwZ ?_|refine gwW ?_|refine gwC ?_ ?_<;>intro hb
 refine zck [143] (by kernel_rfl) ?_;intro Q hQ hP;simp [hC,hY]
 refine zb2 (zv2 a b 248 (by omega)) (by simp) (λ_ _=>rfl) (by simp [Res.at]) ?_
 simp
 refine hQ _ _ _ _ ?_;clear hQ hP Q
 repeat' first|refine gwZ ?_|refine gwW ?_|refine gwC ?_ ?_<;>intro hb
 refine zg1 (f:=152) (rs:=[248,249]) (xs:=z7l b N) (caps:=#[.pointer (some ⟨248,0,none⟩),.pointer (some ⟨249,0,none⟩)]) (by simp) ?_ ?_ (by simp [ntmps135]) jcz (λi=>jcy a b (N+1 - (i:Int)).toNat) 300 (N+1).toNat (by rw [znp];omega) ?_ ?_ ?_ ?_ ?_
 ·rw [hC]
  refine zhl.cast (IterX.rn (λk=>if k=100 then 248 else if k=101 then 249 else k) G0F (λk hk=>za6 (by simp) hk) (rs:=[100,101]) ?_ hit) (by simp [zao]) (by simp)
  refine ⟨λk hk=>?_,?_,?_,?_⟩
  ·have h1:¬k=100:=by omega
   have h2:¬k=101:=by omega
   have h3:¬k=200:=by omega
   have h4:¬k=208:=by omega
   have h5:¬k=216:=by omega
   have h6:¬k=224:=by omega
   have h8:¬k=248:=by omega
   have h9:¬k=249:=by omega
   simp [h1,h2,h3,h4,h5,h6,h8,h9,wHp]
  ·simp
  ·simp [wHp,wb,Blk.rn,zan,zao]
  ·simp
 ·intro x hx
  simp only [z7l,List.mem_map] at hx
  obtain ⟨i,_,rfl⟩:=hx
  simp
 ·have e:=z21 a b (N+1).toNat ha0 hup.1
  refine zbc _ 300 hC G0F (m0:=[]) hC0 (by omega) ?_ ?_ ?_
  ·simp [dom]
  ·simp [zB,wb,e.1,e.2,ziu,zd9]
  ·simp
 ·simp [jcy,dom]
 ·intro i hi t
  refine ze6 ?_ t
  simp [dom,jcy]
 ·intro i x hi hx C1 l hC1 hh1 hY1
  have hCC:=hC
  have hC1':C1.G=G0:=hC1.trans hC
  obtain ⟨n,hn⟩:∃ n:Nat,N - (i:Int)=n:=⟨(N - i).toNat,by omega⟩
  rw [z0t b N i hi,hn] at hx
  have e1:(N+1 - (i:Int)).toNat=n+1:=by omega
  have e2:(N+1 - ((i+1:Nat):Int)).toNat=n:=by omega
  simp only [e1,e2]
  cases hx
  have hD:b*2^n<57896044618658097711785492504343953926634992332820282019728792003956564819968:=by
   have h1:=hup.2 (by omega)
   have h2:(2:Int)^n<=2^N.toNat:=by exact_mod_cast Nat.pow_le_pow_right (by omega) (by omega:n<=N.toNat)
   have h3:b*2^n<=b*2^N.toNat:=Int.mul_le_mul_of_nonneg_left h2 (by omega)
   have h4:(2:Int)^(za1 a).toNat<=2^255:=by exact_mod_cast Nat.pow_le_pow_right (by omega) (by omega:(za1 a).toNat<=255)
   omega
  have hD0:0<b*2^n:=Int.mul_pos hb0 (zbi _)
  have hM0:0<b*2^(n+1):=Int.mul_pos hb0 (zbi _)
  have hA0:0<=rA a b (n+1):=Int.emod_nonneg _ (by omega)
  have hA1:rA a b (n+1)<=a:=by
   have h1:=Int.emod_add_mul_ediv a (b*2^(n+1))
   have h2:0<=b*2^(n+1)*(a / (b*2^(n+1))):=Int.mul_nonneg (by omega) (Int.ediv_nonneg ha0 (by omega))
   unfold rA;omega
  have szD:sz (b*2^n)=b*2^n:=zhk (Int.le_of_lt hD0) hD
  have szA:sz (rA a b (n+1))=rA a b (n+1):=zhk hA0 (Int.lt_of_le_of_lt hA1 ha)
  obtain ⟨t,r,hr,hn'⟩:∃ t r,r<64/\n=64*t+r:=⟨n / 64,n%64,by omega,by omega⟩
  have tq:((n:Int)).tdiv 64=t:=by rw [Int.tdiv_eq_ediv_of_nonneg (by omega)];omega
  have tm:((n:Int)).tmod 64=r:=by rw [Int.tmod_eq_emod_of_nonneg (by omega)];omega
  have t4:t<4:=by omega
  have t4':(t:Int)<4:=by omega
  have t0:(0:Int)<=t:=by omega
  have tb:Int.bmod (t:Int) 18446744073709551616=t:=bm (by omega) (by omega)
  have t3:t<=3:=Nat.le_of_lt_succ t4
  have t3':(t:Int)<=3:=Int.le_of_lt_add_one t4'
  have m1:min r 64=r:=by omega
  have m2:(2:Int)^r%18446744073709551616=2^r:=Int.emod_eq_of_lt (Int.le_of_lt (zbi _)) (by
   have:(2:Int)^r<2^64:=by exact_mod_cast Nat.pow_lt_pow_right (by omega) hr
   exact this)
  have hst:=z8r a b hb0 n
  replace hC:=hC1'
  replace hY:=hY1
  by_cases hle:b*2^n<=rA a b (n+1)
  ·have hcmp:zc2 (sz (b*2^n)) (sz (rA a b (n+1)))<=0:=by rw [szD,szA];unfold zc2;split<;>(try split)<;>omega
   obtain ⟨s1,s2⟩:=hst.1 hle
   have hb1:=z7r (a / (b*2^(64*t+r+1))) t r hr
   have hb2:=znw (a / (b*2^(64*t+r+1))) t r
   rw [<-hn'] at hb1 hb2
   replace hb1:zeh .or .u64 (wi (qA a b (n+1)) t) (2^r)=wi (qA a b n) t:=by rw [s2];exact hb1
   replace hb2:∀ j,j≠t->wi (qA a b n) j=wi (qA a b (n+1)) j:=λj hj=>by rw [s2];exact hb2 j hr hj
   have hq:fa 4 .u64 (upd (wi (qA a b (n+1))) t (wi (qA a b n) t))=fa 4 .u64 (wi (qA a b n)):=zce λj _=>by
    unfold upd;split
    ·rename_i h;rw [h]
    ·rename_i h;rw [hb2 j h]
   unfold jcy
   repeat' first|refine gwZ ?_|(refine gwX ?_;intro Q hQ _;simp [hC,hY,za3,jcz];refine gwq hQ ?_)|refine gwC ?_ ?_<;>intro hb
   intro C2 hC2 hh2 hY2
   replace hC:C2.G=G0:=hC2.trans hCC
   replace hY:=hY2
   repeat' first|refine gwZ ?_|(refine gwX ?_;intro Q hQ _;simp [hC,hY,za3,jcz,wb,hcmp,tq,tm,t4,t4',t0,t3,t3',tb,m1,m2,zdh,zcw,hb1];refine gwq hQ ?_)|refine gwC ?_ ?_<;>intro hb
   refine zbc [] 300 hC1' G0F hh1 (by omega) ?_ ?_ ?_
   ·simp
   ·simp [zcv,zae,wb,zB,hq,s1]
   ·simp [wb,zB,hq,s1]
  ·have hcmp:¬zc2 (sz (b*2^n)) (sz (rA a b (n+1)))<=0:=by rw [szD,szA];unfold zc2;split<;>(try split)<;>omega
   obtain ⟨s1,s2⟩:=hst.2 (by omega)
   unfold jcy
   repeat' first|refine gwZ ?_|(refine gwX ?_;intro Q hQ _;simp [hC,hY,za3,jcz];refine gwq hQ ?_)|refine gwC ?_ ?_<;>intro hb
   intro C2 hC2 hh2 hY2
   replace hC:C2.G=G0:=hC2.trans hCC
   replace hY:=hY2
   repeat' first|refine gwZ ?_|(refine gwX ?_;intro Q hQ _;simp [hC,hY,za3,jcz,wb,hcmp];refine gwq hQ ?_)|refine gwC ?_ ?_<;>intro hb
   refine zbc [] 300 hC1' G0F hh1 (by omega) ?_ ?_ ?_
   ·simp
   ·simp [zcv,zae,wb,zB,s1,s2]
   ·simp [wb,zB,s1,s2]
 ·left
  refine ⟨by rw [znp],?_⟩
  have e:(N+1 - ((N+1).toNat:Int)).toNat=0:=by omega
  have ed:=jd9 a b
  rw [e]
  unfold jcy jcz
  rw [ed.1,ed.2]
  repeat' first|refine gwZ ?_|(refine gwX ?_;intro Q hQ _;simp [hC,hY,wb,ziu,zB];refine gwq hQ ?_)|refine gwC ?_ ?_<;>intro hb
  refine ⟨.inr trivial,?_⟩
  simp [results135]
@[simp] theorem joq (a b:Int) (ha0:0<=a) (ha:a<57896044618658097711785492504343953926634992332820282019728792003956564819968) (hb0:0<b) (hb1:b<57896044618658097711785492504343953926634992332820282019728792003956564819968) (K:Value->Prop) :
  za2 prog G0 135 #[Value.agg #[.int .u64 (wi (a) 0),.int .u64 (wi (a) 1),.int .u64 (wi (a) 2),.int .u64 (wi (a) 3)],Value.agg #[.int .u64 (wi (b) 0),.int .u64 (wi (b) 1),.int .u64 (wi (b) 2),.int .u64 (wi (b) 3)]] K↔K (.tuple #[wd (a / b),wd (a%b)]):=zaf G0W (by kernel_rfl) (zzs a b ha0 ha hb0 hb1)
end Go.Gy
